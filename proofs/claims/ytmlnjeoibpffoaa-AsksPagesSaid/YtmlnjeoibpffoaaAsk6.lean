import Derived.Test.YtmlnjeoibpffoaaAsk5
namespace Go.Proofs.Ytmlnjeoibpffoaa
open Go.RowKit
set_option linter.unusedVariables false
set_option linter.unusedSimpArgs false

set_option maxHeartbeats 1000000 in
set_option maxRecDepth 100000 in
theorem taskDone_no {q waits : Int} (p r : Nat) (w : World) (hP : Blk w p 77 #[.iface 80 (.pointer (some ⟨r, 0, none⟩)), .int .i64 q, .int .i64 waits, .bool false, .int .i64 0, .int .i64 0, .int .u64 0, .int .i64 0, .slice none 0 0]) :
    Calls Try.prog 10 #[.pointer (some ⟨p, 0, none⟩)] w fun e w' => e = .returned (.tuple #[.agg #[.int .i64 0, .int .i64 0, .int .u64 0, .int .i64 0, .slice none 0 0], .bool false]) ∧ Bel w.heap.size w w' := by
  have hcp := fun i => hP.cell i
  have lp := hP.lt
  go_enter Try.func10, Try.ntmps10
  go_wp2_with (go_at_call 27; refine (taskNone_r p r _ (by repeat (with_reducible first | exact hP | apply Blk.drew | apply Blk.drewN | apply Blk.alloc))).mono ?_; rintro e w1 ⟨rfl, rfl⟩)
  exact ret_ct (cs := #[.int .i64 0, .int .i64 0, .int .u64 0, .int .i64 0, .slice none 0 0]) Try.results10 rfl (by repeat (with_reducible first | exact Blk.new _ _ _ | apply Blk.drew | apply Blk.drewN | apply Blk.alloc)) rowReply rfl ⟨rfl, by exact (Bel.refl _ w).alloc (Nat.le_refl _) _⟩

set_option maxHeartbeats 1000000 in
set_option maxRecDepth 100000 in
theorem taskDone_yes {q waits r0 e0 t0 p0 : Int} {A : Option Addr} {n cap : Nat} {S : Nat → Prop} (prs : List PairD) (p r : Nat) (w : World) (hP : Blk w p 77 #[.iface 80 (.pointer (some ⟨r, 0, none⟩)), .int .i64 q, .int .i64 waits, .bool true, .int .i64 r0, .int .i64 e0, .int .u64 t0, .int .i64 p0, .slice A n cap])
    (hs : SlR PairD.enc S w A n prs) (hS : ∀ b, S b → b < w.heap.size) (hn : n ≤ 1000000000) :
    Calls Try.prog 10 #[.pointer (some ⟨p, 0, none⟩)] w fun e w' => ∃ A2 c2, e = .returned (.tuple #[.agg #[.int .i64 r0, .int .i64 e0, .int .u64 t0, .int .i64 p0, .slice A2 n c2], .bool true]) ∧ SlO PairD.enc w.heap.size 27 2 w' A2 n c2 prs ∧ Bel w.heap.size w w' := by
  have HS := Lib.hid hs
  have HSS := Lib.hid hS
  have hcp := fun i => hP.cell i
  have lp := hP.lt
  clear hs hS
  go_enter Try.func10, Try.ntmps10
  go_wp2_with (go_at_call 27; refine (taskNone_r p r _ (by repeat (with_reducible first | exact hP | apply Blk.drew | apply Blk.drewN | apply Blk.alloc))).mono ?_; rintro e w1 ⟨rfl, rfl⟩)
  refine (clonePair_any A n cap prs _ (by repeat (with_reducible first | exact (HS.out.alloc HSS.out _) | apply SlR.drew | apply SlR.drewN | exact SlR.alloc (HS.out.alloc HSS.out _) (fun b hb => Nat.lt_of_lt_of_le (HSS.out b hb) (le_al _ (Nat.le_refl _))) _)) (fun b hb => by have := HSS.out b hb; simp; omega) hn).mono ?_
  rintro e w2 ⟨A2, c2, rfl, ho2, hb2⟩
  have HO2 := Lib.hid ho2
  have hB2 := Lib.hid hb2
  have z1 : Blk w2 (w.heap.size + 1) 40 #[.int .i64 r0, .int .i64 e0, .int .u64 t0, .int .i64 p0, .slice A n cap] := hb2.blk (by have := Blk.new (w.alloc (.cells #[.int .i64 0, .int .i64 0, .int .u64 0, .int .i64 0, .slice none 0 0] 40)) 40 #[.int .i64 r0, .int .i64 e0, .int .u64 t0, .int .i64 p0, .slice A n cap]; simpa using this) (by simp)
  have z0 : Blk w2 w.heap.size 40 #[.int .i64 0, .int .i64 0, .int .u64 0, .int .i64 0, .slice none 0 0] := hb2.blk ((Blk.new w _ _).alloc _) (by simp; omega)
  have d1 := fun i => z1.cell i
  have f1 := fun i => z1.frozen i
  have d0 := fun i => z0.cell i
  have f0 := fun i => z0.frozen i
  have l1 := z1.lt
  clear ho2 hb2
  have HNE : w.heap.size ≠ w.heap.size + 1 := by omega
  have HNE' := Lib.hid HNE
  go_wp2_with fail
  refine ret_ct (cs := #[.int .i64 r0, .int .i64 e0, .int .u64 t0, .int .i64 p0, .slice A2 n c2]) Try.results10 rfl (by apply Blk.conv; (repeat (first | (with_reducible first | exact z0 | apply Blk.drew | apply Blk.drewN | apply Blk.alloc | apply Blk.set_) | (apply Blk.far (hp := HNE'.out)))); rfl) rowReply rfl ⟨A2, c2, rfl, ?_, ?_⟩
  · have hlt := fun b hb => (HO2.out.lt (b := b) hb).1
    refine SlO.chg (T := fun b => b = w.heap.size ∨ b = w.heap.size + 1) (w := w2) (HO2.out.base_le fun b hb => by have := hlt b hb; simp at this; omega) (by repeat (first | (with_reducible exact Chg.refl _ _) | (with_reducible apply Chg.drew) | (with_reducible apply Chg.drewN) | (with_reducible apply Chg.alloc) | (with_reducible apply Chg.setCell; rotate_left; (first | exact .inl (.inl rfl) | exact .inl (.inr rfl))))) fun b hb e => by have := hlt b hb; simp at this; omega
  · have hb3 : Bel w.heap.size w w2 := Bel.trans ((((Bel.refl _ w).alloc (Nat.le_refl _) _).alloc (Nat.le_refl _) _)) (hB2.out.mono (by simp; omega))
    exact hb3.trans (Chg.bel (S := fun b => b = w.heap.size ∨ b = w.heap.size + 1) (by repeat (first | (with_reducible exact Chg.refl _ _) | (with_reducible apply Chg.drew) | (with_reducible apply Chg.drewN) | (with_reducible apply Chg.alloc) | (with_reducible apply Chg.setCell; rotate_left; (first | exact .inl (.inl rfl) | exact .inl (.inr rfl))))) hb3.size (fun b e => by omega))

set_option maxHeartbeats 1000000 in
set_option maxRecDepth 100000 in
theorem taskNext_scan {c q : Int} {Ao : Option Addr} {no co : Nat} {a : AskD} {Aq : Option Addr} {na cq : Nat} {ts : Int} {key : ByteArray} {A : Option Addr} {n cap : Nat} {waits : Int} (p r : Nat) (w : World) (ep hd : Int) (hP : Blk w p 77 #[.iface 80 (.pointer (some ⟨r, 0, none⟩)), .int .i64 q, .int .i64 waits, .bool false, .int .i64 0, .int .i64 0, .int .u64 0, .int .i64 0, .slice none 0 0]) (hR : Blk w r 82 #[.int .i64 c, .int .i64 q, .slice Ao no co, .int .i64 a.k, .int .i64 a.node, .string a.key, .string a.to, .int .u64 a.ts, .int .i64 a.n, .slice Aq na cq, .int .u64 ts, .string key, .slice A n cap]) (hn : n ≤ 1000000000) (ha : 0 ≤ a.n ∧ a.n ≤ 32) (hk : (a.k == 2) = true) :
    Calls Try.prog 12 #[.pointer (some ⟨p, 0, none⟩), .int .i64 ep, .int .i64 hd] w fun e w' => e = .returned (.tuple #[.int .i64 a.node, .agg #[.int .i64 9, .int .i64 0, .int .i64 q, .int .i64 0, .bool false, .int .u64 ts, .int .u64 0, .int .i64 (pageSize a.n n), .int .i64 0, .int .i64 0, .int .i64 0, .string key, .string a.to, .int .i64 0, .slice none 0 0, .int .u64 0, .int .i64 0, .int .i64 0, .slice none 0 0, .slice none 0 0, .slice none 0 0, .slice none 0 0]]) ∧ Bel w.heap.size w w' := by
  have hcp := fun i => hP.cell i
  have lp := hP.lt
  have hmn := meth_next
  have HK := Lib.hid hk
  clear hk
  go_enter Try.func12, Try.ntmps12
  go_wp2_with (go_at_call 27; refine (taskNone_r p r _ (by repeat (with_reducible first | exact hP | apply Blk.drew | apply Blk.drewN | apply Blk.alloc))).mono ?_; rintro e w1 ⟨rfl, rfl⟩)
  refine (readingNext_scan r _ ep hd (by repeat (with_reducible first | exact hR | apply Blk.drew | apply Blk.drewN | apply Blk.alloc)) hn ha HK.out).mono ?_
  rintro e w2 ⟨rfl, hb2⟩
  have hB2 := Lib.hid hb2
  have z0 := hb2.blk (Blk.new w _ _) (by simp)
  clear hb2
  go_wp2_with (refine wpList_put _ ?_ 52 (.tmp 7) (.tmp 25) ?_ w.heap.size #[.int .i64 9, .int .i64 0, .int .i64 q, .int .i64 0, .bool false, .int .u64 ts, .int .u64 0, .int .i64 (pageSize a.n n), .int .i64 0, .int .i64 0, .int .i64 0, .string key, .string a.to, .int .i64 0, .slice none 0 0, .int .u64 0, .int .i64 0, .int .i64 0, .slice none 0 0, .slice none 0 0, .slice none 0 0, .slice none 0 0] ?_ ?_ z0 ?_ ?_ ?_ ?_; rfl; rfl; rfl; rfl; kernel_rfl; rfl; simp [Value.oneCell']; intro w3 hB3 hc3 hsz)
  exact ret_tc Try.results12 rfl hB3 rowMsg rfl ⟨rfl, ((Bel.refl _ w).alloc (Nat.le_refl _) _).trans ((hB2.out.mono (by simp)).trans (hc3.bel (Nat.le_trans (by simp) hB2.out.size) (fun b e => by simp [e])))⟩
end Go.Proofs.Ytmlnjeoibpffoaa
