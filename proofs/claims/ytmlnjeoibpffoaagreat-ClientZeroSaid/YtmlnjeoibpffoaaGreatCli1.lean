/- client: what goes out is gathered. -/
import Derived.Test.YtmlnjeoibpffoaaGreatCli0
namespace Go.Proofs.YtmlnjeoibpffoaaGreat
open Go.RowKit
set_option linter.unusedVariables false
set_option linter.unusedSimpArgs false

structure OutD where
  to : Int
  body : ByteArray
def OutD.enc (o : OutD) : List Value := [.int .i64 o.to, .string o.body]
theorem OutD.len (o : OutD) : o.enc.length = 2 := rfl
theorem OutD.one (o : OutD) : ∀ u ∈ o.enc, u.oneCell' = true := by intro u hu; simp [OutD.enc] at hu; rcases hu with rfl | rfl <;> rfl
theorem eiOut : EI Tryz.prog 36 48 2 24 := EI.mk Tryz.underlying36 (z := .agg #[.int .i64 0, .string ⟨#[]⟩]) (by kernel_rfl) rfl (by omega) (by omega)
/-- so much has gathered -/
def OutTo (B L : Nat) (A : Option Addr) (n : Nat) (xs : List OutD) (w w' : World) : Prop :=
  ∃ A' c', Blk w' L 36 #[.slice A' n c'] ∧ SlO OutD.enc B 48 2 w' A' n c' xs ∧ Chg (fun b => b = L ∨ A.map (·.block) = some b) w w' ∧ LiesIn A A' w.heap.size
/-- a message's letter ahead -/
def bodyOf (s : ByteArray) : ByteArray := ⟨#[77]⟩ ++ s

set_option maxHeartbeats 1000000 in
set_option maxRecDepth 100000 in
theorem outs1_any {B : Nat} {A : Option Addr} {n c : Nat} {xs : List OutD} (L : Nat) (w : World) (to : Int) (m : MV) (pA : Option Addr) (pn pk : Nat) (txt : ByteArray) (hL : Blk w L 36 #[.slice A n c]) (ho : SlO OutD.enc B 48 2 w A n c xs) (hn : n ≤ 1000000) (hB : B ≤ w.heap.size) (h0 : 0 ≤ to) (ht : txt.size ≤ 1000000000)
    (hP : ∀ W, Calls Tryz.prog 53 #[.agg #[.int .i64 m.k, .int .i64 m.ep, .int .i64 m.req, .int .i64 m.ser, .bool m.fl, .int .u64 m.ts, .int .u64 m.last, .int .i64 m.n, .int .i64 m.m, .int .i64 m.p, .int .i64 m.e, .string m.key, .string m.to, .int .i64 m.ce, .slice m.cA m.cn m.cc, .int .u64 m.cf, .int .i64 m.bc, .int .i64 m.bq, .slice m.bA m.bn m.bk, .slice m.eA m.en m.ek, .slice m.sA m.sn m.sk, .slice pA pn pk]] W fun e w' => e = .returned (.tuple #[.string txt, .int .i64 0]) ∧ Bel W.heap.size W w') :
    Calls Tryz.prog 52 #[.int .i64 to, .agg #[.int .i64 m.k, .int .i64 m.ep, .int .i64 m.req, .int .i64 m.ser, .bool m.fl, .int .u64 m.ts, .int .u64 m.last, .int .i64 m.n, .int .i64 m.m, .int .i64 m.p, .int .i64 m.e, .string m.key, .string m.to, .int .i64 m.ce, .slice m.cA m.cn m.cc, .int .u64 m.cf, .int .i64 m.bc, .int .i64 m.bq, .slice m.bA m.bn m.bk, .slice m.eA m.en m.ek, .slice m.sA m.sn m.sk, .slice pA pn pk], .pointer (some ⟨L, 0, none⟩)] w fun e w' => e = .returned (.tuple #[]) ∧ OutTo B L A (n + 1) (xs ++ [⟨to, bodyOf txt⟩]) w w' := by
  have HL := Lib.hid hL
  have HO := Lib.hid ho
  have HP := Lib.hid hP
  have lL := hL.lt
  clear hL ho hP
  go_enter Tryz.func52, Tryz.ntmps52
  go_wp2_with (first | (refine wpList_get rfl 57 (.tmp 4) rfl (g := w.heap.size) (t := 57) (cs := #[.int .i64 m.k, .int .i64 m.ep, .int .i64 m.req, .int .i64 m.ser, .bool m.fl, .int .u64 m.ts, .int .u64 m.last, .int .i64 m.n, .int .i64 m.m, .int .i64 m.p, .int .i64 m.e, .string m.key, .string m.to, .int .i64 m.ce, .slice m.cA m.cn m.cc, .int .u64 m.cf, .int .i64 m.bc, .int .i64 m.bq, .slice m.bA m.bn m.bk, .slice m.eA m.en m.ek, .slice m.sA m.sn m.sk, .slice pA pn pk]) ?_ ?_ rowMsg ?_; rfl; exact Blk.new _ _ _) | (go_at_call 53; refine (HP.out _).mono ?_; rintro e w1 ⟨rfl, hb⟩; have HB1 := Lib.hid (((Bel.refl _ w).alloc (Nat.le_refl _) _).call hb (Nat.le_refl _)); have HL1 := Lib.hid (HB1.out.blk HL.out lL); have HO1 := Lib.hid (HO.out.bel HB1.out); have cL := HL1.out.cell 0; have l1 := HL1.out.lt; clear hb) | (at_builtin; refine wpList_app _ ?_ (.tmp 18) (.tmp 23) eiOut ?_ (base := B) (A := A) (n := n) (c := c) (xs := xs.flatMap OutD.enc) ?_ ?_ (S := (· = w1.heap.size)) (A2 := some ⟨w1.heap.size, 0, none⟩) (m := 1) (c2 := 1) (news := [(⟨to, bodyOf txt⟩ : OutD)].flatMap OutD.enc) ?_ ?_ rfl (one_flat OutD.one _) (N := n + 1) rfl (by omega) ?_ ?_; rfl; rfl; rfl; exact (HO1.out.alloc _).2; rfl; exact rd_one OutD.enc w1 (⟨to, bodyOf txt⟩ : OutD) _; exact le_al _ (Nat.le_trans hB HB1.out.size); intro A2 c2 w2 hown2 hgrow2 hat2; have HA2 := Lib.hid hat2; have HW2 := Lib.hid hown2; have HG2 := Lib.hid hgrow2; have hL2 := Blk.grown (by exact HL1.out.alloc _) hgrow2 (Ne.symm (HO1.out.neBlk HL1.out (by decide))); have HL2 := Lib.hid hL2; have cL2 := hL2.cell 0; have fL2 := hL2.frozen 0; clear hown2 hgrow2 hat2 hL2))
  go_end0
  have hs2 := SlO.app (xs := xs) (ys := [(⟨to, bodyOf txt⟩ : OutD)]) (N := n + 1) (by rw [← HO.out.1]; rfl) HW2.out
  refine ⟨rfl, A2, c2, by exact Blk.conv (Blk.set_ HL2.out 0 _) rfl, ?_, ?_, ?_⟩
  · exact hs2.chg (T := fun b => b = L) (by exact Chg.setCell (S := fun b => b = L) (Chg.refl _ _) (.inl rfl) _) (fun b hb e => hs2.neBlk HL2.out (by decide) (e ▸ hb))
  · have h1 : Chg (fun b => b = L ∨ A.map (·.block) = some b) w w2 := Chg.grown (by exact (Chg.of HB1.out).alloc _) HG2.out (fun g hg => .inl (.inr hg))
    exact h1.setCell (p := ⟨L, 0, none⟩) (.inl (.inl rfl)) _
  · intro b hb
    have hs := HB1.out.size
    rcases HA2.out with e | e
    · exact .inl (by rw [← e]; exact hb)
    · rw [e] at hb; injection hb with hb; exact .inr (by rw [← hb]; exact le_al _ hs)

set_option maxHeartbeats 1000000 in
set_option maxRecDepth 100000 in
theorem clientNew_any (id : Int) (w : World) (h0 : 0 ≤ id) (h1 : id < 3) :
    Calls Tryz.prog 8 #[.int .i64 id] w fun e w' => e = .returned (.tuple #[.pointer (some ⟨w.heap.size, 0, none⟩), .int .i64 0]) ∧ Blk w' w.heap.size 71 #[.int .i64 id, .int .i64 0, .int .i64 0, .int .i64 (-1), .pointer none, .int .i64 0, .int .i64 0, .int .u64 0, .int .i64 0, .slice none 0 0, .bool false, .bool false, .int .i64 0, .bool true] ∧ Bel w.heap.size w w' := by
  go_enter Tryz.func8, Tryz.ntmps8
  go_wp2_with fail
  go_ret2
  exact ⟨rfl, Blk.new _ _ _, (Bel.refl _ _).alloc (Nat.le_refl _) _⟩

set_option maxHeartbeats 1000000 in
set_option maxRecDepth 100000 in
theorem outs2_any {A : Option Addr} {n c : Nat} (L : Nat) (w : World) (hL : Blk w L 36 #[.slice A n c]) :
    Calls Tryz.prog 54 #[.pointer (some ⟨L, 0, none⟩)] w (Ret (.slice A n c) w) := by
  have hc := hL.cell 0
  go_enter Tryz.func54, Tryz.ntmps54
  go_wp2_with fail
  go_ret
  exact ⟨rfl, rfl⟩
set_option maxHeartbeats 1000000 in
set_option maxRecDepth 100000 in
theorem outs_any (w : World) :
    Calls Tryz.prog 27 #[] w fun e w' => ∃ L, e = .returned (.tuple #[.func (.func 52) #[] #[.pointer (some ⟨L, 0, none⟩)], .func (.func 54) #[] #[.pointer (some ⟨L, 0, none⟩)]]) ∧ Blk w' L 36 #[.slice none 0 0] ∧ w.heap.size ≤ L ∧ Bel w.heap.size w w' := by
  go_enter Tryz.func27, Tryz.ntmps27
  go_wp2_with fail
  go_ret2
  exact ⟨_, rfl, Blk.new _ _ _, Nat.le_refl _, (Bel.refl _ _).alloc (Nat.le_refl _) _⟩

set_option maxHeartbeats 1000000 in
set_option maxRecDepth 100000 in
theorem none_made {c0 c1 c2 c3 c4 c5 c6 c7 c8 c9 c10 c11 c12 : Value} (p : Nat) (w : World) (h : Blk w p 71 #[c0, c1, c2, c3, c4, c5, c6, c7, c8, c9, c10, c11, c12, .bool true]) :
    Calls Tryz.prog 24 #[.pointer (some ⟨p, 0, none⟩)] w (Ret (.bool false) w) := by
  have hc := fun i => h.cell i
  go_enter Tryz.func24, Tryz.ntmps24
  go_wp2_with fail
  go_ret
  exact ⟨rfl, rfl⟩
set_option maxHeartbeats 1000000 in
set_option maxRecDepth 100000 in
theorem busy_yes {q : Nat} {c0 c1 c2 c3 c5 c6 c7 c8 c9 c10 c11 c12 : Value} (p : Nat) (w : World) (h : Blk w p 71 #[c0, c1, c2, c3, .pointer (some ⟨q, 0, none⟩), c5, c6, c7, c8, c9, c10, c11, c12, .bool true]) :
    Calls Tryz.prog 10 #[.pointer (some ⟨p, 0, none⟩)] w (Ret (.bool true) w) := by
  have hc := fun i => h.cell i
  go_enter Tryz.func10, Tryz.ntmps10
  go_wp2_with (go_at_call 24; refine (none_made p _ h).mono ?_; rintro e w1 ⟨rfl, rfl⟩)
  go_ret
  exact ⟨rfl, rfl⟩
set_option maxHeartbeats 1000000 in
set_option maxRecDepth 100000 in
theorem req_made {r : Int} {c0 c2 c3 c4 c5 c6 c7 c8 c9 c10 c11 c12 : Value} (p : Nat) (w : World) (h : Blk w p 71 #[c0, .int .i64 r, c2, c3, c4, c5, c6, c7, c8, c9, c10, c11, c12, .bool true]) :
    Calls Tryz.prog 11 #[.pointer (some ⟨p, 0, none⟩)] w (Ret (.int .i64 r) w) := by
  have hc := fun i => h.cell i
  go_enter Tryz.func11, Tryz.ntmps11
  go_wp2_with (go_at_call 24; refine (none_made p _ h).mono ?_; rintro e w1 ⟨rfl, rfl⟩)
  go_ret
  exact ⟨rfl, rfl⟩
end Go.Proofs.YtmlnjeoibpffoaaGreat
