/- client: the trial at the end of each law of its: a pin is asked for. -/
import Derived.Test.YtmlnjeoibpffoaaGreatCli1
namespace Go.Proofs.YtmlnjeoibpffoaaGreat
open Go.RowKit
set_option linter.unusedVariables false
set_option linter.unusedSimpArgs false

def pinMsg : MV := ⟨11, 0, 1, 0, false, 3, 0, 0, 0, 0, 0, ⟨#[]⟩, ⟨#[]⟩, 0, none, 0, 0, 0, 0, 0, none, 0, 0, none, 0, 0, none, 0, 0⟩
def pinText : ByteArray := ⟨([] ++ vbytes 11 ++ vbytes 1 ++ vbytes 3).toArray⟩
theorem pinText_size : pinText.size ≤ 1000000000 := by
  have h1 := vbytes_len (n := 11) (by omega)
  have h2 := vbytes_len (n := 1) (by omega)
  have h3 := vbytes_len (n := 3) (by omega)
  show ([] ++ vbytes 11 ++ vbytes 1 ++ vbytes 3).toArray.size ≤ _
  simp; omega
set_option maxHeartbeats 4000000 in
set_option maxRecDepth 100000 in
theorem start_pin (p : Nat) (id : Int) (w : World) (h0 : 0 ≤ id) (h1 : id < 3) (hC : Blk w p 71 #[.int .i64 id, .int .i64 0, .int .i64 0, .int .i64 (-1), .pointer none, .int .i64 0, .int .i64 0, .int .u64 0, .int .i64 0, .slice none 0 0, .bool false, .bool false, .int .i64 0, .bool true]) :
    Calls Tryz.prog 12 #[.pointer (some ⟨p, 0, none⟩), .agg #[.int .i64 4, .int .i64 0, .string ⟨#[]⟩, .string ⟨#[]⟩, .int .u64 3, .int .i64 0, .slice none 0 0]] w fun e w' => ∃ A c q, e = .returned (.tuple #[.slice A 1 c, .int .i64 0]) ∧
      SlO OutD.enc w.heap.size 48 2 w' A 1 c [⟨4, bodyOf pinText⟩] ∧ Blk w' p 71 #[.int .i64 id, .int .i64 1, .int .i64 0, .int .i64 (-1), .pointer (some ⟨q, 0, none⟩), .int .i64 0, .int .i64 0, .int .u64 0, .int .i64 0, .slice none 0 0, .bool false, .bool false, .int .i64 0, .bool true] ∧ Chg (· = p) w w' := by
  have HPUT : Hid (∀ W, Calls Tryz.prog 53 #[.agg #[.int .i64 pinMsg.k, .int .i64 pinMsg.ep, .int .i64 pinMsg.req, .int .i64 pinMsg.ser, .bool pinMsg.fl, .int .u64 pinMsg.ts, .int .u64 pinMsg.last, .int .i64 pinMsg.n, .int .i64 pinMsg.m, .int .i64 pinMsg.p, .int .i64 pinMsg.e, .string pinMsg.key, .string pinMsg.to, .int .i64 pinMsg.ce, .slice pinMsg.cA pinMsg.cn pinMsg.cc, .int .u64 pinMsg.cf, .int .i64 pinMsg.bc, .int .i64 pinMsg.bq, .slice pinMsg.bA pinMsg.bn pinMsg.bk, .slice pinMsg.eA pinMsg.en pinMsg.ek, .slice pinMsg.sA pinMsg.sn pinMsg.sk, .slice none 0 0]] W fun e w' => e = .returned (.tuple #[.string pinText, .int .i64 0]) ∧ Bel W.heap.size W w') := Lib.hid (fun W => put_11 pinMsg none 0 0 W (by decide) (by decide) (by decide) (by decide))
  have HC := Lib.hid hC
  have HC1 := Lib.hid (hC.alloc (.cells #[.int .i64 4, .int .i64 0, .string ⟨#[]⟩, .string ⟨#[]⟩, .int .u64 3, .int .i64 0, .slice none 0 0] 39))
  have HK1 : Hid (Blk (w.alloc (.cells #[.int .i64 4, .int .i64 0, .string ⟨#[]⟩, .string ⟨#[]⟩, .int .u64 3, .int .i64 0, .slice none 0 0] 39)) w.heap.size 39 #[.int .i64 4, .int .i64 0, .string ⟨#[]⟩, .string ⟨#[]⟩, .int .u64 3, .int .i64 0, .slice none 0 0]) := Lib.hid (Blk.new _ _ _)
  have lp := hC.lt
  have hc := fun i => hC.cell i
  clear hC
  go_enter Tryz.func12, Tryz.ntmps12
  go_wp2_with (go_at_call 24; refine (none_made p _ HC1.out).mono ?_; rintro e w1 ⟨rfl, rfl⟩)
  have hw1 : IntKind.i64.wrap 1 = 1 := by decide
  have dk := fun i => HK1.out.cell i
  have dc := fun i => HC1.out.cell i
  go_region_held3 (fun w' => w'.cell? ⟨p, 0, none⟩ = some (.int .i64 id) ∧ w'.cell? ⟨p, 1, none⟩ = some (.int .i64 0) ∧ w'.cell? ⟨w.heap.size, 0, none⟩ = some (.int .i64 4) ∧ w'.cell? ⟨w.heap.size, 1, none⟩ = some (.int .i64 0) ∧ w'.cell? ⟨w.heap.size, 2, none⟩ = some (.string ⟨#[]⟩) ∧ w'.cell? ⟨w.heap.size, 3, none⟩ = some (.string ⟨#[]⟩) ∧ w'.cell? ⟨w.heap.size, 4, none⟩ = some (.int .u64 3) ∧ w'.cell? ⟨w.heap.size, 5, none⟩ = some (.int .i64 0) ∧ w'.cell? ⟨w.heap.size, 6, none⟩ = some (.slice none 0 0)) (first | go_keep)
    (first | (go_at_call 26; refine (new_pin _ (by omega) (by omega)).mono ?_; rintro e w3 ⟨q, rfl, hT, hq, hb⟩; have HT3 := Lib.hid hT; have HC3 := Lib.hid (hb.blk (Blk.drew HC1.out) HC1.out.lt); have HK3 := Lib.hid (hb.blk (Blk.drew HK1.out) HK1.out.lt); have hx3 := fun i => HC3.out.cell i; have hk3 := fun i => HK3.out.cell i; have HB3 := Lib.hid (((Bel.refl _ w).alloc (Nat.le_refl _) (.cells #[.int .i64 4, .int .i64 0, .string ⟨#[]⟩, .string ⟨#[]⟩, .int .u64 3, .int .i64 0, .slice none 0 0] 39)).drew.call hb (Nat.le_refl _)); have hq3 := hT.lt; clear hT hb))
  have fx3 := fun i => HC3.out.frozen i
  have NQP := Lib.hid (Blk.ne_ HT3.out HC3.out (by decide))
  have NPQ := Lib.hid (Ne.symm NQP.out)
  have lp3 := HC3.out.lt
  go_wp2_with fail
  refine (outs_any _).mono ?_
  rintro e w4 ⟨L, rfl, hL, hL0, hb4⟩
  have HC4 : Hid (Blk w4 p 71 #[.int .i64 id, .int .i64 1, .int .i64 0, .int .i64 (-1), .pointer (some ⟨q, 0, none⟩), .int .i64 0, .int .i64 0, .int .u64 0, .int .i64 0, .slice none 0 0, .bool false, .bool false, .int .i64 0, .bool true]) := Lib.hid (hb4.blk (by apply Blk.conv; (repeat (first | (with_reducible first | exact HC3.out | apply Blk.drew | apply Blk.drewN | apply Blk.alloc | apply Blk.set_))); rfl) (by simpa [World.setCell] using lp3))
  have HT4 : Hid (Blk w4 q 109 #[.iface 115 (.agg #[.int .i64 id, .int .i64 1, .slice none 0 0, .int .i64 4, .int .i64 0, .string ⟨#[]⟩, .string ⟨#[]⟩, .int .u64 3, .int .i64 0, .slice none 0 0]), .int .i64 1, .int .i64 0, .bool false, .int .i64 0, .int .i64 0, .int .u64 0, .int .i64 0, .slice none 0 0]) := Lib.hid (hb4.blk (by apply Blk.conv; (repeat (first | (with_reducible first | exact HT3.out | apply Blk.drew | apply Blk.drewN | apply Blk.alloc | apply Blk.set_) | (apply Blk.far (hp := NQP.out)))); rfl) (by simpa [World.setCell] using HT3.out.lt))
  have HL4 := Lib.hid hL
  have HE4 : Hid (Chg (· = p) w w4) := Lib.hid ((Chg.setCell (p := ⟨p, 4, none⟩) (Chg.setCell (p := ⟨p, 1, none⟩) (Chg.of (S := (· = p)) HB3.out) (.inl rfl) _) (.inl rfl) _).call hb4)
  have dc4 := fun i => HC4.out.cell i
  have lc4 := HC4.out.lt
  have hs3 := HB3.out.size
  have hL1 : w3.heap.size ≤ L := by simpa [World.setCell] using hL0
  clear hL hb4 dk dc fx3 hx3 hk3 hc hL0
  go_wp2_with fail
  go_region_held3 (fun w' => w'.cell? ⟨p, 2, none⟩ = some (.int .i64 0) ∧ w'.cell? ⟨p, 3, none⟩ = some (.int .i64 (-1))) (first | go_keep)
    (first
      | (go_at_call 28; refine (taskNext_pin (c := id) (q := 1) (node := 0) (ts := 3) (n := 0) (q' := 1) (wt := 0) (Ao := none) (Aq := none) (no := 0) (co := 0) (na := 0) (cq := 0) (key := ⟨#[]⟩) (to := ⟨#[]⟩) q _ 0 (-1) (by exact Blk.drew HT4.out)).mono ?_; rintro e w5 ⟨rfl, hb⟩; have HC5 := Lib.hid (hb.blk (Blk.drew HC4.out) HC4.out.lt); have HL5 := Lib.hid (hb.blk (Blk.drew HL4.out) HL4.out.lt); have hx5 := fun i => HC5.out.cell i; have HE5 := Lib.hid (HE4.out.drew.call hb); clear hb)
      | (go_at_call 52; refine (outs1_any (B := w.heap.size) L _ 4 pinMsg none 0 0 pinText HL5.out (SlO.nil _ _ _) (by omega) HE5.out.size (by omega) pinText_size HPUT.out).mono ?_; rintro e w6 ⟨rfl, hw⟩; obtain ⟨A6, c6, g1, g2, g3, g4⟩ := hw; have HG1 := Lib.hid g1; have HG2 := Lib.hid g2; have HC6 := Lib.hid (g3.blk HC5.out (by rintro (e | e); exact Blk.ne_ HC5.out HL5.out (by decide) e; cases e)); have HE6 := Lib.hid (HE5.out.trans g3 (fun b e => by rcases e with e | e; exact .inr (by omega); cases e)); have hx6 := fun i => HC6.out.cell i; clear g1 g2 g3 g4))
  go_wp2_with fail
  refine (outs2_any L _ HG1.out).mono ?_
  rintro e w7 ⟨rfl, rfl⟩
  go_wp2_with fail
  go_ret2
  exact ⟨A6, c6, q, rfl, HG2.out, HC6.out, HE6.out⟩

set_option maxHeartbeats 1000000 in
set_option maxRecDepth 100000 in
theorem awake35_any (w : World) :
    Calls Tryz.prog 7 #[] w (RetB (.bool true) w) := by
  go_enter Tryz.func7, Tryz.ntmps7
  go_wp2_with fail
  refine (clientNew_any 1 _ (by omega) (by omega)).mono ?_
  rintro e w1 ⟨rfl, hC, hb1⟩
  have HB1 := Lib.hid hb1
  have HC1 := Lib.hid hC
  have hs1 := hb1.size
  clear hb1 hC
  go_wp2_with fail
  refine (start_pin w.heap.size 1 _ (by omega) (by omega) HC1.out).mono ?_
  rintro e w2 ⟨A, c, q, rfl, ho, hC2, hc2⟩
  have HO2 := Lib.hid ho
  have HC2 := Lib.hid hC2
  have HE2 := Lib.hid (HB1.out.trans (hc2.bel hs1 (fun b e => by omega)))
  obtain ⟨g, hg⟩ : ∃ g, A = some ⟨g, 0, none⟩ := by
    rcases ho.2.2 with ⟨hv, _⟩ | ⟨g, cap, cur, hv, _⟩
    · injection hv with _ e2 _; cases e2
    · injection hv with e1 _ _; exact ⟨g, e1⟩
  subst hg
  have d0 : w2.cell? ⟨g, 0, none⟩ = some (.int .i64 4) := by
    have := ho.2.cells (g := g) rfl 0 (.int .i64 4) rfl
    rw [add_mk] at this; exact this
  clear ho hC2 hc2
  go_wp2_with (first | (go_at_call 10; refine (busy_yes w.heap.size _ HC2.out).mono ?_; rintro e w3 ⟨rfl, rfl⟩) | (go_at_call 11; refine (req_made w.heap.size _ HC2.out).mono ?_; rintro e w3 ⟨rfl, rfl⟩))
  go_ret
  exact ⟨rfl, HE2.out⟩

def SomeBool (w : World) (e : Ending) (w' : World) : Prop := (∃ b, e = .returned (.bool b)) ∧ w = w'
set_option maxHeartbeats 2000000 in
set_option maxRecDepth 100000 in
theorem few35_one {kk fr ak node ts n : Int} {Aq : Option Addr} {na cq : Nat} {key to s : ByteArray} (g : Nat) (w : World) (hB : Blk w g 41 #[.int .i64 kk, .int .i64 ak, .int .i64 node, .string key, .string to, .int .u64 ts, .int .i64 n, .slice Aq na cq, .int .i64 fr, .string s]) :
    Calls Tryz.prog 6 #[.slice (some ⟨g, 0, none⟩) 1 1] w (SomeBool w) := by
  have hc := fun i => hB.cell i
  go_enter Tryz.func6, Tryz.ntmps6
  go_wp2_with fail
  refine wp_loop_rounds 2 ?_
  rw [rounds_succ]
  go_wp2_with fail
  all_goals (first | (rw [rounds_succ]; go_wp2_with fail) | skip)
  all_goals go_ret
  all_goals exact ⟨⟨_, rfl⟩, rfl⟩
end Go.Proofs.YtmlnjeoibpffoaaGreat
