import Derived.Test.YtmlnjeoibpffoaaAsk8
namespace Go.Proofs.Ytmlnjeoibpffoaa
open Go.RowKit
set_option linter.unusedVariables false
set_option linter.unusedSimpArgs false

def mvOf (fl : Bool) : MV := ⟨0, 0, 0, 0, fl, 0, 0, 0, 0, 0, 0, ⟨#[]⟩, ⟨#[]⟩, 0, none, 0, 0, 0, 0, 0, none, 0, 0, none, 0, 0, none, 0, 0⟩
def pairsAB : List PairD := [⟨⟨#[97]⟩, ⟨#[]⟩⟩, ⟨⟨#[98]⟩, ⟨#[]⟩⟩]
theorem lastAB : lastKey pairsAB = ⟨#[98, 0]⟩ := by decide
theorem moreAB : pMore true 3 (0 + 2) (pairsAB.take 2) = true := by decide
set_option maxHeartbeats 1000000 in
set_option maxRecDepth 100000 in
theorem awake_any (w : World) :
    Calls Try.prog 5 #[] w fun e w' => e = .returned (.bool true) ∧ Bel w.heap.size w w' := by
  go_enter Try.func5, Try.ntmps5
  go_wp2_with fail
  refine (new_scan w (by omega) (by omega) (by omega) (by decide) (by decide) (by omega)).mono ?_
  rintro e w1 ⟨p, r, rfl, hP, hR, lp, lr, hb⟩
  have HP := Lib.hid hP
  have HR := Lib.hid hR
  have HB1 := Lib.hid hb
  have lp1 := hP.lt
  have lr1 := hR.lt
  clear hP hR hb
  go_wp2_with fail
  refine (taskNext_scan (a := ⟨2, 1, ⟨#[]⟩, ⟨#[]⟩, 5, 3⟩) (A := none) (n := 0) (cap := 0) p r w1 0 (-1) HP.out HR.out (by omega) ⟨by decide, by decide⟩ rfl).mono ?_
  rintro e w2 ⟨he, hb2⟩
  dsimp only at he
  rw [show pageSize (3 : Int) 0 = 2 from rfl] at he
  subst he
  have HP2 := Lib.hid (hb2.blk HP.out lp1)
  have HR2 := Lib.hid (hb2.blk HR.out lr1)
  have HB2 := Lib.hid (HB1.out.trans (hb2.mono HB1.out.size))
  have lp2 := HP2.out.lt
  have lr2 := HR2.out.lt
  clear hb2 HP HR HB1 lp1 lr1
  go_wp2_with (refine wpList_put _ ?_ 52 (.tmp 4) (.tmp 17) ?_ w2.heap.size #[.int .i64 9, .int .i64 0, .int .i64 3, .int .i64 0, .bool false, .int .u64 5, .int .u64 0, .int .i64 2, .int .i64 0, .int .i64 0, .int .i64 0, .string ⟨#[]⟩, .string ⟨#[]⟩, .int .i64 0, .slice none 0 0, .int .u64 0, .int .i64 0, .int .i64 0, .slice none 0 0, .slice none 0 0, .slice none 0 0, .slice none 0 0] ?_ ?_ (Blk.new w2 _ _) ?_ ?_ ?_ ?_; rfl; rfl; rfl; rfl; kernel_rfl; rfl; simp [Value.oneCell']; intro w3 hB3 hc3 hsz3)
  have lx : w2.heap.size + 1 = w3.heap.size := by rw [hsz3]; simp
  have HC3 : Hid (Bel w2.heap.size w2 w3) := Lib.hid (((Bel.refl _ w2).alloc (Nat.le_refl _) _).trans (hc3.bel (by simp) (fun b e => by simp [e])))
  have HM3 := Lib.hid hB3
  clear hc3 hsz3 hB3
  rw [lx]
  have HP3 := Lib.hid (HC3.out.blk HP2.out lp2)
  have HR3 := Lib.hid (HC3.out.blk HR2.out lr2)
  refine (taskTake_page (a := ⟨2, 1, ⟨#[]⟩, ⟨#[]⟩, 5, 3⟩) (A := none) (n := 0) (cap := 0) (S := (· = w3.heap.size)) p r _ (mvOf true) pairsAB [] (HP3.out.alloc _) (HR3.out.alloc _) (SlO.nil _ _ _) ⟨rfl, Rd.new w3 _ _⟩ (fun b hb => by subst hb; refine ⟨by simp, by simp, ?_, ?_⟩ <;> omega) (by decide) (by decide) (by decide) (by decide) 2 (by decide) rfl rfl (Nat.zero_le _)).mono ?_
  rintro e w4 ⟨he, hpw⟩
  rw [show (mvOf true).fl = true from rfl] at he hpw
  dsimp only at he hpw
  rw [moreAB] at he hpw
  rw [show List.take 2 pairsAB = pairsAB from rfl, lastAB] at hpw
  subst he
  obtain ⟨A4, c4, hpr, ho4, hc4⟩ := hpw
  rw [if_pos rfl] at hpr
  have HP4 := Lib.hid hpr.1
  have HR4 := Lib.hid hpr.2
  have HC4 : Hid (Bel w.heap.size w w4) := Lib.hid (HB2.out.trans (((HC3.out.mono HB2.out.size).alloc HB2.out.size _).trans (hc4.bel (by have := HB2.out.size; simp; omega) (fun b e => by rcases e with e | e | e <;> first | (subst e; assumption) | simp at e))))
  have HM4 := Lib.hid (hc4.blk (HM3.out.alloc _) (fun e => by rcases e with e | e | e <;> first | omega | simp at e))
  clear hpr ho4 hc4 HM3 HP3 HR3 HP2 HR2 HC3 HB2
  go_wp2_with fail
  refine (taskNext_scan (a := ⟨2, 1, ⟨#[]⟩, ⟨#[]⟩, 5, 3⟩) (A := A4) (n := 0 + 2) (cap := c4) p r w4 0 (-1) HP4.out HR4.out (by omega) ⟨by decide, by decide⟩ rfl).mono ?_
  rintro e w5 ⟨he, hb5⟩
  dsimp only at he
  rw [show pageSize (3 : Int) (0 + 2) = 1 from rfl] at he
  subst he
  have lm4 := HM4.out.lt
  have hm5 := hb5.blk HM4.out lm4
  have HM5 := Lib.hid hm5
  have lm5 := hm5.lt
  have nm5 : w2.heap.size ≠ w5.heap.size := by omega
  have HC5 := Lib.hid (HC4.out.trans (hb5.mono HC4.out.size))
  clear hb5 HP4 HR4 HC4 hm5
  go_wp2_with (refine wpList_put _ ?_ 52 (.tmp 7) (.tmp 28) ?_ w5.heap.size #[.int .i64 9, .int .i64 0, .int .i64 3, .int .i64 0, .bool false, .int .u64 5, .int .u64 0, .int .i64 1, .int .i64 0, .int .i64 0, .int .i64 0, .string ⟨#[98, 0]⟩, .string ⟨#[]⟩, .int .i64 0, .slice none 0 0, .int .u64 0, .int .i64 0, .int .i64 0, .slice none 0 0, .slice none 0 0, .slice none 0 0, .slice none 0 0] ?_ ?_ (Blk.new w5 _ _) ?_ ?_ ?_ ?_; rfl; rfl; rfl; rfl; kernel_rfl; rfl; simp [Value.oneCell']; intro w6 hB6 hc6 hsz6; have hm6 := hc6.blk (HM5.out.alloc _) nm5; have hcm := fun i => hm6.cell i; have hcn := fun i => hB6.cell i; have lm6 := hm6.lt; have ln6 := hB6.lt; have HC6 := Lib.hid ((HC5.out.alloc (Nat.le_refl _) _).trans (hc6.bel (Nat.le_trans HC5.out.size (Nat.le_of_lt (lt_al _))) (fun b e => by rw [e]; exact HC5.out.size))); clear hm6 hB6 hc6 hsz6)
  go_ret
  exact ⟨rfl, HC6.out⟩
end Go.Proofs.Ytmlnjeoibpffoaa
