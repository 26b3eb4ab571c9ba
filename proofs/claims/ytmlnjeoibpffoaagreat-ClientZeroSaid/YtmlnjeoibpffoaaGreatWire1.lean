/- wire's writer: a Builder in a block with two other fields. -/
import Derived.Test.YtmlnjeoibpffoaaGreatMem3
import Derived.Test.YtmlnjeoibpffoaaGreatData
import Derived.Test.YtmlnjeoibpffoaaGreatTail
import Derived.Lib.Builder
import Derived.Lib.Walk
import Derived.Lib.Strings
import Derived.Lib.Slices
import Derived.Laws.Externs
import Derived.WalkKit
import Derived.BigQuiet
import Derived.Deep.QuietTactic
namespace Go.Proofs.YtmlnjeoibpffoaaGreat
open Go.RowKit
set_option linter.unusedVariables false
set_option linter.unusedSimpArgs false

/-- the writer at p holds the text t; its buffer lies at A, from B on -/
def Wr (B p : Nat) (A : Option Addr) (t : List UInt8) (w : World) : Prop :=
  B ≤ p ∧ ∃ (a : Option Addr) (n c : Nat), Blk w p 209 #[.pointer a, .slice A n c, .int .i64 0, .bool true] ∧ (a = none ∨ a = some ⟨p, 0, none⟩) ∧ n = t.length ∧ w.ownsRow B 5 1 (.slice A n c) n (Lib.byteCells t)
/-- what a writer may turn -/
def WrS (p : Nat) (A : Option Addr) (b : Nat) : Prop := b = p ∨ A.map (·.block) = some b
/-- it has come to the text t -/
def WrTo (B p : Nat) (A : Option Addr) (t : List UInt8) (w w' : World) : Prop :=
  ∃ A', Wr B p A' t w' ∧ Chg (WrS p A) w w' ∧ LiesIn A A' w.heap.size
theorem WrTo.trans {B p : Nat} {A : Option Addr} {t t' : List UInt8} {w w' w'' : World} (h : WrTo B p A t w w') (k : ∀ A', Wr B p A' t w' → WrTo B p A' t' w' w'') : WrTo B p A t' w w'' := by
  obtain ⟨A', h1, h2, h3⟩ := h
  obtain ⟨A'', k1, k2, k3⟩ := k A' h1
  refine ⟨A'', k1, h2.trans k2 (fun b hb => ?_), fun b hb => ?_⟩
  · rcases hb with hb | hb
    · exact .inl (.inl hb)
    · rcases h3 b hb with e | e
      · exact .inl (.inr e)
      · exact .inr e
  · rcases k3 b hb with e | e
    · exact h3 b e
    · exact .inr (Nat.le_trans h2.size e)
theorem Wr.drewN {B p : Nat} {A : Option Addr} {t : List UInt8} {w : World} (h : Wr B p A t w) (n : Nat) : Wr B p A t (w.drewN n) := h
theorem Wr.drew {B p : Nat} {A : Option Addr} {t : List UInt8} {w : World} (h : Wr B p A t w) : Wr B p A t w.drew := h
theorem Wr.buf {B p : Nat} {A : Option Addr} {t : List UInt8} {w : World} (h : Wr B p A t w) {b : Nat} (hb : A.map (·.block) = some b) : B ≤ b ∧ b < w.heap.size := by
  obtain ⟨_, a, n, c, _, _, _, ho⟩ := h
  exact ho.lt b (by cases A <;> simp_all [Value.ownBlock])
theorem Wr.keep {B p : Nat} {A : Option Addr} {t : List UInt8} {w w' : World} (h : Wr B p A t w) (hp : w'.heap[p]? = w.heap[p]?) (hA : ∀ b, A.map (·.block) = some b → w'.heap[b]? = w.heap[b]?) : Wr B p A t w' := by
  obtain ⟨hB, a, n, c, hb, ha, hn, ho⟩ := h
  refine ⟨hB, a, n, c, hp.trans hb, ha, hn, ho.1, ?_⟩
  rcases ho.2 with h0 | ⟨g, cap, cur, hv, hbg, hg, rest⟩
  · exact .inl h0
  · injection hv with e1 e2 e3
    subst e1 e3
    exact .inr ⟨g, c, cur, rfl, hbg, (hA g rfl).trans hg, rest⟩
theorem Wr.lt {B p : Nat} {A : Option Addr} {t : List UInt8} {w : World} (h : Wr B p A t w) : p < w.heap.size := by
  obtain ⟨_, a, n, c, hb, _⟩ := h
  exact hb.lt
theorem Wr.bel {B p : Nat} {A : Option Addr} {t : List UInt8} {w w' : World} (h : Wr B p A t w) (hb : Bel w.heap.size w w') : Wr B p A t w' := h.keep (hb.block p h.lt) (fun b hA => hb.block b (h.buf hA).2)
theorem Wr.alloc {B p : Nat} {A : Option Addr} {t : List UInt8} {w : World} (h : Wr B p A t w) (o : Obj) : Wr B p A t (w.alloc o) := h.bel ((Bel.refl _ w).alloc (Nat.le_refl _) o)
theorem Wr.chg {T : Nat → Prop} {B p : Nat} {A : Option Addr} {t : List UInt8} {w w' : World} (h : Wr B p A t w) (hc : Chg T w w') (hT : ∀ b, WrS p A b → ¬ T b) : Wr B p A t w' :=
  h.keep (hc.block p h.lt (hT p (.inl rfl))) (fun b hA => hc.block b (h.buf hA).2 (hT b (.inr hA)))
theorem WrTo.refl {B p : Nat} {A : Option Addr} {t : List UInt8} {w : World} (h : Wr B p A t w) : WrTo B p A t w w := ⟨A, h, Chg.refl _ _, fun b hb => .inl hb⟩
/-- a block of another type is none of the writer's -/
theorem Wr.ne {B p g ty : Nat} {A : Option Addr} {t : List UInt8} {w : World} {cs : Array Value} (h : Wr B p A t w) (hg : Blk w g ty cs) (h1 : ty ≠ 209) (h2 : ty ≠ 5) : ¬ WrS p A g := by
  obtain ⟨_, a, n, c, hb, _, _, ho⟩ := h
  rintro (e | e)
  · subst e; exact Blk.ne_ hg hb h1 rfl
  · rcases ho.2 with ⟨hv, _⟩ | ⟨g', cap, cur, hv, _, hg', _⟩
    · injection hv with e1; subst e1; cases e
    · injection hv with e1; subst e1; cases e; exact Blk.ne_ hg hg' h2 rfl

/-- a store into a block of another type turns no owned row -/
theorem own_far {w : World} {base e n c p ty : Nat} {A : Option Addr} {xs : List Value} {cs : Array Value} (h : w.ownsRow base e 1 (.slice A n c) n xs) (hp : Blk w p ty cs) (he : e ≠ ty) (i : Nat) (u : Value) : (w.setCell ⟨p, i, none⟩ u).ownsRow base e 1 (.slice A n c) n xs := by
  refine ⟨h.1, ?_⟩
  rcases h.2 with h0 | ⟨g, cap, cur, hv, hbg, hg, rest⟩
  · exact .inl h0
  · exact .inr ⟨g, cap, cur, hv, hbg, (Below.heap_setCell w _ u g (Blk.ne_ (t := e) hg hp he)).trans hg, rest⟩
section
theorem builderSize : (Tryz.prog.info? 207).map (·.size) = some 2 := by kernel_rfl
theorem builderLies : liesAt Tryz.prog Tryz.prog.depth 209 (4 / Tryz.prog.cellsOf 209) 0 207 1 = true := by kernel_rfl
theorem byteInfo : (Tryz.prog.info? 5).map (fun i => (i.zero, i.size, i.bytes)) = some (some (.int .u8 0), 1, 1) := by kernel_rfl

set_option maxHeartbeats 1000000 in
set_option maxRecDepth 100000 in
theorem copy_used (p : Nat) (w : World) (h0 : w.cell? ⟨p, 0, none⟩ = some (.pointer (some ⟨p, 0, none⟩))) :
    Calls Tryz.prog 183 #[.pointer (some ⟨p, 0, none⟩)] w fun e w' => e = .returned (.tuple #[]) ∧ w' = w := by
  obtain ⟨j, hj, _⟩ := Option.map_eq_some_iff.1 builderSize
  go_enter Tryz.func183, Tryz.ntmps183
  go_wp2
  rw [Lib.run_neq_ptr_same w _ Tryz.underlying204 hj]
  go_wp2
  go_end0
  exact ⟨rfl, rfl⟩
set_option maxHeartbeats 1000000 in
set_option maxRecDepth 100000 in
theorem copy_fresh (p : Nat) (w : World) (h0 : w.cell? ⟨p, 0, none⟩ = some (.pointer none)) (hsh : w.shape? p = some (209, 4)) (hfz : w.frozen? ⟨p, 0, none⟩ = false) :
    Calls Tryz.prog 183 #[.pointer (some ⟨p, 0, none⟩)] w fun e w' => e = .returned (.tuple #[]) ∧ w' = w.setCell ⟨p, 0, none⟩ (.pointer (some ⟨p, 0, none⟩)) := by
  obtain ⟨j, hj, hjs⟩ := Option.map_eq_some_iff.1 builderSize
  go_enter Tryz.func183, Tryz.ntmps183
  go_wp2
  rw [Lib.run_to_unsafe w ⟨p, 0, none⟩ Tryz.underlying204 Tryz.underlying264 hj (by rw [hjs]; decide) hsh (Nat.zero_lt_succ 3)]
  simp only [Result.andThen]
  rw [Oper.upon_value]
  go_wp2
  rw [run_callFunc_extern Tryz.func187 (by kernel_rfl) (by kernel_rfl) (by kernel_rfl) (e := Extern.AbiNoEscape.same) (by kernel_rfl)]
  rw [Lib.run_noEscape]
  simp only [Result.andThen]
  rw [Oper.upon_value]
  go_wp2
  rw [Lib.run_from_unsafe w ⟨p, 0, none⟩ Tryz.underlying264 Tryz.underlying204 hj hsh builderLies]
  simp only [Result.andThen]
  rw [Oper.upon_value]
  go_wp2
  go_end0
  exact ⟨rfl, rfl⟩

theorem chgS {p : Nat} {w : World} (u : Value) (i : Nat) : Chg (· = p) w (w.setCell ⟨p, i, none⟩ u) := Chg.setCell (S := (· = p)) (p := ⟨p, i, none⟩) (Chg.refl _ _) (.inl rfl) u
theorem copy_any {B p : Nat} {A : Option Addr} {t : List UInt8} (w : World) (h : Wr B p A t w) :
    Calls Tryz.prog 183 #[.pointer (some ⟨p, 0, none⟩)] w fun e w' => e = .returned (.tuple #[]) ∧ (∃ n c, Blk w' p 209 #[.pointer (some ⟨p, 0, none⟩), .slice A n c, .int .i64 0, .bool true] ∧ n = t.length ∧ w'.ownsRow B 5 1 (.slice A n c) n (Lib.byteCells t)) ∧ Chg (· = p) w w' := by
  obtain ⟨hB, a, n, c, hb, ha, hn, ho⟩ := h
  rcases ha with rfl | rfl
  · refine (copy_fresh p w (hb.cell 0) (by unfold Blk at hb; simp [World.shape?, hb]) (hb.frozen 0)).mono ?_
    rintro e w' ⟨rfl, rfl⟩
    exact ⟨rfl, ⟨n, c, Blk.conv (hb.set_ 0 _) rfl, hn, own_far ho hb (by decide) 0 _⟩, chgS _ _⟩
  · refine (copy_used p w (hb.cell 0)).mono ?_
    rintro e w' ⟨rfl, rfl⟩
    exact ⟨rfl, ⟨n, c, hb, hn, ho⟩, Chg.refl _ _⟩

set_option maxHeartbeats 2000000 in
set_option maxRecDepth 100000 in
/-- bytes are written behind -/
theorem writeString_any {B p : Nat} {A : Option Addr} {t : List UInt8} (w : World) (s : ByteArray) (h : Wr B p A t w) (hl : t.length + s.size ≤ 140737488355328) (hBw : B ≤ w.heap.size) :
    Calls Tryz.prog 168 #[.pointer (some ⟨p, 0, none⟩), .string s] w fun e w' => e = .returned (.tuple #[.int .i64 s.size, .nilIface]) ∧ WrTo B p A (t ++ s.data.toList) w w' := by
  obtain ⟨i0, hi, hz0, hz1, hz2⟩ := info_parts byteInfo
  have H := Lib.hid h
  clear h
  go_enter Tryz.func168, Tryz.ntmps168
  go_wp2_with (go_at_call 183; refine (copy_any _ H.out).mono ?_)
  rintro e w1 ⟨rfl, ⟨n, c, hb1, hn, ho1⟩, hc1⟩
  have HN := Lib.hid hn
  have HC1 := Lib.hid hc1
  have c0 := hb1.cell 0
  have c1 := hb1.cell 1
  have lp := hb1.lt
  have hsz := hc1.size
  have hnl : n ≤ t.length := by omega
  clear hn hc1
  go_wp2_with (at_builtin; refine wpList_app_str _ rfl _ _ rfl Tryz.underlying205 Tryz.underlying9 hi hz0 hz1 hz2 rfl ho1 s rfl ?c1 ?c2 ?_)
  case c1 => omega
  case c2 => omega
  intro A' c' w2 hown' hgrow hat
  have hne : A.map (·.block) ≠ some p := by
    intro e
    rcases ho1.2 with ⟨hv, _⟩ | ⟨g', cap, cur, hv, _, hg', _⟩
    · injection hv with e1; subst e1; cases e
    · injection hv with e1; subst e1; cases e; exact Blk.ne_ hb1 hg' (by decide) rfl
  have hb2 : Blk w2 p _ _ := hb1.grown hgrow (Ne.symm hne)
  have d0 := hb2.cell 0
  have d1 := hb2.cell 1
  have f1 := hb2.frozen 1
  have HAT := Lib.hid hat
  have HG := Lib.hid hgrow
  have l2 := hb2.lt
  clear c0 c1 hat hgrow
  go_wp2
  go_ret2
  refine ⟨rfl, A', ⟨H.out.1, _, _, _, Blk.conv (hb2.set_ 1 _) rfl, .inr rfl, ?_, ?_⟩, ?_, ?_⟩
  · have := HN.out; simp [this]
  · have h3 := own_far hown' hb2 (by decide) 1 (.slice A' (n + s.size) c')
    rw [Lib.byteCells_append]; exact h3
  · have h4 : Chg (WrS p A) w w1 := HC1.out.mono (fun b e => .inl e)
    have h5 : Chg (WrS p A) w w2 := h4.grown HG.out (fun g hg => .inl (.inr hg))
    exact h5.setCell (p := ⟨p, 1, none⟩) (.inl (.inl rfl)) _
  · intro b hb
    rcases HAT.out b hb with e | e
    · exact .inl e
    · exact .inr (by omega)

theorem Chg.freeze {S : Nat → Prop} {a w : World} (h : Chg S a w) {p : Addr} (hp : S p.block) (n : Nat) : Chg S a (w.freeze p n) := by
  unfold World.freeze
  split
  · exact h
  · exact ⟨h.1, h.2.1, h.2.2.1, by simpa using h.size, fun k hk hn => by
      simp only [Array.getElem?_modify]
      rw [if_neg (fun e => hn (by rw [← e]; exact hp))]
      exact h.block k hk hn⟩

set_option maxHeartbeats 1000000 in
set_option maxRecDepth 100000 in
theorem string_any {B p : Nat} {A : Option Addr} {t : List UInt8} (w : World) (h : Wr B p A t w) (h0 : t ≠ []) :
    Calls Tryz.prog 134 #[.pointer (some ⟨p, 0, none⟩)] w fun e w' => e = .returned (.string ⟨t.toArray⟩) ∧ Chg (WrS p A) w w' := by
  obtain ⟨hB, a, n, c, hb, ha, hn, hown⟩ := h
  have hl0 : t.length ≠ 0 := by simpa using h0
  subst hn
  obtain ⟨g, cur, rfl, hg, hnc, hcm, hcs⟩ : ∃ g cur, A = some ⟨g, 0, none⟩ ∧ w.heap[g]? = some (.cells cur 5 (0, 0)) ∧ t.length ≤ c ∧ c ≤ maxLen ∧ cur.size = c * 1 := by
    rcases hown.2 with ⟨_, hz⟩ | ⟨g, cap, cur, hv, _, r1, r2, r3, r4, _⟩
    · exact absurd hz hl0
    · injection hv with e1 e2 e3; subst e1 e3; exact ⟨g, cur, rfl, r1, r2, r3, r4⟩
  have c1 : w.drew.cell? ⟨p, 1, none⟩ = some (.slice (some ⟨g, 0, none⟩) t.length c) := hb.cell 1
  have hcb : Tryz.prog.cellsOf 5 = 1 := by kernel_rfl
  have hSD : (Builtin.unsafeSliceData_ #[205] 253 #[.slice (some ⟨g, 0, none⟩) t.length c]).run Tryz.prog w.drew = .ok (.pointer (some ⟨g, 0, none⟩)) w.drew :=
    Lib.run_unsafeSliceData_row _ _ _ _ _ _ (by omega)
  have hUS : (Builtin.unsafeString_ #[253, 3] 9 #[.pointer (some ⟨g, 0, none⟩), .int .i64 t.length]).run Tryz.prog w.drew = .ok (.string ⟨t.toArray⟩) (w.drew.freeze ⟨g, 0, none⟩ t.length) := by
    refine Lib.run_unsafeString_row w.drew 253 3 9 5 Tryz.underlying253 hcb g cur.size (by have hg' : w.drew.heap[g]? = some (.cells cur 5 (0, 0)) := hg; simp [World.shape?, hg']) t h0 (by omega) (by unfold maxLen at hcm; omega) ?_
    intro j x hx
    have := hown.cells (g := g) rfl j (.int .u8 x.toNat) (by simp [Lib.byteCells, hx])
    exact this
  go_enter Tryz.func134, Tryz.ntmps134
  go_wp2
  go_region
  all_goals (go_wp2; go_ret; exact ⟨rfl, Chg.freeze (Chg.drew (Chg.refl _ _)) (p := ⟨g, 0, none⟩) (.inr rfl) _⟩)

set_option maxHeartbeats 1000000 in
theorem off_any {B p : Nat} {A : Option Addr} {t : List UInt8} (w : World) (h : Wr B p A t w) :
    Calls Tryz.prog 127 #[.pointer (some ⟨p, 0, none⟩)] w (Ret (.bool false) w) := by
  obtain ⟨hB, a, n, c, hb, ha, hn, hown⟩ := h
  have hc := fun i => hb.cell i
  go_enter Tryz.func127, Tryz.ntmps127
  go_wp2
  go_ret
  exact ⟨rfl, rfl⟩

set_option maxHeartbeats 1000000 in
set_option maxRecDepth 100000 in
theorem wput_any {B p : Nat} {A : Option Addr} {t : List UInt8} (w : World) (s : ByteArray) (h : Wr B p A t w) (hl : t.length + s.size ≤ 140737488355328) (hBw : B ≤ w.heap.size) :
    Calls Tryz.prog 128 #[.pointer (some ⟨p, 0, none⟩), .string s] w fun e w' => e = .returned (.pointer (some ⟨p, 0, none⟩)) ∧ WrTo B p A (t ++ s.data.toList) w w' := by
  have H := Lib.hid h
  clear h
  go_enter Tryz.func128, Tryz.ntmps128
  go_wp2_with (first | (go_at_call 127; refine (off_any _ H.out).mono ?_; rintro e w1 ⟨rfl, rfl⟩) | (go_at_call 168; refine (writeString_any _ s H.out hl hBw).mono ?_; rintro e w1 ⟨rfl, hw⟩; have HW := Lib.hid hw; clear hw))
  go_ret
  exact ⟨rfl, HW.out⟩

set_option maxHeartbeats 1000000 in
theorem wireNew_any (w : World) :
    Calls Tryz.prog 87 #[] w fun e w' => e = .returned (.pointer (some ⟨w.heap.size, 0, none⟩)) ∧ Wr w.heap.size w.heap.size none [] w' ∧ Bel w.heap.size w w' := by
  go_enter Tryz.func87, Tryz.ntmps87
  go_wp2
  go_ret
  refine ⟨rfl, ⟨Nat.le_refl _, none, 0, 0, ?_, .inl rfl, rfl, World.ownsRow_nil _ _ _ _⟩, ?_⟩
  · exact Blk.new _ _ _
  · exact (Bel.refl _ _).alloc (Nat.le_refl _) _

end
end Go.Proofs.YtmlnjeoibpffoaaGreat
