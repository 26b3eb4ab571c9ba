/- A string's iterator, one step: into an opaque world. Of no program. -/
import Derived.Test.YtmlnjeoibpffoaaGreatMem3
import Derived.Lib.OthersKept
namespace Go.Proofs.YtmlnjeoibpffoaaGreat
open Go.RowKit
/-- block k is an iterator of s that stands at pos -/
def It (w : World) (k : Nat) (s : ByteArray) (pos : Nat) : Prop := w.heap[k]? = some (.stringIter s pos)
section
variable {P : Program} {w w' : World} {k : Nat} {s : ByteArray} {pos : Nat}
theorem It.lt (h : It w k s pos) : k < w.heap.size := (Array.getElem?_eq_some_iff.1 h).1
theorem It.bel (h : It w k s pos) {B : Nat} (hb : Bel B w w') (hk : k < B) : It w' k s pos := (hb.block k hk).trans h
theorem It.chg (h : It w k s pos) {S : Nat → Prop} (hc : Chg S w w') (hk : ¬ S k) : It w' k s pos := (hc.block k h.lt hk).trans h
theorem It.drewN (h : It w k s pos) (n : Nat) : It (w.drewN n) k s pos := h
theorem It.new (w : World) (s : ByteArray) : It (w.iter s 0) w.heap.size s 0 := World.iter_heap w s 0
theorem It.ne (h : It w k s pos) {g t : Nat} {cs : Array Value} (hg : Blk w g t cs) : g ≠ k := by
  rintro rfl
  unfold It at h; unfold Blk at hg
  rw [h] at hg; cases hg
theorem wpList_next {ops : Array Oper} {rest : List Oper} {o : Oper} {a : Act} {Q : Exit → Act → World → Prop} (hgd : o.guard = none) (x : Operand) (ho : o.op = .next x true) (k : Nat) (s : ByteArray) (pos c : Nat)
    (hx : a.eval x = .pointer (some ⟨k, 0, none⟩)) (hk : It w k s pos) (hc : s.data[pos]? = some c.toUInt8) (hc7 : c < 128)
    (h : ∀ w', It w' k s (pos + 1) → Chg (· = k) w w' → w'.heap.size = w.heap.size → wpList P ops Q rest (a.put o.dst (.tuple #[.bool true, .int .i64 pos, .int .i32 c])) w') : wpList P ops Q (o :: rest) a w := by
  obtain ⟨hlt, hce⟩ := Array.getElem?_eq_some_iff.1 hc
  have hlt' : pos < s.size := hlt
  have hn : (s[pos]'hlt').toNat = c := by
    show (s.data[pos]'hlt).toNat = c
    rw [hce]; simp; omega
  have hr := Lib.run_next_ascii_at (P := P) w k s pos o.type hk hlt' (by rw [hn]; exact hc7)
  rw [hn] at hr
  have h2 := h _ (Lib.iterAt_heap w k s pos (pos + 1) hk) ⟨rfl, rfl, rfl, by rw [Lib.iterAt_size]; exact Nat.le_refl _, fun j _ hj => Lib.iterAt_other w k j s _ hj⟩ (Lib.iterAt_size _ _ _ _)
  refine wpList_plain hgd fun K hK => ?_
  have hh := hK _ _ h2
  unfold Oper.wp execOp
  simp only [ho, hx, Sem.run_bind, Sem.run_pure, hr, Result.andThen_ok]
  exact hh
theorem wpList_next_end {ops : Array Oper} {rest : List Oper} {o : Oper} {a : Act} {Q : Exit → Act → World → Prop} (hgd : o.guard = none) (x : Operand) (ho : o.op = .next x true) (k : Nat) (s : ByteArray) (pos : Nat)
    (hx : a.eval x = .pointer (some ⟨k, 0, none⟩)) (hk : It w k s pos) (hc : ¬ pos < s.size)
    (h : wpList P ops Q rest (a.put o.dst (.tuple #[.bool false])) w) : wpList P ops Q (o :: rest) a w := by
  have hr := Lib.run_next_end_at (P := P) w k s pos o.type hk hc
  refine wpList_plain hgd fun K hK => ?_
  have hh := hK _ _ h
  unfold Oper.wp execOp
  simp only [ho, hx, Sem.run_bind, Sem.run_pure, hr, Result.andThen_ok]
  exact hh
end
end Go.Proofs.YtmlnjeoibpffoaaGreat
