/- Words and lemmas on memory, of no program. -/
import Derived.Below
import Derived.Calls
import Derived.Tactics
import Derived.Laws.OwnMore
import Derived.Laws.AppendOwn
import Derived.Laws.Rows
import Derived.Deep.AppendLies
import Derived.Deep.Draws
import Derived.Lib.Bytes
import Derived.Lib.Hide
import Derived.OneCell
namespace Go.Proofs.YtmlnjeoibpffoaaGreat
open Go.RowKit

theorem reti {k : IntKind} {a b : Int} (h : a = b) : Ending.returned (.int k a) = .returned (.int k b) := by rw [h]
theorem retb {a b : Bool} (h : a = b) : Ending.returned (.bool a) = .returned (.bool b) := by rw [h]
theorem rets {a b : ByteArray} (h : a = b) : Ending.returned (.string a) = .returned (.string b) := by rw [h]

/-! ### strings -/
theorem toList_nil {s : ByteArray} : s.toList = [] ↔ s.size = 0 := by
  rw [Lib.toList_data]
  constructor
  · intro h; show s.data.size = 0; rw [← Array.length_toList, h]; rfl
  · intro h; exact List.eq_nil_of_length_eq_zero (by rw [Array.length_toList]; exact h)
theorem isEmpty_iff {s : ByteArray} : s.toList.isEmpty = decide (s.size = 0) := by
  rw [Bool.eq_iff_iff]; simp [toList_nil]

/-! ### blocks -/
theorem block_of_add (a : Addr) (n : Nat) : (a.add n).block = a.block := by unfold Addr.add; split <;> rfl
theorem add_mk (b o n : Nat) : Addr.add ⟨b, o, none⟩ n = ⟨b, o + n, none⟩ := by
  unfold Addr.add; split
  · subst_vars; rfl
  · rfl

def Blk (w : World) (g : Nat) (t : TypeId) (cs : Array Value) : Prop := w.heap[g]? = some (.cells cs t (0, 0))
section
variable {w w' : World} {g : Nat} {t : TypeId} {cs : Array Value}
theorem Blk.lt (h : Blk w g t cs) : g < w.heap.size := by
  rcases Nat.lt_or_ge g w.heap.size with hlt | hge
  · exact hlt
  · unfold Blk at h; rw [Array.getElem?_eq_none hge] at h; cases h
theorem Blk.cell (h : Blk w g t cs) (i : Nat) : w.cell? ⟨g, i, none⟩ = cs[i]? := cell_of_row w g i cs t (0, 0) h
theorem Blk.frozen (h : Blk w g t cs) (i : Nat) : w.frozen? ⟨g, i, none⟩ = false := by
  unfold Blk at h
  simp [World.frozen?, h]
theorem Blk.new (w : World) (t : TypeId) (cs : Array Value) : Blk (w.alloc (.cells cs t)) w.heap.size t cs := heap_alloc_new w _
theorem Blk.conv {cs' : Array Value} (h : Blk w g t cs) (e : cs = cs') : Blk w g t cs' := e ▸ h
theorem Blk.drew (h : Blk w g t cs) : Blk w.drew g t cs := h
theorem Blk.drewN (h : Blk w g t cs) (n : Nat) : Blk (w.drewN n) g t cs := h
theorem Blk.alloc (h : Blk w g t cs) (o : Obj) : Blk (w.alloc o) g t cs := (Below.heap_alloc w o g h.lt).trans h
theorem Blk.set_ (h : Blk w g t cs) (i : Nat) (u : Value) : Blk (w.setCell ⟨g, i, none⟩ u) g t (cs.setIfInBounds i u) := by
  unfold Blk at h ⊢
  simp [World.setCell, Array.getElem?_modify, h]
theorem Blk.far (h : Blk w g t cs) {p : Addr} (hp : g ≠ p.block) (u : Value) : Blk (w.setCell p u) g t cs := (Below.heap_setCell w p u g hp).trans h
theorem Blk.grown {row : Option Nat} (h : Blk w g t cs) (hb : w.grownBy w' row) (hg : some g ≠ row) : Blk w' g t cs := (hb.block g h.lt hg).trans h
theorem Blk.ne_ {g' : Nat} {t' : TypeId} {cs' : Array Value} (h : Blk w g t cs) (h' : Blk w g' t' cs') (hne : t ≠ t') : g ≠ g' := by
  rintro rfl
  unfold Blk at h h'
  rw [h] at h'
  injection h' with h'
  injection h' with _ ht
  exact hne ht
end

/-! ### what has turned. Plain conjunctions, so that a draw turns nothing by reduction. -/
/-- below block B nothing has turned -/
def Bel (B : Nat) (w w' : World) : Prop := w'.os = w.os ∧ w'.tape = w.tape ∧ w'.output = w.output ∧ w.heap.size ≤ w'.heap.size ∧ ∀ k, k < B → w'.heap[k]? = w.heap[k]?
/-- only blocks of S, and what is new, have turned -/
def Chg (S : Nat → Prop) (w w' : World) : Prop := w'.os = w.os ∧ w'.tape = w.tape ∧ w'.output = w.output ∧ w.heap.size ≤ w'.heap.size ∧ ∀ k, k < w.heap.size → ¬ S k → w'.heap[k]? = w.heap[k]?
section
variable {S S' : Nat → Prop} {w w' w'' : World} {B : Nat}
theorem Bel.refl (B : Nat) (w : World) : Bel B w w := ⟨rfl, rfl, rfl, Nat.le_refl _, fun _ _ => rfl⟩
theorem Bel.size (h : Bel B w w') : w.heap.size ≤ w'.heap.size := h.2.2.2.1
theorem Bel.block (h : Bel B w w') : ∀ k, k < B → w'.heap[k]? = w.heap[k]? := h.2.2.2.2
theorem Bel.trans (h : Bel B w w') (k : Bel B w' w'') : Bel B w w'' :=
  ⟨k.1.trans h.1, k.2.1.trans h.2.1, k.2.2.1.trans h.2.2.1, Nat.le_trans h.size k.size, fun i hi => (k.block i hi).trans (h.block i hi)⟩
theorem Bel.mono (h : Bel B w w') {B' : Nat} (hB : B' ≤ B) : Bel B' w w' := ⟨h.1, h.2.1, h.2.2.1, h.size, fun k hk => h.block k (Nat.lt_of_lt_of_le hk hB)⟩
theorem Bel.alloc (h : Bel B w w') (hB : B ≤ w.heap.size) (o : Obj) : Bel B w (w'.alloc o) :=
  ⟨h.1, h.2.1, h.2.2.1, Nat.le_trans h.size (by simp), fun k hk => (Below.heap_alloc w' o k (by have := h.size; omega)).trans (h.block k hk)⟩
theorem Bel.setCell (h : Bel B w w') {p : Addr} (hp : B ≤ p.block) (u : Value) : Bel B w (w'.setCell p u) :=
  ⟨h.1, h.2.1, h.2.2.1, by simpa [World.setCell] using h.size, fun k hk => (Below.heap_setCell w' p u k (by omega)).trans (h.block k hk)⟩
theorem Bel.grown (h : Bel B w w') {row : Option Nat} (hg : w'.grownBy w'' row) (hB : B ≤ w.heap.size) (hr : ∀ k, row = some k → B ≤ k) : Bel B w w'' :=
  h.trans ⟨hg.os, hg.tape, hg.output, hg.size, fun k hk => hg.block k (by have := h.size; omega) (fun e => by have := hr k e.symm; omega)⟩
theorem Bel.below (h : Bel B w w') : Below B w w' := ⟨h.1, h.2.1, h.2.2.1, h.size, h.block⟩
theorem Bel.of (h : Below B w w') : Bel B w w' := ⟨h.os, h.tape, h.output, h.size, h.block⟩
theorem Bel.cell (h : Bel B w w') {p : Addr} (hp : p.block < B) : w'.cell? p = w.cell? p := World.cell?_of_block (h.block _ hp)
theorem Bel.blk (h : Bel B w w') {g : Nat} {t : TypeId} {cs : Array Value} (hb : Blk w g t cs) (hg : g < B) : Blk w' g t cs := (h.block g hg).trans hb
theorem Bel.drew (h : Bel B w w') : Bel B w w'.drew := h
theorem Bel.drewN (h : Bel B w w') (n : Nat) : Bel B w (w'.drewN n) := h
/-- behind a call that turns nothing that was there -/
theorem Bel.call (h : Bel B w w') (k : Bel w'.heap.size w' w'') (hB : B ≤ w.heap.size) : Bel B w w'' := h.trans (k.mono (Nat.le_trans hB h.size))

theorem Chg.refl (S : Nat → Prop) (w : World) : Chg S w w := ⟨rfl, rfl, rfl, Nat.le_refl _, fun _ _ _ => rfl⟩
theorem Chg.size (h : Chg S w w') : w.heap.size ≤ w'.heap.size := h.2.2.2.1
theorem Chg.block (h : Chg S w w') : ∀ k, k < w.heap.size → ¬ S k → w'.heap[k]? = w.heap[k]? := h.2.2.2.2
theorem Chg.trans (h : Chg S w w') (k : Chg S' w' w'') (hs : ∀ b, S' b → S b ∨ w.heap.size ≤ b) : Chg S w w'' :=
  ⟨k.1.trans h.1, k.2.1.trans h.2.1, k.2.2.1.trans h.2.2.1, Nat.le_trans h.size k.size, fun i hi hn =>
    (k.block i (Nat.lt_of_lt_of_le hi h.size) (fun e => by rcases hs i e with e | e; exact hn e; omega)).trans (h.block i hi hn)⟩
theorem Chg.of (h : Bel w.heap.size w w') : Chg S w w' := ⟨h.1, h.2.1, h.2.2.1, h.size, fun i hi _ => h.block i hi⟩
theorem Chg.call (h : Chg S w w') (k : Bel w'.heap.size w' w'') : Chg S w w'' := h.trans (Chg.of (S := fun _ => False) k) (fun _ h => h.elim)
theorem Chg.bel (h : Chg S w w') (hB : B ≤ w.heap.size) (hs : ∀ b, S b → B ≤ b) : Bel B w w' :=
  ⟨h.1, h.2.1, h.2.2.1, h.size, fun i hi => h.block i (by omega) (fun e => by have := hs i e; omega)⟩
theorem Chg.mono (h : Chg S w w') (hs : ∀ b, S b → S' b) : Chg S' w w' := ⟨h.1, h.2.1, h.2.2.1, h.size, fun i hi hn => h.block i hi (fun e => hn (hs i e))⟩
theorem Chg.alloc (h : Chg S w w') (o : Obj) : Chg S w (w'.alloc o) :=
  ⟨h.1, h.2.1, h.2.2.1, Nat.le_trans h.size (by simp), fun i hi hn => (Below.heap_alloc w' o i (Nat.lt_of_lt_of_le hi h.size)).trans (h.block i hi hn)⟩
theorem Chg.setCell (h : Chg S w w') {p : Addr} (hp : S p.block ∨ w.heap.size ≤ p.block) (u : Value) : Chg S w (w'.setCell p u) :=
  ⟨h.1, h.2.1, h.2.2.1, by simpa [World.setCell] using h.size, fun i hi hn => (Below.heap_setCell w' p u i (by
    rintro rfl
    rcases hp with hp | hp
    · exact hn hp
    · omega)).trans (h.block i hi hn)⟩
theorem Chg.grown (h : Chg S w w') {row : Option Nat} (hg : w'.grownBy w'' row) (hr : ∀ g, row = some g → S g ∨ w.heap.size ≤ g) : Chg S w w'' :=
  ⟨hg.os.trans h.1, hg.tape.trans h.2.1, hg.output.trans h.2.2.1, Nat.le_trans h.size hg.size, fun i hi hn =>
    (hg.block i (Nat.lt_of_lt_of_le hi h.size) (fun e => by rcases hr i e.symm with e | e; exact hn e; omega)).trans (h.block i hi hn)⟩
theorem Chg.drew (h : Chg S w w') : Chg S w w'.drew := h
theorem Chg.drewN (h : Chg S w w') (n : Nat) : Chg S w (w'.drewN n) := h
theorem Chg.blk (h : Chg S w w') {g : Nat} {t : TypeId} {cs : Array Value} (hb : Blk w g t cs) (hn : ¬ S g) : Blk w' g t cs := (h.block g hb.lt hn).trans hb
theorem le_al {n : Nat} (o : Obj) (h : n ≤ w.heap.size) : n ≤ (w.alloc o).heap.size := by simp; omega
theorem lt_al (o : Obj) : w.heap.size < (w.alloc o).heap.size := by simp
end
/-! ### ends -/
def Ret (v : Value) (w : World) (e : Ending) (w' : World) : Prop := e = .returned v ∧ w = w'
def RetB (v : Value) (w : World) (e : Ending) (w' : World) : Prop := e = .returned v ∧ Bel w.heap.size w w'
theorem ret_i {k : IntKind} {a b : Int} {w : World} (h : b = a) : Ret (.int k a) w (.returned (.int k b)) w := by rw [h]; exact ⟨rfl, rfl⟩
theorem ret_b {a b : Bool} {w : World} (h : b = a) : Ret (.bool a) w (.returned (.bool b)) w := by rw [h]; exact ⟨rfl, rfl⟩
theorem retB_i {k : IntKind} {a b : Int} {w w' : World} (h : b = a) (hb : Bel w.heap.size w w') : RetB (.int k a) w (.returned (.int k b)) w' := by rw [h]; exact ⟨rfl, hb⟩
theorem retB_b {a b : Bool} {w w' : World} (h : b = a) (hb : Bel w.heap.size w w') : RetB (.bool a) w (.returned (.bool b)) w' := by rw [h]; exact ⟨rfl, hb⟩

end Go.Proofs.YtmlnjeoibpffoaaGreat
