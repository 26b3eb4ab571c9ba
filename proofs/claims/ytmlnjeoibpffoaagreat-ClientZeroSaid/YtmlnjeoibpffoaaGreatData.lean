/- The data of package api, as Lean sees them; how slices of them read. -/
import Derived.Test.YtmlnjeoibpffoaaGreatMem2
import Derived.Test.YtmlnjeoibpffoaaGreatRows
namespace Go.Proofs.YtmlnjeoibpffoaaGreat
open Go.RowKit

structure OpD where
  key : ByteArray
  val : ByteArray
  del : Bool
def OpD.zero : OpD := ⟨⟨#[]⟩, ⟨#[]⟩, false⟩
def OpD.enc (o : OpD) : List Value := [.string o.key, .string o.val, .bool o.del]
structure PairD where
  key : ByteArray
  val : ByteArray
def PairD.enc (o : PairD) : List Value := [.string o.key, .string o.val]
def strEnc (s : ByteArray) : List Value := [.string s]
theorem OpD.len (o : OpD) : o.enc.length = 3 := rfl
theorem PairD.len (o : PairD) : o.enc.length = 2 := rfl
theorem strLen (s : ByteArray) : (strEnc s).length = 1 := rfl
theorem one_flat {α : Type} {enc : α → List Value} (h : ∀ x, ∀ u ∈ enc x, u.oneCell' = true) (xs : List α) : ∀ u ∈ xs.flatMap enc, u.oneCell' = true := by
  intro u hu
  obtain ⟨x, _, hx⟩ := List.mem_flatMap.1 hu
  exact h x u hx
theorem OpD.one (o : OpD) : ∀ u ∈ o.enc, u.oneCell' = true := by intro u hu; simp [OpD.enc] at hu; rcases hu with rfl | rfl | rfl <;> rfl
theorem PairD.one (o : PairD) : ∀ u ∈ o.enc, u.oneCell' = true := by intro u hu; simp [PairD.enc] at hu; rcases hu with rfl | rfl <;> rfl
theorem strOne (s : ByteArray) : ∀ u ∈ strEnc s, u.oneCell' = true := by intro u hu; simp [strEnc] at hu; subst hu; rfl

/-- The slice (A, n) reads as xs. -/
def SlR {α : Type} (enc : α → List Value) (S : Nat → Prop) (w : World) (A : Option Addr) (n : Nat) (xs : List α) : Prop := n = xs.length ∧ Rd S w A (xs.flatMap enc)
/-- The slice (A, n, c) of elements e, of so many cells, is owned from base on, and reads as xs. -/
def SlO {α : Type} (enc : α → List Value) (base : Nat) (e : TypeId) (size : Nat) (w : World) (A : Option Addr) (n c : Nat) (xs : List α) : Prop := n = xs.length ∧ w.ownsRow base e size (.slice A n c) n (xs.flatMap enc)
section
variable {α : Type} {enc : α → List Value} {S S' : Nat → Prop} {w w' : World} {A : Option Addr} {n : Nat} {xs : List α}
theorem SlR.nil : SlR enc S w A 0 [] := ⟨rfl, Rd.nil⟩
theorem SlR.keep (h : SlR enc S w A n xs) (hk : ∀ b, S b → w'.heap[b]? = w.heap[b]?) : SlR enc S w' A n xs := ⟨h.1, h.2.keep hk⟩
theorem SlR.mono (h : SlR enc S w A n xs) (hs : ∀ b, S b → S' b) : SlR enc S' w A n xs := ⟨h.1, h.2.mono hs⟩
theorem SlR.bel {B : Nat} (h : SlR enc (· < B) w A n xs) (hb : Bel B w w') : SlR enc (· < B) w' A n xs := ⟨h.1, h.2.bel hb⟩
theorem SlO.rd {base e size c : Nat} (h : SlO enc base e size w A n c xs) : SlR enc (fun b => A.map (·.block) = some b) w A n xs := ⟨h.1, Rd.of_own h.2⟩
theorem SlO.lt {base e size c : Nat} (h : SlO enc base e size w A n c xs) {b : Nat} (hb : A.map (·.block) = some b) : base ≤ b ∧ b < w.heap.size := h.2.lt b (by cases A <;> simp_all [Value.ownBlock])
theorem SlO.le {base e size c : Nat} (h : SlO enc base e size w A n c xs) : n ≤ c := by
  rcases h.2.2 with ⟨hv, h0⟩ | ⟨g, cap, cur, hv, _, _, hnc, _⟩
  · omega
  · injection hv with _ _ e3; omega
theorem SlO.base_le {base base' e size c : Nat} (h : SlO enc base e size w A n c xs) (hb : ∀ b, A.map (·.block) = some b → base' ≤ b) : SlO enc base' e size w A n c xs := by
  refine ⟨h.1, h.2.1, ?_⟩
  rcases h.2.2 with h0 | ⟨g, cap, cur, hv, _, rest⟩
  · exact .inl h0
  · injection hv with e1 e2 e3
    subst e1 e3
    exact .inr ⟨g, c, cur, rfl, hb g rfl, rest⟩
theorem SlO.keep {base e size c : Nat} (h : SlO enc base e size w A n c xs) (hk : ∀ b, A.map (·.block) = some b → w'.heap[b]? = w.heap[b]?) : SlO enc base e size w' A n c xs := by
  refine ⟨h.1, h.2.1, ?_⟩
  rcases h.2.2 with h0 | ⟨g, cap, cur, hv, hb, hg, rest⟩
  · exact .inl h0
  · injection hv with e1 e2 e3
    subst e1 e3
    exact .inr ⟨g, c, cur, rfl, hb, (hk g rfl).trans hg, rest⟩
theorem SlO.nil (base e size : Nat) : SlO enc base e size w none 0 0 [] := ⟨rfl, World.ownsRow_nil _ _ _ _⟩
theorem SlO.alloc {base e size c : Nat} (h : SlO enc base e size w A n c xs) (o : Obj) : SlO enc base e size (w.alloc o) A n c xs := ⟨h.1, h.2.alloc o⟩
theorem SlO.drew {base e size c : Nat} (h : SlO enc base e size w A n c xs) : SlO enc base e size w.drew A n c xs := h
theorem SlO.drewN {base e size c : Nat} (h : SlO enc base e size w A n c xs) (k : Nat) : SlO enc base e size (w.drewN k) A n c xs := h
theorem SlR.drew (h : SlR enc S w A n xs) : SlR enc S w.drew A n xs := h
theorem SlR.drewN (h : SlR enc S w A n xs) (k : Nat) : SlR enc S (w.drewN k) A n xs := h
theorem SlR.alloc (h : SlR enc S w A n xs) (hS : ∀ b, S b → b < w.heap.size) (o : Obj) : SlR enc S (w.alloc o) A n xs := h.keep fun b hb => Below.heap_alloc w o b (hS b hb)
theorem SlO.bel {base e size c : Nat} (h : SlO enc base e size w A n c xs) (hb : Bel w.heap.size w w') : SlO enc base e size w' A n c xs := h.keep fun b hbb => hb.block b (h.lt hbb).2
theorem SlO.chg {T : Nat → Prop} {base e size c : Nat} (h : SlO enc base e size w A n c xs) (hc : Chg T w w') (hT : ∀ b, A.map (·.block) = some b → ¬ T b) : SlO enc base e size w' A n c xs := h.keep fun b hbb => hc.block b (h.lt hbb).2 (hT b hbb)
theorem SlO.app {base e size c' : Nat} {A' : Option Addr} {ys : List α} {N : Nat} (hm : N = xs.length + ys.length) (ho : w'.ownsRow base e size (.slice A' N c') N (xs.flatMap enc ++ ys.flatMap enc)) : SlO enc base e size w' A' N c' (xs ++ ys) :=
  ⟨by rw [List.length_append, hm], by rw [List.flatMap_append]; exact ho⟩
end
theorem own_empty {w : World} {base e k H : Nat} (h : Blk w H e #[]) (hb : base ≤ H) : w.ownsRow base e k (.slice (some ⟨H, 0, none⟩) 0 0) 0 [] :=
  ⟨by simp, .inr ⟨H, 0, #[], rfl, hb, h, Nat.le_refl _, by simp, by simp, by simp⟩⟩
theorem rd_blk1 {w : World} {t : TypeId} {H : Nat} {x : ByteArray} (h : Blk w H t #[.string x]) : Rd (· = H) w (some ⟨H, 0, none⟩) ([x].flatMap strEnc) := fun _ =>
  ⟨H, 0, rfl, rfl, fun j u hu => by
    rw [Nat.zero_add, h.cell j]
    match j, hu with
    | 0, hu => exact hu⟩
theorem own_some {w : World} {base e k n c : Nat} {A : Option Addr} {xs : List Value} (h : w.ownsRow base e k (.slice A n c) n xs) (hc : n < c) : ∃ g, A = some ⟨g, 0, none⟩ := by
  rcases h.2 with ⟨hv, _⟩ | ⟨g, cap, cur, hv, _⟩
  · injection hv with _ _ e3; omega
  · injection hv with e1 _ _; exact ⟨g, e1⟩
theorem SlO.heap {α : Type} {enc : α → List Value} {base e size : Nat} {w : World} {A : Option Addr} {n c : Nat} {xs : List α} (h : SlO enc base e size w A n c xs) {b : Nat} (hb : A.map (·.block) = some b) : ∃ cs, Blk w b e cs := by
  rcases h.2.2 with ⟨hv, _⟩ | ⟨g, cap, cur, hv, _, hg, _⟩
  · injection hv with e1 _ _; subst e1; cases hb
  · injection hv with e1 _ _; subst e1; cases hb; exact ⟨cur, hg⟩
theorem SlO.ne {α β : Type} {enc : α → List Value} {enc' : β → List Value} {base e size base' e' size' : Nat} {w : World} {A A' : Option Addr} {n c n' c' : Nat} {xs : List α} {ys : List β}
    (h : SlO enc base e size w A n c xs) (h' : SlO enc' base' e' size' w A' n' c' ys) (he : e ≠ e') : ∀ b, A.map (·.block) = some b → A'.map (·.block) ≠ some b := by
  intro b hb hb'
  obtain ⟨cs, h1⟩ := h.heap hb
  obtain ⟨cs', h2⟩ := h'.heap hb'
  exact Blk.ne_ h1 h2 he rfl
theorem SlO.neBlk {α : Type} {enc : α → List Value} {base e size : Nat} {w : World} {A : Option Addr} {n c : Nat} {xs : List α} (h : SlO enc base e size w A n c xs) {g t : Nat} {cs : Array Value} (hg : Blk w g t cs) (he : e ≠ t) : A.map (·.block) ≠ some g := by
  intro hb
  obtain ⟨cs', h1⟩ := h.heap hb
  exact Blk.ne_ h1 hg he rfl
theorem SlO.grown {α : Type} {enc : α → List Value} {base e size : Nat} {w w' : World} {A : Option Addr} {n c : Nat} {xs : List α} {row : Option Nat} (h : SlO enc base e size w A n c xs) (hg : w.grownBy w' row) (hne : ∀ b, A.map (·.block) = some b → row ≠ some b) : SlO enc base e size w' A n c xs :=
  h.keep fun b hb => hg.block b (h.lt hb).2 (fun e => hne b hb e.symm)
/-- One new element, as 'append(out, x)' lays it. -/
theorem rd_one {α : Type} (enc : α → List Value) (w : World) (x : α) (t : TypeId) : Rd (· = w.heap.size) (w.alloc (.cells (enc x).toArray t)) (some ⟨w.heap.size, 0, none⟩) ([x].flatMap enc) := by
  rw [List.flatMap_cons, List.flatMap_nil, List.append_nil]; exact Rd.new _ _ _
section
variable {S : Nat → Prop} {w : World} {A : Option Addr} {n : Nat}
theorem SlR.op {xs : List OpD} (h : SlR OpD.enc S w A n xs) {i : Nat} (hi : i < n) :
    ∃ b o x, A = some ⟨b, o, none⟩ ∧ S b ∧ xs[i]? = some x ∧ w.cell? ⟨b, o + i * 3, none⟩ = some (.string x.key) ∧ w.cell? ⟨b, o + i * 3 + 1, none⟩ = some (.string x.val) ∧ w.cell? ⟨b, o + i * 3 + 2, none⟩ = some (.bool x.del) := by
  obtain ⟨hn, h⟩ := h
  have hx : xs[i]? = some (xs[i]'(by omega)) := List.getElem?_eq_getElem (by omega)
  have hg := fun j u => flat_get OpD.len xs i j _ u hx
  obtain ⟨b, o, hA, hS, hc⟩ := h (fun e => by have := hg 0 _ rfl; rw [e] at this; simp at this)
  exact ⟨b, o, _, hA, hS, hx, hc _ _ (hg 0 _ rfl), hc _ _ (hg 1 _ rfl), hc _ _ (hg 2 _ rfl)⟩
theorem SlR.pair {xs : List PairD} (h : SlR PairD.enc S w A n xs) {i : Nat} (hi : i < n) :
    ∃ b o x, A = some ⟨b, o, none⟩ ∧ S b ∧ xs[i]? = some x ∧ w.cell? ⟨b, o + i * 2, none⟩ = some (.string x.key) ∧ w.cell? ⟨b, o + i * 2 + 1, none⟩ = some (.string x.val) := by
  obtain ⟨hn, h⟩ := h
  have hx : xs[i]? = some (xs[i]'(by omega)) := List.getElem?_eq_getElem (by omega)
  have hg := fun j u => flat_get PairD.len xs i j _ u hx
  obtain ⟨b, o, hA, hS, hc⟩ := h (fun e => by have := hg 0 _ rfl; rw [e] at this; simp at this)
  exact ⟨b, o, _, hA, hS, hx, hc _ _ (hg 0 _ rfl), hc _ _ (hg 1 _ rfl)⟩
theorem SlR.str {xs : List ByteArray} (h : SlR strEnc S w A n xs) {i : Nat} (hi : i < n) :
    ∃ b o x, A = some ⟨b, o, none⟩ ∧ S b ∧ xs[i]? = some x ∧ w.cell? ⟨b, o + i, none⟩ = some (.string x) := by
  obtain ⟨hn, h⟩ := h
  have hx : xs[i]? = some (xs[i]'(by omega)) := List.getElem?_eq_getElem (by omega)
  have hg := fun j u => flat_get strLen xs i j _ u hx
  obtain ⟨b, o, hA, hS, hc⟩ := h (fun e => by have := hg 0 _ rfl; rw [e] at this; simp at this)
  exact ⟨b, o, _, hA, hS, hx, by have := hc _ _ (hg 0 _ rfl); simpa using this⟩
end
/- the element types, off the program's table -/
theorem eiOp : EI Tryz.prog 37 143 3 40 := EI.mk Tryz.underlying37 (z := .agg #[.string ⟨#[]⟩, .string ⟨#[]⟩, .bool false]) (by kernel_rfl) rfl (by omega) (by omega)
theorem eiPair : EI Tryz.prog 30 77 2 32 := EI.mk Tryz.underlying30 (z := .agg #[.string ⟨#[]⟩, .string ⟨#[]⟩]) (by kernel_rfl) rfl (by omega) (by omega)
theorem eiStr : EI Tryz.prog 189 9 1 16 := EI.mk Tryz.underlying189 (z := .string ⟨#[]⟩) (by kernel_rfl) rfl (by omega) (by omega)
end Go.Proofs.YtmlnjeoibpffoaaGreat
