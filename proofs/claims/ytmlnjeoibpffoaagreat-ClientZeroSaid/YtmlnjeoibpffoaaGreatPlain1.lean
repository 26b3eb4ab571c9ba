/- Plain functions: keys in order, sets, operations normed. No program in sight. -/
import Derived.Test.YtmlnjeoibpffoaaGreatData
namespace Go.Proofs.YtmlnjeoibpffoaaGreat

def bless (a b : ByteArray) : Bool := Op.bytesLess a.toList b.toList
/-- the first place whose text is not below x -/
def insK (x : ByteArray) : List ByteArray → Nat
  | [] => 0
  | y :: ys => if bless y x = true then insK x ys + 1 else 0
def setIns (out : List ByteArray) (x : ByteArray) : List ByteArray :=
  if out[insK x out]? = some x then out else out.take (insK x out) ++ [x] ++ out.drop (insK x out)
def setOf (l : List ByteArray) : List ByteArray := l.foldl setIns []

theorem insK_le (x : ByteArray) (l : List ByteArray) : insK x l ≤ l.length := by
  induction l with
  | nil => simp [insK]
  | cons y ys ih => simp only [insK, List.length_cons]; split <;> omega
theorem insK_step {x : ByteArray} {l : List ByteArray} {j : Nat} {y : ByteArray} (hy : l[j]? = some y) : insK x (l.drop j) = if bless y x = true then insK x (l.drop (j + 1)) + 1 else 0 := by
  obtain ⟨hk, rfl⟩ := List.getElem?_eq_some_iff.1 hy
  rw [List.drop_eq_getElem_cons hk]; rfl
theorem setIns_len (out : List ByteArray) (x : ByteArray) : (setIns out x).length ≤ out.length + 1 := by
  unfold setIns
  split
  · omega
  · have := insK_le x out; simp; omega
theorem setOf_snoc (l : List ByteArray) (x : ByteArray) : setOf (l ++ [x]) = setIns (setOf l) x := by simp [setOf]
theorem setOf_len (l : List ByteArray) : (setOf l).length ≤ l.length := by
  have : ∀ (l : List ByteArray) (o : List ByteArray), (l.foldl setIns o).length ≤ o.length + l.length := by
    intro l
    induction l with
    | nil => intro o; simp
    | cons x xs ih => intro o; have := ih (setIns o x); have := setIns_len o x; simp only [List.foldl_cons, List.length_cons]; omega
  simpa [setOf] using this l []
theorem take_snoc' {α : Type} {l : List α} {k : Nat} {x : α} (h : l[k]? = some x) : l.take (k + 1) = l.take k ++ [x] := by
  obtain ⟨hk, rfl⟩ := List.getElem?_eq_some_iff.1 h
  rw [List.take_succ_eq_append_getElem hk]

theorem str_eq {a b : ByteArray} : (a.toList == b.toList) = decide (a = b) := by
  rw [Bool.eq_iff_iff]; simp only [beq_iff_eq, decide_eq_true_eq, Lib.toList_data]
  exact ⟨fun h => ByteArray.ext (Array.toList_inj.1 h), fun h => by rw [h]⟩
/-- the last operation of a name -/
def lastOf (l : List OpD) (nm : ByteArray) : OpD := l.foldl (fun acc o => if o.key = nm then o else acc) OpD.zero
def normOf (l : List OpD) : List OpD := (setOf (l.map (·.key))).map (lastOf l)
theorem lastOf_snoc (l : List OpD) (o : OpD) (nm : ByteArray) : lastOf (l ++ [o]) nm = if o.key = nm then o else lastOf l nm := by simp [lastOf]
theorem normOf_len (l : List OpD) : (normOf l).length ≤ l.length := by
  have := setOf_len (l.map (·.key)); simpa [normOf] using this
end Go.Proofs.YtmlnjeoibpffoaaGreat
