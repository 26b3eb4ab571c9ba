/- append of a string's bytes onto an owned slice of bytes; where the new slice lies. Of no program. -/
import Derived.Test.YtmlnjeoibpffoaaGreatMem2
import Derived.Lib.AppendStr
import Derived.Lib.UnsafeStr
namespace Go.Proofs.YtmlnjeoibpffoaaGreat
open Go.RowKit

/-- A' lies where A lay, or is new -/
def LiesIn (A A' : Option Addr) (H : Nat) : Prop := ∀ b, A'.map (·.block) = some b → A.map (·.block) = some b ∨ H ≤ b
section
variable {P : Program} (w : World)
theorem own_base {w : World} {base base' e k n : Nat} {A : Option Addr} {c : Nat} {xs : List Value} (h : w.ownsRow base e k (.slice A n c) n xs) (hb : ∀ b, A.map (·.block) = some b → base' ≤ b) : w.ownsRow base' e k (.slice A n c) n xs := by
  refine ⟨h.1, ?_⟩
  rcases h.2 with h0 | ⟨g, cap, cur, hv, _, rest⟩
  · exact .inl h0
  · injection hv with e1 e2 e3
    subst e1 e3
    exact .inr ⟨g, c, cur, rfl, hb g rfl, rest⟩
theorem own_form {w : World} {base e k n : Nat} {v : Value} {xs : List Value} (h : w.ownsRow base e k v n xs) : ∃ A c, v = .slice A n c ∧ ∀ b, A.map (·.block) = some b → base ≤ b := by
  rcases h.2 with ⟨rfl, rfl⟩ | ⟨g, cap, cur, rfl, hb, _⟩
  · exact ⟨none, 0, rfl, fun b h => by cases h⟩
  · exact ⟨some ⟨g, 0, none⟩, cap, rfl, fun b h => by cases h; exact hb⟩
theorem run_app_str {t u e ty : TypeId} {i : TypeInfo} (ht : P.underlying t = some (.slice e)) (hu : P.underlying u = some .string) (hi : P.info? e = some i) (hz : i.zero = some (.int .u8 0)) (hsize : i.size = 1) (hby : i.bytes = 1)
    {base : Nat} {A : Option Addr} {n c : Nat} {xs : List Value} (hown : w.ownsRow base e 1 (.slice A n c) n xs) (s : ByteArray) (hbytes : n + s.size ≤ 140737488355328) (hbase : base ≤ w.heap.size) :
    ∃ A' c' w', (Builtin.append_ #[t, u] ty #[.slice A n c, .string s]).run P w = .ok (.slice A' (n + s.size) c') w' ∧ w'.ownsRow base e 1 (.slice A' (n + s.size) c') (n + s.size) (xs ++ Lib.strCells s) ∧
      w.grownBy w' (A.map (·.block)) ∧ LiesIn A A' w.heap.size := by
  have hnm : n + s.size ≤ maxLen := by unfold maxLen; omega
  have hob : ∀ (A : Option Addr) n c, Value.ownBlock (.slice A n c) = A.map (·.block) := by intro A n c; cases A <;> rfl
  rcases A with _ | a
  · have h0 : n = 0 := by
      rcases hown.2 with ⟨hv, h0⟩ | ⟨g, cap, cur, hv, _⟩
      · exact h0
      · injection hv with e1; cases e1
    obtain ⟨v', w', hr, h2, h3, _⟩ := Lib.run_append_own_string (P := P) w w.heap.size t u ty e i ht hu hi hz hsize hby _ n xs (own_base hown (fun b h => by cases h)) s hnm hbytes (Nat.le_refl _)
    obtain ⟨A', c', rfl, hb⟩ := own_form h2
    exact ⟨A', c', w', hr, own_base h2 (fun b h => Nat.le_trans hbase (hb b h)), h3, fun b h => .inr (hb b h)⟩
  · obtain ⟨v', w', hr, h2, h3, _⟩ := Lib.run_append_own_string (P := P) w base t u ty e i ht hu hi hz hsize hby _ n xs hown s hnm hbytes hbase
    obtain ⟨A', c', rfl, hb⟩ := own_form h2
    refine ⟨A', c', w', hr, h2, by rw [hob] at h3; exact h3, fun b hbb => ?_⟩
    rcases hown.2 with ⟨hv, _⟩ | ⟨g, cap, cur, hv, _, hg, hnc, hcm, hcs, _⟩
    · injection hv with e1; cases e1
    · injection hv with e1 e2 e3
      cases e1; subst e3
      have hcs' : cur.size = c := by simpa using hcs
      by_cases hroom : n + s.size ≤ c
      · have hr2 := Lib.run_append_room_string (P := P) w t u ty e i ht hu hi hsize g n c cur hg s hroom (by omega)
        rw [hr] at hr2
        injection hr2 with e1 _
        injection e1 with e1 _ _
        subst e1
        exact .inl hbb
      · have hxl : xs.length = n := by simpa using hown.1
        have holds : ∀ j u, xs[j]? = some u → w.cell? ((⟨g, 0, none⟩ : Addr).add j) = some u := hown.cells (g := g) rfl
        have hr2 := Lib.run_append_grow_string (P := P) w t u ty e i (.int .u8 0) ht hu hi hz ⟨g, 0, none⟩ n c xs (by rw [hsize]; simpa using hxl) holds s (by omega) (by omega) (by rw [hby]; exact growslice_fits (by omega) (by omega))
        rw [hr] at hr2
        injection hr2 with e1 _
        injection e1 with e1 _ _
        subst e1
        cases hbb
        exact .inr (Nat.le_refl _)
theorem wpList_app_str {ops : Array Oper} {rest : List Oper} {o : Oper} {a : Act} {Q : Exit → Act → World → Prop} (hgd : o.guard = none) (sl x : Operand) {t u e : TypeId}
    (ho : o.op = .call { callee := .builtin .append, args := #[sl, x], argTypes := #[t, u] }) {i : TypeInfo} (ht : P.underlying t = some (.slice e)) (hu : P.underlying u = some .string) (hi : P.info? e = some i) (hz : i.zero = some (.int .u8 0)) (hsize : i.size = 1) (hby : i.bytes = 1)
    {base : Nat} {A : Option Addr} {n c : Nat} {xs : List Value} (hs : a.eval sl = .slice A n c) (hown : w.ownsRow base e 1 (.slice A n c) n xs) (s : ByteArray) (hx : a.eval x = .string s) (hbytes : n + s.size ≤ 140737488355328) (hbase : base ≤ w.heap.size)
    (h : ∀ A' c' w', w'.ownsRow base e 1 (.slice A' (n + s.size) c') (n + s.size) (xs ++ Lib.strCells s) → w.grownBy w' (A.map (·.block)) → LiesIn A A' w.heap.size →
      wpList P ops Q rest (a.put o.dst (.slice A' (n + s.size) c')) w') : wpList P ops Q (o :: rest) a w := by
  refine wpList_plain hgd fun K hK => ?_
  obtain ⟨A', c', w', hr, h2, h3, h4⟩ := run_app_str (P := P) w (ty := o.type) ht hu hi hz hsize hby hown s hbytes hbase
  unfold Oper.wp execOp
  simp only [ho, resolve, invoke, builtin, Sem.run_bind, Sem.run_pure, Result.andThen_ok, List.map_toArray, List.map_cons, List.map_nil, hs, hx, hr]
  exact hK _ _ (h A' c' w' h2 h3 h4)
end
theorem Blk.newAt {w : World} {g t : Nat} {cs : Array Value} (h : w.heap.size = g) : Blk (w.alloc (.cells cs t)) g t cs := by subst h; exact Blk.new _ _ _
end Go.Proofs.YtmlnjeoibpffoaaGreat
