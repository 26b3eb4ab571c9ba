/- Slices that read as lists of cells; append in one form. Of no program. -/
import Derived.Test.YtmlnjeoibpffoaaGreatMem
import Derived.OwnWalk
import Derived.Maps.AppendAt
import Derived.RegionTactic
import Derived.Laws.Tables
namespace Go.Proofs.YtmlnjeoibpffoaaGreat
open Go.RowKit

/-- The slice address A reads the cells cs, in a block of S. -/
def Rd (S : Nat → Prop) (w : World) (A : Option Addr) (cs : List Value) : Prop :=
  cs ≠ [] → ∃ b o, A = some ⟨b, o, none⟩ ∧ S b ∧ ∀ j u, cs[j]? = some u → w.cell? ⟨b, o + j, none⟩ = some u

section
variable {S S' : Nat → Prop} {w w' : World} {A : Option Addr} {cs : List Value}
theorem Rd.nil : Rd S w A [] := fun h => absurd rfl h
theorem Rd.keep (h : Rd S w A cs) (hk : ∀ b, S b → w'.heap[b]? = w.heap[b]?) : Rd S w' A cs := fun hn => by
  obtain ⟨b, o, e, hb, hc⟩ := h hn
  exact ⟨b, o, e, hb, fun j u hu => (World.cell?_of_block (a := ⟨b, o + j, none⟩) (hk b hb)).trans (hc j u hu)⟩
theorem Rd.mono (h : Rd S w A cs) (hs : ∀ b, S b → S' b) : Rd S' w A cs := fun hn => by
  obtain ⟨b, o, e, hb, hc⟩ := h hn
  exact ⟨b, o, e, hs b hb, hc⟩
theorem Rd.bel {B : Nat} (h : Rd (· < B) w A cs) (hb : Bel B w w') : Rd (· < B) w' A cs := h.keep fun b hlt => hb.block b hlt
theorem Rd.chg {T : Nat → Prop} (h : Rd S w A cs) (hc : Chg T w w') (hlt : ∀ b, S b → b < w.heap.size) (hT : ∀ b, S b → ¬ T b) : Rd S w' A cs := h.keep fun b hb => hc.block b (hlt b hb) (hT b hb)
theorem Rd.take (h : Rd S w A cs) (k : Nat) : Rd S w A (cs.take k) := fun hn => by
  obtain ⟨b, o, e, hb, hc⟩ := h (fun e => hn (by rw [e]; simp))
  refine ⟨b, o, e, hb, fun j u hu => hc j u ?_⟩
  rw [List.getElem?_take] at hu
  split at hu
  · exact hu
  · cases hu
theorem Rd.drop (h : Rd S w A cs) {k size cap : Nat} (hk : k * size < cs.length → k ≠ cap) : Rd S w (if cap = k then A else A.map (·.add (k * size))) (cs.drop (k * size)) := fun hn => by
  have hlt : k * size < cs.length := by
    rcases Nat.lt_or_ge (k * size) cs.length with h' | h'
    · exact h'
    · exact absurd (List.drop_eq_nil_of_le h') hn
  obtain ⟨b, o, rfl, hb, hc⟩ := h (fun e => by rw [e] at hlt; simp at hlt)
  rw [if_neg (fun e => hk hlt e.symm)]
  refine ⟨b, o + k * size, by simp [add_mk], hb, fun j u hu => ?_⟩
  rw [List.getElem?_drop] at hu
  have := hc _ u hu
  rwa [← Nat.add_assoc] at this
theorem Rd.new (w : World) (cs : List Value) (t : TypeId) : Rd (· = w.heap.size) (w.alloc (.cells cs.toArray t)) (some ⟨w.heap.size, 0, none⟩) cs := fun _ =>
  ⟨_, _, rfl, rfl, fun j u hu => by rw [Nat.zero_add, (Blk.new w t cs.toArray).cell j]; simpa using hu⟩
theorem Rd.of_own {base n c k : Nat} {e : TypeId} (h : w.ownsRow base e k (.slice A n c) n cs) : Rd (fun b => A.map (·.block) = some b) w A cs := fun hn => by
  have hn' : 0 < n := by
    rcases Nat.eq_zero_or_pos n with h0 | h0
    · exact absurd (List.eq_nil_of_length_eq_zero (by rw [h.1, h0]; simp)) hn
    · exact h0
  rcases h.2 with ⟨_, h0⟩ | ⟨g, cap, cur, hv, _⟩
  · omega
  · have hA : A = some ⟨g, 0, none⟩ := by injection hv
    subst hA
    refine ⟨g, 0, rfl, rfl, fun j u hu => ?_⟩
    have := h.cells (g := g) rfl j u hu
    rwa [add_mk] at this
end

theorem own_le {w : World} {base e k n c : Nat} {A : Option Addr} {xs : List Value} (h : w.ownsRow base e k (.slice A n c) n xs) : ∀ b, A.map (·.block) = some b → base ≤ b := fun b hb => (h.lt b (by cases A <;> simp_all [Value.ownBlock])).1

/-! flat lists of elements -/
theorem flat_get {α : Type} {enc : α → List Value} {k : Nat} (hk : ∀ x, (enc x).length = k) : ∀ (xs : List α) (i j : Nat) (x : α) (u : Value), xs[i]? = some x → (enc x)[j]? = some u → (xs.flatMap enc)[i * k + j]? = some u := by
  intro xs
  induction xs with
  | nil => intro i j x u h; simp at h
  | cons y ys ih =>
    intro i j x u hx hu
    rw [List.flatMap_cons]
    cases i with
    | zero =>
      simp only [List.getElem?_cons_zero, Option.some.injEq] at hx
      subst hx
      have hj : j < (enc y).length := (List.getElem?_eq_some_iff.1 hu).1
      rw [Nat.zero_mul, Nat.zero_add, List.getElem?_append_left hj]; exact hu
    | succ i =>
      have hge : (enc y).length ≤ (i + 1) * k + j := by rw [hk y, Nat.add_mul]; omega
      rw [List.getElem?_append_right hge, hk y]
      have : (i + 1) * k + j - k = i * k + j := by rw [Nat.add_mul]; omega
      rw [this]
      exact ih i j x u (by simpa using hx) hu
theorem flat_len {α : Type} {enc : α → List Value} {k : Nat} (hk : ∀ x, (enc x).length = k) (xs : List α) : (xs.flatMap enc).length = xs.length * k := by
  induction xs with
  | nil => simp
  | cons y ys ih => rw [List.flatMap_cons, List.length_append, hk, ih, List.length_cons, Nat.add_mul]; omega
theorem flat_take {α : Type} {enc : α → List Value} {k : Nat} (hk : ∀ x, (enc x).length = k) : ∀ (xs : List α) (m : Nat), (xs.flatMap enc).take (m * k) = (xs.take m).flatMap enc := by
  intro xs
  induction xs with
  | nil => intro m; simp
  | cons y ys ih =>
    intro m
    cases m with
    | zero => simp
    | succ m =>
      rw [List.flatMap_cons, List.take_succ_cons, List.flatMap_cons, List.take_append, hk, Nat.add_mul, Nat.one_mul, Nat.add_sub_cancel, ih, List.take_of_length_le (by rw [hk]; omega)]
theorem flat_drop {α : Type} {enc : α → List Value} {k : Nat} (hk : ∀ x, (enc x).length = k) : ∀ (xs : List α) (m : Nat), (xs.flatMap enc).drop (m * k) = (xs.drop m).flatMap enc := by
  intro xs
  induction xs with
  | nil => intro m; simp
  | cons y ys ih =>
    intro m
    cases m with
    | zero => simp
    | succ m =>
      rw [List.flatMap_cons, List.drop_succ_cons, List.drop_append, hk, Nat.add_mul, Nat.one_mul, Nat.add_sub_cancel, ih, List.drop_of_length_le (by rw [hk]; omega), List.nil_append]

/-! ### append -/
/-- The slice type t has elements e, of so many cells and bytes. -/
def EI (P : Program) (t e : TypeId) (size bytes : Nat) : Prop :=
  P.underlying t = some (.slice e) ∧ ∃ i z, P.info? e = some i ∧ i.zero = some z ∧ i.size = size ∧ i.bytes = bytes ∧ z.cells.size = size ∧ 0 < size ∧ 0 < bytes
theorem EI.mk {P : Program} {t e : TypeId} {size bytes : Nat} {z : Value} (h1 : P.underlying t = some (.slice e)) (h2 : (P.info? e).map (fun i => (i.zero, i.size, i.bytes)) = some (some z, size, bytes)) (h3 : z.cells.size = size) (h4 : 0 < size) (h5 : 0 < bytes) : EI P t e size bytes := by
  obtain ⟨i, hi, hz, hs, hb⟩ := info_parts h2
  exact ⟨h1, i, z, hi, hz, hs, hb, h3, h4, h5⟩

section
variable {P : Program} (w : World)
theorem run_app {t e ty : TypeId} {size bytes : Nat} (ei : EI P t e size bytes) {base : Nat} {A : Option Addr} {n c : Nat} {xs : List Value} (hown : w.ownsRow base e size (.slice A n c) n xs)
    {S : Nat → Prop} {A2 : Option Addr} {m c2 : Nat} {news : List Value} (hr : Rd S w A2 news) (hl : news.length = m * size) (h1 : ∀ u ∈ news, u.oneCell' = true)
    (hbytes : (n + m) * bytes ≤ 140737488355328) (hbase : base ≤ w.heap.size) :
    ∃ A' c' w', (Builtin.append_ #[t, t] ty #[.slice A n c, .slice A2 m c2]).run P w = .ok (.slice A' (n + m) c') w' ∧ w'.ownsRow base e size (.slice A' (n + m) c') (n + m) (xs ++ news) ∧
      w.grownBy w' (A.map (·.block)) ∧ (A'.map (·.block) = A.map (·.block) ∨ A'.map (·.block) = some w.heap.size) := by
  obtain ⟨ht, i, z, hi, hz, hs, hb, hzs, hsz, hb0⟩ := ei
  have hnm : n + m ≤ maxLen := by
    have := Nat.le_mul_of_pos_right (n + m) hb0
    unfold maxLen; omega
  have hob : ∀ (A : Option Addr) n c, Value.ownBlock (.slice A n c) = A.map (·.block) := by intro A n c; cases A <;> rfl
  by_cases hm : news = []
  · subst hm
    have hm0 : m = 0 := by
      rcases Nat.eq_zero_or_pos m with h | h
      · exact h
      · have := Nat.mul_pos h hsz; simp at hl; omega
    subst hm0
    refine ⟨A, c, w, ?_, by simpa using hown, World.grownBy.refl w _, .inl rfl⟩
    rcases A2 with _ | ad
    · rcases hown.2 with ⟨hv, h0⟩ | ⟨g, cap, cur, hv, _, _, hnc, _⟩
      · injection hv with e1 e2 e3; subst e1 e2 e3
        simp [Builtin.append_, run_underlying ht, sizeOf, typeInfo, hi, Builtin.lenOf, Builtin.firstCells]
      · injection hv with e1 e2 e3; subst e1 e3
        simp [Builtin.append_, run_underlying ht, sizeOf, typeInfo, hi, Builtin.lenOf, Builtin.firstCells, hnc, storeCells]
    · rcases hown.2 with ⟨hv, h0⟩ | ⟨g, cap, cur, hv, _, _, hnc, _⟩
      · injection hv with e1 e2 e3; subst e1 e2 e3
        simp [Builtin.append_, run_underlying ht, sizeOf, typeInfo, hi, Builtin.lenOf, Builtin.firstCells, loadCells, loadCellsFrom]
      · injection hv with e1 e2 e3; subst e1 e3
        simp [Builtin.append_, run_underlying ht, sizeOf, typeInfo, hi, Builtin.lenOf, Builtin.firstCells, hnc, storeCells, loadCells, loadCellsFrom]
  · obtain ⟨b, o, rfl, _, hc⟩ := hr hm
    obtain ⟨v', w', hrun, h2, h3, _, h5⟩ := run_append_own_at (P := P) w base t ty e i z size bytes ht hi hz hs hb hzs hsz _ n xs hown ⟨b, o, none⟩ m c2 news hl (fun j u hu => by rw [add_mk]; exact hc j u hu) h1 hnm hbytes hbase
    have hm0 : 0 < m := by
      rcases Nat.eq_zero_or_pos m with h | h
      · subst h; simp at hl; exact absurd hl hm
      · exact h
    rcases h2.2 with ⟨_, h0⟩ | ⟨g, cap, cur, hv, _⟩
    · omega
    · subst hv
      refine ⟨_, cap, w', hrun, h2, ?_, ?_⟩
      · rw [hob] at h3; exact h3
      · rw [hob, hob] at h5; exact h5

theorem wp_app {o : Oper} {a : Act} {K : Act → World → Prop} {Q : Exit → Act → World → Prop} (s x : Operand) {t e : TypeId} {size bytes : Nat} (ei : EI P t e size bytes)
    (ho : o.op = .call { callee := .builtin .append, args := #[s, x], argTypes := #[t, t] })
    {base : Nat} {A : Option Addr} {n c : Nat} {xs : List Value} (hs : a.eval s = .slice A n c) (hown : w.ownsRow base e size (.slice A n c) n xs)
    {S : Nat → Prop} {A2 : Option Addr} {m c2 : Nat} {news : List Value} (hx : a.eval x = .slice A2 m c2) (hr : Rd S w A2 news) (hl : news.length = m * size) (h1 : ∀ u ∈ news, u.oneCell' = true)
    {N : Nat} (hN : n + m = N) (hbytes : N * bytes ≤ 140737488355328) (hbase : base ≤ w.heap.size)
    (h : ∀ A' c' w', w'.ownsRow base e size (.slice A' N c') N (xs ++ news) → w.grownBy w' (A.map (·.block)) → (A'.map (·.block) = A.map (·.block) ∨ A'.map (·.block) = some w.heap.size) → K (a.put o.dst (.slice A' N c')) w') : o.wp P a w K Q := by
  subst hN
  obtain ⟨A', c', w', hrun, h2, h3, h4⟩ := run_app (P := P) w (ty := o.type) ei hown (c2 := c2) hr hl h1 hbytes hbase
  unfold Oper.wp execOp
  simp only [ho, resolve, invoke, builtin, Sem.run_bind, Sem.run_pure, Result.andThen_ok, List.map_toArray, List.map_cons, List.map_nil, hs, hx, hrun]
  exact h A' c' w' h2 h3 h4
theorem wpList_app {ops : Array Oper} {rest : List Oper} {o : Oper} {a : Act} {Q : Exit → Act → World → Prop} (hgd : o.guard = none) (s x : Operand) {t e : TypeId} {size bytes : Nat} (ei : EI P t e size bytes)
    (ho : o.op = .call { callee := .builtin .append, args := #[s, x], argTypes := #[t, t] })
    {base : Nat} {A : Option Addr} {n c : Nat} {xs : List Value} (hs : a.eval s = .slice A n c) (hown : w.ownsRow base e size (.slice A n c) n xs)
    {S : Nat → Prop} {A2 : Option Addr} {m c2 : Nat} {news : List Value} (hx : a.eval x = .slice A2 m c2) (hr : Rd S w A2 news) (hl : news.length = m * size) (h1 : ∀ u ∈ news, u.oneCell' = true)
    {N : Nat} (hN : n + m = N) (hbytes : N * bytes ≤ 140737488355328) (hbase : base ≤ w.heap.size)
    (h : ∀ A' c' w', w'.ownsRow base e size (.slice A' N c') N (xs ++ news) → w.grownBy w' (A.map (·.block)) → (A'.map (·.block) = A.map (·.block) ∨ A'.map (·.block) = some w.heap.size) → wpList P ops Q rest (a.put o.dst (.slice A' N c')) w') : wpList P ops Q (o :: rest) a w :=
  wpList_plain hgd fun _ hK => wp_app w s x ei ho hs hown hx hr hl h1 hN hbytes hbase fun A' c' w' h2 h3 h4 => hK _ _ (h A' c' w' h2 h3 h4)
theorem step_app {ops : Array Oper} {o : Oper} {a : Act} {K : Act → World → Prop} {Q : Exit → Act → World → Prop} {E : Prop} (hgd : o.guard = none) (s x : Operand) {t e : TypeId} {size bytes : Nat} (ei : EI P t e size bytes)
    (ho : o.op = .call { callee := .builtin .append, args := #[s, x], argTypes := #[t, t] })
    {base : Nat} {A : Option Addr} {n c : Nat} {xs : List Value} (hs : a.eval s = .slice A n c) (hown : w.ownsRow base e size (.slice A n c) n xs)
    {S : Nat → Prop} {A2 : Option Addr} {m c2 : Nat} {news : List Value} (hx : a.eval x = .slice A2 m c2) (hr : Rd S w A2 news) (hl : news.length = m * size) (h1 : ∀ u ∈ news, u.oneCell' = true)
    {N : Nat} (hN : n + m = N) (hbytes : N * bytes ≤ 140737488355328) (hbase : base ≤ w.heap.size)
    (h : ∀ A' c' w', w'.ownsRow base e size (.slice A' N c') N (xs ++ news) → w.grownBy w' (A.map (·.block)) → (A'.map (·.block) = A.map (·.block) ∨ A'.map (·.block) = some w.heap.size) → K (a.put o.dst (.slice A' N c')) w') :
    if Region.wanted o (yielded ops a.tmps) = true then Oper.wp P o a w K Q else E := by
  have hw : Region.wanted o (yielded ops a.tmps) = true := by simp [Region.wanted, hgd]
  rw [if_pos hw]
  exact wp_app w s x ei ho hs hown hx hr hl h1 hN hbytes hbase h

/-- a whole variable is stored: of the new world its block is known, and that nothing else has turned -/
theorem wpList_put {ops : Array Oper} {rest : List Oper} {o : Oper} {a : Act} {Q : Exit → Act → World → Prop} (hgd : o.guard = none) (ty : TypeId) (x y : Operand) (ho : o.op = .store ty x y)
    (g : Nat) (cells : Array Value) (hx : a.eval x = .pointer (some ⟨g, 0, none⟩)) (hy : a.eval y = .agg cells) {t : TypeId} {old : Array Value} (hg : Blk w g t old) (hi : (P.info? ty).map (·.size) = some cells.size)
    (hold : old.size = cells.size) (h1 : cells.all (·.oneCell') = true)
    (h : ∀ w', Blk w' g t cells → Chg (· = g) w w' → w'.heap.size = w.heap.size → wpList P ops Q rest (a.put o.dst undef) w') : wpList P ops Q (o :: rest) a w :=
  wpList_store_row hgd ty x y ho g cells hx hy t old hg hi hold h1 (h _ (setRow_heap w g old cells t _ hg) ⟨rfl, rfl, rfl, by simp [World.setRow], fun k _ hk => setRow_other w g k _ (fun e => hk e)⟩ (by simp [World.setRow]))
end
/-! ### results that lie in memory -/
def RowTy (P : Program) (ty : TypeId) (n : Nat) : Prop := ∃ d, P.underlying ty = some d ∧ (match d with | .struct _ | .array _ _ => true | _ => false) = true ∧ (P.info? ty).map (·.size) = some n
section
variable {P : Program} {fn : Func} {R : Ending → World → Prop} {a : Act} {w : World} {p u ty g t : Nat} {cs : Array Value}
theorem load_row (hB : Blk w g t cs) (hr : RowTy P ty cs.size) : (loadVar ty ⟨g, 0, none⟩).run P w = .ok (.agg cs) w := by
  obtain ⟨d, h1, h2, h3⟩ := hr
  exact run_loadVar_row w g t ty cs (0, 0) d hB h1 (by cases d <;> first | rfl | exact absurd h2 (by simp)) h3
/-- a whole variable is loaded -/
theorem wpList_get {ops : Array Oper} {rest : List Oper} {o : Oper} {a : Act} {Q : Exit → Act → World → Prop} (hgd : o.guard = none) (ty : TypeId) (x : Operand) (ho : o.op = .load ty x)
    (hx : a.eval x = .pointer (some ⟨g, 0, none⟩)) (hB : Blk w g t cs) (hr : RowTy P ty cs.size) (h : wpList P ops Q rest (a.put o.dst (.agg cs)) w) : wpList P ops Q (o :: rest) a w :=
  wpList_plain hgd fun K hK => by
    have hh := hK _ _ h
    unfold Oper.wp execOp
    simp only [ho, hx, Instr.loadAt, Instr.sureAddr, Sem.run_bind, Sem.run_pure, Result.andThen_ok, load_row hB hr]
    exact hh
theorem ret_c (h : fn.results = #[.cell p ty]) (hp : a.tmps.getD p undef = .pointer (some ⟨g, 0, none⟩)) (hB : Blk w g t cs) (hr : RowTy P ty cs.size) (hd : a.defers = []) (hR : R (.returned (.agg cs)) w) : bodyPost P fn R .ret a w :=
  bodyPost_ret (by have hp' : a.tmps[p]?.getD undef = .pointer (some ⟨g, 0, none⟩) := by simpa using hp
                   simp only [results, h]; simp [hp', asAddr, load_row hB hr]) hd hR
theorem ret_tc (h : fn.results = #[.tmp u, .cell p ty]) (hp : a.tmps.getD p undef = .pointer (some ⟨g, 0, none⟩)) (hB : Blk w g t cs) (hr : RowTy P ty cs.size) (hd : a.defers = []) (hR : R (.returned (.tuple #[a.tmps.getD u undef, .agg cs])) w) : bodyPost P fn R .ret a w :=
  bodyPost_ret (by have hp' : a.tmps[p]?.getD undef = .pointer (some ⟨g, 0, none⟩) := by simpa using hp
                   simp only [results, h]; simp [hp', asAddr, load_row hB hr]) hd hR
theorem ret_ct (h : fn.results = #[.cell p ty, .tmp u]) (hp : a.tmps.getD p undef = .pointer (some ⟨g, 0, none⟩)) (hB : Blk w g t cs) (hr : RowTy P ty cs.size) (hd : a.defers = []) (hR : R (.returned (.tuple #[.agg cs, a.tmps.getD u undef])) w) : bodyPost P fn R .ret a w :=
  bodyPost_ret (by have hp' : a.tmps[p]?.getD undef = .pointer (some ⟨g, 0, none⟩) := by simpa using hp
                   simp only [results, h]; simp [hp', asAddr, load_row hB hr]) hd hR
end
/-- a load under another name: the tactics for drawn regions do not try to take it first (it is branched over) -/
def lateLoad (t : TypeId) (x : Operand) : Op := .load t x
theorem lateLoad_eq (t : TypeId) (x : Operand) : Op.load t x = lateLoad t x := rfl
end Go.Proofs.YtmlnjeoibpffoaaGreat
