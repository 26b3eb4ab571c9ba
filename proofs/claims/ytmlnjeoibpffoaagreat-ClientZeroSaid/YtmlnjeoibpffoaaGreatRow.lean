/- The last step of a law's row: it answers true, and what came in reads as it did; how a slice that came in opens. -/
import Derived.Test.YtmlnjeoibpffoaaGreatData
import Derived.ProofKit
import Derived.OpenShut
import Derived.Carry
import Derived.ChangeMaps5
import Derived.ChangeSame
import Derived.DataReads
import Derived.Deep.Slices
namespace Go.Proofs.YtmlnjeoibpffoaaGreat
open Go.ChangeShapes Go.WideShapes Go.RowKit Go.Deep
set_option linter.unusedVariables false

section
variable {H : Type} {enc : TypeId × Value → H} {P : Program}
theorem args_stay (hl : laidOutB P = true) {W W' : World} (hb : Below W.heap.size W W') : ∀ {ts : List TypeId} {vs : List Value} {ds : List (DataW H)} {ps : List MemPlace},
    (∀ t ∈ ts, P.readableRec t = true ∧ t < P.types.size) → DataW.TrodAll enc P W 0 (fun _ => true) true ts vs ds ps → (∀ x ∈ ps, x.block < W.heap.size) →
    DataW.TrodAll enc P W' 0 (fun b => decide (b < W.heap.size)) true ts vs ds ps
  | [], [], [], _, _, h, _ => h
  | [], [], _ :: _, _, _, h, _ => h.elim
  | [], _ :: _, _, _, _, h, _ => h.elim
  | _ :: _, [], _, _, _, h, _ => h.elim
  | _ :: _, _ :: _, [], _, _, h, _ => h.elim
  | t :: ts, v :: vs, d :: ds, ps, hr, h, hlt => by
    obtain ⟨p, q, h0, h1, rfl⟩ := h
    exact ⟨p, q, Below.trod hl (hr t (by simp)).1 (hr t (by simp)).2 h0 hb (fun x hx => hlt x (by simp [hx])), args_stay hl hb (fun t' ht' => hr t' (by simp [ht'])) h1 (fun x hx => hlt x (by simp [hx])), rfl⟩
/-- The row of a law whose call has turned nothing that was there. -/
theorem law_post {s : ChangeSpec} {f : Func} {tb : TypeId} {W W' : World} {args : Array Value} {ds gs : List (DataW H)} {before : List MemPlace} (hl : laidOutB P = true)
    (hty0 : (f.params.toList.all fun t => P.readableRec t && decide (t < P.types.size)) = true) (hv : s.vars = []) (hr : f.resultTypes = #[tb]) (hub : P.underlying tb = some .bool)
    (hW : DataW.Whole enc P f.params.toList s.vars false W args.toList ds gs before) (hfn : s.fn H (ds ++ gs) = { results := [.lit (.bool true)], args := ds }) (hb : Bel W.heap.size W W') :
    s.post enc P f false true false false W args (.bool true) W' := by
  have hty : ∀ t ∈ f.params.toList, P.readableRec t = true ∧ t < P.types.size := fun t ht => by simpa using List.all_eq_true.1 hty0 t ht
  have hW' := hW
  obtain ⟨p, q, hA, hV, rfl, hfz, hnd⟩ := hW
  have hB := hb.below
  refine ⟨ds, gs, p ++ q, [], p, [], hW', ?_, ?_, ?_, World.keptBut_mono (fun p hp => hp.elim) (hB.frame (fun _ => False)), fun h => by cases h⟩
  · rw [hfn, hr]; exact trodAll_mk1 (shut_bool hub true)
  · rw [hfn]; exact args_stay hl hB hty hA (fun x hx => hW'.lt x (by simp [hx]))
  · rw [hfn, hv]; rfl
end

/-! ### what came in -/
theorem list_of {α : Type} {p : Nat → α → Prop} : ∀ n : Nat, (∀ i, i < n → ∃ x, p i x) → ∃ xs : List α, xs.length = n ∧ ∀ i x, xs[i]? = some x → p i x
  | 0, _ => ⟨[], rfl, fun i x h => by simp at h⟩
  | n + 1, h => by
    obtain ⟨xs, hl, hx⟩ := list_of n (fun i hi => h i (by omega))
    obtain ⟨y, hy⟩ := h n (by omega)
    refine ⟨xs ++ [y], by simp [hl], fun i x hi => ?_⟩
    rcases Nat.lt_or_ge i n with h1 | h1
    · rw [List.getElem?_append_left (by omega)] at hi
      exact hx i x hi
    · rw [List.getElem?_append_right (by omega), hl] at hi
      have h0 : i - n = 0 := by
        rcases Nat.eq_zero_or_pos (i - n) with h0 | h0
        · exact h0
        · rw [List.getElem?_eq_none (by simp; omega)] at hi; cases hi
      rw [h0] at hi
      have : i = n := by omega
      subst this
      simp at hi
      subst hi
      exact hy
theorem flat_split {α : Type} {enc : α → List Value} {k : Nat} (hk : ∀ x, (enc x).length = k) (hk0 : 0 < k) : ∀ (xs : List α) (j : Nat) (u : Value), (xs.flatMap enc)[j]? = some u → ∃ i x r, j = i * k + r ∧ xs[i]? = some x ∧ (enc x)[r]? = some u := by
  intro xs
  induction xs with
  | nil => intro j u h; simp at h
  | cons y ys ih =>
    intro j u h
    rw [List.flatMap_cons] at h
    rcases Nat.lt_or_ge j k with hj | hj
    · rw [List.getElem?_append_left (by rw [hk]; exact hj)] at h
      exact ⟨0, y, j, by simp, rfl, h⟩
    · rw [List.getElem?_append_right (by rw [hk]; exact hj), hk] at h
      obtain ⟨i, x, r, h1, h2, h3⟩ := ih _ u h
      exact ⟨i + 1, x, r, by rw [Nat.add_mul]; omega, by simpa using h2, h3⟩
theorem SlR.of_cells {α : Type} {enc : α → List Value} {k : Nat} (hk : ∀ x, (enc x).length = k) (hk0 : 0 < k) {w : World} {a : Addr} {n : Nat} {xs : List α} (hl : xs.length = n)
    (h : ∀ i x, xs[i]? = some x → ∀ r u, (enc x)[r]? = some u → w.cell? (a.add (i * k + r)) = some u) : SlR enc (· < w.heap.size) w (some a) n xs := by
  refine ⟨hl.symm, fun hne => ?_⟩
  have h0 : ∃ u, (xs.flatMap enc)[0]? = some u := ⟨_, List.getElem?_eq_getElem (List.length_pos_iff.2 hne)⟩
  have hall : ∀ j u, (xs.flatMap enc)[j]? = some u → w.cell? (a.add j) = some u := fun j u hu => by
    obtain ⟨i, x, r, rfl, hx, hr⟩ := flat_split hk hk0 xs j u hu
    exact h i x hx r u hr
  obtain ⟨u0, hu0⟩ := h0
  have hc := hall 0 u0 hu0
  have ha : a.add 0 = a := by simp [Addr.add]
  rw [ha] at hc
  have hs := World.cell?_spot hc
  have hb := World.block_lt_of_cell? w a hc
  obtain ⟨b, o, sp⟩ := a
  simp only at hs
  subst hs
  exact ⟨b, o, rfl, hb, fun j u hu => by rw [← add_mk]; exact hall j u hu⟩

theorem Tryz.own : ownKnob Tryz.prog.godebug = none := by kernel_rfl
theorem Tryz.laidOut : laidOutB Tryz.prog = true := by kernel_rfl
section
variable {H : Type} {enc : TypeId × Value → H} {w : World}
set_option maxRecDepth 100000 in
theorem open_pairs {v : Value} {d : DataW H} {ps : List MemPlace} {r : Reach} {b0 : Nat} (hv : Value.okWide Tryz.prog w r b0 30 v) (h : DataW.Trod enc Tryz.prog w 0 (fun _ => true) true 30 v d ps) :
    ∃ A n c xs, v = .slice A n c ∧ SlR PairD.enc (· < w.heap.size) w A n xs := by
  obtain ⟨A, n, c, rfl⟩ := okWide_slice Tryz.underlying30 hv
  obtain ⟨fuel, hf⟩ := h
  rcases open_slice Tryz.underlying30 hf with ⟨hcs, _⟩ | ⟨a, len, cap, m, n', D, Pl, hcs, hb, hl, hm, hmm, hx, hi⟩
  · simp [Value.cells] at hcs
    obtain ⟨rfl, rfl, rfl⟩ := hcs
    exact ⟨none, 0, 0, [], rfl, SlR.nil⟩
  · simp [Value.cells] at hcs
    obtain ⟨rfl, rfl, rfl⟩ := hcs
    have hC : Tryz.prog.cellsOf 77 = 2 := by kernel_rfl
    obtain ⟨xs, hlen, hxs⟩ := list_of (p := fun i (x : PairD) => ∀ r u, x.enc[r]? = some u → w.cell? (a.add (i * 2 + r)) = some u) n (fun i him => by
      obtain ⟨cs', hc, ht'⟩ := hi i (by rw [hmm]; simp; omega)
      rw [hC] at hc
      obtain ⟨ys, n2, _, _, hlen, hyl, hf⟩ := DataW.trod_struct Tryz.underlying77 ht'
      obtain ⟨_, hcl, hat⟩ := World.cells?_some hc
      match cs', hcl with
      | [c0, c1], _ =>
        obtain ⟨k, hk, _⟩ := DataW.trod_string Tryz.underlying9 ((hf 0 _ rfl).trans (List.getElem?_eq_getElem (by rw [hyl]; decide)))
        obtain ⟨vv, hvv, _⟩ := DataW.trod_string Tryz.underlying9 ((hf 1 _ rfl).trans (List.getElem?_eq_getElem (by rw [hyl]; decide)))
        have hcs1 : Tryz.prog.cellsOf 9 = 1 := by kernel_rfl
        simp [hcs1] at hk hvv
        subst hk hvv
        refine ⟨⟨k, vv⟩, fun r u hu => ?_⟩
        have h0 := hat 0 (by omega)
        have h1 := hat 1 (by omega)
        rw [Go.Deep.add_add] at h0 h1
        match r, hu with
        | 0, hu => rw [h0]; exact hu
        | 1, hu => rw [h1]; exact hu)
    exact ⟨some a, n, c, xs, rfl, SlR.of_cells PairD.len (by omega) hlen hxs⟩
end
end Go.Proofs.YtmlnjeoibpffoaaGreat
