import Derived.Test.YtmlnjeoibpffoaaAsk0

namespace Go.Proofs.Ytmlnjeoibpffoaa
open Go.RowKit

set_option maxHeartbeats 400000 in
theorem clonePair_any {S : Nat → Prop} (A : Option Addr) (n c : Nat) (xs : List _) (w : World) (hs : SlR PairD.enc S w A n xs) (hS : ∀ b, S b → b < w.heap.size) (hn : n ≤ 1000000000) :
    Calls Try.prog 28 #[.slice A n c] w fun e w' => ∃ A' c', e = .returned (.slice A' n c') ∧ SlO PairD.enc w.heap.size 27 2 w' A' n c' xs ∧ Bel w.heap.size w w' := by
  have HS := Lib.hid hs
  have hR : Rd (· < w.heap.size) w A (xs.flatMap PairD.enc) := hs.2.mono hS
  have hL : (xs.flatMap PairD.enc).length = n * 2 := by rw [flat_len PairD.len, hs.1]
  have hnil : A = none → n = 0 := fun e => by
    subst e
    rcases Nat.eq_zero_or_pos n with h | h
    · exact h
    · obtain ⟨b, o, h1, _⟩ := hs.2 (fun e => by rw [e] at hL; simp at hL; omega)
      cases h1
  clear hs
  have heq := fun W : World => Lib.run_eql_slice_nil (P := Try.prog) W 22 27 A n c 0 0 Try.underlying22
  rcases A with _ | ad
  · have hn0 := hnil rfl
    subst hn0
    have hx : xs = [] := List.eq_nil_of_length_eq_zero HS.out.1.symm
    clear hR hL hnil
    go_enter Try.func28, Try.ntmps28
    go_wp2_with fail
    go_ret
    exact ⟨none, 0, rfl, by rw [hx]; exact SlO.nil _ _ _, Bel.refl _ _⟩
  · clear hnil
    have HL := Lib.hid hL
    clear hL
    go_enter Try.func28, Try.ntmps28
    go_wp2_with (at_builtin; refine wpList_app _ ?_ (.tmp 5) (.tmp 6) eiPair ?_ (base := w.heap.size) (A := some ⟨w.heap.size, 0, none⟩) (n := 0) (c := 0) (xs := []) ?_ ?_ (S := (· < w.heap.size)) (A2 := some ad) (m := n) (c2 := c) (news := xs.flatMap PairD.enc) ?_ ?_ HL.out (one_flat PairD.one _) (N := n) (Nat.zero_add n) (by omega) ?_ ?_; rfl; rfl; rfl; exact own_empty (Blk.new w _ _) (Nat.le_refl _); rfl; exact hR.bel ((Bel.refl _ w).alloc (Nat.le_refl _) _); exact le_al _ (Nat.le_refl _); intro A1 c1 w1 hown1 hgrow1 hat1; have hB1 : Bel w.heap.size w w1 := ((Bel.refl _ w).alloc (Nat.le_refl _) _).grown hgrow1 (Nat.le_refl _) (fun g hg => by cases hg; exact Nat.le_refl _); clear hat1)
    go_ret
    exact ⟨A1, c1, rfl, ⟨HS.out.1, hown1⟩, hB1⟩

end Go.Proofs.Ytmlnjeoibpffoaa
