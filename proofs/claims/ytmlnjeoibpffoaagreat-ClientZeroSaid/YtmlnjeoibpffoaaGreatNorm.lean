import Derived.Test.YtmlnjeoibpffoaaGreatSet
namespace Go.Proofs.YtmlnjeoibpffoaaGreat
open Go.RowKit

set_option maxHeartbeats 1000000 in
theorem refNorm_any (A : Option Addr) (n cap : Nat) (xs : List OpD) (w : World) (hs : SlR OpD.enc (· < w.heap.size) w A n xs) (hn : n ≤ 1000000000) :
    Calls Tryz.prog 73 #[.slice A n cap] w fun e w' => ∃ A' n' c', e = .returned (.slice A' n' c') ∧ SlO OpD.enc w.heap.size 143 3 w' A' n' c' (normOf xs) ∧ Bel w.heap.size w w' := by
  have HS := Lib.hid hs
  have HN := Lib.hid hs.1
  clear hs
  go_enter Tryz.func73, Tryz.ntmps73
  go_wp2_with fail
  go_loopw [3, 4] (fun v i wr => ∃ (k : Nat) (A' : Option Addr) (c' : Nat), k ≤ n ∧ i = .int .i64 k ∧ v = .slice A' k c' ∧ SlO strEnc w.heap.size 9 1 wr A' k c' ((xs.take k).map (·.key)) ∧ Bel w.heap.size w wr) (fun _ i _ => n - (intOf i).toNat)
  case atStart => exact ⟨0, none, 0, Nat.zero_le _, rfl, rfl, SlO.nil _ _ _, Bel.refl _ _⟩
  case round =>
    obtain ⟨k, A', c', hk, rfl, rfl, ho, hb⟩ := hrel
    by_cases hlt : k < n
    · obtain ⟨bb, oo, x, rfl, hbb, hx, c0, _, _⟩ := HS.out.op hlt
      replace c0 := (hb.cell (p := ⟨bb, _, none⟩) hbb).trans c0
      have HX := Lib.hid hx
      have HO := Lib.hid ho
      clear hx ho
      go_wp2_with (at_builtin; refine wpList_app _ ?_ (.tmp 15) (.tmp 21) eiStr ?_ (base := w.heap.size) (A := A') (n := k) (c := c') (xs := ((xs.take k).map (·.key)).flatMap strEnc) ?_ ?_ (S := (· = wr.heap.size)) (A2 := some ⟨wr.heap.size, 0, none⟩) (m := 1) (c2 := 1) (news := [x.key].flatMap strEnc) ?_ ?_ rfl (one_flat strOne _) (N := k + 1) rfl (by omega) ?_ ?_; rfl; rfl; rfl; exact (HO.out.alloc _).2; rfl; exact rd_one strEnc wr x.key _; exact le_al _ hb.size; intro A1 c1 w1 hown1 hgrow1 hat1; have hB1 : Bel w.heap.size w w1 := (hb.alloc (Nat.le_refl _) _).grown hgrow1 (Nat.le_refl _) (own_le HO.out.2); clear hat1)
      go_roundw
      case rel => exact ⟨k + 1, A1, c1, hlt, by go_num, rfl, by rw [take_snoc' HX.out, List.map_append]; exact SlO.app (by simp; have := HN.out; omega) hown1, hB1⟩
      case measure => simp [intOf]; omega
    · have hkn : xs.take k = xs := List.take_of_length_le (by rw [← HN.out]; omega)
      rw [hkn] at ho
      have HO := Lib.hid ho
      have hkn' : k = n := by omega
      have HK : Hid (k = xs.length) := Lib.hid (by rw [← HN.out]; omega)
      clear hkn ho hkn'
      go_wp2_with fail
      refine (refSet_any _ _ _ _ _ (HO.out.rd.mono fun b hb => (HO.out.lt hb).2) (by omega)).mono ?_
      rintro e w1 ⟨A1, n1, c1, rfl, ho1, hb1⟩
      have hb2 := hb.call hb1 (Nat.le_refl _)
      have HO1 := Lib.hid (ho1.base_le (base' := w.heap.size) fun b hbb => Nat.le_trans hb.size (ho1.lt hbb).1)
      have hn1 : n1 ≤ k := by have := ho1.1; have := setOf_len (xs.map (·.key)); rw [List.length_map, ← HK.out] at this; omega
      clear hb hb1 ho1 HO
      go_wp2_with fail
      go_loopw [5, 6] (fun v i wr => ∃ (j : Nat) (A' : Option Addr) (c' : Nat), j ≤ n1 ∧ i = .int .i64 j ∧ v = .slice A' j c' ∧ SlO OpD.enc w.heap.size 143 3 wr A' j c' (((setOf (xs.map (·.key))).take j).map (lastOf xs)) ∧ SlO strEnc w.heap.size 9 1 wr A1 n1 c1 (setOf (xs.map (·.key))) ∧ Bel w.heap.size w wr) (fun _ i _ => n1 - (intOf i).toNat)
      case atStart => exact ⟨0, none, 0, Nat.zero_le _, rfl, rfl, SlO.nil _ _ _, HO1.out, hb2⟩
      case round =>
        obtain ⟨j, A', c', hj, rfl, rfl, ho, hs1, hb⟩ := hrel
        have HO := Lib.hid ho
        have HS1 := Lib.hid hs1
        clear ho hs1
        by_cases hjl : j < n1
        · obtain ⟨b1, o1, nm, rfl, hbb1, hnm, d0⟩ := HS1.out.rd.str hjl
          have HNM := Lib.hid hnm
          clear hnm
          obtain ⟨wo, rfl⟩ : ∃ wo : World, wo = wr := ⟨_, rfl⟩
          go_wp2_with fail
          go_loopw [8] (fun v w2 => ∃ (i : Nat) (acc : OpD), i ≤ n ∧ v = .int .i64 i ∧ Hid (acc = lastOf (xs.take i) nm) ∧ Blk w2 wo.heap.size 143 #[.string acc.key, .string acc.val, .bool acc.del] ∧ Bel wo.heap.size wo w2) (fun v _ => n - (intOf v).toNat)
          case atStart => exact ⟨0, OpD.zero, Nat.zero_le _, rfl, rfl, Blk.new _ _ _, (Bel.refl _ _).alloc (Nat.le_refl _) _⟩
          case round =>
            obtain ⟨i, acc, hi, rfl, hacc, hB, hb2⟩ := hrel
            have d0' := (hb2.cell (p := ⟨b1, _, none⟩) (HS1.out.lt hbb1).2).trans d0
            by_cases hil : i < n
            · obtain ⟨bb, oo, x, rfl, hbb, hx, c0, cv1, cv2⟩ := HS.out.op hil
              have hbw := hb.trans (hb2.mono hb.size)
              replace c0 := (hbw.cell (p := ⟨bb, _, none⟩) hbb).trans c0
              replace cv1 := (hbw.cell (p := ⟨bb, _, none⟩) hbb).trans cv1
              replace cv2 := (hbw.cell (p := ⟨bb, _, none⟩) hbb).trans cv2
              have lbb : ¬ bb = wo.heap.size := Nat.ne_of_lt (Nat.lt_of_lt_of_le hbb hb.size)
              have q1 : (0 : Int) ≤ (i : Int) := Int.natCast_nonneg _
              have q2 : (i : Int) < (n : Int) := by omega
              have q3 : (0 : Int) ≤ (j : Int) := Int.natCast_nonneg _
              have q4 : (j : Int) < (n1 : Int) := by omega
              have HA : Hid (lastOf (xs.take (i + 1)) nm = if x.key = nm then x else acc) := Lib.hid (by rw [take_snoc' hx, lastOf_snoc, ← hacc.out])
              clear hx hacc
              have hc := fun q => hB.cell q
              have hf := fun q => hB.frozen q
              by_cases he : x.key = nm
              · have hee : (x.key.toList == nm.toList) = true := by rw [str_eq]; simpa using he
                have HE := Lib.hid he
                clear he
                go_wp2_with fail
                go_quiet (fail)
                go_wp2_with fail
                go_roundw
                case rel => exact ⟨i + 1, x, hil, by go_num, Lib.hid (by rw [HA.out, if_pos HE.out]), ((hB.set_ 0 _).set_ 1 _).set_ 2 _, ((hb2.setCell (p := ⟨_, 0, none⟩) (Nat.le_refl _) _).setCell (p := ⟨_, 1, none⟩) (Nat.le_refl _) _).setCell (p := ⟨_, 2, none⟩) (Nat.le_refl _) _⟩
                case measure => simp [intOf]; omega
              · have hee : (x.key.toList == nm.toList) = false := by rw [str_eq]; simpa using he
                have HE := Lib.hid he
                clear he
                go_wp2_with fail
                go_quiet (fail)
                go_wp2_with fail
                go_roundw
                case rel => exact ⟨i + 1, acc, hil, by go_num, Lib.hid (by rw [HA.out, if_neg HE.out]), hB, hb2⟩
                case measure => simp [intOf]; omega
            · have HA : Hid (acc = lastOf xs nm) := Lib.hid (by rw [hacc.out, List.take_of_length_le (by rw [← HN.out]; omega)])
              clear hacc
              have hc := fun q => hB.cell q
              have hbw := hb.trans (hb2.mono hb.size)
              have HO2 := Lib.hid (HO.out.keep fun b hbb => hb2.block b (HO.out.lt hbb).2)
              have HS2 := Lib.hid (HS1.out.keep fun b hbb => hb2.block b (HS1.out.lt hbb).2)
              go_wp2_with (at_builtin; refine wpList_app _ ?_ (.tmp 52) (.tmp 54) eiOp ?_ (base := w.heap.size) (A := A') (n := j) (c := c') (xs := (((setOf (xs.map (·.key))).take j).map (lastOf xs)).flatMap OpD.enc) ?_ ?_ (S := (· = wr.heap.size)) (A2 := some ⟨wr.heap.size, 0, none⟩) (m := 1) (c2 := 1) (news := [acc].flatMap OpD.enc) ?_ ?_ rfl (one_flat OpD.one _) (N := j + 1) rfl (by omega) ?_ ?_; rfl; rfl; rfl; exact (HO2.out.alloc _).2; rfl; exact rd_one OpD.enc wr acc _; exact le_al _ hbw.size; intro A2 c2 w1 hown1 hgrow1 hat1; have hB1 : Bel w.heap.size w w1 := (hbw.alloc (Nat.le_refl _) _).grown hgrow1 (Nat.le_refl _) (own_le HO2.out.2); clear hat1)
              go_roundw
              case rel =>
                obtain ⟨hj', hx'⟩ := List.getElem?_eq_some_iff.1 HNM.out
                refine ⟨j + 1, A2, c2, hjl, by go_num, rfl, ?_, (HS2.out.alloc _).grown hgrow1 (HS2.out.ne HO2.out (by decide)), hB1⟩
                rw [take_snoc' HNM.out, List.map_append, List.map_cons, List.map_nil, ← HA.out]
                exact SlO.app (by simp; omega) hown1
              case measure => simp [intOf]; omega
        · go_wp2_with fail
          go_ret
          refine ⟨A', j, c', rfl, ?_, hb⟩
          have : (setOf (xs.map (·.key))).take j = setOf (xs.map (·.key)) := List.take_of_length_le (by rw [← HS1.out.1]; omega)
          have h := HO.out; rw [this] at h; exact h
end Go.Proofs.YtmlnjeoibpffoaaGreat
