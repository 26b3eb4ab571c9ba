import Derived.Test.YtmlnjeoibpffoaaGreatPlain1
import Derived.WalkKit
import Derived.BigQuiet
import Derived.Deep.QuietTactic
import Derived.Deep.RegionHeld3
import Derived.WalkLawsBesides
import Derived.WalkSpells
namespace Go.Proofs.YtmlnjeoibpffoaaGreat
open Go.RowKit

theorem set_fin {xs : List ByteArray} {k j n' c3 : Nat} {x : ByteArray} {A A3 : Option Addr} {B B' c' e : Nat} {wr w3 : World} (hx : xs[k]? = some x) (hj : insK x (setOf (xs.take k)) = j) (hne : (setOf (xs.take k))[j]? ≠ some x)
    (ho : SlO strEnc B e 1 wr A n' c' (setOf (xs.take k))) (h : w3.ownsRow B' e 1 (.slice A3 (n' + 1) c3) (n' + 1) (((setOf (xs.take k)).take j).flatMap strEnc ++ [x].flatMap strEnc ++ ((setOf (xs.take k)).drop j).flatMap strEnc)) (hB : B ≤ B') :
    SlO strEnc B e 1 w3 A3 (n' + 1) c3 (setOf (xs.take (k + 1))) := by
  have e1 : setOf (xs.take (k + 1)) = (setOf (xs.take k)).take j ++ [x] ++ (setOf (xs.take k)).drop j := by
    rw [take_snoc' hx, setOf_snoc, setIns, hj, if_neg hne]
  have h' : SlO strEnc B' e 1 w3 A3 (n' + 1) c3 (setOf (xs.take (k + 1))) := by
    refine ⟨?_, ?_⟩
    · have := insK_le x (setOf (xs.take k)); have := ho.1; rw [e1]; simp; omega
    · rw [e1, List.flatMap_append, List.flatMap_append]; exact h
  exact h'.base_le fun b hb => Nat.le_trans hB (h'.lt hb).1

set_option maxHeartbeats 1000000 in
theorem refSet_any (A : Option Addr) (n cap : Nat) (xs : List ByteArray) (w : World) (hs : SlR strEnc (· < w.heap.size) w A n xs) (hn : n ≤ 1000000000) :
    Calls Tryz.prog 116 #[.slice A n cap] w fun e w' => ∃ A' n' c', e = .returned (.slice A' n' c') ∧ SlO strEnc w.heap.size 9 1 w' A' n' c' (setOf xs) ∧ Bel w.heap.size w w' := by
  have HS := Lib.hid hs
  have HN := Lib.hid hs.1
  clear hs
  go_enter Tryz.func116, Tryz.ntmps116
  go_wp2_with fail
  go_loopw [3, 4] (fun v i wr => ∃ (k : Nat) (A' : Option Addr) (n' c' : Nat), k ≤ n ∧ i = .int .i64 k ∧ v = .slice A' n' c' ∧ n' ≤ k ∧ SlO strEnc w.heap.size 9 1 wr A' n' c' (setOf (xs.take k)) ∧ Bel w.heap.size w wr) (fun _ i _ => n - (intOf i).toNat)
  case atStart => exact ⟨0, none, 0, 0, Nat.zero_le _, rfl, rfl, Nat.le_refl _, SlO.nil _ _ _, Bel.refl _ _⟩
  case round =>
    obtain ⟨k, A', n', c', hk, rfl, rfl, hnk, ho, hb⟩ := hrel
    by_cases hlt : k < n
    · obtain ⟨bb, oo, x, rfl, hbb, hx, c0⟩ := HS.out.str hlt
      replace c0 := (hb.cell (p := ⟨bb, _, none⟩) hbb).trans c0
      have HX := Lib.hid hx
      have HO := Lib.hid ho
      clear hx ho
      go_wp2_with fail
      go_loopw [5] (fun v w2 => ∃ j : Nat, j ≤ n' ∧ v = .int .i64 j ∧ Hid (insK x (setOf (xs.take k)) = insK x ((setOf (xs.take k)).drop j) + j) ∧ Hid (∃ m, w2 = wr.drewN m)) (fun v _ => n' - (intOf v).toNat)
      case atStart => exact ⟨0, Nat.zero_le _, rfl, rfl, ⟨0, rfl⟩⟩
      case round =>
        obtain ⟨j, hj, rfl, hi, hw2⟩ := hrel
        obtain ⟨m, rfl⟩ := hw2.out
        by_cases hjl : j < n'
        · obtain ⟨b2, o2, y, rfl, hbb2, hy, d0⟩ := HO.out.rd.str hjl
          have HY := Lib.hid hy
          clear hy
          have d0 : (wr.drewN m).cell? ⟨b2, o2 + j, none⟩ = some (.string y) := d0
          have c0 : (wr.drewN m).cell? ⟨bb, oo + k, none⟩ = some (.string x) := c0
          go_wp2_with fail
          go_quiet (fail)
          go_wp2_with fail
          · go_roundw
            case rel => exact ⟨j + 1, hjl, by go_num, Lib.hid (by have := hi.out; rw [insK_step HY.out, if_pos (by assumption)] at this; omega), Lib.hid ⟨_, rfl⟩⟩
            case measure => simp [intOf]; omega
          · have hnl : bless y x = false := by assumption
            have HJ : Hid (insK x (setOf (xs.take k)) = j) := Lib.hid (by have := hi.out; rw [insK_step HY.out, if_neg (by rw [hnl]; simp)] at this; omega)
            clear hi
            by_cases he : y = x
            · subst he
              have hee : (y.toList == y.toList) = true := by simp
              go_quiet (fail)
              go_wp2_with fail
              go_roundw
              case rel => exact ⟨k + 1, some ⟨b2, o2, none⟩, n', c', hlt, by go_num, rfl, by omega, by rw [take_snoc' HX.out, setOf_snoc, setIns, HJ.out, if_pos HY.out]; exact HO.out, hb⟩
              case measure => simp [intOf]; omega
            · have hee : (y.toList == x.toList) = false := by
                rw [beq_eq_false_iff_ne]; intro e; rw [Lib.toList_data, Lib.toList_data] at e
                exact he (ByteArray.ext (Array.toList_inj.1 e))
              go_quiet (fail)
              go_wp2_with fail
              have q1 : (0 : Int) ≤ (j : Int) := Int.natCast_nonneg _
              have q2 : (j : Int) ≤ (c' : Int) := by have := HO.out.le; omega
              have q5 : (j : Int) ≤ (n' : Int) := by omega
              have q6 : (n' : Int) ≤ (c' : Int) := by have := HO.out.le; omega
              have q7 : ¬ c' = j := by omega
              have q3 : (0 : Int) ≤ (k : Int) := Int.natCast_nonneg _
              have q4 : (k : Int) < (n : Int) := by omega
              have RT : Rd (· < wr.heap.size) wr (some ⟨b2, o2, none⟩) (((setOf (xs.take k)).take j).flatMap strEnc) := by
                have := (HO.out.rd.2.take (j * 1)); rw [flat_take strLen] at this
                exact this.mono fun b hb => (HO.out.lt hb).2
              have RL : ((((setOf (xs.take k)).take j).flatMap strEnc)).length = j * 1 := by
                rw [flat_len strLen, List.length_take, Nat.min_eq_left (by rw [← HO.out.1]; omega)]
              have c0r : wr.cell? ⟨bb, oo + k, none⟩ = some (.string x) := c0
              have X2 : Blk ((wr.alloc (.cells #[] 9)).alloc (.cells #[.string x] 9)) (wr.heap.size + 1) 9 #[.string x] := by simpa using Blk.new (wr.alloc (.cells #[] 9)) 9 #[.string x]
              have E3 : Blk ((wr.alloc (.cells #[.string x] 9)).alloc (.cells #[] 9)) (wr.heap.size + 1) 9 #[] := by simpa using Blk.new (wr.alloc (.cells #[.string x] 9)) 9 #[]
              have X3 : Blk ((wr.alloc (.cells #[.string x] 9)).alloc (.cells #[] 9)) wr.heap.size 9 #[.string x] := (Blk.new wr _ _).alloc _
              have lbb : bb < wr.heap.size := Nat.lt_of_lt_of_le hbb hb.size
              go_region_held3 (fun w' => w'.cell? ⟨bb, oo + k, none⟩ = some (.string x))
                (first | go_keep)
                (first
                  | (refine step_app _ ?_ (.tmp 45) (.tmp 48) eiStr ?_ (base := wr.heap.size) (A := some ⟨wr.heap.size, 0, none⟩) (n := 0) (c := 0) (xs := []) ?_ ?_ (S := (· < wr.heap.size)) (A2 := some ⟨b2, o2, none⟩) (m := j) (c2 := c') (news := ((setOf (xs.take k)).take j).flatMap strEnc) ?_ ?_ RL (one_flat strOne _) (N := j) (Nat.zero_add j) (by omega) ?_ ?_; rfl; rfl; rfl; exact own_empty (Blk.new wr _ _) (Nat.le_refl _); rfl; exact RT.bel ((Bel.refl _ wr).alloc (Nat.le_refl _) _); exact le_al _ (Nat.le_refl _); intro A1 c1 w1 hown1 hgrow1 hat1; have hB1 : Bel wr.heap.size wr w1 := Bel.grown (by exact ((Bel.refl _ wr).alloc (Nat.le_refl _) _)) hgrow1 (Nat.le_refl _) (fun g hg => by cases hg; exact Nat.le_refl _); have cw1 : w1.cell? ⟨bb, oo + k, none⟩ = some (.string x) := (hB1.cell (p := ⟨bb, _, none⟩) lbb).trans c0r; simp only [List.nil_append] at hown1; clear hat1)
                  | (refine step_app _ ?_ (.tmp 45) (.tmp 48) eiStr ?_ (base := wr.heap.size) (A := some ⟨wr.heap.size, 0, none⟩) (n := 0) (c := 0) (xs := []) ?_ ?_ (S := (· < wr.heap.size)) (A2 := some ⟨b2, o2, none⟩) (m := j) (c2 := c') (news := ((setOf (xs.take k)).take j).flatMap strEnc) ?_ ?_ RL (one_flat strOne _) (N := j) (Nat.zero_add j) (by omega) ?_ ?_; rfl; rfl; rfl; exact own_empty ((Blk.new wr _ _).alloc _) (Nat.le_refl _); rfl; exact RT.bel (((Bel.refl _ wr).alloc (Nat.le_refl _) _).alloc (Nat.le_refl _) _); exact le_al _ (le_al _ (Nat.le_refl _)); intro A1 c1 w1 hown1 hgrow1 hat1; have hB1 : Bel wr.heap.size wr w1 := Bel.grown (by exact (((Bel.refl _ wr).alloc (Nat.le_refl _) _).alloc (Nat.le_refl _) _)) hgrow1 (Nat.le_refl _) (fun g hg => by cases hg; exact Nat.le_refl _); have hX1 : Blk w1 (wr.heap.size + 1) 9 #[.string x] := (hgrow1.block (wr.heap.size + 1) (by simp) (by simp)).trans X2; have cw1 : w1.cell? ⟨bb, oo + k, none⟩ = some (.string x) := (hB1.cell (p := ⟨bb, _, none⟩) lbb).trans c0r; simp only [List.nil_append] at hown1; clear hat1)
                  | (refine step_app _ ?_ (.tmp 45) (.tmp 48) eiStr ?_ (base := wr.heap.size) (A := some ⟨wr.heap.size + 1, 0, none⟩) (n := 0) (c := 0) (xs := []) ?_ ?_ (S := (· < wr.heap.size)) (A2 := some ⟨b2, o2, none⟩) (m := j) (c2 := c') (news := ((setOf (xs.take k)).take j).flatMap strEnc) ?_ ?_ RL (one_flat strOne _) (N := j) (Nat.zero_add j) (by omega) ?_ ?_; rfl; rfl; rfl; exact own_empty E3 (Nat.le_succ _); rfl; exact RT.bel (((Bel.refl _ wr).alloc (Nat.le_refl _) _).alloc (Nat.le_refl _) _); exact le_al _ (le_al _ (Nat.le_refl _)); intro A1 c1 w1 hown1 hgrow1 hat1; have hB1 : Bel wr.heap.size wr w1 := Bel.grown (by exact (((Bel.refl _ wr).alloc (Nat.le_refl _) _).alloc (Nat.le_refl _) _)) hgrow1 (Nat.le_refl _) (fun g hg => by cases hg; exact Nat.le_succ _); have hX1 : Blk w1 wr.heap.size 9 #[.string x] := (hgrow1.block wr.heap.size (by simp; try omega) (by simp)).trans X3; have cw1 : w1.cell? ⟨bb, oo + k, none⟩ = some (.string x) := (hB1.cell (p := ⟨bb, _, none⟩) lbb).trans c0r; simp only [List.nil_append] at hown1; clear hat1)
                  | (refine step_app _ ?_ (.tmp 49) (.tmp 54) eiStr ?_ (base := wr.heap.size) (A := A1) (n := j) (c := c1) (xs := ((setOf (xs.take k)).take j).flatMap strEnc) ?_ ?_ (S := (· = w1.heap.size)) (A2 := some ⟨w1.heap.size, 0, none⟩) (m := 1) (c2 := 1) (news := [x].flatMap strEnc) ?_ ?_ rfl (one_flat strOne [x]) (N := j + 1) rfl (by omega) ?_ ?_; rfl; rfl; rfl; exact hown1.alloc _; rfl; exact rd_one strEnc w1 x _; exact le_al _ hB1.size; intro A2 c2 w2 hown2 hgrow2 hat2; have hB2 : Bel wr.heap.size wr w2 := Bel.grown (by exact hB1.alloc (Nat.le_refl _) _) hgrow2 (Nat.le_refl _) (own_le hown1); have cw2 : w2.cell? ⟨bb, oo + k, none⟩ = some (.string x) := (hB2.cell (p := ⟨bb, _, none⟩) lbb).trans c0r; clear hat2)
                  | (refine step_app _ ?_ (.tmp 49) (.tmp 54) eiStr ?_ (base := wr.heap.size) (A := A1) (n := j) (c := c1) (xs := ((setOf (xs.take k)).take j).flatMap strEnc) ?_ ?_ (S := (· = wr.heap.size + 1)) (A2 := some ⟨wr.heap.size + 1, 0, none⟩) (m := 1) (c2 := 1) (news := [x].flatMap strEnc) ?_ ?_ rfl (one_flat strOne [x]) (N := j + 1) rfl (by omega) ?_ ?_; rfl; rfl; rfl; exact hown1; rfl; exact rd_blk1 hX1; exact hB1.size; intro A2 c2 w2 hown2 hgrow2 hat2; have hB2 : Bel wr.heap.size wr w2 := Bel.grown (by exact hB1) hgrow2 (Nat.le_refl _) (own_le hown1); have cw2 : w2.cell? ⟨bb, oo + k, none⟩ = some (.string x) := (hB2.cell (p := ⟨bb, _, none⟩) lbb).trans c0r; clear hat2)
                  | (refine step_app _ ?_ (.tmp 49) (.tmp 54) eiStr ?_ (base := wr.heap.size) (A := A1) (n := j) (c := c1) (xs := ((setOf (xs.take k)).take j).flatMap strEnc) ?_ ?_ (S := (· = wr.heap.size)) (A2 := some ⟨wr.heap.size, 0, none⟩) (m := 1) (c2 := 1) (news := [x].flatMap strEnc) ?_ ?_ rfl (one_flat strOne [x]) (N := j + 1) rfl (by omega) ?_ ?_; rfl; rfl; rfl; exact hown1; rfl; exact rd_blk1 hX1; exact hB1.size; intro A2 c2 w2 hown2 hgrow2 hat2; have hB2 : Bel wr.heap.size wr w2 := Bel.grown (by exact hB1) hgrow2 (Nat.le_refl _) (own_le hown1); have cw2 : w2.cell? ⟨bb, oo + k, none⟩ = some (.string x) := (hB2.cell (p := ⟨bb, _, none⟩) lbb).trans c0r; clear hat2))
              all_goals
                have RD : Rd (· < wr.heap.size) wr (some ⟨b2, o2 + j, none⟩) (((setOf (xs.take k)).drop j).flatMap strEnc) := by
                  have := HO.out.rd.2.drop (k := j) (size := 1) (cap := c') (fun _ => by omega)
                  rw [flat_drop strLen, if_neg (by omega)] at this
                  simp only [Option.map_some, add_mk, Nat.mul_one] at this
                  exact this.mono fun b hb => (HO.out.lt (by simpa using hb)).2
                have RDL : (((setOf (xs.take k)).drop j).flatMap strEnc).length = (n' - j) * 1 := by rw [flat_len strLen, List.length_drop, ← HO.out.1]
                go_wp2_with (at_builtin; refine wpList_app _ ?_ (.tmp 56) (.tmp 59) eiStr ?_ (base := wr.heap.size) (A := A2) (n := j + 1) (c := c2) (xs := ((setOf (xs.take k)).take j).flatMap strEnc ++ [x].flatMap strEnc) ?_ ?_ (S := (· < wr.heap.size)) (A2 := some ⟨b2, o2 + j, none⟩) (m := n' - j) (c2 := c' - j) (news := ((setOf (xs.take k)).drop j).flatMap strEnc) ?_ ?_ RDL (one_flat strOne _) (N := n' + 1) (by omega) (by omega) ?_ ?_; rfl; rfl; rfl; exact hown2; rfl; exact RD.bel hB2; exact hB2.size; intro A3 c3 w3 hown3 hgrow3 hat3; have hB3 : Bel wr.heap.size wr w3 := hB2.grown hgrow3 (Nat.le_refl _) (own_le hown2); clear hat3)
                go_roundw
                case rel => exact ⟨k + 1, A3, n' + 1, c3, hlt, by go_num, rfl, by omega, set_fin HX.out HJ.out (by rw [HY.out]; intro e; exact he (Option.some.inj e)) HO.out hown3 hb.size, hb.trans (hB3.mono hb.size)⟩
                case measure => simp [intOf]; omega
        · obtain rfl : j = n' := by omega
          have hnl : decide ((j : Int) < (j : Int)) = false := by simp
          have HJ : Hid (insK x (setOf (xs.take k)) = j) := Lib.hid (by have := hi.out; rw [List.drop_of_length_le (by rw [← HO.out.1]; exact Nat.le_refl _)] at this; simpa [insK] using this)
          clear hi
          have lbb : bb < wr.heap.size := Nat.lt_of_lt_of_le hbb hb.size
          go_wp2_with fail
          go_quiet (fail)
          go_wp2_with fail
          go_quiet (fail)
          go_wp2_with fail
          by_cases hcn : c' = j
          · obtain rfl := hcn.symm
            have q1 : (0 : Int) ≤ (j : Int) := Int.natCast_nonneg _
            have q3 : (0 : Int) ≤ (k : Int) := Int.natCast_nonneg _
            have q4 : (k : Int) < (n : Int) := by omega
            have RT : Rd (· < wr.heap.size) wr (A') (((setOf (xs.take k)).take j).flatMap strEnc) := by
              have := (HO.out.rd.2.take (j * 1)); rw [flat_take strLen] at this
              exact this.mono fun b hb => (HO.out.lt hb).2
            have RL : ((((setOf (xs.take k)).take j).flatMap strEnc)).length = j * 1 := by
              rw [flat_len strLen, List.length_take, Nat.min_eq_left (by rw [← HO.out.1]; omega)]
            have c0r : wr.cell? ⟨bb, oo + k, none⟩ = some (.string x) := c0
            have X2 : Blk ((wr.alloc (.cells #[] 9)).alloc (.cells #[.string x] 9)) (wr.heap.size + 1) 9 #[.string x] := by simpa using Blk.new (wr.alloc (.cells #[] 9)) 9 #[.string x]
            have E3 : Blk ((wr.alloc (.cells #[.string x] 9)).alloc (.cells #[] 9)) (wr.heap.size + 1) 9 #[] := by simpa using Blk.new (wr.alloc (.cells #[.string x] 9)) 9 #[]
            have X3 : Blk ((wr.alloc (.cells #[.string x] 9)).alloc (.cells #[] 9)) wr.heap.size 9 #[.string x] := (Blk.new wr _ _).alloc _
            have lbb : bb < wr.heap.size := Nat.lt_of_lt_of_le hbb hb.size
            go_region_held3 (fun w' => w'.cell? ⟨bb, oo + k, none⟩ = some (.string x))
              (first | go_keep)
              (first
                | (refine step_app _ ?_ (.tmp 45) (.tmp 48) eiStr ?_ (base := wr.heap.size) (A := some ⟨wr.heap.size, 0, none⟩) (n := 0) (c := 0) (xs := []) ?_ ?_ (S := (· < wr.heap.size)) (A2 := A') (m := j) (c2 := j) (news := ((setOf (xs.take k)).take j).flatMap strEnc) ?_ ?_ RL (one_flat strOne _) (N := j) (Nat.zero_add j) (by omega) ?_ ?_; rfl; rfl; rfl; exact own_empty (Blk.new wr _ _) (Nat.le_refl _); rfl; exact RT.bel ((Bel.refl _ wr).alloc (Nat.le_refl _) _); exact le_al _ (Nat.le_refl _); intro A1 c1 w1 hown1 hgrow1 hat1; have hB1 : Bel wr.heap.size wr w1 := Bel.grown (by exact ((Bel.refl _ wr).alloc (Nat.le_refl _) _)) hgrow1 (Nat.le_refl _) (fun g hg => by cases hg; exact Nat.le_refl _); have cw1 : w1.cell? ⟨bb, oo + k, none⟩ = some (.string x) := (hB1.cell (p := ⟨bb, _, none⟩) lbb).trans c0r; simp only [List.nil_append] at hown1; clear hat1)
                | (refine step_app _ ?_ (.tmp 45) (.tmp 48) eiStr ?_ (base := wr.heap.size) (A := some ⟨wr.heap.size, 0, none⟩) (n := 0) (c := 0) (xs := []) ?_ ?_ (S := (· < wr.heap.size)) (A2 := A') (m := j) (c2 := j) (news := ((setOf (xs.take k)).take j).flatMap strEnc) ?_ ?_ RL (one_flat strOne _) (N := j) (Nat.zero_add j) (by omega) ?_ ?_; rfl; rfl; rfl; exact own_empty ((Blk.new wr _ _).alloc _) (Nat.le_refl _); rfl; exact RT.bel (((Bel.refl _ wr).alloc (Nat.le_refl _) _).alloc (Nat.le_refl _) _); exact le_al _ (le_al _ (Nat.le_refl _)); intro A1 c1 w1 hown1 hgrow1 hat1; have hB1 : Bel wr.heap.size wr w1 := Bel.grown (by exact (((Bel.refl _ wr).alloc (Nat.le_refl _) _).alloc (Nat.le_refl _) _)) hgrow1 (Nat.le_refl _) (fun g hg => by cases hg; exact Nat.le_refl _); have hX1 : Blk w1 (wr.heap.size + 1) 9 #[.string x] := (hgrow1.block (wr.heap.size + 1) (by simp) (by simp)).trans X2; have cw1 : w1.cell? ⟨bb, oo + k, none⟩ = some (.string x) := (hB1.cell (p := ⟨bb, _, none⟩) lbb).trans c0r; simp only [List.nil_append] at hown1; clear hat1)
                | (refine step_app _ ?_ (.tmp 45) (.tmp 48) eiStr ?_ (base := wr.heap.size) (A := some ⟨wr.heap.size + 1, 0, none⟩) (n := 0) (c := 0) (xs := []) ?_ ?_ (S := (· < wr.heap.size)) (A2 := A') (m := j) (c2 := j) (news := ((setOf (xs.take k)).take j).flatMap strEnc) ?_ ?_ RL (one_flat strOne _) (N := j) (Nat.zero_add j) (by omega) ?_ ?_; rfl; rfl; rfl; exact own_empty E3 (Nat.le_succ _); rfl; exact RT.bel (((Bel.refl _ wr).alloc (Nat.le_refl _) _).alloc (Nat.le_refl _) _); exact le_al _ (le_al _ (Nat.le_refl _)); intro A1 c1 w1 hown1 hgrow1 hat1; have hB1 : Bel wr.heap.size wr w1 := Bel.grown (by exact (((Bel.refl _ wr).alloc (Nat.le_refl _) _).alloc (Nat.le_refl _) _)) hgrow1 (Nat.le_refl _) (fun g hg => by cases hg; exact Nat.le_succ _); have hX1 : Blk w1 wr.heap.size 9 #[.string x] := (hgrow1.block wr.heap.size (by simp; try omega) (by simp)).trans X3; have cw1 : w1.cell? ⟨bb, oo + k, none⟩ = some (.string x) := (hB1.cell (p := ⟨bb, _, none⟩) lbb).trans c0r; simp only [List.nil_append] at hown1; clear hat1)
                | (refine step_app _ ?_ (.tmp 49) (.tmp 54) eiStr ?_ (base := wr.heap.size) (A := A1) (n := j) (c := c1) (xs := ((setOf (xs.take k)).take j).flatMap strEnc) ?_ ?_ (S := (· = w1.heap.size)) (A2 := some ⟨w1.heap.size, 0, none⟩) (m := 1) (c2 := 1) (news := [x].flatMap strEnc) ?_ ?_ rfl (one_flat strOne [x]) (N := j + 1) rfl (by omega) ?_ ?_; rfl; rfl; rfl; exact hown1.alloc _; rfl; exact rd_one strEnc w1 x _; exact le_al _ hB1.size; intro A2 c2 w2 hown2 hgrow2 hat2; have hB2 : Bel wr.heap.size wr w2 := Bel.grown (by exact hB1.alloc (Nat.le_refl _) _) hgrow2 (Nat.le_refl _) (own_le hown1); have cw2 : w2.cell? ⟨bb, oo + k, none⟩ = some (.string x) := (hB2.cell (p := ⟨bb, _, none⟩) lbb).trans c0r; clear hat2)
                | (refine step_app _ ?_ (.tmp 49) (.tmp 54) eiStr ?_ (base := wr.heap.size) (A := A1) (n := j) (c := c1) (xs := ((setOf (xs.take k)).take j).flatMap strEnc) ?_ ?_ (S := (· = wr.heap.size + 1)) (A2 := some ⟨wr.heap.size + 1, 0, none⟩) (m := 1) (c2 := 1) (news := [x].flatMap strEnc) ?_ ?_ rfl (one_flat strOne [x]) (N := j + 1) rfl (by omega) ?_ ?_; rfl; rfl; rfl; exact hown1; rfl; exact rd_blk1 hX1; exact hB1.size; intro A2 c2 w2 hown2 hgrow2 hat2; have hB2 : Bel wr.heap.size wr w2 := Bel.grown (by exact hB1) hgrow2 (Nat.le_refl _) (own_le hown1); have cw2 : w2.cell? ⟨bb, oo + k, none⟩ = some (.string x) := (hB2.cell (p := ⟨bb, _, none⟩) lbb).trans c0r; clear hat2)
                | (refine step_app _ ?_ (.tmp 49) (.tmp 54) eiStr ?_ (base := wr.heap.size) (A := A1) (n := j) (c := c1) (xs := ((setOf (xs.take k)).take j).flatMap strEnc) ?_ ?_ (S := (· = wr.heap.size)) (A2 := some ⟨wr.heap.size, 0, none⟩) (m := 1) (c2 := 1) (news := [x].flatMap strEnc) ?_ ?_ rfl (one_flat strOne [x]) (N := j + 1) rfl (by omega) ?_ ?_; rfl; rfl; rfl; exact hown1; rfl; exact rd_blk1 hX1; exact hB1.size; intro A2 c2 w2 hown2 hgrow2 hat2; have hB2 : Bel wr.heap.size wr w2 := Bel.grown (by exact hB1) hgrow2 (Nat.le_refl _) (own_le hown1); have cw2 : w2.cell? ⟨bb, oo + k, none⟩ = some (.string x) := (hB2.cell (p := ⟨bb, _, none⟩) lbb).trans c0r; clear hat2))
            all_goals
              have RD : Rd (· < wr.heap.size) wr (A') (((setOf (xs.take k)).drop j).flatMap strEnc) := by
                rw [List.drop_of_length_le (by rw [← HO.out.1]; exact Nat.le_refl _)]; exact Rd.nil
              have RDL : (((setOf (xs.take k)).drop j).flatMap strEnc).length = 0 * 1 := by
                rw [List.drop_of_length_le (by rw [← HO.out.1]; exact Nat.le_refl _)]; rfl
              go_wp2_with (at_builtin; refine wpList_app _ ?_ (.tmp 56) (.tmp 59) eiStr ?_ (base := wr.heap.size) (A := A2) (n := j + 1) (c := c2) (xs := ((setOf (xs.take k)).take j).flatMap strEnc ++ [x].flatMap strEnc) ?_ ?_ (S := (· < wr.heap.size)) (A2 := A') (m := 0) (c2 := 0) (news := ((setOf (xs.take k)).drop j).flatMap strEnc) ?_ ?_ RDL (one_flat strOne _) (N := j + 1) (by omega) (by omega) ?_ ?_; rfl; rfl; rfl; exact hown2; rfl; exact RD.bel hB2; exact hB2.size; intro A3 c3 w3 hown3 hgrow3 hat3; have hB3 : Bel wr.heap.size wr w3 := hB2.grown hgrow3 (Nat.le_refl _) (own_le hown2); clear hat3)
              go_roundw
              case rel => exact ⟨k + 1, A3, j + 1, c3, hlt, by go_num, rfl, by omega, set_fin HX.out HJ.out (by rw [List.getElem?_eq_none (by rw [← HO.out.1]; exact Nat.le_refl _)]; simp) HO.out hown3 hb.size, hb.trans (hB3.mono hb.size)⟩
              case measure => simp [intOf]; omega
          · skip
            have q8 : (j : Int) ≤ (c' : Int) := by have := HO.out.le; omega
            obtain ⟨g, rfl⟩ : ∃ g, A' = some ⟨g, 0, none⟩ := own_some HO.out.2 (by have := HO.out.le; omega)
            have q1 : (0 : Int) ≤ (j : Int) := Int.natCast_nonneg _
            have q3 : (0 : Int) ≤ (k : Int) := Int.natCast_nonneg _
            have q4 : (k : Int) < (n : Int) := by omega
            have RT : Rd (· < wr.heap.size) wr (some ⟨g, 0, none⟩) (((setOf (xs.take k)).take j).flatMap strEnc) := by
              have := (HO.out.rd.2.take (j * 1)); rw [flat_take strLen] at this
              exact this.mono fun b hb => (HO.out.lt hb).2
            have RL : ((((setOf (xs.take k)).take j).flatMap strEnc)).length = j * 1 := by
              rw [flat_len strLen, List.length_take, Nat.min_eq_left (by rw [← HO.out.1]; omega)]
            have c0r : wr.cell? ⟨bb, oo + k, none⟩ = some (.string x) := c0
            have X2 : Blk ((wr.alloc (.cells #[] 9)).alloc (.cells #[.string x] 9)) (wr.heap.size + 1) 9 #[.string x] := by simpa using Blk.new (wr.alloc (.cells #[] 9)) 9 #[.string x]
            have E3 : Blk ((wr.alloc (.cells #[.string x] 9)).alloc (.cells #[] 9)) (wr.heap.size + 1) 9 #[] := by simpa using Blk.new (wr.alloc (.cells #[.string x] 9)) 9 #[]
            have X3 : Blk ((wr.alloc (.cells #[.string x] 9)).alloc (.cells #[] 9)) wr.heap.size 9 #[.string x] := (Blk.new wr _ _).alloc _
            have lbb : bb < wr.heap.size := Nat.lt_of_lt_of_le hbb hb.size
            go_region_held3 (fun w' => w'.cell? ⟨bb, oo + k, none⟩ = some (.string x))
              (first | go_keep)
              (first
                | (refine step_app _ ?_ (.tmp 45) (.tmp 48) eiStr ?_ (base := wr.heap.size) (A := some ⟨wr.heap.size, 0, none⟩) (n := 0) (c := 0) (xs := []) ?_ ?_ (S := (· < wr.heap.size)) (A2 := some ⟨g, 0, none⟩) (m := j) (c2 := c') (news := ((setOf (xs.take k)).take j).flatMap strEnc) ?_ ?_ RL (one_flat strOne _) (N := j) (Nat.zero_add j) (by omega) ?_ ?_; rfl; rfl; rfl; exact own_empty (Blk.new wr _ _) (Nat.le_refl _); rfl; exact RT.bel ((Bel.refl _ wr).alloc (Nat.le_refl _) _); exact le_al _ (Nat.le_refl _); intro A1 c1 w1 hown1 hgrow1 hat1; have hB1 : Bel wr.heap.size wr w1 := Bel.grown (by exact ((Bel.refl _ wr).alloc (Nat.le_refl _) _)) hgrow1 (Nat.le_refl _) (fun g hg => by cases hg; exact Nat.le_refl _); have cw1 : w1.cell? ⟨bb, oo + k, none⟩ = some (.string x) := (hB1.cell (p := ⟨bb, _, none⟩) lbb).trans c0r; simp only [List.nil_append] at hown1; clear hat1)
                | (refine step_app _ ?_ (.tmp 45) (.tmp 48) eiStr ?_ (base := wr.heap.size) (A := some ⟨wr.heap.size, 0, none⟩) (n := 0) (c := 0) (xs := []) ?_ ?_ (S := (· < wr.heap.size)) (A2 := some ⟨g, 0, none⟩) (m := j) (c2 := c') (news := ((setOf (xs.take k)).take j).flatMap strEnc) ?_ ?_ RL (one_flat strOne _) (N := j) (Nat.zero_add j) (by omega) ?_ ?_; rfl; rfl; rfl; exact own_empty ((Blk.new wr _ _).alloc _) (Nat.le_refl _); rfl; exact RT.bel (((Bel.refl _ wr).alloc (Nat.le_refl _) _).alloc (Nat.le_refl _) _); exact le_al _ (le_al _ (Nat.le_refl _)); intro A1 c1 w1 hown1 hgrow1 hat1; have hB1 : Bel wr.heap.size wr w1 := Bel.grown (by exact (((Bel.refl _ wr).alloc (Nat.le_refl _) _).alloc (Nat.le_refl _) _)) hgrow1 (Nat.le_refl _) (fun g hg => by cases hg; exact Nat.le_refl _); have hX1 : Blk w1 (wr.heap.size + 1) 9 #[.string x] := (hgrow1.block (wr.heap.size + 1) (by simp) (by simp)).trans X2; have cw1 : w1.cell? ⟨bb, oo + k, none⟩ = some (.string x) := (hB1.cell (p := ⟨bb, _, none⟩) lbb).trans c0r; simp only [List.nil_append] at hown1; clear hat1)
                | (refine step_app _ ?_ (.tmp 45) (.tmp 48) eiStr ?_ (base := wr.heap.size) (A := some ⟨wr.heap.size + 1, 0, none⟩) (n := 0) (c := 0) (xs := []) ?_ ?_ (S := (· < wr.heap.size)) (A2 := some ⟨g, 0, none⟩) (m := j) (c2 := c') (news := ((setOf (xs.take k)).take j).flatMap strEnc) ?_ ?_ RL (one_flat strOne _) (N := j) (Nat.zero_add j) (by omega) ?_ ?_; rfl; rfl; rfl; exact own_empty E3 (Nat.le_succ _); rfl; exact RT.bel (((Bel.refl _ wr).alloc (Nat.le_refl _) _).alloc (Nat.le_refl _) _); exact le_al _ (le_al _ (Nat.le_refl _)); intro A1 c1 w1 hown1 hgrow1 hat1; have hB1 : Bel wr.heap.size wr w1 := Bel.grown (by exact (((Bel.refl _ wr).alloc (Nat.le_refl _) _).alloc (Nat.le_refl _) _)) hgrow1 (Nat.le_refl _) (fun g hg => by cases hg; exact Nat.le_succ _); have hX1 : Blk w1 wr.heap.size 9 #[.string x] := (hgrow1.block wr.heap.size (by simp; try omega) (by simp)).trans X3; have cw1 : w1.cell? ⟨bb, oo + k, none⟩ = some (.string x) := (hB1.cell (p := ⟨bb, _, none⟩) lbb).trans c0r; simp only [List.nil_append] at hown1; clear hat1)
                | (refine step_app _ ?_ (.tmp 49) (.tmp 54) eiStr ?_ (base := wr.heap.size) (A := A1) (n := j) (c := c1) (xs := ((setOf (xs.take k)).take j).flatMap strEnc) ?_ ?_ (S := (· = w1.heap.size)) (A2 := some ⟨w1.heap.size, 0, none⟩) (m := 1) (c2 := 1) (news := [x].flatMap strEnc) ?_ ?_ rfl (one_flat strOne [x]) (N := j + 1) rfl (by omega) ?_ ?_; rfl; rfl; rfl; exact hown1.alloc _; rfl; exact rd_one strEnc w1 x _; exact le_al _ hB1.size; intro A2 c2 w2 hown2 hgrow2 hat2; have hB2 : Bel wr.heap.size wr w2 := Bel.grown (by exact hB1.alloc (Nat.le_refl _) _) hgrow2 (Nat.le_refl _) (own_le hown1); have cw2 : w2.cell? ⟨bb, oo + k, none⟩ = some (.string x) := (hB2.cell (p := ⟨bb, _, none⟩) lbb).trans c0r; clear hat2)
                | (refine step_app _ ?_ (.tmp 49) (.tmp 54) eiStr ?_ (base := wr.heap.size) (A := A1) (n := j) (c := c1) (xs := ((setOf (xs.take k)).take j).flatMap strEnc) ?_ ?_ (S := (· = wr.heap.size + 1)) (A2 := some ⟨wr.heap.size + 1, 0, none⟩) (m := 1) (c2 := 1) (news := [x].flatMap strEnc) ?_ ?_ rfl (one_flat strOne [x]) (N := j + 1) rfl (by omega) ?_ ?_; rfl; rfl; rfl; exact hown1; rfl; exact rd_blk1 hX1; exact hB1.size; intro A2 c2 w2 hown2 hgrow2 hat2; have hB2 : Bel wr.heap.size wr w2 := Bel.grown (by exact hB1) hgrow2 (Nat.le_refl _) (own_le hown1); have cw2 : w2.cell? ⟨bb, oo + k, none⟩ = some (.string x) := (hB2.cell (p := ⟨bb, _, none⟩) lbb).trans c0r; clear hat2)
                | (refine step_app _ ?_ (.tmp 49) (.tmp 54) eiStr ?_ (base := wr.heap.size) (A := A1) (n := j) (c := c1) (xs := ((setOf (xs.take k)).take j).flatMap strEnc) ?_ ?_ (S := (· = wr.heap.size)) (A2 := some ⟨wr.heap.size, 0, none⟩) (m := 1) (c2 := 1) (news := [x].flatMap strEnc) ?_ ?_ rfl (one_flat strOne [x]) (N := j + 1) rfl (by omega) ?_ ?_; rfl; rfl; rfl; exact hown1; rfl; exact rd_blk1 hX1; exact hB1.size; intro A2 c2 w2 hown2 hgrow2 hat2; have hB2 : Bel wr.heap.size wr w2 := Bel.grown (by exact hB1) hgrow2 (Nat.le_refl _) (own_le hown1); have cw2 : w2.cell? ⟨bb, oo + k, none⟩ = some (.string x) := (hB2.cell (p := ⟨bb, _, none⟩) lbb).trans c0r; clear hat2))
            all_goals
              have RD : Rd (· < wr.heap.size) wr (some ⟨g, j, none⟩) (((setOf (xs.take k)).drop j).flatMap strEnc) := by
                rw [List.drop_of_length_le (by rw [← HO.out.1]; exact Nat.le_refl _)]; exact Rd.nil
              have RDL : (((setOf (xs.take k)).drop j).flatMap strEnc).length = 0 * 1 := by
                rw [List.drop_of_length_le (by rw [← HO.out.1]; exact Nat.le_refl _)]; rfl
              go_wp2_with (at_builtin; refine wpList_app _ ?_ (.tmp 56) (.tmp 59) eiStr ?_ (base := wr.heap.size) (A := A2) (n := j + 1) (c := c2) (xs := ((setOf (xs.take k)).take j).flatMap strEnc ++ [x].flatMap strEnc) ?_ ?_ (S := (· < wr.heap.size)) (A2 := some ⟨g, j, none⟩) (m := 0) (c2 := c' - j) (news := ((setOf (xs.take k)).drop j).flatMap strEnc) ?_ ?_ RDL (one_flat strOne _) (N := j + 1) (by omega) (by omega) ?_ ?_; rfl; rfl; rfl; exact hown2; rfl; exact RD.bel hB2; exact hB2.size; intro A3 c3 w3 hown3 hgrow3 hat3; have hB3 : Bel wr.heap.size wr w3 := hB2.grown hgrow3 (Nat.le_refl _) (own_le hown2); clear hat3)
              go_roundw
              case rel => exact ⟨k + 1, A3, j + 1, c3, hlt, by go_num, rfl, by omega, set_fin HX.out HJ.out (by rw [List.getElem?_eq_none (by rw [← HO.out.1]; exact Nat.le_refl _)]; simp) HO.out hown3 hb.size, hb.trans (hB3.mono hb.size)⟩
              case measure => simp [intOf]; omega
    · have hkn : Hid (xs.take k = xs) := Lib.hid (List.take_of_length_le (by rw [← HN.out]; omega))
      go_wp2_with fail
      go_ret
      exact ⟨A', n', c', rfl, by have := hkn.out; rw [this] at ho; exact ho, hb⟩
end Go.Proofs.YtmlnjeoibpffoaaGreat
