import Derived.Test.YtmlnjeoibpffoaaPages
import Derived.Deep.CutBlock
import Derived.Deep.DeepCutAuto
namespace Go.Proofs.Ytmlnjeoibpffoaa
open Go.RowKit
set_option linter.unusedVariables false
set_option linter.unusedSimpArgs false
attribute [local go_sem] lateLoad

/-- the task ahead of a round -/
def MainI (p r H M : Nat) (f t : ByteArray) (L : List OpD) (wr : World) (i : Nat) : Prop :=
  (∃ (K : ByteArray) (g : Nat) (A' : Option Addr) (c' : Nat) (wt : Int), i ≤ g ∧ PgAt f t L M K g ∧ Blk wr p 77 #[.iface 80 (.pointer (some ⟨r, 0, none⟩)), .int .i64 2, .int .i64 wt, .bool false, .int .i64 0, .int .i64 0, .int .u64 0, .int .i64 0, .slice none 0 0] ∧
    Blk wr r 82 #[.int .i64 1, .int .i64 2, .slice none 0 0, .int .i64 2, .int .i64 0, .string f, .string t, .int .u64 9, .int .i64 M, .slice none 0 0, .int .u64 9, .string K, .slice A' g c'] ∧ SlO PairD.enc H 27 2 wr A' g c' ((wantOf f t L).take g)) ∨
  (∃ (A' : Option Addr) (N c' : Nat), i ≤ 33 ∧ N ≤ 32 ∧ Blk wr p 77 #[.iface 80 (.pointer (some ⟨r, 0, none⟩)), .int .i64 2, .int .i64 0, .bool true, .int .i64 2, .int .i64 0, .int .u64 9, .int .i64 0, .slice A' N c'] ∧ SlO PairD.enc H 27 2 wr A' N c' ((wantOf f t L).take M))

set_option maxHeartbeats 20000000 in
set_option maxRecDepth 100000 in
theorem asksPages_any (A : Option Addr) (n cap : Nat) (xs : List PairD) (f t : ByteArray) (k : Int) (w : World) (hs : SlR PairD.enc (· < w.heap.size) w A n xs) (hk : 0 ≤ k ∧ k < 256) (hn : n ≤ 60) (hf : f.size ≤ 8) (ht : t.size ≤ 8) :
    Calls Try.prog 3 #[.slice A n cap, .string f, .string t, .int .u8 k] w fun e w' => e = .returned (.bool true) ∧ Bel w.heap.size w w' := by
  have HS := Lib.hid hs
  obtain ⟨hk1, hk2⟩ := hk
  have hn' : (n : Int) ≤ 60 := by omega
  have hf' : (f.size : Int) ≤ 8 := by omega
  have ht' : (t.size : Int) ≤ 8 := by omega
  clear hs
  go_enter Try.func3, Try.ntmps3
  go_wp2_with fail
  go_loopw [9, 10] (fun v i wr => ∃ (j : Nat) (A' : Option Addr) (n' c' : Nat), j ≤ n ∧ i = .int .i64 j ∧ v = .slice A' n' c' ∧ n' ≤ j ∧ SlO OpD.enc w.heap.size 29 3 wr A' n' c' (allOf (xs.take j)) ∧ Bel w.heap.size w wr) (fun _ i _ => n - (intOf i).toNat)
  case atStart => exact ⟨0, none, 0, 0, Nat.zero_le _, rfl, rfl, Nat.zero_le _, SlO.nil _ _ _, Bel.refl _ _⟩
  case round =>
    obtain ⟨j, A', n', c', hj, rfl, rfl, hnj, ho, hb⟩ := hrel
    by_cases hlt : j < n
    ·
      --<
      obtain ⟨bb, oo, x, rfl, hbb, hx, c0, c1⟩ := HS.out.pair hlt
      have e0 := c0
      have e1 := c1
      replace c0 := (hb.cell (p := ⟨bb, _, none⟩) hbb).trans c0
      replace c1 := (hb.cell (p := ⟨bb, _, none⟩) hbb).trans c1
      have lbb : bb < wr.heap.size := Nat.lt_of_lt_of_le hbb hb.size
      have HX := Lib.hid (allOf_snoc hx)
      have HO := Lib.hid ho
      have HB := Lib.hid hb
      clear hx ho hb
      by_cases hkk : keyOk x.key = true
      · have hck : Calls Try.prog 6 #[.string x.key] wr (Ret (.int .i64 0) wr) := by
          have := refCheck_any x.key wr
          rw [keyCode, if_pos hkk] at this; exact this
        rw [if_pos hkk] at HX
        have q3 : (0 : Int) ≤ (j : Int) := Int.natCast_nonneg _
        have q4 : (j : Int) < (n : Int) := by omega
        go_wp2_with (go_at_call 6; refine hck.mono ?_; rintro e w1 ⟨rfl, rfl⟩)
        have hby : (n' + 1) * 40 ≤ 140737488355328 := by omega
        have z1 := one_flat OpD.one [opOf x]
        have z2 : ([opOf x].flatMap OpD.enc).length = 1 * 3 := rfl
        have z3 := (HO.out.alloc (.cells (opOf x).enc.toArray 29)).2
        have z4 := rd_one OpD.enc wr (opOf x) 29
        go_region_held3 (fun w' => w'.cell? ⟨bb, oo + j * 2, none⟩ = some (.string x.key) ∧ w'.cell? ⟨bb, oo + j * 2 + 1, none⟩ = some (.string x.val))
          (first | go_keep)
          (first
            | (refine step_app (ops := _) _ ?_ (.tmp 50) (.tmp 62) eiOp ?_ (base := w.heap.size) (A := A') (n := n') (c := c') (xs := (allOf (xs.take j)).flatMap OpD.enc) ?_ ?_ (S := (· = wr.heap.size)) (A2 := some ⟨wr.heap.size, 0, none⟩) (m := 1) (c2 := 1) (news := [opOf x].flatMap OpD.enc) ?_ ?_ z2 z1 (N := n' + 1) rfl hby ?_ ?_; rfl; rfl; rfl; exact z3; rfl; exact z4; exact le_al _ HB.out.size; intro A1 cc1 w1 hown1 hgrow1 hat1; have hB1 : Bel w.heap.size w w1 := Bel.grown (by exact HB.out.alloc (Nat.le_refl _) _) hgrow1 (Nat.le_refl _) (own_le HO.out.2); have d0 : w1.cell? ⟨bb, oo + j * 2, none⟩ = some (.string x.key) := (hB1.cell (p := ⟨bb, _, none⟩) hbb).trans e0; have d1 : w1.cell? ⟨bb, oo + j * 2 + 1, none⟩ = some (.string x.val) := (hB1.cell (p := ⟨bb, _, none⟩) hbb).trans e1; clear hat1))
        go_wp2_with fail
        go_roundw
        case rel => exact ⟨j + 1, A1, n' + 1, cc1, hlt, by go_num, rfl, by omega, by rw [HX.out]; exact SlO.app (by rw [← HO.out.1]; rfl) hown1, hB1⟩
        case measure => simp [intOf]; omega
      · have hck : Calls Try.prog 6 #[.string x.key] wr (Ret (.int .i64 10) wr) := by
          have := refCheck_any x.key wr
          rw [keyCode, if_neg hkk] at this; exact this
        rw [if_neg hkk, List.append_nil] at HX
        have q3 : (0 : Int) ≤ (j : Int) := Int.natCast_nonneg _
        have q4 : (j : Int) < (n : Int) := by omega
        go_wp2_with (go_at_call 6; refine hck.mono ?_; rintro e w1 ⟨rfl, rfl⟩)
        go_roundw
        case rel => exact ⟨j + 1, A', n', c', hlt, by go_num, rfl, by omega, by rw [HX.out]; exact HO.out, HB.out⟩
        case measure => simp [intOf]; omega
      -->
    · have hjn : j = n := by omega
      have HN : Hid (n = xs.length) := Lib.hid HS.out.1
      have hkn : xs.take j = xs := List.take_of_length_le (by rw [hjn, ← HN.out]; omega)
      rw [hkn] at ho
      have HO := Lib.hid ho
      have HB := Lib.hid hb
      clear hkn ho hb
      go_wp2_with fail
      refine (refNorm_any A' n' c' (allOf xs) wr (HO.out.rd.mono fun b hb => (HO.out.lt hb).2) (by omega)).mono ?_
      rintro e w1 ⟨A1, n1, c1, rfl, ho1, hb1⟩
      have HB1 := Lib.hid (HB.out.call hb1 (Nat.le_refl _))
      have HO1 := Lib.hid (ho1.base_le (base' := w.heap.size) fun b hbb => Nat.le_trans HB.out.size (ho1.lt hbb).1)
      have hn1 : n1 ≤ 60 := by have := ho1.1; have := normOf_len (allOf xs); have := HO.out.1; omega
      clear hb1 ho1 HO HB hjn hj hlt hnj
      go_wp2_with fail
      obtain ⟨M, hM, hM1, hM2⟩ : ∃ M : Nat, 1 + k % 32 = (M : Int) ∧ 1 ≤ M ∧ M ≤ 32 := ⟨(1 + k % 32).toNat, by omega, by omega, by omega⟩
      rw [hM]
      clear hM
      refine (new_scan w1 (by omega) (by omega) (by omega) hf ht (by omega)).mono ?_
      rintro e w2 ⟨p, r, rfl, hP2, hR2, lp, lr, hb2⟩
      have HP2 := Lib.hid hP2
      have HR2 := Lib.hid hR2
      have lp2 := hP2.lt
      have lr2 := hR2.lt
      have HB2 := Lib.hid (HB1.out.call hb2 (Nat.le_refl _))
      have HO2 := Lib.hid (HO1.out.bel hb2)
      have lpp := Nat.le_trans HB1.out.size lp
      have lrr := Nat.le_trans HB1.out.size lr
      clear hP2 hR2 hb2 HO1 lp lr
      obtain ⟨L, hL⟩ : ∃ L, L = normOf (allOf xs) := ⟨_, rfl⟩
      rw [← hL] at HO2
      have HL := Lib.hid hL
      clear hL
      go_upto_block 2 with fail
      go_cut [14] (fun v wx => ∃ (A' : Option Addr) (n' c' : Nat), v = .slice A' n' c' ∧ n' ≤ M ∧ SlO PairD.enc w2.heap.size 27 2 wx A' n' c' ((wantOf f t L).take M) ∧ Bel w2.heap.size w2 wx)
      case first =>
       --<
       go_wp2_with fail
       go_loopw [14, 15] (fun v i wr => ∃ (j : Nat) (A' : Option Addr) (n' c' : Nat), j ≤ n1 ∧ i = .int .i64 j ∧ v = .slice A' n' c' ∧ n' ≤ j ∧ n' ≤ M ∧ SlO PairD.enc w2.heap.size 27 2 wr A' n' c' (wantOf f t (L.take j)) ∧ Bel w2.heap.size w2 wr) (fun _ i _ => n1 - (intOf i).toNat)
       case atStart => exact ⟨0, none, 0, 0, Nat.zero_le _, rfl, rfl, Nat.zero_le _, Nat.zero_le _, SlO.nil _ _ _, Bel.refl _ _⟩
       case round =>
        obtain ⟨j, A', n', c', hj, rfl, rfl, hnj, hnM, ho, hb⟩ := hrel
        by_cases hlt : j < n1 ∧ n' < M
        · obtain ⟨hlt, hltM⟩ := hlt
          obtain ⟨bb, oo, x, rfl, hbb, hx, c0, c1, _⟩ := HO2.out.rd.op hlt
          have hbb2 := (HO2.out.lt hbb).2
          have e0 := c0
          have e1 := c1
          replace c0 := (hb.cell (p := ⟨bb, _, none⟩) hbb2).trans c0
          replace c1 := (hb.cell (p := ⟨bb, _, none⟩) hbb2).trans c1
          have lbb : bb < wr.heap.size := Nat.lt_of_lt_of_le hbb2 hb.size
          have HX := Lib.hid (wantOf_snoc (f := f) (t := t) hx)
          have HO := Lib.hid ho
          have HB := Lib.hid hb
          clear hx ho hb
          have q3 : (0 : Int) ≤ (j : Int) := Int.natCast_nonneg _
          have q4 : (j : Int) < (n1 : Int) := by omega
          have q5 : (n' : Int) < (M : Int) := by omega
          by_cases hkk : between f t x.key = true
          · have hck : Calls Try.prog 9 #[.string x.key, .string f, .string t] wr (Ret (.bool true) wr) := by
              have := refIn_any x.key f t wr
              rw [hkk] at this; exact this
            rw [if_pos hkk] at HX
            go_wp2_with (go_at_call 9; refine hck.mono ?_; rintro e w3 ⟨rfl, rfl⟩)
            have hby : (n' + 1) * 32 ≤ 140737488355328 := by omega
            have z1 := one_flat PairD.one [pairOf x]
            have z2 : ([pairOf x].flatMap PairD.enc).length = 1 * 2 := rfl
            have z3 := (HO.out.alloc (.cells (pairOf x).enc.toArray 27)).2
            have z4 := rd_one PairD.enc wr (pairOf x) 27
            go_region_held3 (fun w' => w'.cell? ⟨bb, oo + j * 3, none⟩ = some (.string x.key) ∧ w'.cell? ⟨bb, oo + j * 3 + 1, none⟩ = some (.string x.val))
              (first | go_keep)
              (first
                | (refine step_app (ops := _) _ ?_ (.tmp 100) (.tmp 112) eiPair ?_ (base := w2.heap.size) (A := A') (n := n') (c := c') (xs := (wantOf f t (L.take j)).flatMap PairD.enc) ?_ ?_ (S := (· = wr.heap.size)) (A2 := some ⟨wr.heap.size, 0, none⟩) (m := 1) (c2 := 1) (news := [pairOf x].flatMap PairD.enc) ?_ ?_ z2 z1 (N := n' + 1) rfl hby ?_ ?_; rfl; rfl; rfl; exact z3; rfl; exact z4; exact le_al _ HB.out.size; intro A1 cc1 w3 hown1 hgrow1 hat1; have hB1 : Bel w2.heap.size w2 w3 := Bel.grown (by exact HB.out.alloc (Nat.le_refl _) _) hgrow1 (Nat.le_refl _) (own_le HO.out.2); have d0 : w3.cell? ⟨bb, oo + j * 3, none⟩ = some (.string x.key) := (hB1.cell (p := ⟨bb, _, none⟩) hbb2).trans e0; have d1 : w3.cell? ⟨bb, oo + j * 3 + 1, none⟩ = some (.string x.val) := (hB1.cell (p := ⟨bb, _, none⟩) hbb2).trans e1; clear hat1))
            go_wp2_with fail
            go_roundw
            case rel => exact ⟨j + 1, A1, n' + 1, cc1, hlt, by go_num, rfl, by omega, by omega, by rw [HX.out]; exact SlO.app (by rw [← HO.out.1]; rfl) hown1, hB1⟩
            case measure => simp [intOf]; omega
          · have hck : Calls Try.prog 9 #[.string x.key, .string f, .string t] wr (Ret (.bool false) wr) := by
              have := refIn_any x.key f t wr
              rw [Bool.not_eq_true] at hkk
              rw [hkk] at this; exact this
            rw [if_neg hkk, List.append_nil] at HX
            go_wp2_with (go_at_call 9; refine hck.mono ?_; rintro e w3 ⟨rfl, rfl⟩)
            go_roundw
            case rel => exact ⟨j + 1, A', n', c', hlt, by go_num, rfl, by omega, by omega, by rw [HX.out]; exact HO.out, HB.out⟩
            case measure => simp [intOf]; omega
        · have HE : Hid (SlO PairD.enc w2.heap.size 27 2 wr A' n' c' ((wantOf f t L).take M)) := Lib.hid (by
            have h0 := wantOf_head (f := f) (t := t) (l := L) j
            rw [← ho.1] at h0
            by_cases h1 : j < n1
            · rw [show M = n' by omega, h0]; exact ho
            · rw [List.take_of_length_le (by rw [← HO2.out.1]; omega)] at ho
              rw [List.take_of_length_le (by rw [← ho.1]; omega)]; exact ho)
          have HB := Lib.hid hb
          clear ho hb
          have q3 : (0 : Int) ≤ (j : Int) := Int.natCast_nonneg _
          by_cases h1 : j < n1
          · have q4 : (j : Int) < (n1 : Int) := by omega
            have q5 : ¬ (n' : Int) < (M : Int) := by omega
            go_wp2_with fail
            go_meet
            exact ⟨A', n', c', rfl, hnM, HE.out, HB.out⟩
          · have q4 : ¬ (j : Int) < (n1 : Int) := by omega
            go_wp2_with fail
            go_meet
            exact ⟨A', n', c', rfl, hnM, HE.out, HB.out⟩
       -->
      case rest =>
        obtain ⟨A5, n5, c5, rfl, hn5, ho5, hb5⟩ := hcut
        obtain ⟨wh, rfl⟩ : ∃ wh : World, wh = wc := ⟨_, rfl⟩
        have HW := Lib.hid ho5
        have HO5 := Lib.hid (HO2.out.bel hb5)
        have HP5 := Lib.hid (hb5.blk HP2.out lp2)
        have HR5 := Lib.hid (hb5.blk HR2.out lr2)
        have HB5 := Lib.hid (HB2.out.trans (hb5.mono HB2.out.size))
        have lp5 := HP5.out.lt
        have lr5 := HR5.out.lt
        have HPG : Hid (PagesOk f t L M) := Lib.hid (pages_ok (by rw [HL.out]; exact (norm_all xs).1) (by rw [HL.out]; exact (norm_all xs).2))
        clear ho5 hb5 HP2 HR2 HO2 HB2 lp2 lr2 HB1 HN HS
        go_wp2_with fail
        go_loopw [16] (fun v wr => ∃ i : Nat, v = .int .i64 i ∧ Chg (fun b => b = p ∨ b = r) wh wr ∧ MainI p r wh.heap.size M f t L wr i) (fun v _ => 100 - (intOf v).toNat)
        case atStart => exact ⟨0, rfl, Chg.refl _ _, .inl ⟨f, 0, none, 0, 0, Nat.le_refl _, ⟨by omega, rfl⟩, HP5.out, HR5.out, SlO.nil _ _ _⟩⟩
        case round =>
          obtain ⟨i, rfl, hcw, hI⟩ := hrel
          have HC := Lib.hid hcw
          rcases hI with ⟨K, g, A6, c6, wt, hig, hpg, hP, hR, ho6⟩ | ⟨A6, N6, c6, hi, hN, hP, ho6⟩
          · obtain ⟨wo, rfl⟩ : ∃ wo : World, wo = wr := ⟨_, rfl⟩
            have HPA := Lib.hid hpg
            have HP := Lib.hid hP
            have HR := Lib.hid hR
            have HO6 := Lib.hid ho6
            have lpr := hP.lt
            have lrr6 := hR.lt
            have hgM := hpg.lt
            have HA6 : Hid (SlO OpD.enc w.heap.size 29 3 wo A1 n1 c1 L) := Lib.hid (HO5.out.chg hcw fun b hb e => by rcases e with rfl | rfl; exact HO5.out.neBlk HP5.out (by decide) hb; exact HO5.out.neBlk HR5.out (by decide) hb)
            clear hP hR ho6 hpg hcw
            have q1 : (i : Int) < 100 := by omega
            obtain ⟨psz, hpsz⟩ : ∃ psz : Nat, (psz : Int) = pageSize M g := by
              have := pageSize_bd (n := (M : Int)) (len := g) (by omega)
              exact ⟨(pageSize M g).toNat, by omega⟩
            have hps2 : 1 ≤ psz ∧ psz ≤ 2 := by have := pageSize_bd (n := (M : Int)) (len := g) (by omega); omega
            obtain ⟨hps1, hps2⟩ := hps2
            have HPS := Lib.hid hpsz
            clear hpsz
            go_wp2_with fail
            refine (taskDone_no p r wo HP.out).mono ?_
            rintro e w3 ⟨rfl, hb3⟩
            have HB3 := Lib.hid hb3
            clear hb3
            go_wp2_with fail
            refine (taskNext_scan (a := ⟨2, 0, f, t, 9, M⟩) (ts := 9) (key := K) (A := A6) (n := g) (cap := c6) (waits := wt) p r _ 0 (-1) ((HB3.out.blk HP.out lpr).alloc _) ((HB3.out.blk HR.out lrr6).alloc _) (by omega) ⟨by show (0 : Int) ≤ (M : Int); omega, by show (M : Int) ≤ 32; omega⟩ rfl).mono ?_
            rintro e w4 ⟨he, hb4⟩
            dsimp only at he
            rw [← HPS.out] at he
            subst he
            have HB4 := Lib.hid ((HB3.out.alloc (by have := HB3.out.size; omega) _).call hb4 (Nat.le_refl _))
            clear hb4 HB3
            go_upto_block 6 with (first
              | (refine wpList_put _ ?_ 52 (.tmp 20) (.tmp 145) ?_ w4.heap.size #[.int .i64 9, .int .i64 0, .int .i64 2, .int .i64 0, .bool false, .int .u64 9, .int .u64 0, .int .i64 psz, .int .i64 0, .int .i64 0, .int .i64 0, .string K, .string t, .int .i64 0, .slice none 0 0, .int .u64 0, .int .i64 0, .int .i64 0, .slice none 0 0, .slice none 0 0, .slice none 0 0, .slice none 0 0] ?_ ?_ (Blk.new w4 _ _) ?_ ?_ ?_ ?_; rfl; rfl; rfl; rfl; kernel_rfl; rfl; simp [Value.oneCell']; intro w5 hB5 hc5 hsz5; have dm := fun i => hB5.cell i; have lm5 := hB5.lt; have HM5 := Lib.hid hB5; have HCC5 := Lib.hid hc5; clear hB5 hc5 hsz5)
              | (refine wpList_put _ ?_ 52 (.tmp 21) (.tmp 152) ?_ w5.heap.size #[.int .i64 10, .int .i64 0, .int .i64 2, .int .i64 0, .bool false, .int .u64 9, .int .u64 0, .int .i64 0, .int .i64 0, .int .i64 0, .int .i64 0, .string K, .string ⟨#[]⟩, .int .i64 0, .slice none 0 0, .int .u64 0, .int .i64 0, .int .i64 0, .slice none 0 0, .slice none 0 0, .slice none 0 0, .slice none 0 0] ?_ ?_ (Blk.new w5 _ _) ?_ ?_ ?_ ?_; rfl; rfl; rfl; rfl; kernel_rfl; rfl; simp [Value.oneCell']; intro w6 hB6 hc6 hsz6; have HX6 := Lib.hid hB6; have HCC6 := Lib.hid hc6; clear hB6 hc6 hsz6 dm))
            have HB5' : Hid (Bel wo.heap.size wo w5) := Lib.hid ((HB4.out.alloc (Nat.le_refl _) _).trans (HCC5.out.bel (Nat.le_trans HB4.out.size (Nat.le_of_lt (lt_al _))) (fun b e => by rw [e]; exact HB4.out.size)))
            have HB6 : Hid (Bel wo.heap.size wo w6) := Lib.hid ((HB5'.out.alloc (Nat.le_refl _) _).trans (HCC6.out.bel (Nat.le_trans HB5'.out.size (Nat.le_of_lt (lt_al _))) (fun b e => by rw [e]; exact HB5'.out.size)))
            have HM6 := Lib.hid (HCC6.out.blk (HM5.out.alloc _) (Nat.ne_of_lt lm5))
            have HA7 := Lib.hid (HA6.out.bel HB6.out)
            have lx6 := HX6.out.lt
            have lm6 := HM6.out.lt
            have nmx : w4.heap.size ≠ w5.heap.size := Nat.ne_of_lt lm5
            have nxm : ¬ w5.heap.size = w4.heap.size := fun e => nmx e.symm
            have lx0 : wo.heap.size ≤ w5.heap.size := HB5'.out.size
            clear HCC5 HCC6 HM5 HB5' HA6 HB4
            go_cut [22] (fun v22 wx => ∃ (fl : Bool) (A8 : Option Addr) (n8 c8 : Nat), Blk wx w5.heap.size 52 #[.int .i64 10, .int .i64 0, .int .i64 2, .int .i64 0, .bool fl, .int .u64 9, .int .u64 0, .int .i64 0, .int .i64 0, .int .i64 0, .int .i64 0, .string K, .string ⟨#[]⟩, .int .i64 0, .slice none 0 0, .int .u64 0, .int .i64 0, .int .i64 0, .slice none 0 0, .slice none 0 0, .slice none 0 0, .slice A8 n8 c8] ∧ SlO PairD.enc w6.heap.size 27 2 wx A8 n8 c8 ((wantOf K t L).take psz) ∧ fl = decide (psz < (wantOf K t L).length) ∧ Chg (fun b => b = w5.heap.size) w6 wx)
            case first =>
              --<
              go_wp2_with fail
              go_loopw [22] (fun v w7 => ∃ (j : Nat) (A8 : Option Addr) (n8 c8 : Nat), j ≤ n1 ∧ v = .int .i64 j ∧ n8 ≤ psz ∧ Blk w7 w5.heap.size 52 #[.int .i64 10, .int .i64 0, .int .i64 2, .int .i64 0, .bool false, .int .u64 9, .int .u64 0, .int .i64 0, .int .i64 0, .int .i64 0, .int .i64 0, .string K, .string ⟨#[]⟩, .int .i64 0, .slice none 0 0, .int .u64 0, .int .i64 0, .int .i64 0, .slice none 0 0, .slice none 0 0, .slice none 0 0, .slice A8 n8 c8] ∧ SlO PairD.enc w6.heap.size 27 2 w7 A8 n8 c8 (wantOf K t (L.take j)) ∧ Chg (fun b => b = w5.heap.size) w6 w7) (fun v _ => n1 - (intOf v).toNat)
              case atStart => exact ⟨0, none, 0, 0, Nat.zero_le _, rfl, Nat.zero_le _, HX6.out, SlO.nil _ _ _, Chg.refl _ _⟩
              case round =>
                obtain ⟨j, A8, n8, c8, hj, rfl, hn8, hBx, ho8, hcx⟩ := hrel
                have HBX := Lib.hid hBx
                have HO8 := Lib.hid ho8
                have HCX := Lib.hid hcx
                have q3 : (0 : Int) ≤ (j : Int) := Int.natCast_nonneg _
                by_cases hlt : j < n1
                · have hnex := HA7.out.neBlk HX6.out (by decide)
                  have hW0 := wantOf_head (f := K) (t := t) (l := L) j
                  rw [← ho8.1] at hW0
                  have HW0 := Lib.hid hW0
                  obtain ⟨bb, oo, x, rfl, hbb, hx, c0, c1, _⟩ := HA7.out.rd.op hlt
                  have hbb7 := (HA7.out.lt hbb).2
                  have hbx : ¬ bb = w5.heap.size := fun e => hnex (by rw [← e]; exact hbb)
                  have hxb : ¬ w5.heap.size = bb := fun e => hbx e.symm
                  have e0 := c0
                  have e1 := c1
                  replace c0 := (World.cell?_of_block (a := ⟨bb, oo + j * 3, none⟩) (hcx.block bb hbb7 hbx)).trans c0
                  replace c1 := (World.cell?_of_block (a := ⟨bb, oo + j * 3 + 1, none⟩) (hcx.block bb hbb7 hbx)).trans c1
                  have lbb : bb < wr.heap.size := Nat.lt_of_lt_of_le hbb7 hcx.size
                  have lxr := hBx.lt
                  have HX := Lib.hid (wantOf_snoc (f := K) (t := t) hx)
                  have hM7 := hcx.blk HM6.out nmx
                  have dm := fun i => hM7.cell i
                  have lm7 := hM7.lt
                  have dx := fun i => hBx.cell i
                  have fx := fun i => hBx.frozen i
                  have q4 : (j : Int) < (n1 : Int) := by omega
                  clear hx ho8 hcx hM7 hBx hnex hW0
                  by_cases hkk : between K t x.key = true
                  · have hck : ∀ W : World, Calls Try.prog 9 #[.string x.key, .string K, .string t] W (Ret (.bool true) W) := fun W => by
                      have := refIn_any x.key K t W
                      rw [hkk] at this; exact this
                    rw [if_pos hkk] at HX
                    have HCK := Lib.hid hck
                    clear hck
                    by_cases hfull : n8 < psz
                    · have q5 : ¬ (psz : Int) ≤ (n8 : Int) := by omega
                      go_wp2_with fail
                      go_quiet ((go_at_call 9; exact Calls.quiet_of_same ((HCK.out _).mono fun _ _ h => ⟨h.1, h.2.symm⟩)))
                      go_wp2_with fail
                      have hby : (n8 + 1) * 32 ≤ 140737488355328 := by omega
                      have z1 := one_flat PairD.one [pairOf x]
                      have z2 : ([pairOf x].flatMap PairD.enc).length = 1 * 2 := rfl
                      have z3 := (HO8.out.alloc (.cells (pairOf x).enc.toArray 27)).2
                      have z4 := rd_one PairD.enc wr (pairOf x) 27
                      have z5 : w6.heap.size ≤ wr.heap.size := HCX.out.size
                      have z6 := HO8.out.neBlk HBX.out (by decide)
                      have Z6 := Lib.hid z6
                      clear z6
                      have dxa := fun i => ((show Blk ((wr.drewN (nq + 1)).alloc (.cells #[.string x.key, .string x.val] 27)) w5.heap.size _ _ from HBX.out.alloc (.cells #[.string x.key, .string x.val] 27))).cell i
                      rw [lateLoad_eq 22]
                      go_region_held3 (fun w' => w'.cell? ⟨bb, oo + j * 3, none⟩ = some (.string x.key) ∧ w'.cell? ⟨bb, oo + j * 3 + 1, none⟩ = some (.string x.val))
                        (first | go_keep)
                        (first
                          | (refine step_app (ops := _) _ ?_ (.tmp 177) (.tmp 189) eiPair ?_ (base := w6.heap.size) (A := A8) (n := n8) (c := c8) (xs := (wantOf K t (L.take j)).flatMap PairD.enc) ?_ ?_ (S := (· = wr.heap.size)) (A2 := some ⟨wr.heap.size, 0, none⟩) (m := 1) (c2 := 1) (news := [pairOf x].flatMap PairD.enc) ?_ ?_ z2 z1 (N := n8 + 1) rfl hby ?_ ?_; rfl; rfl; rfl; exact z3; rfl; exact z4; exact le_al _ z5; intro A9 cc9 w8 hown8 hgrow8 hat8; have hX8 : Blk w8 w5.heap.size 52 #[.int .i64 10, .int .i64 0, .int .i64 2, .int .i64 0, .bool false, .int .u64 9, .int .u64 0, .int .i64 0, .int .i64 0, .int .i64 0, .int .i64 0, .string K, .string ⟨#[]⟩, .int .i64 0, .slice none 0 0, .int .u64 0, .int .i64 0, .int .i64 0, .slice none 0 0, .slice none 0 0, .slice none 0 0, .slice A8 n8 c8] := Blk.grown (by exact (HBX.out.alloc _)) hgrow8 (Ne.symm Z6.out); have dX8 := fun i => hX8.cell i; have fX8 := fun i => hX8.frozen i; have lX8 := hX8.lt; have hC8 : Chg (fun b => b = w5.heap.size) w6 w8 := Chg.grown (by exact HCX.out.alloc _) hgrow8 (fun g hg => .inr (own_le HO8.out.2 g hg)); have d0 : w8.cell? ⟨bb, oo + j * 3, none⟩ = some (.string x.key) := (World.cell?_of_block (a := ⟨bb, oo + j * 3, none⟩) (hC8.block bb hbb7 hbx)).trans e0; have d1 : w8.cell? ⟨bb, oo + j * 3 + 1, none⟩ = some (.string x.val) := (World.cell?_of_block (a := ⟨bb, oo + j * 3 + 1, none⟩) (hC8.block bb hbb7 hbx)).trans e1; clear hat8 dx dxa fx c0 c1))
                      all_goals
                        go_wp2_with fail
                        go_roundw
                        case rel =>
                          have hs8 := SlO.app (xs := wantOf K t (L.take j)) (ys := [pairOf x]) (N := n8 + 1) (by rw [← HO8.out.1]; rfl) hown8
                          refine ⟨j + 1, A9, n8 + 1, cc9, hlt, by go_num, hfull, by exact Blk.conv (Blk.set_ hX8 21 _) rfl, ?_, by exact Chg.setCell hC8 (.inl rfl) _⟩
                          rw [HX.out]
                          exact hs8.chg (T := fun b => b = w5.heap.size) (by exact Chg.setCell (S := fun b => b = w5.heap.size) (Chg.refl _ _) (.inl rfl) _) (fun b hb e => hs8.neBlk hX8 (by decide) (e ▸ hb))
                        case measure => simp [intOf]; omega
                    · have q5 : (psz : Int) ≤ (n8 : Int) := by omega
                      go_wp2_with fail
                      go_quiet ((go_at_call 9; exact Calls.quiet_of_same ((HCK.out _).mono fun _ _ h => ⟨h.1, h.2.symm⟩)))
                      go_wp2_with fail
                      go_meet
                      have hn8e : psz = n8 := by omega
                      have hlen : psz < (wantOf K t L).length := by
                        have h1 := wantOf_head (f := K) (t := t) (l := L) (j + 1)
                        have h2 : (wantOf K t (L.take (j + 1))).length = n8 + 1 := by rw [HX.out, List.length_append, ← HO8.out.1]; rfl
                        have h3 := congrArg List.length h1
                        rw [List.length_take, h2] at h3
                        omega
                      refine ⟨true, A8, n8, c8, by exact Blk.conv (Blk.set_ (Blk.drewN HBX.out _) 4 _) rfl, ?_, by simp [hlen], by exact Chg.setCell (Chg.drewN HCX.out _) (.inl rfl) _⟩
                      rw [hn8e, HW0.out]
                      exact (HO8.out.drewN nq).chg (T := fun b => b = w5.heap.size) (by exact Chg.setCell (S := fun b => b = w5.heap.size) (Chg.refl _ _) (.inl rfl) _) (fun b hb e => HO8.out.neBlk HBX.out (by decide) (e ▸ hb))
                  · have hck : ∀ W : World, Calls Try.prog 9 #[.string x.key, .string K, .string t] W (Ret (.bool false) W) := fun W => by
                      have := refIn_any x.key K t W
                      rw [Bool.not_eq_true] at hkk
                      rw [hkk] at this; exact this
                    rw [if_neg hkk, List.append_nil] at HX
                    have HCK := Lib.hid hck
                    clear hck
                    go_wp2_with fail
                    go_quiet ((go_at_call 9; exact Calls.quiet_of_same ((HCK.out _).mono fun _ _ h => ⟨h.1, h.2.symm⟩)))
                    go_wp2_with fail
                    go_roundw
                    case rel => exact ⟨j + 1, A8, n8, c8, hlt, by go_num, hn8, HBX.out, by rw [HX.out]; exact HO8.out, HCX.out⟩
                    case measure => simp [intOf]; omega
                · have hkn : L.take j = L := List.take_of_length_le (by rw [← HA7.out.1]; omega)
                  rw [hkn] at ho8
                  have q4 : ¬ (j : Int) < (n1 : Int) := by omega
                  have HL8 := Lib.hid ho8.1
                  have HT8 : Hid ((wantOf K t L).take psz = wantOf K t L) := Lib.hid (List.take_of_length_le (by rw [← ho8.1]; omega))
                  have HO9 := Lib.hid ho8
                  clear hkn ho8 hBx hcx HO8
                  go_wp2_with fail
                  go_meet
                  exact ⟨false, A8, n8, c8, HBX.out, by rw [HT8.out]; exact HO9.out, by rw [← HL8.out]; simp; omega, HCX.out⟩
              -->
            case rest =>
              obtain ⟨fl, A8, n8, c8, hBx, ho8, rfl, hcx⟩ := hcut
              have HBX := Lib.hid hBx
              have HO8 := Lib.hid ho8
              have HB8 := Lib.hid (HB6.out.trans (hcx.bel HB6.out.size (fun b e => by rw [e]; exact lx0)))
              clear hBx ho8 hcx HM6 HX6 HA7 lx6 lm6 nmx nxm
              have HP8 := Lib.hid (HB8.out.blk HP.out lpr)
              have HR8 := Lib.hid (HB8.out.blk HR.out lrr6)
              have HO9 := Lib.hid (HO6.out.bel HB8.out)
              have hn8p : n8 ≤ psz := by have h1 := HO8.out.1; rw [List.length_take] at h1; omega
              have HPK := Lib.hid (HPG.out K g psz HPA.out HPS.out)
              obtain ⟨mps, hmps⟩ : ∃ mps, mps = (wantOf K t L).take psz := ⟨_, rfl⟩
              obtain ⟨fl, hfl⟩ : ∃ fl, fl = decide (psz < (wantOf K t L).length) := ⟨_, rfl⟩
              rw [← hmps, ← hfl] at HPK
              rw [← hmps] at HO8
              rw [← hfl] at HBX
              have HMP := Lib.hid hmps
              have HFL := Lib.hid hfl
              have HLN : Hid (n8 = mps.length) := Lib.hid HO8.out.1
              have HTK : Hid (mps.take n8 = mps) := Lib.hid (List.take_of_length_le (by rw [← HLN.out]; omega))
              clear hmps hfl
              go_wp2_with (refine wpList_get rfl 52 (.tmp 21) rfl (g := w5.heap.size) (t := 52) (cs := #[.int .i64 10, .int .i64 0, .int .i64 2, .int .i64 0, .bool fl, .int .u64 9, .int .u64 0, .int .i64 0, .int .i64 0, .int .i64 0, .int .i64 0, .string K, .string ⟨#[]⟩, .int .i64 0, .slice none 0 0, .int .u64 0, .int .i64 0, .int .i64 0, .slice none 0 0, .slice none 0 0, .slice none 0 0, .slice A8 n8 c8]) ?_ ?_ rowMsg ?_; rfl; exact HBX.out)
              refine (taskTake_page (a := ⟨2, 0, f, t, 9, M⟩) (ts := 9) (key := K) (A := A6) (n := g) (cap := c6) (waits := wt) (B := wh.heap.size) (S := fun b => A8.map (·.block) = some b) p r _ (mvOf fl) mps _ HP8.out HR8.out HO9.out HO8.out.rd ?_ HO8.out.le ?_ ?_ ?_ n8 ?_ rfl rfl ?_).mono ?_
              · intro b hb
                have h1 := HO8.out.lt hb
                have h2 := HB6.out.size
                refine ⟨h1.2, fun e => ?_, ?_, ?_⟩
                · have h3 := HO6.out.lt e
                  omega
                · omega
                · omega
              · omega
              · show (g : Int) < (M : Int); omega
              · show (M : Int) ≤ 32; omega
              · show (n8 : Int) = min (n8 : Int) (pageSize (M : Int) g)
                rw [← HPS.out]; omega
              · have h1 := HC.out.size; have h2 := HB8.out.size; omega
              rintro e w9 ⟨rfl, hpw⟩
              have HPW := Lib.hid hpw
              clear hpw
              go_wp2_with fail
              go_roundw
              case rel =>
                obtain ⟨A9, c9, hpr, ho, hc⟩ := HPW.out
                have hCC : Chg (fun b => b = p ∨ b = r) wh w9 := (HC.out.call HB8.out).trans hc (fun b e => by
                  rcases e with e | e | e
                  · exact .inl (.inl e)
                  · exact .inl (.inr e)
                  · exact .inr (HO6.out.lt e).1)
                refine ⟨i + 1, by go_num, hCC, ?_⟩
                have hpk := HPK.out
                rw [HTK.out] at hpr ho
                rw [← HLN.out] at hpk
                cases hm : pMore fl (M : Int) (g + n8) mps with
                | true =>
                  obtain ⟨h1, h2, h3⟩ := hpk.1 hm
                  rw [show pMore (mvOf fl).fl _ _ _ = pMore fl (M : Int) (g + n8) mps from rfl, hm, if_pos rfl] at hpr
                  exact .inl ⟨lastKey mps, g + n8, A9, c9, 0, by omega, h1, hpr.1, hpr.2, by rw [← h3]; exact ho⟩
                | false =>
                  have h3 := hpk.2 hm
                  rw [show pMore (mvOf fl).fl _ _ _ = pMore fl (M : Int) (g + n8) mps from rfl, hm, if_neg (by simp)] at hpr
                  have hps := HPS.out
                  exact .inr ⟨A9, g + n8, c9, by omega, by unfold pageSize at hps; split at hps <;> omega, hpr, by rw [← h3]; exact ho⟩
              case measure => simp [intOf]; omega
          ·
            --<
            have HO6 := Lib.hid ho6
            have HP := Lib.hid hP
            have HW6 : Hid (SlO PairD.enc w2.heap.size 27 2 wr A5 n5 c5 ((wantOf f t L).take M)) := Lib.hid (HW.out.chg hcw fun b hb e => by rcases e with rfl | rfl; exact HW.out.neBlk HP5.out (by decide) hb; exact HW.out.neBlk HR5.out (by decide) hb)
            clear ho6 hP hcw
            have q1 : (i : Int) < 100 := by omega
            go_wp2_with fail
            refine (taskDone_yes _ p r wr HP.out HO6.out.rd (fun b hb => (HO6.out.lt hb).2) (by omega)).mono ?_
            rintro e w3 ⟨A7, c7, rfl, ho7, hb7⟩
            have HO7 := Lib.hid ho7
            have HB7 := Lib.hid hb7
            have HW7 := Lib.hid (HW6.out.bel hb7)
            clear ho7 hb7
            go_wp2_with (first | (go_at_call 11; refine (samePairs_any (S := fun b => A7.map (·.block) = some b) (S' := fun b => A5.map (·.block) = some b) A7 A5 N6 c7 n5 c5 _ _ (HO7.out.alloc _).rd (HW7.out.alloc _).rd (fun b hb => ((HO7.out.alloc _).lt hb).2) (fun b hb => ((HW7.out.alloc _).lt hb).2) (by omega)).mono ?_; rintro e w4 ⟨rfl, hb8⟩; have HB8 := Lib.hid hb8; clear hb8) | (go_at_call 5; refine (awake_any _).mono ?_; rintro e w5 ⟨rfl, hb9⟩; have HB9 := Lib.hid hb9; clear hb9))
            have hX : Bel w.heap.size w wr := HB5.out.trans (HC.out.bel HB5.out.size (fun b e => by rcases e with rfl | rfl; exact lpp; exact lrr))
            go_ret
            exact ⟨rfl, (((hX.call HB7.out (Nat.le_refl _)).alloc (Nat.le_refl _) _).call HB8.out (Nat.le_refl _)).call HB9.out (Nat.le_refl _)⟩
            -->
end Go.Proofs.Ytmlnjeoibpffoaa
