/- varnum.Put: a number's bytes. -/
import Derived.Test.YtmlnjeoibpffoaaGreatMem3
import Derived.Test.YtmlnjeoibpffoaaGreatPlain1
import Derived.Laws.BytesArg
import Derived.Laws.MakeOwn
import Derived.WalkKit
import Derived.WalkLawsBesides
import Derived.WalkSpells
namespace Go.Proofs.YtmlnjeoibpffoaaGreat
open Go.RowKit
set_option linter.unusedVariables false
set_option linter.unusedSimpArgs false

/-- how many bytes a number needs -/
def vneeds (n : Nat) : Nat := if n < 256 then 1 else vneeds (n / 256) + 1
termination_by n
decreasing_by omega
/-- its last k bytes, the highest ahead -/
def vtail (n : Nat) : Nat → List UInt8
  | 0 => []
  | k + 1 => vtail (n / 256) k ++ [UInt8.ofNat n]
def vhead (k : Nat) : UInt8 := UInt8.ofNat (247 + k)
/-- a number as bytes -/
def vbytes (n : Nat) : List UInt8 := if n < 248 then [UInt8.ofNat n] else vhead (vneeds n) :: vtail n (vneeds n)
theorem vneeds_pos (n : Nat) : 1 ≤ vneeds n := by unfold vneeds; split <;> omega
theorem vneeds_le (k : Nat) : ∀ n, n < 256 ^ (k + 1) → vneeds n ≤ k + 1 := by
  induction k with
  | zero => intro n h; unfold vneeds; rw [if_pos (by simpa using h)]; omega
  | succ k ih =>
    intro n h
    unfold vneeds
    split
    · omega
    · have := ih (n / 256) (by rw [Nat.pow_succ] at h; omega)
      omega
theorem vneeds8 {n : Nat} (h : n < 256 ^ 8) : vneeds n ≤ 8 := vneeds_le 7 n h
theorem vneeds_step {m : Nat} (h : ¬ m / 256 = 0) : vneeds m = vneeds (m / 256) + 1 := by
  conv => lhs; unfold vneeds
  rw [if_neg (by omega)]
theorem vneeds_last {m : Nat} (h : m / 256 = 0) : vneeds m = 1 := by unfold vneeds; rw [if_pos (by omega)]
theorem vtail_len (n k : Nat) : (vtail n k).length = k := by
  induction k generalizing n with
  | zero => rfl
  | succ k ih => simp [vtail, ih]
theorem vbytes_len {n : Nat} (h : n < 256 ^ 8) : 1 ≤ (vbytes n).length ∧ (vbytes n).length ≤ 9 := by
  unfold vbytes
  have := vneeds8 h
  split
  · simp
  · simp [vtail_len]; omega

set_option maxHeartbeats 1000000 in
set_option maxRecDepth 100000 in
theorem needs_any (n : Nat) (w : World) (hn : n < 256 ^ 8) :
    Calls Tryz.prog 169 #[.int .u64 n] w (Ret (.int .i64 (vneeds n)) w) := by
  have hle := vneeds8 hn
  have HN := Lib.hid hn
  clear hn
  go_enter Tryz.func169, Tryz.ntmps169
  go_wp2
  go_step3
  go_wp2
  go_step3
  go_wp2
  go_loop [3, 0] (fun v x => ∃ j m : Nat, v = .int .i64 j ∧ x = .int .u64 m ∧ Hid (j + vneeds m = vneeds n) ∧ m ≤ n) (fun v x => 8 - (intOf v).toNat)
  case atStart => exact ⟨0, n, rfl, rfl, Lib.hid (by omega), Nat.le_refl _⟩
  case round =>
    obtain ⟨j, m, rfl, rfl, hjm, hmn⟩ := hrel
    have h1 := vneeds_pos m
    have hj : j < 8 := by have := hjm.out; omega
    by_cases h : m / 256 = 0
    · have hb : ((m : Int) / 256 == 0) = true := by simp; omega
      have hl := Lib.hid (vneeds_last h)
      clear h
      go_wp2
      go_ret
      exact ret_i (by have := hjm.out; have := hl.out; omega)
    · have hb : ((m : Int) / 256 == 0) = false := by simp; omega
      have hl := Lib.hid (vneeds_step h)
      clear h
      go_wp2
      go_round
      case rel => exact ⟨j + 1, m / 256, by go_num, by go_num, Lib.hid (by have := hjm.out; have := hl.out; omega), by omega⟩
      case measure => simp [intOf]; omega

theorem vtail_get (n k i : Nat) (h : i < k) : (vtail n k)[i]? = some (UInt8.ofNat (n / 2 ^ (8 * (k - 1 - i)))) := by
  induction k generalizing n with
  | zero => omega
  | succ k ih =>
    rw [vtail]
    by_cases hik : i < k
    · rw [List.getElem?_append_left (by rw [vtail_len]; exact hik), ih _ hik]
      congr 2
      rw [Nat.div_div_eq_div_mul]
      congr 1
      rw [show (256 : Nat) = 2 ^ 8 from rfl, ← Nat.pow_add]
      congr 1
      omega
    · have hik' : i = k := by omega
      subst hik'
      rw [List.getElem?_append_right (by rw [vtail_len]; exact Nat.le_refl _), vtail_len]
      simp
theorem byte_val (m : Nat) : (((UInt8.ofNat m).toNat : Nat) : Int) = (m : Int) % 256 := by
  rw [UInt8.toNat_ofNat']; omega
theorem byte_val2 (n e : Nat) : (((UInt8.ofNat (n / 2 ^ e)).toNat : Nat) : Int) = (n : Int) / 2 ^ e % 256 := by
  rw [byte_val, Int.natCast_ediv, Int.natCast_pow]; rfl
theorem nums_bytes (l : List UInt8) : strOfNums (l.map fun b => (b.toNat : Int)) = ⟨l.toArray⟩ := by
  unfold strOfNums
  rw [List.map_map]
  congr 2
  conv => rhs; rw [← List.map_id l]
  apply List.map_congr_left
  intro b _
  simp
/-- the string of an owned slice of bytes -/
theorem conv_own {P : Program} {src e dst : TypeId} (hs : P.underlying src = some (.slice e)) (he : P.underlying e = some (.int .u8)) (hd : P.underlying dst = some .string) {W : World} {base n c : Nat} {A : Option Addr} {l : List UInt8} (h : W.ownsRow base e 1 (.slice A n c) n (Lib.byteCells l)) :
    (convert src dst (.slice A n c)).run P W = .ok (.string ⟨l.toArray⟩) W := by
  have hl : l.length = n := by simpa [Lib.byteCells] using h.1
  rcases h.2 with ⟨hv, h0⟩ | ⟨g, cap, cur, hv, _⟩
  · injection hv with e1 e2 e3
    subst e1 e2 e3
    have : l = [] := List.eq_nil_of_length_eq_zero hl
    subst this
    exact run_convert_bytes_nil W src e hs he 0 0 dst hd
  · injection hv with e1 e2 e3
    subst e1 e3
    rw [← nums_bytes]
    refine run_convert_bytes_arg W src e hs he g 0 n c _ (by simpa using hl) (fun j hj => ?_) dst hd
    have := h.cells (g := g) rfl j (.int .u8 ((l.map fun b => (b.toNat : Int)).getD j 0)) (by
      have hj' : j < l.length := by omega
      simp [Lib.byteCells, List.getElem?_eq_getElem hj', List.getD])
    rw [add_mk] at this
    exact this

/-- a new slice of bytes with room for nine -/
def room9 : Array Value := madeCells (Value.int .u8 0).cells 9
theorem run_make9 (w : World) : (Instr.makeSlice 205 (.int .i64 0) (.int .i64 9)).run Tryz.prog w = .ok (.slice (some ⟨w.heap.size, 0, none⟩) 0 9) (w.alloc (.cells room9 5)) := by kernel_rfl
theorem eiByte : EI Tryz.prog 205 5 1 1 := EI.mk Tryz.underlying205 (z := .int .u8 0) (by kernel_rfl) rfl (by omega) (by omega)
theorem own_room9 {w : World} {base : Nat} (hB : base ≤ w.heap.size) : (w.alloc (.cells room9 5)).ownsRow base 5 1 (.slice (some ⟨w.heap.size, 0, none⟩) 0 9) 0 [] :=
  ⟨rfl, .inr ⟨w.heap.size, 9, room9, rfl, hB, heap_alloc_new w _, by omega, by unfold maxLen; omega, by kernel_rfl, by simp⟩⟩
theorem rd_val {w : World} {H : Nat} (x : Value) (t : TypeId) (hH : w.heap.size = H) : Rd (· = H) (w.alloc (.cells #[x] t)) (some ⟨H, 0, none⟩) [x] := by
  subst hH; exact Rd.new w [x] t
set_option maxHeartbeats 1000000 in
set_option maxRecDepth 100000 in
theorem varnumPut_any (n : Nat) (w : World) (hn : n < 256 ^ 8) :
    Calls Tryz.prog 129 #[.int .u64 n] w (RetB (.string ⟨(vbytes n).toArray⟩) w) := by
  have hn8 := vneeds8 hn
  have hmk := run_make9
  have hle := vneeds8 hn
  have HN := Lib.hid hn
  by_cases h1 : n < 248
  · have hn' : (n : Int) < 248 := by omega
    have h0 : (0 : Int) ≤ (n : Int) := by omega
    have hcv : (convert 205 9 (.slice (some ⟨w.heap.size, 0, none⟩) 1 1)).run Tryz.prog (w.alloc (.cells #[.int .u8 n] 5)) = .ok (.string (strOfNums [(n : Int)])) _ :=
      run_convert_bytes_arg _ 205 5 Tryz.underlying205 Tryz.underlying5 w.heap.size 0 1 1 [(n : Int)] rfl (by
        intro j hj
        have hj0 : j = 0 := by omega
        subst hj0; exact (Blk.new w _ _).cell 0) _ Tryz.underlying9
    clear hn
    go_enter Tryz.func129, Tryz.ntmps129
    go_wp2
    go_ret
    refine ⟨?_, (Bel.refl _ _).alloc (Nat.le_refl _) _⟩
    rw [vbytes, if_pos h1]; rfl
  · have hn' : ¬ (n : Int) < 248 := by omega
    have h0 : (0 : Int) ≤ (n : Int) := by omega
    have hk1 := vneeds_pos n
    obtain ⟨k, hk⟩ : ∃ k, k = vneeds n := ⟨_, rfl⟩
    rw [← hk] at hn8 hk1
    have hnd := needs_any n w hn
    rw [← hk] at hnd
    have HK := Lib.hid hk
    have HD := Lib.hid hnd
    clear hn hk hnd
    go_enter Tryz.func129, Tryz.ntmps129
    go_wp2_with (first | (go_at_call 169; refine HD.out.mono ?_; rintro e w1 ⟨rfl, rfl⟩) | (at_builtin; (refine wpList_app _ ?_ (.tmp 15) (.tmp 19) eiByte ?_ (base := w.heap.size) (A := some ⟨w.heap.size, 0, none⟩) (n := 0) (c := 9) (xs := []) ?_ ?_ (S := (· = w.heap.size + 1)) (A2 := some ⟨w.heap.size + 1, 0, none⟩) (m := 1) (c2 := 1) (news := [.int .u8 (247 + k)]) ?_ ?_ rfl (by simp [Value.oneCell']) (N := 1) rfl (by omega) ?_ ?_; rfl; rfl; rfl; exact (own_room9 (Nat.le_refl _)).alloc _; rfl; exact rd_val _ _ (by simp); simp; omega; intro A1 c1 w1 hown1 hgrow1 hat1; have HO1 := Lib.hid hown1; have HG1 := Lib.hid hgrow1; clear hown1 hgrow1 hat1)))
    go_loopw [4, 22] (fun v x wr => ∃ (i : Nat) (A : Option Addr) (c : Nat), v = .slice A (i + 1) c ∧ x = .int .i64 i ∧ i ≤ k ∧ Hid (wr.ownsRow w.heap.size 5 1 (.slice A (i + 1) c) (i + 1) (Lib.byteCells (vhead k :: (vtail n k).take i))) ∧ Hid (Bel w.heap.size w wr)) (fun _ x _ => k - (intOf x).toNat)
    case atStart =>
      refine ⟨0, A1, c1, rfl, rfl, Nat.zero_le _, Lib.hid ?_, Lib.hid ?_⟩
      · have h1 := HO1.out
        have h2 : Lib.byteCells (vhead k :: (vtail n k).take 0) = [] ++ [Value.int .u8 (247 + (k : Int))] := by
          simp only [Lib.byteCells, List.take_zero, List.map_cons, List.map_nil, vhead, byte_val, List.nil_append]; congr 2; omega
        rw [h2]; exact h1
      · exact (((Bel.refl _ w).alloc (Nat.le_refl _) _).alloc (Nat.le_refl _) _).grown HG1.out (Nat.le_refl _) (fun b e => by cases e; exact Nat.le_refl _)
    case round =>
      obtain ⟨i, A, c, rfl, rfl, hik, HO, HB⟩ := hrel
      by_cases hlt : i < k
      · go_wp2_with (at_builtin; (refine wpList_app _ ?_ (.tmp 25) (.tmp 34) eiByte ?_ (base := w.heap.size) (A := A) (n := i + 1) (c := c) (xs := Lib.byteCells (vhead k :: (vtail n k).take i)) ?_ ?_ (S := (· = wr.heap.size)) (A2 := some ⟨wr.heap.size, 0, none⟩) (m := 1) (c2 := 1) (news := [.int .u8 ((n : Int) / 2 ^ (8 * (k - 1 - i)) % 256)]) ?_ ?_ rfl (by simp [Value.oneCell']) (N := i + 1 + 1) rfl (by omega) ?_ ?_; rfl; rfl; rfl; exact HO.out.alloc _; rfl; exact rd_val _ _ rfl; exact le_al _ HB.out.size; intro A2 c2 w2 hown2 hgrow2 hat2; have HO2 := Lib.hid hown2; have HG2 := Lib.hid hgrow2; clear hown2 hgrow2 hat2))
        go_roundw
        case rel =>
          refine ⟨i + 1, A2, c2, rfl, by go_num, hlt, Lib.hid ?_, Lib.hid ?_⟩
          · have h2 : Lib.byteCells (vhead k :: (vtail n k).take (i + 1)) = Lib.byteCells (vhead k :: (vtail n k).take i) ++ [Value.int .u8 ((n : Int) / 2 ^ (8 * (k - 1 - i)) % 256)] := by
              rw [take_snoc' (vtail_get n k i hlt), ← List.cons_append, Lib.byteCells_append]
              simp only [Lib.byteCells, List.map_cons, List.map_nil, byte_val2]
            rw [h2]; exact HO2.out
          · exact (HB.out.alloc (Nat.le_refl _) _).grown HG2.out (Nat.le_refl _) (own_le HO.out)
        case measure => simp [intOf]; omega
      · have hkn : (vtail n k).take i = vtail n k := List.take_of_length_le (by rw [vtail_len]; omega)
        have hcv := conv_own Tryz.underlying205 Tryz.underlying5 Tryz.underlying9 HO.out
        rw [hkn] at hcv
        go_wp2_with fail
        go_ret
        refine ⟨?_, HB.out⟩
        rw [vbytes, if_neg h1, ← HK.out]; rfl
end Go.Proofs.YtmlnjeoibpffoaaGreat
