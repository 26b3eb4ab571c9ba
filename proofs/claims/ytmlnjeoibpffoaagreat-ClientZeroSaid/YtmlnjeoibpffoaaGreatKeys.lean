import Derived.Test.YtmlnjeoibpffoaaGreatAsk0
import Derived.Test.YtmlnjeoibpffoaaGreatTail
import Derived.BigRegion
import Derived.IntWalk
import Derived.Laws.BytesArg
namespace Go.Proofs.YtmlnjeoibpffoaaGreat
open Go.RowKit

theorem get_bang (k : ByteArray) (n : Nat) (h : n < k.size) : k[n] = k.get! n := by
  cases k with
  | mk bs => show bs[n] = bs[n]!; exact (getElem!_pos bs n h).symm
theorem nums_one (b : UInt8) (h : b.toNat < 255) : strOfNums [(b.toNat : Int) + 1] = ⟨#[b + 1]⟩ := by
  have : UInt8.ofNat ((b.toNat : Int) + 1).toNat = b + 1 := by
    apply UInt8.toNat_inj.1
    rw [UInt8.toNat_ofNat', UInt8.toNat_add]
    have : ((b.toNat : Int) + 1).toNat = b.toNat + 1 := by omega
    rw [this]; rfl
  show (⟨(List.map (fun n : Int => UInt8.ofNat n.toNat) [(b.toNat : Int) + 1]).toArray⟩ : ByteArray) = _
  simp only [List.map_cons, List.map_nil, this]
theorem conv_one {P : Program} {src e dst b : Nat} {x : Int} (W : World) (hs : P.underlying src = some (.slice e)) (he : P.underlying e = some (.int .u8)) (hd : P.underlying dst = some .string) (hc : W.cell? ⟨b, 0, none⟩ = some (.int .u8 x)) :
    (convert src dst (.slice (some ⟨b, 0, none⟩) 1 1)).run P W = .ok (.string (strOfNums [x])) W :=
  run_convert_bytes_arg W src e hs he b 0 1 1 [x] rfl (by intro j hj; have hj0 : j = 0 := by omega
                                                          subst hj0; exact hc) dst hd
theorem strAppend (a b : ByteArray) : (a ++ b).size = a.size + b.size := by simp
/-- the least key above the first n bytes' -/
def nxt (k : ByteArray) : Nat → ByteArray
  | 0 => ⟨#[]⟩
  | n + 1 => if (k.get! n).toNat < 255 then k.extract 0 n ++ ⟨#[k.get! n + 1]⟩ else nxt k n
def nextKey (k : ByteArray) : ByteArray := if k.size < 8 then k ++ ⟨#[0]⟩ else nxt k 8

set_option maxHeartbeats 1000000 in
set_option maxRecDepth 100000 in
theorem keysNext_any (k : ByteArray) (w : World) :
    Calls Tryz.prog 214 #[.string k] w fun e w' => e = .returned (.string (nextKey k)) ∧ Bel w.heap.size w w' := by
  by_cases h8 : k.size < 8
  · have HE : Hid (nextKey k = k ++ ⟨#[0]⟩) := Lib.hid (by simp [nextKey, h8])
    go_enter Tryz.func214, Tryz.ntmps214
    go_wp2_with fail
    go_ret
    exact ⟨rets (by rw [HE.out]), Bel.refl _ _⟩
  · have HE : Hid (nextKey k = nxt k 8) := Lib.hid (by simp [nextKey, h8])
    have h8' : 8 ≤ k.size := by omega
    go_enter Tryz.func214, Tryz.ntmps214
    go_wp2_with fail
    go_loopw [10] (fun v wr => ∃ i : Nat, i ≤ 8 ∧ v = .int .i64 i ∧ Hid (nxt k 8 = nxt k (8 - i)) ∧ wr = w) (fun v _ => 8 - (intOf v).toNat)
    case atStart => exact ⟨0, by omega, rfl, rfl, rfl⟩
    case round =>
      obtain ⟨i, hi, rfl, hx, rfl⟩ := hrel
      by_cases hlt : i < 8
      · have e9 : (0 : Int) ≤ 7 - (i : Int) := by omega
        have e10 : 7 - (i : Int) < (k.size : Int) := by omega
        go_wp2_with fail
        · have hb : (k[7 - i]'(by omega)).toNat < 255 := by omega
          have hcv : (convert 205 9 (.slice (some ⟨wr.heap.size, 0, none⟩) 1 1)).run Tryz.prog ((wr.alloc (.cells #[.int .u8 ((k[7 - i]'(by omega)).toNat + 1)] 5)).drew) = .ok (.string (strOfNums [((k[7 - i]'(by omega)).toNat : Int) + 1])) _ :=
            conv_one _ Tryz.underlying205 Tryz.underlying5 Tryz.underlying9 ((Blk.new wr _ _).cell 0)
          have hsz : (k.extract 0 (7 - i)).size + (strOfNums [((k[7 - i]'(by omega)).toNat : Int) + 1]).size ≤ 9223372036854775807 := by
            rw [strOfNums_size]; simp; omega
          have had := fun W : World => run_string_add_sum (P := Tryz.prog) W _ _ hsz
          clear hsz
          go_region
          all_goals go_wp2_with fail
          all_goals go_ret
          all_goals refine ⟨rets ?_, ((Bel.refl _ wr).alloc (Nat.le_refl _) _)⟩
          all_goals rw [HE.out, hx.out, show 8 - i = (7 - i) + 1 from by omega, nxt, if_pos (by rw [← get_bang k _ (by omega)]; exact hb), nums_one _ hb, get_bang k _ (by omega)]
        · have hb : ¬ (k[7 - i]'(by omega)).toNat < 255 := by omega
          go_roundw
          case rel => exact ⟨i + 1, by omega, by go_num, Lib.hid (by rw [hx.out, show 8 - i = (7 - i) + 1 from by omega, nxt, if_neg (by rw [← get_bang k _ (by omega)]; exact hb), show 8 - (i + 1) = 7 - i from by omega]), trivial⟩
          case measure => simp [intOf]; omega
      · have : i = 8 := by omega
        go_wp2_with fail
        go_ret
        exact ⟨rets (by rw [HE.out, hx.out, this]; rfl), Bel.refl _ _⟩
end Go.Proofs.YtmlnjeoibpffoaaGreat
