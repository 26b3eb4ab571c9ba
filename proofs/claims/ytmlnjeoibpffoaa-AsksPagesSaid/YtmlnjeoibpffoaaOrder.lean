/- Keys in order; the least key behind one. No program in sight. -/
import Derived.Test.YtmlnjeoibpffoaaKeys
namespace Go.Proofs.Ytmlnjeoibpffoaa

theorem bl_irr : ∀ x : List UInt8, Op.bytesLess x x = false
  | [] => rfl
  | a :: x => by simp [Op.bytesLess, bl_irr x]
theorem bl_trans : ∀ {x y z : List UInt8}, Op.bytesLess x y = true → Op.bytesLess y z = true → Op.bytesLess x z = true
  | _, [], _, h, _ => by simp [Op.bytesLess] at h
  | _, _ :: _, [], _, h => by simp [Op.bytesLess] at h
  | [], _ :: _, _ :: _, _, _ => rfl
  | a :: x, b :: y, c :: z, h1, h2 => by
    simp only [Op.bytesLess, Bool.or_eq_true, Bool.and_eq_true, decide_eq_true_eq, beq_iff_eq] at h1 h2 ⊢
    rcases h1 with h1 | ⟨rfl, h1⟩
    · rcases h2 with h2 | ⟨rfl, h2⟩
      · exact .inl (UInt8.lt_trans h1 h2)
      · exact .inl h1
    · rcases h2 with h2 | ⟨rfl, h2⟩
      · exact .inl h2
      · exact .inr ⟨rfl, bl_trans h1 h2⟩
theorem bl_conn : ∀ {x y : List UInt8}, Op.bytesLess x y = false → Op.bytesLess y x = false → x = y
  | [], [], _, _ => rfl
  | [], _ :: _, h, _ => by simp [Op.bytesLess] at h
  | _ :: _, [], _, h => by simp [Op.bytesLess] at h
  | a :: x, b :: y, h1, h2 => by
    simp only [Op.bytesLess, Bool.or_eq_false_iff, Bool.and_eq_false_iff, decide_eq_false_iff_not] at h1 h2
    have hab : a = b := UInt8.le_antisymm (UInt8.not_lt.1 h2.1) (UInt8.not_lt.1 h1.1)
    subst hab
    rw [bl_conn (h1.2.resolve_left (by simp)) (h2.2.resolve_left (by simp))]
/-- nothing of that length is above all-255 -/
theorem bl_full : ∀ {q z : List UInt8}, (∀ b ∈ q, b = 255) → z.length ≤ q.length → Op.bytesLess q z = false
  | q, [], _, _ => by cases q <;> rfl
  | [], _ :: _, _, h => by simp at h
  | b :: q, c :: z, hq, h => by
    have hb : b = 255 := hq b (by simp)
    subst hb
    simp only [Op.bytesLess, Bool.or_eq_false_iff, Bool.and_eq_false_iff, decide_eq_false_iff_not]
    refine ⟨fun h => ?_, .inr (bl_full (fun b hb => hq b (by simp [hb])) (by simpa using h))⟩
    have := UInt8.lt_iff_toNat_lt.1 h
    have := c.toNat_lt
    simp at *
    omega
theorem bl_zero : ∀ (x z : List UInt8), Op.bytesLess z (x ++ [0]) = !Op.bytesLess x z
  | [], [] => rfl
  | [], c :: z => by
    cases z <;> simp [Op.bytesLess]
  | a :: x, [] => rfl
  | a :: x, c :: z => by
    simp only [List.cons_append, Op.bytesLess, bl_zero x z]
    rcases Nat.lt_trichotomy a.toNat c.toNat with h | h | h
    · have h1 : a < c := UInt8.lt_iff_toNat_lt.2 h
      have h2 : ¬ c < a := fun e => by have := UInt8.lt_iff_toNat_lt.1 e; omega
      have h3 : (c == a) = false := by simp; rintro rfl; omega
      simp [h1, h2, h3]
    · have h1 : a = c := UInt8.toNat_inj.1 h
      subst h1
      simp
    · have h1 : c < a := UInt8.lt_iff_toNat_lt.2 h
      have h2 : ¬ a < c := fun e => by have := UInt8.lt_iff_toNat_lt.1 e; omega
      have h3 : (a == c) = false := by simp; rintro rfl; omega
      simp [h1, h2, h3]
theorem bl_up : ∀ (p : List UInt8) (b : UInt8) (q z : List UInt8), b.toNat < 255 → (∀ c ∈ q, c = 255) → z.length ≤ p.length + 1 + q.length → Op.bytesLess z (p ++ [b + 1]) = !Op.bytesLess (p ++ b :: q) z
  | [], b, q, [], _, _, _ => rfl
  | [], b, q, c :: z, hb, hq, hl => by
    have hd := bl_full (q := q) (z := z) hq (by simp at hl; omega)
    have hb1 : (b + 1).toNat = b.toNat + 1 := by rw [UInt8.toNat_add]; simp; omega
    simp only [List.nil_append, Op.bytesLess, hd, Bool.and_false, Bool.or_false]
    rw [Bool.eq_iff_iff]
    simp only [decide_eq_true_eq, Bool.not_eq_true', decide_eq_false_iff_not, UInt8.lt_iff_toNat_lt, hb1]
    omega
  | a :: p, b, q, [], _, _, _ => rfl
  | a :: p, b, q, c :: z, hb, hq, hl => by
    simp only [List.cons_append, Op.bytesLess, bl_up p b q z hb hq (by simp at hl; omega)]
    rcases Nat.lt_trichotomy a.toNat c.toNat with h | h | h
    · have h1 : a < c := UInt8.lt_iff_toNat_lt.2 h
      have h2 : ¬ c < a := fun e => by have := UInt8.lt_iff_toNat_lt.1 e; omega
      have h3 : (c == a) = false := by simp; rintro rfl; omega
      simp [h1, h2, h3]
    · have h1 : a = c := UInt8.toNat_inj.1 h
      subst h1
      simp
    · have h1 : c < a := UInt8.lt_iff_toNat_lt.2 h
      have h2 : ¬ a < c := fun e => by have := UInt8.lt_iff_toNat_lt.1 e; omega
      have h3 : (a == c) = false := by simp; rintro rfl; omega
      simp [h1, h2, h3]
/-! the same on byte arrays -/
theorem toList_inj {x y : ByteArray} (h : x.toList = y.toList) : x = y := by
  rw [Lib.toList_data, Lib.toList_data] at h
  exact ByteArray.ext (Array.toList_inj.1 h)
theorem toList_len (x : ByteArray) : x.toList.length = x.size := by rw [Lib.toList_data]; exact Array.length_toList
theorem bless_irr (x : ByteArray) : bless x x = false := bl_irr _
theorem bless_trans {x y z : ByteArray} (h : bless x y = true) (k : bless y z = true) : bless x z = true := bl_trans h k
theorem bless_conn {x y : ByteArray} (h : bless x y = false) (k : bless y x = false) : x = y := toList_inj (bl_conn h k)
theorem bless_asym {x y : ByteArray} (h : bless x y = true) : bless y x = false := by
  cases hh : bless y x with
  | false => rfl
  | true => have := bless_trans h hh; rw [bless_irr] at this; cases this
theorem app_list (x y : ByteArray) : (x ++ y).toList = x.toList ++ y.toList := by
  rw [Lib.toList_data, Lib.toList_data, Lib.toList_data, ByteArray.data_append, Array.toList_append]
theorem one_list (b : UInt8) : (⟨#[b]⟩ : ByteArray).toList = [b] := by rw [Lib.toList_data]
theorem ext_list (x : ByteArray) (n : Nat) : (x.extract 0 n).toList = x.toList.take n := by
  rw [Lib.toList_data, Lib.toList_data, ByteArray.data_extract, Array.toList_extract]; simp
theorem get_list (x : ByteArray) (n : Nat) (h : n < x.size) : x.toList[n]'(by rw [toList_len]; exact h) = x.get! n := by
  rw [← get_bang x n h]
  simp only [Lib.toList_data]
  rfl
theorem nxt_spec (x : ByteArray) (h8 : x.size = 8) (z : ByteArray) (hz : z.size ≤ 8) : ∀ n, n ≤ 8 → (∀ c ∈ x.toList.drop n, c = 255) → ((nxt x n).size = 0 → bless x z = false) ∧ ((nxt x n).size ≠ 0 → bless z (nxt x n) = !bless x z)
  | 0, _, hq => ⟨fun _ => bl_full (by simpa using hq) (by rw [toList_len, toList_len]; omega), fun h => absurd rfl h⟩
  | n + 1, hn, hq => by
    have hl : x.toList.length = 8 := by rw [toList_len, h8]
    have hg := get_list x n (by omega)
    unfold nxt
    by_cases hb : (x.get! n).toNat < 255
    · rw [if_pos hb]
      refine ⟨fun h => ?_, fun _ => ?_⟩
      · have := congrArg List.length (app_list (x.extract 0 n) ⟨#[x.get! n + 1]⟩)
        rw [toList_len, h] at this
        simp [toList_len] at this
      · have h1 := bl_up (x.toList.take n) (x.get! n) (x.toList.drop (n + 1)) z.toList hb hq (by simp [toList_len]; omega)
        rw [show bless z (x.extract 0 n ++ ⟨#[x.get! n + 1]⟩) = Op.bytesLess z.toList (x.toList.take n ++ [x.get! n + 1]) by
          unfold bless; rw [app_list, ext_list, one_list]]
        rw [h1]
        congr 2
        rw [← hg, List.getElem_cons_drop, List.take_append_drop]
    · rw [if_neg hb]
      have hb2 : x.get! n = 255 := UInt8.toNat_inj.1 (by have := (x.get! n).toNat_lt; show _ = 255; omega)
      exact nxt_spec x h8 z hz n (by omega) (by
        rw [List.drop_eq_getElem_cons (by omega), hg, hb2]
        intro c hc
        rcases List.mem_cons.1 hc with rfl | hc
        · rfl
        · exact hq c hc)
/-- the least key above -/
theorem next_spec (x z : ByteArray) (hx : x.size ≤ 8) (hz : z.size ≤ 8) : ((nextKey x).size = 0 → bless x z = false) ∧ ((nextKey x).size ≠ 0 → bless z (nextKey x) = !bless x z) := by
  unfold nextKey
  by_cases h : x.size < 8
  · rw [if_pos h]
    refine ⟨fun e => ?_, fun _ => ?_⟩
    · have := congrArg List.length (app_list x ⟨#[0]⟩)
      rw [toList_len, e] at this
      simp [toList_len] at this
    · unfold bless
      rw [app_list, one_list]
      exact bl_zero _ _
  · rw [if_neg h]
    have h8 : x.size = 8 := by omega
    exact nxt_spec x h8 z hz 8 (Nat.le_refl _) (by rw [List.drop_eq_nil_of_le (by rw [toList_len]; omega)]; intro c hc; cases hc)
end Go.Proofs.Ytmlnjeoibpffoaa
