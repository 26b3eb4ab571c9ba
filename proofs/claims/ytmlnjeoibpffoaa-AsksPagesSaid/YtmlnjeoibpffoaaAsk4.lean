import Derived.Test.YtmlnjeoibpffoaaAsk3
namespace Go.Proofs.Ytmlnjeoibpffoaa
open Go.RowKit
set_option linter.unusedVariables false
set_option linter.unusedSimpArgs false

def lastKey (l : List PairD) : ByteArray := match l.getLast? with
  | some x => nextKey x.key
  | none => ⟨#[]⟩
/-- is there another page? -/
def pMore (fl : Bool) (lim : Int) (tot : Nat) (l : List PairD) : Bool := fl && decide (l ≠ []) && decide ((tot : Int) < lim) && decide ((lastKey l).size ≠ 0)
/-- the world behind a page -/
def PageW (B p r : Nat) (w : World) (P0 : Array Value) (PE RM : Option Addr → Nat → Array Value) (more : Bool) (A : Option Addr) (N : Nat) (l : List PairD) (w' : World) : Prop :=
  ∃ A' c', (if more = true then Blk w' p 77 P0 ∧ Blk w' r 82 (RM A' c') else Blk w' p 77 (PE A' c')) ∧ SlO PairD.enc B 27 2 w' A' N c' l ∧ Chg (fun b => b = p ∨ b = r ∨ A.map (·.block) = some b) w w'
theorem PageW.base {B p r : Nat} {w0 w w' : World} {P0 : Array Value} {PE RM : Option Addr → Nat → Array Value} {more : Bool} {A : Option Addr} {N : Nat} {l : List PairD} (h : PageW B p r w P0 PE RM more A N l w')
    (hc : Chg (fun b => b = p ∨ b = r ∨ A.map (·.block) = some b) w0 w) : PageW B p r w0 P0 PE RM more A N l w' := by
  obtain ⟨A', c', h1, h2, h3⟩ := h
  exact ⟨A', c', h1, h2, hc.trans h3 fun b e => .inl e⟩
theorem lastKey_take {mps : List PairD} {ln : Nat} {x : PairD} (h : 0 < ln) (hx : mps[ln - 1]? = some x) : lastKey (mps.take ln) = nextKey x.key ∧ mps.take ln ≠ [] := by
  obtain ⟨hlt, rfl⟩ := List.getElem?_eq_some_iff.1 hx
  have hl : (mps.take ln).length = ln := by rw [List.length_take]; omega
  have : (mps.take ln).getLast? = some (mps[ln - 1]) := by
    rw [List.getLast?_eq_getElem?, hl, List.getElem?_take, if_pos (by omega)]; exact hx
  exact ⟨by simp [lastKey, this], fun e => by rw [e] at hl; simp at hl; omega⟩

theorem page_all {c q : Int} {Ao : Option Addr} {no co : Nat} {a : AskD} {Aq : Option Addr} {na cq : Nat} {ts : Int} {key : ByteArray} {A : Option Addr} {n cap : Nat} {B : Nat} {ph : Value} {waits : Int} {S : Nat → Prop} {pA : Option Addr} {pn pk : Nat} (p r : Nat) (w : World) (m : MV) (mps prs : List PairD)
    (hP : Blk w p 77 #[ph, .int .i64 q, .int .i64 waits, .bool false, .int .i64 0, .int .i64 0, .int .u64 0, .int .i64 0, .slice none 0 0]) (hR : Blk w r 82 #[.int .i64 c, .int .i64 q, .slice Ao no co, .int .i64 a.k, .int .i64 a.node, .string a.key, .string a.to, .int .u64 a.ts, .int .i64 a.n, .slice Aq na cq, .int .u64 ts, .string key, .slice A n cap]) (ho : SlO PairD.enc B 27 2 w A n cap prs) (hm : SlR PairD.enc S w pA pn mps)
    (hS : ∀ b, S b → b < w.heap.size ∧ A.map (·.block) ≠ some b ∧ b ≠ p ∧ b ≠ r) (hmc : pn ≤ pk) (hmn : pn ≤ 1000000000) (ha : (n : Int) < a.n) (ha2 : a.n ≤ 32) (ln : Nat) (hln : (ln : Int) = min (pn : Int) (pageSize a.n n)) (hB : B ≤ w.heap.size) :
    Calls Try.prog 93 #[.pointer (some ⟨r, 0, none⟩), .pointer (some ⟨p, 0, none⟩), .agg #[.int .i64 m.k, .int .i64 m.ep, .int .i64 m.req, .int .i64 m.ser, .bool m.fl, .int .u64 m.ts, .int .u64 m.last, .int .i64 m.n, .int .i64 m.m, .int .i64 m.p, .int .i64 m.e, .string m.key, .string m.to, .int .i64 m.ce, .slice m.cA m.cn m.cc, .int .u64 m.cf, .int .i64 m.bc, .int .i64 m.bq, .slice m.bA m.bn m.bk, .slice m.eA m.en m.ek, .slice m.sA m.sn m.sk, .slice pA pn pk]] w fun e w' => e = .returned (.bool (pMore m.fl a.n (n + ln) (mps.take ln))) ∧
      PageW B p r w #[ph, .int .i64 q, .int .i64 0, .bool false, .int .i64 0, .int .i64 0, .int .u64 0, .int .i64 0, .slice none 0 0] (fun A' c' => #[ph, .int .i64 q, .int .i64 0, .bool true, .int .i64 q, .int .i64 0, .int .u64 ts, .int .i64 0, .slice A' (n + ln) c']) (fun A' c' => #[.int .i64 c, .int .i64 q, .slice Ao no co, .int .i64 a.k, .int .i64 a.node, .string a.key, .string a.to, .int .u64 a.ts, .int .i64 a.n, .slice Aq na cq, .int .u64 ts, .string (lastKey (mps.take ln)), .slice A' (n + ln) c']) (pMore m.fl a.n (n + ln) (mps.take ln)) A (n + ln) (prs ++ mps.take ln) w' := by
  have hl : ln ≤ mps.length := by have := hm.1; omega
  cases hfl : m.fl with
  | false =>
    have hpm : pMore false a.n (n + ln) (mps.take ln) = false := by simp [pMore]
    rw [hpm]
    refine (page_end1 p r w m mps prs hP hR ho hm hS hmc hmn ha ha2 ln hln hB).mono ?_
    rintro e w' ⟨A', c', h1, h2, h3, h4⟩
    exact ⟨h1, A', c', by rw [if_neg (by simp)]; exact h2, h3, h4⟩
  | true =>
    by_cases h0 : ln = 0
    · have hpm : pMore true a.n (n + ln) (mps.take ln) = false := by simp [pMore, h0]
      rw [hpm]
      refine (page_end2 p r w m mps prs hP hR ho hm hS hmc hmn ha ha2 ln hln h0 hB).mono ?_
      rintro e w' ⟨A', c', h1, h2, h3, h4⟩
      exact ⟨h1, A', c', by rw [if_neg (by simp)]; exact h2, h3, h4⟩
    · have h0' : 0 < ln := by omega
      obtain ⟨x, hx⟩ : ∃ x, mps[ln - 1]? = some x := ⟨_, List.getElem?_eq_getElem (by omega)⟩
      obtain ⟨hk, hne⟩ := lastKey_take h0' hx
      by_cases h1 : ((n + ln : Nat) : Int) < a.n
      · by_cases h2 : (nextKey x.key).size = 0
        · have hpm : pMore true a.n (n + ln) (mps.take ln) = false := by simp [pMore, hk, h2]
          rw [hpm]
          refine (page_end4 p r w m mps prs hP hR ho hm hS hmc hmn ha ha2 ln hln h0' h1 x hx h2 hB).mono ?_
          rintro e w' ⟨A', c', ⟨h5, h6⟩, h3, h4⟩
          exact ⟨h5, A', c', by rw [if_neg (by simp)]; exact h6, h3, h4⟩
        · have hpm : pMore true a.n (n + ln) (mps.take ln) = true := by
            unfold pMore; rw [hk]; simp only [Bool.true_and, Bool.and_eq_true, decide_eq_true_eq]; exact ⟨⟨hne, h1⟩, h2⟩
          rw [hpm]
          refine (page_more p r w m mps prs hP hR ho hm hS hmc hmn ha ha2 ln hln h0' h1 x hx h2 hB).mono ?_
          rintro e w' ⟨A', c', ⟨h5, h6, h7⟩, h3, h4⟩
          exact ⟨h5, A', c', by rw [if_pos rfl, hk]; exact ⟨h6, h7⟩, h3, h4⟩
      · have hpm : pMore true a.n (n + ln) (mps.take ln) = false := by simp only [pMore, h1]; simp
        rw [hpm]
        refine (page_end3 p r w m mps prs hP hR ho hm hS hmc hmn ha ha2 ln hln h0' (by omega) hB).mono ?_
        rintro e w' ⟨A', c', h5, h6, h3, h4⟩
        exact ⟨h5, A', c', by rw [if_neg (by simp)]; exact h6, h3, h4⟩

set_option maxHeartbeats 2000000 in
set_option maxRecDepth 100000 in
theorem take_page {c q : Int} {Ao : Option Addr} {no co : Nat} {a : AskD} {Aq : Option Addr} {na cq : Nat} {ts : Int} {key : ByteArray} {A : Option Addr} {n cap : Nat} {B : Nat} {ph : Value} {waits : Int} {S : Nat → Prop} {pA : Option Addr} {pn pk : Nat} (p r : Nat) (w : World) (m : MV) (mps prs : List PairD)
    (hP : Blk w p 77 #[ph, .int .i64 q, .int .i64 waits, .bool false, .int .i64 0, .int .i64 0, .int .u64 0, .int .i64 0, .slice none 0 0]) (hR : Blk w r 82 #[.int .i64 c, .int .i64 q, .slice Ao no co, .int .i64 a.k, .int .i64 a.node, .string a.key, .string a.to, .int .u64 a.ts, .int .i64 a.n, .slice Aq na cq, .int .u64 ts, .string key, .slice A n cap]) (ho : SlO PairD.enc B 27 2 w A n cap prs) (hm : SlR PairD.enc S w pA pn mps)
    (hS : ∀ b, S b → b < w.heap.size ∧ A.map (·.block) ≠ some b ∧ b ≠ p ∧ b ≠ r) (hmc : pn ≤ pk) (hmn : pn ≤ 1000000000) (ha : (n : Int) < a.n) (ha2 : a.n ≤ 32) (ln : Nat) (hln : (ln : Int) = min (pn : Int) (pageSize a.n n)) (hk2 : (a.k == 2) = true) (hk3 : (a.k != 2) = false) (hB : B ≤ w.heap.size) :
    Calls Try.prog 92 #[.pointer (some ⟨r, 0, none⟩), .pointer (some ⟨p, 0, none⟩), .agg #[.int .i64 10, .int .i64 m.ep, .int .i64 m.req, .int .i64 m.ser, .bool m.fl, .int .u64 ts, .int .u64 m.last, .int .i64 m.n, .int .i64 m.m, .int .i64 m.p, .int .i64 m.e, .string key, .string m.to, .int .i64 m.ce, .slice m.cA m.cn m.cc, .int .u64 m.cf, .int .i64 m.bc, .int .i64 m.bq, .slice m.bA m.bn m.bk, .slice m.eA m.en m.ek, .slice m.sA m.sn m.sk, .slice pA pn pk]] w fun e w' => e = .returned (.bool (pMore m.fl a.n (n + ln) (mps.take ln))) ∧
      PageW B p r w #[ph, .int .i64 q, .int .i64 0, .bool false, .int .i64 0, .int .i64 0, .int .u64 0, .int .i64 0, .slice none 0 0] (fun A' c' => #[ph, .int .i64 q, .int .i64 0, .bool true, .int .i64 q, .int .i64 0, .int .u64 ts, .int .i64 0, .slice A' (n + ln) c']) (fun A' c' => #[.int .i64 c, .int .i64 q, .slice Ao no co, .int .i64 a.k, .int .i64 a.node, .string a.key, .string a.to, .int .u64 a.ts, .int .i64 a.n, .slice Aq na cq, .int .u64 ts, .string (lastKey (mps.take ln)), .slice A' (n + ln) c']) (pMore m.fl a.n (n + ln) (mps.take ln)) A (n + ln) (prs ++ mps.take ln) w' := by
  have HO := Lib.hid ho
  have HM := Lib.hid hm
  have HS := Lib.hid hS
  have hcp := fun i => hP.cell i
  have hcr := fun i => hR.cell i
  have lp := hP.lt
  have lr := hR.lt
  have HLN := Lib.hid hln
  clear ho hm hS hln
  go_enter Try.func92, Try.ntmps92
  go_wp2_with fail
  go_quiet (fail)
  go_wp2_with (refine wpList_get rfl 52 (.tmp 5) rfl (g := w.heap.size) (t := 52) (cs := #[.int .i64 10, .int .i64 m.ep, .int .i64 m.req, .int .i64 m.ser, .bool m.fl, .int .u64 ts, .int .u64 m.last, .int .i64 m.n, .int .i64 m.m, .int .i64 m.p, .int .i64 m.e, .string key, .string m.to, .int .i64 m.ce, .slice m.cA m.cn m.cc, .int .u64 m.cf, .int .i64 m.bc, .int .i64 m.bq, .slice m.bA m.bn m.bk, .slice m.eA m.en m.ek, .slice m.sA m.sn m.sk, .slice pA pn pk]) ?_ ?_ rowMsg ?_; rfl; exact (by repeat (with_reducible first | exact Blk.new _ _ _ | apply Blk.drew | apply Blk.drewN | apply Blk.alloc)))
  refine (page_all (ts := ts) (key := key) (a := a) (c := c) (q := q) (ph := ph) (waits := waits) (S := S) p r _ { m with k := 10, ts := ts, key := key } mps prs (by repeat (with_reducible first | exact hP | apply Blk.drew | apply Blk.drewN | apply Blk.alloc)) (by repeat (with_reducible first | exact hR | apply Blk.drew | apply Blk.drewN | apply Blk.alloc)) (by repeat (with_reducible first | exact HO.out | apply SlO.drew | apply SlO.drewN | apply SlO.alloc)) (by repeat (with_reducible first | exact HM.out | apply SlR.drew | apply SlR.drewN | exact SlR.alloc HM.out (fun b hb => (HS.out b hb).1) _)) (by intro b hb; have hh := HS.out b hb; exact ⟨Nat.lt_of_lt_of_le hh.1 (by simp), hh.2⟩) hmc hmn ha ha2 ln HLN.out (by simp; omega)).mono ?_
  rintro e w2 ⟨rfl, hw2⟩
  go_wp2_with fail
  go_ret
  exact ⟨rfl, hw2.base (by repeat (first | (with_reducible exact Chg.refl _ _) | (with_reducible apply Chg.drew) | (with_reducible apply Chg.drewN) | (with_reducible apply Chg.alloc) | (with_reducible apply Chg.setCell; rotate_left; (first | exact .inl rfl | exact .inr (Nat.le_refl _)))))⟩
end Go.Proofs.Ytmlnjeoibpffoaa
