/- Page by page: plain. -/
import Derived.Test.YtmlnjeoibpffoaaOrder
import Derived.Test.YtmlnjeoibpffoaaAsk9
namespace Go.Proofs.Ytmlnjeoibpffoaa
set_option linter.unusedVariables false
set_option linter.unusedSimpArgs false

def opOf (x : PairD) : OpD := ⟨x.key, x.val, false⟩
def pairOf (x : OpD) : PairD := ⟨x.key, x.val⟩
/-- the pairs between from .. to -/
def wantOf (f t : ByteArray) (l : List OpD) : List PairD := (l.filter (fun x => between f t x.key)).map pairOf
theorem wantOf_snoc {f t : ByteArray} {l : List OpD} {j : Nat} {x : OpD} (h : l[j]? = some x) : wantOf f t (l.take (j + 1)) = wantOf f t (l.take j) ++ (if between f t x.key = true then [pairOf x] else []) := by
  rw [take_snoc' h, wantOf, List.filter_append, List.map_append]
  congr 1
  by_cases hk : between f t x.key = true <;> simp [hk]
/-- what a run of them has found so far is a head of all -/
theorem wantOf_head {f t : ByteArray} {l : List OpD} (j : Nat) : (wantOf f t l).take (wantOf f t (l.take j)).length = wantOf f t (l.take j) := by
  have h : wantOf f t l = wantOf f t (l.take j) ++ wantOf f t (l.drop j) := by
    unfold wantOf; rw [← List.map_append, ← List.filter_append, List.take_append_drop]
  conv => lhs; rw [h]
  simp
def allOf (xs : List PairD) : List OpD := (xs.filter (fun x => keyOk x.key)).map opOf

/-- where a scan stands ahead of a page -/
structure PgAt (f t : ByteArray) (L : List OpD) (M : Nat) (K : ByteArray) (g : Nat) : Prop where
  lt : g < M
  rest : wantOf K t L = (wantOf f t L).drop g
/-- what the pages bring -/
def PagesOk (f t : ByteArray) (L : List OpD) (M : Nat) : Prop := ∀ (K : ByteArray) (g psz : Nat), PgAt f t L M K g → (psz : Int) = pageSize M g →
  (pMore (decide (psz < (wantOf K t L).length)) M (g + ((wantOf K t L).take psz).length) ((wantOf K t L).take psz) = true → PgAt f t L M (lastKey ((wantOf K t L).take psz)) (g + ((wantOf K t L).take psz).length) ∧ 1 ≤ ((wantOf K t L).take psz).length ∧
    (wantOf f t L).take g ++ (wantOf K t L).take psz = (wantOf f t L).take (g + ((wantOf K t L).take psz).length)) ∧
  (pMore (decide (psz < (wantOf K t L).length)) M (g + ((wantOf K t L).take psz).length) ((wantOf K t L).take psz) = false → (wantOf f t L).take g ++ (wantOf K t L).take psz = (wantOf f t L).take M)
theorem allOf_len (xs : List PairD) : (allOf xs).length ≤ xs.length := by unfold allOf; rw [List.length_map]; exact List.length_filter_le _ _
theorem allOf_snoc {xs : List PairD} {j : Nat} {x : PairD} (h : xs[j]? = some x) : allOf (xs.take (j + 1)) = allOf (xs.take j) ++ (if keyOk x.key = true then [opOf x] else []) := by
  rw [take_snoc' h, allOf, List.filter_append, List.map_append]
  congr 1
  by_cases hk : keyOk x.key = true <;> simp [hk]


/-! ### order -/
def Srt (l : List ByteArray) : Prop := l.Pairwise (fun x y => bless x y = true)
theorem setIns_cons (y : ByteArray) (ys : List ByteArray) (x : ByteArray) : setIns (y :: ys) x = if bless y x = true then y :: setIns ys x else if y = x then y :: ys else x :: y :: ys := by
  unfold setIns
  by_cases h : bless y x = true
  · simp only [insK, h, if_true, List.getElem?_cons_succ, List.take_succ_cons, List.drop_succ_cons]
    split <;> simp
  · simp only [insK, h, List.getElem?_cons_zero, List.take_zero, List.drop_zero, Option.some.injEq]
    simp
theorem setIns_mem {l : List ByteArray} {x z : ByteArray} (h : z ∈ setIns l x) : z = x ∨ z ∈ l := by
  induction l with
  | nil => simpa [setIns, insK] using h
  | cons y ys ih =>
    rw [setIns_cons] at h
    split at h
    · rcases List.mem_cons.1 h with rfl | h
      · simp
      · rcases ih h with h | h <;> simp [h]
    · split at h
      · exact .inr h
      · rcases List.mem_cons.1 h with h | h
        · exact .inl h
        · exact .inr h
theorem setIns_srt {l : List ByteArray} (x : ByteArray) (h : Srt l) : Srt (setIns l x) := by
  induction l with
  | nil => simp [setIns, insK, Srt]
  | cons y ys ih =>
    have h1 := List.pairwise_cons.1 h
    rw [setIns_cons]
    split
    · rename_i hy
      refine List.pairwise_cons.2 ⟨fun z hz => ?_, ih h1.2⟩
      rcases setIns_mem hz with rfl | hz
      · exact hy
      · exact h1.1 z hz
    · split
      · exact h
      · rename_i hy hne
        have hxy : bless x y = true := by
          cases hh : bless x y with
          | true => rfl
          | false => exact absurd (bless_conn (by simpa using hy) hh) hne
        refine List.pairwise_cons.2 ⟨fun z hz => ?_, h⟩
        rcases List.mem_cons.1 hz with rfl | hz
        · exact hxy
        · exact bless_trans hxy (h1.1 z hz)
theorem setOf_srt (l : List ByteArray) : Srt (setOf l) := by
  have : ∀ (l o : List ByteArray), Srt o → Srt (l.foldl setIns o) := by
    intro l
    induction l with
    | nil => intro o h; exact h
    | cons x xs ih => intro o h; exact ih _ (setIns_srt x h)
  exact this l [] List.Pairwise.nil
theorem setOf_mem {l : List ByteArray} {z : ByteArray} (h : z ∈ setOf l) : z ∈ l := by
  have : ∀ (l o : List ByteArray), z ∈ l.foldl setIns o → z ∈ l ∨ z ∈ o := by
    intro l
    induction l with
    | nil => intro o h; exact .inr h
    | cons x xs ih =>
      intro o h
      rcases ih _ h with h | h
      · exact .inl (by simp [h])
      · rcases setIns_mem h with rfl | h
        · exact .inl (by simp)
        · exact .inr h
  rcases this l [] h with h | h
  · exact h
  · cases h
theorem lastOf_key {l : List OpD} {nm : ByteArray} (h : nm ∈ l.map (·.key)) : (lastOf l nm).key = nm := by
  have : ∀ (l : List OpD) (acc : OpD), nm ∈ l.map (·.key) ∨ acc.key = nm → (l.foldl (fun acc o => if o.key = nm then o else acc) acc).key = nm := by
    intro l
    induction l with
    | nil => intro acc h; simpa using h
    | cons x xs ih =>
      intro acc h
      refine ih _ ?_
      show _ ∨ (if x.key = nm then x else acc).key = nm
      by_cases hx : x.key = nm
      · rw [if_pos hx]; exact .inr hx
      · rw [if_neg hx]
        rcases h with h | h
        · simp only [List.map_cons, List.mem_cons] at h
          rcases h with h | h
          · exact absurd h.symm hx
          · exact .inl h
        · exact .inr h
  exact this l _ (.inl h)
theorem normOf_keys (l : List OpD) : (normOf l).map (·.key) = setOf (l.map (·.key)) := by
  unfold normOf
  rw [List.map_map]
  conv => rhs; rw [← List.map_id (setOf (l.map (·.key)))]
  exact List.map_congr_left fun nm hnm => lastOf_key (setOf_mem hnm)
/-- the list that the law scans: its keys rise, and none is too long -/
theorem norm_all (xs : List PairD) : Srt ((normOf (allOf xs)).map (·.key)) ∧ ∀ x ∈ normOf (allOf xs), x.key.size ≤ 8 := by
  constructor
  · rw [normOf_keys]; exact setOf_srt _
  · intro x hx
    have h1 : x.key ∈ (normOf (allOf xs)).map (·.key) := List.mem_map.2 ⟨x, hx, rfl⟩
    rw [normOf_keys] at h1
    obtain ⟨y, hy, he⟩ := List.mem_map.1 (setOf_mem h1)
    obtain ⟨z, hz, rfl⟩ := List.mem_map.1 hy
    have hz2 := (List.mem_filter.1 hz).2
    rw [← he]
    simp [keyOk] at hz2
    exact hz2.2
theorem filter_above {l : List OpD} (h : Srt (l.map (·.key))) : ∀ (j : Nat) (x : OpD), l[j]? = some x → l.filter (fun z => bless x.key z.key) = l.drop (j + 1) := by
  induction l with
  | nil => intro j x hx; cases hx
  | cons y ys ih =>
    have h1 := List.pairwise_cons.1 h
    intro j x hx
    match j, hx with
    | 0, hx =>
      obtain rfl : y = x := by simpa using hx
      rw [List.filter_cons, if_neg (by rw [bless_irr]; simp)]
      simp only [Nat.zero_add, List.drop_succ_cons, List.drop_zero]
      exact List.filter_eq_self.2 fun z hz => h1.1 z.key (List.mem_map.2 ⟨z, hz, rfl⟩)
    | j + 1, hx =>
      have hx' : ys[j]? = some x := by simpa using hx
      have hyx : bless y.key x.key = true := h1.1 _ (List.mem_map.2 ⟨x, List.mem_of_getElem? hx', rfl⟩)
      rw [List.filter_cons, if_neg (by rw [bless_asym hyx]; simp), ih h1.2 j x hx']
      rfl
theorem srt_filter {l : List OpD} (p : OpD → Bool) (h : Srt (l.map (·.key))) : Srt ((l.filter p).map (·.key)) := by
  unfold Srt at *
  rw [List.pairwise_map] at *
  exact h.filter _
/-- what comes behind the last of a page -/
theorem rows_next {L : List OpD} {K t : ByteArray} (h : Srt (L.map (·.key))) (h8 : ∀ x ∈ L, x.key.size ≤ 8) {j : Nat} {x : OpD} (hx : (L.filter (fun z => between K t z.key))[j]? = some x) :
    ((nextKey x.key).size = 0 → (L.filter (fun z => between K t z.key)).length = j + 1) ∧ ((nextKey x.key).size ≠ 0 → L.filter (fun z => between (nextKey x.key) t z.key) = (L.filter (fun z => between K t z.key)).drop (j + 1)) := by
  have hs := srt_filter (fun z => between K t z.key) h
  have ha := filter_above hs j x hx
  have hm := List.mem_filter.1 (List.mem_of_getElem? hx)
  have hx8 := h8 x hm.1
  obtain ⟨hj, _⟩ := List.getElem?_eq_some_iff.1 hx
  constructor
  · intro he
    have h0 : (L.filter (fun z => between K t z.key)).filter (fun z => bless x.key z.key) = [] := List.filter_eq_nil_iff.2 fun z hz => by
      rw [(next_spec x.key z.key hx8 (h8 z (List.mem_filter.1 hz).1)).1 he]; simp
    rw [h0] at ha
    have := congrArg List.length ha
    simp at this
    omega
  · intro hne
    rw [← ha, List.filter_filter]
    refine List.filter_congr fun z hz => ?_
    have hn := (next_spec x.key z.key hx8 (h8 z hz)).2 hne
    have hmb := hm.2
    simp only [between, Bool.and_eq_true, Bool.not_eq_true'] at hmb
    unfold between
    rw [hn, Bool.not_not]
    cases hb : bless x.key z.key with
    | false => simp
    | true =>
      have hzk : bless z.key K = false := by
        cases hh : bless z.key K with
        | false => rfl
        | true => have := bless_trans hb hh; rw [hmb.1] at this; cases this
      simp [hzk]
theorem wantOf_filter (f t : ByteArray) (L : List OpD) : wantOf f t L = (L.filter (fun z => between f t z.key)).map pairOf := rfl
theorem pages_ok {L : List OpD} {f t : ByteArray} {M : Nat} (h : Srt (L.map (·.key))) (h8 : ∀ x ∈ L, x.key.size ≤ 8) : PagesOk f t L M := by
  intro K g psz hp hps
  obtain ⟨hg, hr⟩ := hp
  have hpb := pageSize_bd (n := (M : Int)) (len := g) (by omega)
  have hpm : (psz : Int) ≤ (M : Int) - g := by rw [hps]; unfold pageSize; split <;> omega
  have hgl : (wantOf K t L).length = (wantOf f t L).length - g := by rw [hr, List.length_drop]
  have happ : ∀ n, (wantOf f t L).take g ++ (wantOf K t L).take n = (wantOf f t L).take (g + n) := fun n => by rw [hr, List.take_add]
  have hlen : ((wantOf K t L).take psz).length = min psz (wantOf K t L).length := List.length_take
  have hup : (wantOf f t L).take g ++ (wantOf K t L).take psz = (wantOf f t L).take (g + ((wantOf K t L).take psz).length) := by
    rw [← happ, hlen, ← List.take_eq_take_min]
  constructor
  · intro hm
    simp only [pMore, Bool.and_eq_true, decide_eq_true_eq] at hm
    obtain ⟨⟨⟨h1, h2⟩, h3⟩, h4⟩ := hm
    have hl : ((wantOf K t L).take psz).length = psz := by rw [hlen]; omega
    have hx : ∃ x, (L.filter (fun z => between K t z.key))[psz - 1]? = some x := ⟨_, List.getElem?_eq_getElem (by rw [wantOf_filter, List.length_map] at h1; omega)⟩
    obtain ⟨x, hx⟩ := hx
    have hlast : lastKey ((wantOf K t L).take psz) = nextKey x.key := by
      unfold lastKey
      rw [List.getLast?_eq_getElem?, hl, List.getElem?_take, if_pos (by omega), wantOf_filter, List.getElem?_map, hx]
      rfl
    rw [hl] at h3 ⊢
    rw [hlast] at h4 ⊢
    refine ⟨⟨by omega, ?_⟩, by omega, ?_⟩
    · rw [wantOf_filter, (rows_next h h8 hx).2 h4, List.map_drop, ← wantOf_filter, hr, List.drop_drop]
      congr 1
      omega
    · rw [hup, hl]
  · intro hm
    by_cases hf : psz < (wantOf K t L).length
    · have hl : ((wantOf K t L).take psz).length = psz := by rw [hlen]; omega
      have hx : ∃ x, (L.filter (fun z => between K t z.key))[psz - 1]? = some x := ⟨_, List.getElem?_eq_getElem (by rw [wantOf_filter, List.length_map] at hf; omega)⟩
      obtain ⟨x, hx⟩ := hx
      have hlast : lastKey ((wantOf K t L).take psz) = nextKey x.key := by
        unfold lastKey
        rw [List.getLast?_eq_getElem?, hl, List.getElem?_take, if_pos (by omega), wantOf_filter, List.getElem?_map, hx]
        rfl
      have h4 : (nextKey x.key).size ≠ 0 := fun e => by
        have := (rows_next h h8 hx).1 e
        rw [wantOf_filter, List.length_map] at hf
        omega
      have hne : (wantOf K t L).take psz ≠ [] := fun e => by rw [e] at hl; simp at hl; omega
      have h3 : ¬ ((g + psz : Nat) : Int) < (M : Int) := fun e => by
        have : pMore (decide (psz < (wantOf K t L).length)) (M : Int) (g + ((wantOf K t L).take psz).length) ((wantOf K t L).take psz) = true := by
          simp only [pMore, Bool.and_eq_true, decide_eq_true_eq]
          rw [hl, hlast]
          exact ⟨⟨⟨hf, hne⟩, e⟩, h4⟩
        rw [this] at hm; cases hm
      rw [hup, hl]
      congr 1
      omega
    · rw [hup, hlen]
      rw [show min psz (wantOf K t L).length = (wantOf K t L).length by omega]
      rw [List.take_of_length_le (by omega), List.take_of_length_le (by omega)]
end Go.Proofs.Ytmlnjeoibpffoaa
