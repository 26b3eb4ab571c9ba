/- THE LAW ClientZero HOLDS FOR EVERY INPUT: a client that nobody made does nothing, whatever it is asked and whatever comes; what came in reads as it did. No condition. -/
import Derived.Test.YtmlnjeoibpffoaaGreatRow
import Derived.Test.YtmlnjeoibpffoaaGreatCli3
namespace Go.Proofs.YtmlnjeoibpffoaaGreat.clientZero
open Go.ChangeShapes Go.WideShapes Go.RowKit Go.Deep Go.Proofs.YtmlnjeoibpffoaaGreat
open Go.ChangeMaps (open_string shut_string)
set_option linter.unusedVariables false

set_option maxRecDepth 100000 in
theorem open_ask {H : Type} {enc : TypeId × Value → H} {w : World} {v : Value} {d : DataW H} {ps : List MemPlace} {r : Reach} {b0 : Nat} (hv : Value.okWide Tryz.prog w r b0 39 v) (h : DataW.Trod enc Tryz.prog w 0 (fun _ => true) true 39 v d ps) :
    ∃ ak node ts n Aq na cq key to, v = .agg #[.int .i64 ak, .int .i64 node, .string key, .string to, .int .u64 ts, .int .i64 n, .slice Aq na cq] := by
  obtain ⟨cs, rfl, hsz⟩ := okWide_struct Tryz.underlying39 hv
  obtain ⟨l⟩ := cs
  have hC : Tryz.prog.cellsOf 39 = 7 := by kernel_rfl
  match l, hsz.trans hC with
  | [c0, c1, c2, c3, c4, c5, c6], _ =>
    obtain ⟨fuel, hf⟩ := h
    obtain ⟨ys, n2, _, _, hlen, hyl, hf⟩ := DataW.trod_struct Tryz.underlying39 hf
    have h1 : Tryz.prog.cellsOf 3 = 1 := by kernel_rfl
    have h2 : Tryz.prog.cellsOf 9 = 1 := by kernel_rfl
    have h3 : Tryz.prog.cellsOf 29 = 1 := by kernel_rfl
    have h4 : Tryz.prog.cellsOf 37 = 1 := by kernel_rfl
    obtain ⟨ak, e0, _⟩ := DataW.trod_int Tryz.underlying3 ((hf 0 _ rfl).trans (List.getElem?_eq_getElem (by rw [hyl]; decide)))
    obtain ⟨node, e1, _⟩ := DataW.trod_int Tryz.underlying3 ((hf 1 _ rfl).trans (List.getElem?_eq_getElem (by rw [hyl]; decide)))
    obtain ⟨key, e2, _⟩ := DataW.trod_string Tryz.underlying9 ((hf 2 _ rfl).trans (List.getElem?_eq_getElem (by rw [hyl]; decide)))
    obtain ⟨to, e3, _⟩ := DataW.trod_string Tryz.underlying9 ((hf 3 _ rfl).trans (List.getElem?_eq_getElem (by rw [hyl]; decide)))
    obtain ⟨ts, e4, _⟩ := DataW.trod_int Tryz.underlying29 ((hf 4 _ rfl).trans (List.getElem?_eq_getElem (by rw [hyl]; decide)))
    obtain ⟨n, e5, _⟩ := DataW.trod_int Tryz.underlying3 ((hf 5 _ rfl).trans (List.getElem?_eq_getElem (by rw [hyl]; decide)))
    simp [Value.cells, h1, h2, h3] at e0 e1 e2 e3 e4 e5
    subst e0 e1 e2 e3 e4 e5
    have e6 : ∃ A na cq, c6 = .slice A na cq := by
      rcases DataW.trod_slice Tryz.underlying37 ((hf 6 _ rfl).trans (List.getElem?_eq_getElem (by rw [hyl]; decide))) with ⟨hcs, _⟩ | ⟨a, len, cap, elems, rest, n, _, hcs, _⟩
      · simp [Value.cells, h4] at hcs; exact ⟨_, _, _, hcs⟩
      · simp [Value.cells, h4] at hcs; exact ⟨_, _, _, hcs⟩
    obtain ⟨A, na, cq, rfl⟩ := e6
    exact ⟨_, _, _, _, _, _, _, _, _, rfl⟩

set_option maxHeartbeats 1000000 in
set_option maxRecDepth 100000 in
theorem lifted (os : Os) (started : os.Started) (H : Type) (enc : TypeId × Value → H) :
    ReturnsInHanded {} Tryz.checked os 5 .any (Rows.clientZeroSpec.pre6 enc Tryz.prog Tryz.f5 Rows.clientZeroRow.domain false) (Rows.clientZeroSpec.post enc Tryz.prog Tryz.f5 false true false false) := by
  refine returnsInHanded_of_change (C := Tryz.checked) Tryz.own started (by kernel_rfl) Tryz.func5
    (ChangeSpec.witness6 (enc := enc) (C := Tryz.checked) false ⟨#[], #[.int .i64 0, .agg #[.int .i64 0, .int .i64 0, .string ⟨#[]⟩, .string ⟨#[]⟩, .int .u64 0, .int .i64 0, .slice none 0 0], .string ⟨#[]⟩], []⟩ 8 (by kernel_rfl) (by kernel_rfl) (by kernel_rfl) (by kernel_rfl)) ?_
  intro W base args ds gs before hval0 hW hcnd0 _
  have hval : ∀ (j : Nat) t v, Tryz.f5.params[j]? = some t → args[j]? = some v → Value.okWide Tryz.prog W .any base t v := hval0
  have hW' := hW
  obtain ⟨p, q, hA0, hV, rfl, hfz, hnd⟩ := hW
  have hA : DataW.TrodAll enc Tryz.prog W 0 (fun _ => true) true Tryz.f5.params.toList args.toList ds p := hA0
  rw [Tryz.params5] at hA hval
  obtain ⟨v0, v1, v2, d0, d1, d2, p0, p1, p2, rfl, rfl, rfl, h0, h1, h2⟩ := trodAll_three hA
  obtain ⟨rfl, rfl⟩ := trodVars_none hV
  obtain ⟨x, rfl, rfl, rfl, _⟩ := open_int Tryz.underlying3 (hval 0 _ v0 rfl rfl) h0
  obtain ⟨ak, node, ts, n, Aq, na, cq, key, to, rfl⟩ := open_ask (hval 1 _ v1 rfl rfl) h1
  obtain ⟨s, rfl, rfl, rfl, _⟩ := open_string Tryz.underlying9 (hval 2 _ v2 rfl rfl) h2
  refine (clientZero_any x s W).mono fun e W' ⟨he, hb⟩ => ?_
  subst he
  exact ⟨_, rfl, law_post Tryz.laidOut (by kernel_rfl) rfl (by kernel_rfl) Tryz.underlying4 hW' rfl hb⟩
theorem proved : Rows.ClientZeroSaid :=
  OpenClaim.holds_of_wide 5 Tryz.f5 rfl rfl rfl rfl rfl rfl rfl ⟨rfl, rfl, rfl, rfl, rfl⟩ rfl rfl rfl rfl rfl (by kernel_rfl) Tryz.func5 (by kernel_rfl)
    (of_decide_eq_true (by kernel_rfl)) (by unfold Func.isWrapper; first | (rw [if_pos (by decide +kernel)]; kernel_rfl) | (rw [if_neg (by decide +kernel)]; exact ⟨rfl, rfl⟩))
    (fun os started H enc _ => lifted os started H enc)
end Go.Proofs.YtmlnjeoibpffoaaGreat.clientZero
