/- client: one that nobody made does nothing. -/
import Derived.Test.YtmlnjeoibpffoaaGreatMess3
import Derived.Test.YtmlnjeoibpffoaaGreatPin
namespace Go.Proofs.YtmlnjeoibpffoaaGreat
open Go.RowKit
set_option linter.unusedVariables false
set_option linter.unusedSimpArgs false

/-- the zero client -/
def zeroCells : Array Value := #[.int .i64 0, .int .i64 0, .int .i64 0, .int .i64 0, .pointer none, .int .i64 0, .int .i64 0, .int .u64 0, .int .i64 0, .slice none 0 0, .bool false, .bool false, .int .i64 0, .bool false]
/-- a client that nobody made -/
def ZeroC (v : Value) (w : World) : Prop := v = .pointer none ∨ ∃ p, v = .pointer (some ⟨p, 0, none⟩) ∧ Blk w p 71 zeroCells
theorem ZeroC.keep {v : Value} {w w' : World} (h : ZeroC v w) (hb : Bel w.heap.size w w') : ZeroC v w' := by
  rcases h with h | ⟨p, h, hB⟩
  · exact .inl h
  · exact .inr ⟨p, h, hb.blk hB hB.lt⟩
theorem ZeroC.alloc {v : Value} {w : World} (h : ZeroC v w) (o : Obj) : ZeroC v (w.alloc o) := h.keep ((Bel.refl _ w).alloc (Nat.le_refl _) o)

set_option maxHeartbeats 1000000 in
theorem none_zero (v : Value) (w : World) (h : ZeroC v w) :
    Calls Tryz.prog 24 #[v] w (Ret (.bool true) w) := by
  rcases h with rfl | ⟨p, rfl, hB⟩
  · go_enter Tryz.func24, Tryz.ntmps24
    go_wp2_with fail
    go_ret
    exact ⟨rfl, rfl⟩
  · have hc := fun i => hB.cell i
    unfold zeroCells at hc
    go_enter Tryz.func24, Tryz.ntmps24
    go_wp2_with fail
    go_ret
    exact ⟨rfl, rfl⟩

set_option maxHeartbeats 1000000 in
set_option maxRecDepth 100000 in
theorem start_zero {ak node ts n : Int} {Aq : Option Addr} {na cq : Nat} {key to : ByteArray} (v : Value) (w : World) (h : ZeroC v w) :
    Calls Tryz.prog 12 #[v, .agg #[.int .i64 ak, .int .i64 node, .string key, .string to, .int .u64 ts, .int .i64 n, .slice Aq na cq]] w (RetB (.tuple #[.slice none 0 0, .int .i64 8]) w) := by
  have H := Lib.hid h
  have H1 : Hid (∀ o, ZeroC v (w.alloc o)) := Lib.hid (fun o => h.alloc o)
  clear h
  go_enter Tryz.func12, Tryz.ntmps12
  go_wp2_with (go_at_call 24; refine (none_zero v _ (H1.out _)).mono ?_; rintro e w1 ⟨rfl, rfl⟩)
  go_ret2
  exact ⟨rfl, (Bel.refl _ _).alloc (Nat.le_refl _) _⟩

set_option maxHeartbeats 1000000 in
set_option maxRecDepth 100000 in
theorem tick_zero  (v : Value) (w : World) (h : ZeroC v w) :
    Calls Tryz.prog 13 #[v] w (RetB (.slice none 0 0) w) := by
  have H := Lib.hid h
  have H1 : Hid (∀ o, ZeroC v (w.alloc o)) := Lib.hid (fun o => h.alloc o)
  clear h
  go_enter Tryz.func13, Tryz.ntmps13
  go_wp2_with (go_at_call 24; refine (none_zero v _ (H.out)).mono ?_; rintro e w1 ⟨rfl, rfl⟩)
  go_ret
  exact ⟨rfl, Bel.refl _ _⟩

set_option maxHeartbeats 1000000 in
set_option maxRecDepth 100000 in
theorem deliver_zero (n : Int) (s : ByteArray) (v : Value) (w : World) (h : ZeroC v w) :
    Calls Tryz.prog 14 #[v, .int .i64 n, .string s] w (RetB (.slice none 0 0) w) := by
  have H := Lib.hid h
  have H1 : Hid (∀ o, ZeroC v (w.alloc o)) := Lib.hid (fun o => h.alloc o)
  clear h
  go_enter Tryz.func14, Tryz.ntmps14
  go_wp2_with (go_at_call 24; refine (none_zero v _ (H.out)).mono ?_; rintro e w1 ⟨rfl, rfl⟩)
  go_ret
  exact ⟨rfl, Bel.refl _ _⟩

set_option maxHeartbeats 1000000 in
set_option maxRecDepth 100000 in
theorem hint_zero  (v : Value) (w : World) (h : ZeroC v w) :
    Calls Tryz.prog 23 #[v] w (RetB (.tuple #[.int .i64 0, .int .i64 (-1)]) w) := by
  have H := Lib.hid h
  have H1 : Hid (∀ o, ZeroC v (w.alloc o)) := Lib.hid (fun o => h.alloc o)
  clear h
  go_enter Tryz.func23, Tryz.ntmps23
  go_wp2_with (go_at_call 24; refine (none_zero v _ (H.out)).mono ?_; rintro e w1 ⟨rfl, rfl⟩)
  go_ret2
  exact ⟨rfl, Bel.refl _ _⟩

set_option maxHeartbeats 1000000 in
set_option maxRecDepth 100000 in
theorem req_zero  (v : Value) (w : World) (h : ZeroC v w) :
    Calls Tryz.prog 11 #[v] w (RetB (.int .i64 0) w) := by
  have H := Lib.hid h
  have H1 : Hid (∀ o, ZeroC v (w.alloc o)) := Lib.hid (fun o => h.alloc o)
  clear h
  go_enter Tryz.func11, Tryz.ntmps11
  go_wp2_with (go_at_call 24; refine (none_zero v _ (H.out)).mono ?_; rintro e w1 ⟨rfl, rfl⟩)
  go_ret
  exact ⟨rfl, Bel.refl _ _⟩

set_option maxHeartbeats 1000000 in
set_option maxRecDepth 100000 in
theorem busy_zero  (v : Value) (w : World) (h : ZeroC v w) :
    Calls Tryz.prog 10 #[v] w (RetB (.bool false) w) := by
  have H := Lib.hid h
  have H1 : Hid (∀ o, ZeroC v (w.alloc o)) := Lib.hid (fun o => h.alloc o)
  clear h
  go_enter Tryz.func10, Tryz.ntmps10
  go_wp2_with (go_at_call 24; refine (none_zero v _ (H.out)).mono ?_; rintro e w1 ⟨rfl, rfl⟩)
  go_ret
  exact ⟨rfl, Bel.refl _ _⟩

set_option maxHeartbeats 1000000 in
set_option maxRecDepth 100000 in
theorem reply_zero  (v : Value) (w : World) (h : ZeroC v w) :
    Calls Tryz.prog 9 #[v] w (RetB (.tuple #[.agg #[.int .i64 0, .int .i64 0, .int .u64 0, .int .i64 0, .slice none 0 0], .bool false]) w) := by
  have H := Lib.hid h
  have H1 : Hid (∀ o, ZeroC v (w.alloc o)) := Lib.hid (fun o => h.alloc o)
  clear h
  go_enter Tryz.func9, Tryz.ntmps9
  go_wp2_with (go_at_call 24; refine (none_zero v _ (H1.out _)).mono ?_; rintro e w1 ⟨rfl, rfl⟩)
  exact ret_ct (cs := #[.int .i64 0, .int .i64 0, .int .u64 0, .int .i64 0, .slice none 0 0]) Tryz.results9 rfl (by repeat (with_reducible first | exact Blk.new _ _ _ | apply Blk.drew | apply Blk.drewN | apply Blk.alloc)) rowReply rfl ⟨rfl, (Bel.refl _ _).alloc (Nat.le_refl _) _⟩
end Go.Proofs.YtmlnjeoibpffoaaGreat
