import Derived.Test.YtmlnjeoibpffoaaGreatAsk1
import Derived.Test.YtmlnjeoibpffoaaGreatKeys
namespace Go.Proofs.YtmlnjeoibpffoaaGreat
open Go.RowKit

/-- a message, its slices as they lie -/
structure MV where
  k : Int
  ep : Int
  req : Int
  ser : Int
  fl : Bool
  ts : Int
  last : Int
  n : Int
  m : Int
  p : Int
  e : Int
  key : ByteArray
  to : ByteArray
  ce : Int
  cA : Option Addr
  cn : Nat
  cc : Nat
  cf : Int
  bc : Int
  bq : Int
  bA : Option Addr
  bn : Nat
  bk : Nat
  eA : Option Addr
  en : Nat
  ek : Nat
  sA : Option Addr
  sn : Nat
  sk : Nat

set_option maxHeartbeats 1000000 in
set_option maxRecDepth 100000 in
theorem taskEnd_any {ph : Value} {q waits : Int} (p : Nat) (w : World) (r0 e0 t0 p0 : Int) (A : Option Addr) (n cap : Nat)
    (hB : Blk w p 109 #[ph, .int .i64 q, .int .i64 waits, .bool false, .int .i64 0, .int .i64 0, .int .u64 0, .int .i64 0, .slice none 0 0]) :
    Calls Tryz.prog 56 #[.pointer (some ⟨p, 0, none⟩), .agg #[.int .i64 r0, .int .i64 e0, .int .u64 t0, .int .i64 p0, .slice A n cap]] w fun e w' => e = .returned (.tuple #[]) ∧ Blk w' p 109 #[ph, .int .i64 q, .int .i64 waits, .bool true, .int .i64 q, .int .i64 e0, .int .u64 t0, .int .i64 p0, .slice A n cap] ∧ Chg (· = p) w w' := by
  have hc := fun i => hB.cell i
  have hf := fun i => hB.frozen i
  have hlt := hB.lt
  go_enter Tryz.func56, Tryz.ntmps56
  go_wp2_with fail
  go_region
  go_wp2_with fail
  go_end0
  exact ⟨rfl, (by apply Blk.conv; (repeat (first | (with_reducible first | exact hB | apply Blk.drew | apply Blk.drewN | apply Blk.alloc | apply Blk.set_))); rfl), (by repeat (first | (with_reducible exact Chg.refl _ _) | (with_reducible apply Chg.drew) | (with_reducible apply Chg.drewN) | (with_reducible apply Chg.alloc) | (with_reducible apply Chg.setCell; rotate_left; (first | exact .inl rfl | exact .inr (Nat.le_refl _)))))⟩
end Go.Proofs.YtmlnjeoibpffoaaGreat
