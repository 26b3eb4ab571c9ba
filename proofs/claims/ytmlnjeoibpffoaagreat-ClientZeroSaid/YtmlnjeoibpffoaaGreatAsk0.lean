/- Asks: the data. -/
import Derived.Test.YtmlnjeoibpffoaaGreatNorm
namespace Go.Proofs.YtmlnjeoibpffoaaGreat
open Go.RowKit

structure AskD where
  k : Int
  node : Int
  key : ByteArray
  to : ByteArray
  ts : Int
  n : Int
structure ReplyD where
  req : Int
  e : Int
  ts : Int
  pin : Int
  pairs : List PairD
def ReplyD.zero : ReplyD := ⟨0, 0, 0, 0, []⟩
/-- how many pairs a page has -/
def pageSize (n : Int) (len : Nat) : Int := if 2 ≤ n - (len : Int) then 2 else n - len
theorem rowMsg : RowTy Tryz.prog 57 22 := ⟨_, Tryz.underlying57, rfl, by kernel_rfl⟩
theorem rowReply : RowTy Tryz.prog 32 5 := ⟨_, Tryz.underlying32, rfl, by kernel_rfl⟩
theorem rowAsk : RowTy Tryz.prog 39 7 := ⟨_, Tryz.underlying39, rfl, by kernel_rfl⟩
end Go.Proofs.YtmlnjeoibpffoaaGreat
