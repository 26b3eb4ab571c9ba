/- Asks: the data. -/
import Derived.Test.YtmlnjeoibpffoaaNorm
namespace Go.Proofs.Ytmlnjeoibpffoaa
open Go.RowKit

structure AskD where
  k : Int
  node : Int
  key : ByteArray
  to : ByteArray
  ts : Int
  n : Int
structure ReplyD where
  req : Int
  e : Int
  ts : Int
  pin : Int
  pairs : List PairD
def ReplyD.zero : ReplyD := ⟨0, 0, 0, 0, []⟩
/-- how many pairs a page has -/
def pageSize (n : Int) (len : Nat) : Int := if 2 ≤ n - (len : Int) then 2 else n - len
theorem rowMsg : RowTy Try.prog 52 22 := ⟨_, Try.underlying52, rfl, by kernel_rfl⟩
theorem rowReply : RowTy Try.prog 40 5 := ⟨_, Try.underlying40, rfl, by kernel_rfl⟩
theorem rowAsk : RowTy Try.prog 37 7 := ⟨_, Try.underlying37, rfl, by kernel_rfl⟩
end Go.Proofs.Ytmlnjeoibpffoaa
