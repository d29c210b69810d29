/- Functions of the given program and what each of them computes: lemmas towards the statement, their conditions stated with each of them. -/
import Derived.Test.YtflbmbkhjcbhoaaGreatDoorW4
import Derived.ProofKit
import Derived.WalkKit
import Derived.OpenShut
namespace Go.Ab
open Go Go.RowKit
variable {P:Program} {W:World}
def RBool:List D→Prop := fun ds => ∃ b,ds = [.bool b]
theorem read_bool {t:TypeId} (ht:P.underlying t = some .bool):Reads P t RBool := by
  intro W n
  cases n with
  | zero => exact .zero _ _
  | succ n =>
    intro hG H enc cs d ps h hwt
    simp only [DataW.trod,ht] at h
    split at h <;> simp_all [RBool,RepL,Rep,Value.oneCell']
end Go.Ab
