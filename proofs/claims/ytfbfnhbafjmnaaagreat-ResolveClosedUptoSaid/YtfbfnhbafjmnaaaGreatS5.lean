/- Functions of the given program and what each of them computes: lemmas towards the statement, their conditions stated with each of them. -/
import Derived.Test.YtfbfnhbafjmnaaaGreatS4
namespace Go.Proofs.YtfbfnhbafjmnaaaGreat
open Go Go.Ab
set_option maxRecDepth 100000
def clB(D:List (List UInt8)):List Sm->Bool
 | []=>true
 |s::r=>(CJ s.nd).all (fun x=>D.contains x)&&clB (if s.kd=2 then D++[s.nm] else D) r
def inB(Dn:List (List UInt8))(x:List UInt8):Bool:=Dn.contains x
structure WiI (L Dn:List (List UInt8)) (i:Nat):Prop where
 le:i<=L.length
 eq:L.all (inB Dn)=(L.drop i).all (inB Dn)
structure ClI (l:List Sm) (i:Nat) (a:Bool) (D:List (List UInt8)):Prop where
 le:i<=l.length
 dl:D.length<=i
 eq:clB [] l=(a&&clB D (l.drop i))
end Go.Proofs.YtfbfnhbafjmnaaaGreat
