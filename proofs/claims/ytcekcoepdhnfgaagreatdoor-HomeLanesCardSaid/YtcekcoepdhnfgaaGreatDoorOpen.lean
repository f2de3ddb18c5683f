/- Strings opened. -/
import Derived.Test.YtcekcoepdhnfgaaGreatDoorLib
import Derived.Deep.Slices
import Derived.Deep.Fields
import Derived.Lib.SmallJoins
import Derived.ChangeArms
import Derived.OpenShut
namespace Go.Proofs.YtcekcoepdhnfgaaGreatDoor
open Go Go.ChangeShapes Go.WideShapes Go.ChangeAt Go.RowKit Go.WideMaps Go.WideElems Go.Joins
theorem flatMap_at {α:Type} {mk:α->List Value} {c:Nat} (hlen:∀ a,(mk a).length=c) (l:List α):∀ (i r:Nat),r < c->(l.flatMap mk)[i * c+r]? = (l[i]?).bind fun a=>(mk a)[r]?:=by
 induction l with
 | nil=>simp
 | cons a l ih =>
  intro i r hr;rw [List.flatMap_cons]
  cases i with
  | zero=>rw [List.getElem?_append_left (by rw [hlen];omega)];simp
  | succ i =>
   rw [List.getElem?_append_right (by rw [hlen,Nat.succ_mul];omega),hlen,show (i+1) * c+r - c=i * c+r from by rw [Nat.succ_mul];omega,ih i r hr];simp
theorem flatMap_len {α:Type} {mk:α->List Value} {c:Nat} (hlen:∀ a,(mk a).length=c) (l:List α):(l.flatMap mk).length=l.length * c:=by
 induction l with
 | nil=>simp
 | cons a l ih=>rw [List.flatMap_cons,List.length_append,hlen,ih,List.length_cons,Nat.succ_mul];omega
section
variable {H:Type} {enc:TypeId × Value->H} {P:Program}
end
end Go.Proofs.YtcekcoepdhnfgaaGreatDoor
