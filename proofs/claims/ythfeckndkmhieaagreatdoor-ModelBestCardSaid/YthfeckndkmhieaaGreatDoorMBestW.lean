/- ModelBest, of any texts. -/
import Derived.Test.YthfeckndkmhieaaGreatDoorMBest
namespace Go.Proofs.YthfeckndkmhieaaGreatDoor
open Go Go.RowKit Go.Maps

theorem best_all (a : Option Addr) (c : Nat) (l : List Note) (cl nm : ByteArray) (qos : Int) (w : World) (hq0 : 0 ≤ qos) (hq1 : qos ≤ 255) (ha : Row w a (notesV l)) (hok : ∀ n ∈ l, n.ok w) (hT : Tabs w) (hgr : GreatQ a c l w) :
    Calls Tryz.prog 7 #[.slice a l.length c, .string cl, .string nm, .int .u8 qos] w fun e w' => e = .returned (.bool true) ∧ Below w.heap.size w w' := by
  have := best_true a c l cl.data.toList nm.data.toList qos w hq0 hq1 ha hok hT hgr
  rwa [str_mk, str_mk] at this
end Go.Proofs.YthfeckndkmhieaaGreatDoor
