/- A session, plain. -/
import Derived.Test.YtcekcoepdhnfgaaGreatDoorOutP
import Derived.Test.YtcekcoepdhnfgaaGreatDoorIsI
import Derived.Test.YtcekcoepdhnfgaaGreatDoorSubY
namespace Go.Proofs.YtcekcoepdhnfgaaGreatDoor
open Go
structure SS where
 client:ByteArray
 conn:Int
 clean:Bool
 will:Msg
 has:Bool
 l:List SubE
 o:OT
 came:List Int
def SS.new (c:ByteArray):SS:=⟨c,0,true,Msg.none,false,[],OT.new,[]⟩
def namesE (l:List SubE):List (List UInt8):=l.map (·.1)
def mayB (conn:Int) (p:Pkt):Bool:=decide (1<=conn) && decide (p.ty=1)
def freshB (p:Pkt) (s:SS):Bool:=s.clean || p.clean
def beginS (conn : Int) (p : Pkt) (s : SS) : SS :=
  if mayB conn p then
    (if freshB p s then ⟨s.client, conn, p.clean, if p.hasWill then p.will else Msg.none, p.hasWill, [], OT.new, []⟩
     else ⟨s.client, conn, p.clean, if p.hasWill then p.will else Msg.none, p.hasWill, s.l, s.o, s.came⟩)
  else s
def beginA (conn:Int) (p:Pkt) (s:SS):Bool × List (List UInt8):=
 if mayB conn p then (if freshB p s then (false,namesE s.l) else (true,[])) else (false,[])
def leaveS (s:SS):SS:=⟨s.client,0,s.clean,Msg.none,false,s.l,s.o,s.came⟩
def losesB (s:SS):Bool:=s.has && !decide (s.conn=0)
def loseA (s:SS):Msg × Bool:=if losesB s then (s.will,true) else (Msg.none,false)
def firstI (x:Int) (l:List Int):List Int:=if x=0 \/ x ∈ l then l else ins x l
end Go.Proofs.YtcekcoepdhnfgaaGreatDoor
