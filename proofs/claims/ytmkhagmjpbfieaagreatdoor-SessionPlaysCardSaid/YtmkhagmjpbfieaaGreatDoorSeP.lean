/- A session (layer 18): the plain law. No program in sight. -/
import Derived.Test.YtmkhagmjpbfieaaGreatDoorOutP
import Derived.Test.YtmkhagmjpbfieaaGreatDoorISet
import Derived.Test.YtmkhagmjpbfieaaGreatDoorSubY
namespace Go.Proofs.YtmkhagmjpbfieaaGreatDoor
open Go

structure SS where
  client : ByteArray
  conn : Int
  clean : Bool
  will : Msg
  has : Bool
  l : List SubE
  o : OT
  came : List Int
def SS.new (c : ByteArray) : SS := ⟨c, 0, true, Msg.none, false, [], OT.new, []⟩
def namesE (l : List SubE) : List (List UInt8) := l.map (·.1)
/-- does a connection begin? -/
def mayB (conn : Int) (p : Pkt) : Bool := decide (1 ≤ conn) && decide (p.ty = 1)
def freshB (p : Pkt) (s : SS) : Bool := s.clean || p.clean
def beginS (conn : Int) (p : Pkt) (s : SS) : SS :=
  if mayB conn p then
    (if freshB p s then ⟨s.client, conn, p.clean, if p.hasWill then p.will else Msg.none, p.hasWill, [], OT.new, []⟩
     else ⟨s.client, conn, p.clean, if p.hasWill then p.will else Msg.none, p.hasWill, s.l, s.o, s.came⟩)
  else s
def beginA (conn : Int) (p : Pkt) (s : SS) : Bool × List (List UInt8) :=
  if mayB conn p then (if freshB p s then (false, namesE s.l) else (true, [])) else (false, [])
def leaveS (s : SS) : SS := ⟨s.client, 0, s.clean, Msg.none, false, s.l, s.o, s.came⟩
def losesB (s : SS) : Bool := s.has && !decide (s.conn = 0)
def loseA (s : SS) : Msg × Bool := if losesB s then (s.will, true) else (Msg.none, false)
structure ActS where
  kind : Int
  conn : Int
  p : Pkt
  sub : SubE
  m : Msg
def firstI (x : Int) (l : List Int) : List Int := if x = 0 ∨ x ∈ l then l else ins x l
def doS (win most : Int) (a : ActS) (s : SS) : SS :=
  let k := a.kind % 16
  if k < 3 then beginS a.conn a.p s
  else if k < 5 then leaveS s
  else if k < 7 then { s with l := setE a.sub.1 a.sub.2 s.l }
  else if k = 7 then { s with l := delE a.sub.1 s.l }
  else if k < 11 then { s with o := (putO most a.m s.o).2 }
  else if k = 11 then { s with o := (pumpO win s.o.wait s.o.row).2 }
  else if k = 12 then { s with o := (ackO a.p.ty a.p.id s.o).2 }
  else if k = 13 then { s with came := firstI a.p.id s.came }
  else if k = 14 then { s with came := out a.p.id s.came }
  else s
end Go.Proofs.YtmkhagmjpbfieaaGreatDoor
