/- A home, plain; what always holds. -/
import Derived.Test.YtcekcoepdhnfgaaGreatDoorPkO
import Derived.Test.YtcekcoepdhnfgaaGreatDoorSeP
import Derived.Test.YtcekcoepdhnfgaaGreatDoorPkI
import Derived.Test.YtcekcoepdhnfgaaGreatDoorSub6
import Derived.Test.YtcekcoepdhnfgaaGreatDoorShP
namespace Go.Proofs.YtcekcoepdhnfgaaGreatDoor
section
open Go
def SS.setO (s:SS) (o:OT):SS:=⟨s.client,s.conn,s.clean,s.will,s.has,s.l,o,s.came⟩
def SS.setL (s:SS) (l:List SubE):SS:=⟨s.client,s.conn,s.clean,s.will,s.has,l,s.o,s.came⟩
def SS.setC (s:SS) (l:List Int):SS:=⟨s.client,s.conn,s.clean,s.will,s.has,s.l,s.o,l⟩
def Pkt.bare (p:Pkt):Pkt:={ p with subsA:=none,subsC:=0 }
def itZ:Item:=⟨0,0,0,⟨#[]⟩,⟨#[]⟩,pkZ,Msg.none,none,0,[],none,0,[],none,0,[],0,0⟩
def itK (k op:Int) (cl:ByteArray):Item:=⟨k,op,0,cl,⟨#[]⟩,pkZ,Msg.none,none,0,[],none,0,[],none,0,[],0,0⟩
structure HCfg where
 n:Nat
 mail:Int
 packet:Int
 most:Int
 win:Int
 me:Nat
inductive Wk where
 | close (x:Item) (old:Int)
 | att (x:Item) (pres:Bool)
 | sub (x:Item) (codes:Str) (kept:List Msg)
 | uns (x:Item)
 | flow (op:Int)
 | fin (x:Item) (clean:Bool)
structure HSeat where
 s:SS
 busy:Option (Wk × Int)
structure HFlow where
 op:Int
 client:ByteArray
 conn:Int
 p:Pkt
 many:Int
 taken:Int
structure HMl where
 dest:Int
 lane:Int
 it:Item
structure Tn where
 seats:List HSeat
 flows:List HFlow
 ops:Int
 notes:List Note
 mails:List HMl
def Tn.new:Tn:=⟨[],[],0,[],[]⟩
def Tn.seat (c:ByteArray) (t:Tn):Option HSeat:=t.seats.find? fun z=>decide (z.s.client=c)
def Tn.setS (c:ByteArray) (z:HSeat) (t:Tn):Tn:={ t with seats:=t.seats.map fun y=>if y.s.client=c then z else y }
def Tn.mail (d lane:Int) (x:Item) (t:Tn):Tn:={ t with mails:=t.mails ++ [⟨d,lane,x⟩] }
def Tn.note (n:Note) (t:Tn):Tn:={ t with notes:=t.notes ++ [n] }
def Tn.op (t:Tn):Tn:={ t with ops:=t.ops+1 }
section
variable (c:HCfg)
def gateT (lane conn:Int) (x:Item) (t:Tn):Tn:=t.mail (gateN conn c.n) lane { x with conn:=conn }
def sendsT (conn:Int) (l:List Pkt) (t:Tn):Tn:=if l = [] then t else gateT c 7 conn { itZ with kind:=13,pks:=l } t
def answersT (conn:Int) (l:List Pkt) (t:Tn):Tn:=gateT c 7 conn { itZ with kind:=14 } (sendsT c conn l t)
def hubT (x:Item) (f:Str) (t:Tn):Tn:=(hubsN f c.n).foldl (fun t (k:Nat)=>t.mail k 4 { x with filter:=⟨f.toArray⟩,frm:=c.me }) t
def hubsT (x:Item) (fs:List Str) (t:Tn):Tn:=fs.foldl (fun t f=>hubT c x f t) t
def hubsK (fs:List Str):Nat:=(fs.map fun f=>(hubsN f c.n).length).sum
def noteN (kind op conn:Int) (client:ByteArray):Note:=⟨kind,op,conn,client,pkZ,Msg.none,⟨#[]⟩,false,0⟩
def noteP (kind op conn:Int) (client:ByteArray) (p:Pkt):Note:=⟨kind,op,conn,client,p,Msg.none,⟨#[]⟩,false,0⟩
def noteA (kind op conn:Int) (client:ByteArray) (p:Pkt) (pres:Bool):Note:=⟨kind,op,conn,client,p,Msg.none,⟨#[]⟩,pres,0⟩
def noteC (kind op conn:Int) (client:ByteArray) (p:Pkt) (codes:Str):Note:=⟨kind,op,conn,client,p,Msg.none,⟨codes.toArray⟩,false,0⟩
def noteM (kind op:Int) (client:ByteArray) (m:Msg):Note:=⟨kind,op,0,client,pkZ,m,⟨#[]⟩,false,m.q⟩
def told1 (p:Pkt):List Pkt:=if p.qos=1 then [{ pkZ with ty:=4,id:=p.id }] else if p.qos=2 then [{ pkZ with ty:=5,id:=p.id }] else []
def toldT (op:Int) (client:ByteArray) (conn:Int) (p:Pkt) (t:Tn):Tn:=(answersT c conn (told1 p) t).note (noteN 3 op conn client)
def freeT (client:ByteArray) (t:Tn):Tn:=match t.seat client with | none=>t | some z=>t.setS client ⟨z.s,none⟩
def flowedT (f:HFlow) (t:Tn):Tn:=if f.conn=0 then t.note (noteN 3 f.op 0 f.client) else toldT c f.op f.client f.conn f.p (freeT f.client t)
def msgOf (p:Pkt):Msg:=⟨p.topic,p.payload,p.qos,p.retain⟩
def withoutF (op:Int) (l:List HFlow):List HFlow:=l.filter fun f=>f.op != op
def routeT (op:Int) (client:ByteArray) (conn:Int) (p:Pkt) (t:Tn):Tn:=
 if nameB p.topic.data.toList then
  let t1:=t.note { noteN 4 op conn client with msg:=msgOf p }
  ({ t1 with flows:=withoutF op t1.flows ++ [(⟨op,client,conn,p,-1,0⟩:HFlow)] }).mail (hubN p.topic.data.toList c.n) 4 { itZ with kind:=7,op:=op,client:=client,msg:=msgOf p,frm:=c.me }
 else flowedT c ⟨op,client,conn,p,-1,0⟩ t
def pubOf (m:Msg):Pkt:={ pkZ with ty:=3,topic:=m.t,payload:=m.p,qos:=m.q,retain:=m.r }
def losesT (z:HSeat) (left:Bool) (t:Tn):Tn:=
 let t1:=t.setS z.s.client ⟨leaveS z.s,z.busy⟩
 if left then t1
 else if (loseA z.s).2 then
  let t2:=(t1.op).note { noteN 1 (t1.ops+1) 0 z.s.client with pk:=pubOf (loseA z.s).1 }
  routeT c (t1.ops+1) z.s.client 0 (pubOf (loseA z.s).1) t2
 else t1
def connackK (pres:Bool):Pkt:={ pkZ with ty:=2,present:=pres }
def doneAtt (x:Item) (pres:Bool) (z:HSeat) (t:Tn):Tn:=
 let p:=pumpO c.win z.s.o.wait z.s.o.row
 let t1:=t.setS z.s.client ⟨z.s.setO p.2,z.busy⟩
 (answersT c x.conn (connackK pres :: resumeO z.s.o++p.1) t1).note (noteA 3 x.op x.conn x.client pkZ pres)
def attachT (z:HSeat) (x:Item) (t:Tn):Tn:=
 let a:=beginA x.conn x.pk z.s
 let z1:HSeat:=⟨beginS x.conn x.pk z.s,z.busy⟩
 let t1:=(t.setS z.s.client z1).note (noteA 2 x.op x.conn x.client x.pk.bare a.1)
 let t2:=hubsT c (itK 6 x.op x.client) a.2 t1
 if hubsK c a.2=0 then doneAtt c x a.1 z1 t2 else t2.setS z.s.client ⟨z1.s,some (.att x a.1,hubsK c a.2)⟩
def connectT (x:Item) (t:Tn):Tn:=
 let z:=(t.seat x.client).getD ⟨SS.new x.client,none⟩
 let t1:=match t.seat x.client with | some _=>t | none => { t with seats:=t.seats ++ [⟨SS.new x.client,none⟩] }
 if z.s.conn=0 \/ z.s.conn=x.conn then attachT c z x t1
 else gateT c 2 z.s.conn (itK 3 x.op x.client) (t1.setS z.s.client ⟨z.s,some (.close x z.s.conn,0)⟩)
def discK:Pkt:={ pkZ with ty:=14 }
def closedO (z:HSeat) (old many:Int) (t:Tn):Tn:=if many=0 then (t.op).note (noteN 1 (t.ops+1) old z.s.client) else t
def closedP (many:Int):Pkt:=if many=0 then pkZ else discK
def closedN (many:Int) (t:Tn):Int:=if many=0 then t.ops+1 else many
def closedT (z:HSeat) (old many:Int) (t:Tn):Tn:=
 (losesT c z (!decide (many=0)) ((closedO z old many t).note (noteP 2 (closedN many t) old z.s.client (closedP many)))).note (noteN 3 (closedN many t) old z.s.client)
def grantGo:List SubE->Str->List Str->List Str
 | x :: r,k :: ks,out=>grantGo r ks (if k ≠ 128 /\ ¬ x.1 ∈ out then out ++ [x.1] else out)
 | _,_,out=>out
def granted (l:List SubE) (codes:Str):List Str:=grantGo l codes []
def ofGo:List SubE->Str->List SubE->List SubE
 | x :: r,k :: ks,l=>ofGo r ks (if k ≠ 128 then setE x.1 x.2 l else l)
 | _,_,l=>l
def putsT (cl:ByteArray) (op kind:Int) (m:Msg) (t:Tn):Tn:=
 match t.seat cl with
 | none=>t
 | some z =>
  let r:=putO c.most m z.s.o
  (t.setS cl ⟨z.s.setO r.2,z.busy⟩).note (noteM (if r.1 then kind else 7) op cl m)
def doneSub (x:Item) (codes:Str) (kept:List Msg) (z:HSeat) (t:Tn):Tn:=
 let z1:HSeat:=⟨z.s.setL (x.pk.subs.foldl (fun l y=>setE y.1 y.2 l) z.s.l),z.busy⟩
 let t1:=(t.setS z.s.client z1).note (noteC 2 x.op x.conn x.client x.pk.bare codes)
 let of:=ofGo x.pk.subs codes []
 let t2:=kept.foldl (fun t m=>putsT c z.s.client x.op 8 ⟨m.t,m.p,min m.q (bestS m.k of).1,true⟩ t) t1
 match t2.seat z.s.client with
 | none=>t2
 | some z2 =>
  let p:=pumpO c.win z2.s.o.wait z2.s.o.row
  let t3:=t2.setS z.s.client ⟨z2.s.setO p.2,z2.busy⟩
  (answersT c x.conn ({ pkZ with ty:=9,id:=x.pk.id,codes:=⟨codes.toArray⟩ } :: p.1) t3).note (noteC 3 x.op x.conn x.client pkZ codes)
def codesGo:List SubE->List SubE->Str->Str
 | [],_,out=>out
 | x :: r,l,out=>codesGo r (setE x.1 x.2 l) (out ++ [UInt8.ofNat (setC x.1 x.2 l).toNat])
def subscribeT (z:HSeat) (x:Item) (t:Tn):Tn:=
 let codes:=codesGo x.pk.subs z.s.l []
 let fs:=granted x.pk.subs codes
 let t1:=hubsT c (itK 5 x.op x.client) fs t
 if hubsK c fs=0 then doneSub c x codes [] z t1 else t1.setS z.s.client ⟨z.s,some (.sub x codes [],hubsK c fs)⟩
def doneUns (x:Item) (t:Tn):Tn:=(answersT c x.conn [{ pkZ with ty:=11,id:=x.pk.id }] t).note (noteN 3 x.op x.conn x.client)
def goneGo:List SubE->List SubE->List Str->List Str × List SubE
 | [],l,out=>(out,l)
 | x :: r,l,out=>goneGo r (delE x.1 l) (if hasE x.1 l then out ++ [x.1] else out)
def unsubscribeT (z:HSeat) (x:Item) (t:Tn):Tn:=
 let g:=goneGo x.pk.subs z.s.l []
 let z1:HSeat:=⟨z.s.setL g.2,z.busy⟩
 let t1:=(t.setS z.s.client z1).note (noteP 2 x.op x.conn x.client x.pk.bare)
 let t2:=hubsT c (itK 6 x.op x.client) g.1 t1
 if hubsK c g.1=0 then doneUns c x t2 else t2.setS z.s.client ⟨z1.s,some (.uns x,hubsK c g.1)⟩
def firstZ (x:Item) (z:HSeat):HSeat:=if x.pk.qos=2 then ⟨z.s.setC (firstI x.pk.id z.s.came),z.busy⟩ else z
def firstNo (x:Item) (z:HSeat):Prop:=x.pk.qos=2/\(x.pk.id=0 \/ x.pk.id ∈ z.s.came)
instance (x:Item) (z:HSeat):Decidable (firstNo x z):=by unfold firstNo;infer_instance
def publishT (z:HSeat) (x:Item) (t:Tn):Tn:=
 let t1:=t.setS z.s.client (firstZ x z)
 if firstNo x z then toldT c x.op x.client x.conn x.pk t1
 else routeT c x.op x.client x.conn x.pk (t1.setS z.s.client ⟨(firstZ x z).s,some (.flow x.op,0)⟩)
def acksT (z:HSeat) (x:Item) (t:Tn):Tn:=
 if x.pk.ty=6 then answersT c x.conn [{ pkZ with ty:=7,id:=x.pk.id }] (t.setS z.s.client ⟨z.s.setC (out x.pk.id z.s.came),z.busy⟩)
 else
  let a:=ackO x.pk.ty x.pk.id z.s.o
  let p:=pumpO c.win a.2.wait a.2.row
  answersT c x.conn (a.1.1++p.1) (t.setS z.s.client ⟨z.s.setO p.2,z.busy⟩)
def finS (x:Item) (clean:Bool) (t:Tn):Tn:=if clean then { t with seats:=t.seats.filter fun z=>decide (z.s.client ≠ x.client) } else t
def doneFin (x:Item) (clean:Bool) (t:Tn):Tn:=
 (if x.kind=1 then gateT c 7 x.conn (itK 15 0 ⟨#[]⟩) (finS x clean t) else finS x clean t).note (noteN 3 x.op x.conn x.client)
def finN (s:SS):List Str:=if s.clean then namesE s.l else []
def finL (s:SS):SS:=(leaveS s).setL (if s.clean then [] else s.l)
def finH (z:HSeat) (x:Item) (t:Tn):Tn:=if z.s.clean then hubsT c (itK 6 x.op x.client) (finN z.s) (t.setS z.s.client ⟨finL z.s,z.busy⟩) else t
def endsT (z:HSeat) (x:Item) (t:Tn):Tn:=
 let t3:=finH c z x (losesT c z (decide (x.kind=1)) (t.note (noteP 2 x.op x.conn x.client x.pk.bare)))
 if hubsK c (finN z.s)=0 then doneFin c x z.s.clean t3 else t3.setS z.s.client ⟨finL z.s,some (.fin x z.s.clean,hubsK c (finN z.s))⟩
def keepsW (m:Msg) (x:Item) (codes:Str) (kept:List Msg):List Msg:=
 if (granted x.pk.subs codes).any fun f=>matchB f m.k then (if m.p.size=0 then del m.k kept else put m kept) else kept
def deliverP (x:Item) (cl:ByteArray) (z:HSeat) (t:Tn):Tn:=
 if (bestS x.msg.k z.s.l).2 then
  let t0:=putsT c cl x.op 6 ⟨x.msg.t,x.msg.p,min x.msg.q (bestS x.msg.k z.s.l).1,false⟩ t
  if z.s.conn=0 then t0
  else match t0.seat cl with
   | none=>t0
   | some z1=>sendsT c z.s.conn (pumpO c.win z1.s.o.wait z1.s.o.row).1 (t0.setS cl ⟨z1.s.setO (pumpO c.win z1.s.o.wait z1.s.o.row).2,z1.busy⟩)
 else t
def keepT (x:Item) (cl:ByteArray) (t:Tn):Tn:=
 match t.seat cl with
 | some ⟨s,some (.sub y codes kept,left)⟩=>if x.msg.r then t.setS cl ⟨s,some (.sub y codes (keepsW x.msg y codes kept),left)⟩ else t
 | _=>t
def deliver1 (x:Item) (cl:ByteArray) (t:Tn):Tn:=
 match t.seat cl with
 | none=>t
 | some z=>keepT x cl (deliverP c x cl z t)
def deliverT (x:Item) (t:Tn):Tn:=
 let t1:=x.cls.foldl (fun t cl=>deliver1 c x cl t) t
 if 0<=x.frm/\x.frm < c.n then t1.mail x.frm 6 (itK 12 x.op x.client) else t1
def countF (x:Item) (f:HFlow):HFlow:=if x.kind=10 then { f with many:=x.many } else { f with taken:=f.taken+1 }
def Tn.setF (op:Int) (g:HFlow) (t:Tn):Tn:={ t with flows:=t.flows.map fun y=>if y.op=op then g else y }
def countedT (x:Item) (t:Tn):Tn:=
 match t.flows.find? fun f=>f.op == x.op with
 | none=>t
 | some f =>
  if (countF x f).taken=(countF x f).many then flowedT c (countF x f) { t with flows:=withoutF x.op t.flows }
  else t.setF x.op (countF x f)
def doneT (k:Wk) (z:HSeat) (t:Tn):Tn:=
 match k with
 | .att y pres=>doneAtt c y pres z t
 | .sub y codes kept=>doneSub c y codes kept z t
 | .uns y=>doneUns c y t
 | .fin y clean=>doneFin c y clean t
 | _=>t
def wkOp:Wk->Int
 | .close x _=>x.op | .att x _=>x.op | .sub x _ _=>x.op | .uns x=>x.op | .flow op=>op | .fin x _=>x.op
def wkKind:Wk->Int
 | .close _ _=>4 | .att _ _=>9 | .sub _ _ _=>8 | .uns _=>9 | .flow _=>0 | .fin _ _=>9
def wkAdd (x:Item) (k:Wk):Wk:=
 match k with
 | .sub y codes kept => .sub y codes (x.ms.foldl (fun l m=>put m l) kept)
 | k=>k
def answeredT (z:HSeat) (k:Wk) (left:Int) (x:Item) (t:Tn):Tn:=
 match k with
 | .close y old =>
  let z1:HSeat:=⟨z.s,none⟩
  attachT c ⟨leaveS z.s,none⟩ y (closedT c z1 old x.many (t.setS z.s.client z1))
 | k =>
  let k1:=wkAdd x k
  if left - 1=0 then doneT c k1 ⟨z.s,none⟩ (t.setS z.s.client ⟨z.s,none⟩)
  else t.setS z.s.client ⟨z.s,some (k1,left - 1)⟩
def askedT (x:Item) (t:Tn):Tn:=
 if x.kind=1/\x.pk.ty=1/\0 < x.conn then connectT c x t
 else match t.seat x.client with
  | none=>t
  | some z =>
   if x.conn < 1 \/ z.s.conn ≠ x.conn then t
   else if x.kind=2 then endsT c z { x with pk:=pkZ } t
   else if x.pk.ty=8 then subscribeT c z x t
   else if x.pk.ty=10 then unsubscribeT c z x t
   else if x.pk.ty=3 then publishT c z x t
   else if x.pk.ty=14 then endsT c z x t
   else acksT c z x t
def refusedB (x:Item) (t:Tn):Bool:=(decide (x.kind=1) || decide (x.kind=2)) && match t.seat x.client with | some z=>z.busy.isSome | none=>false
def hearT (x:Item) (t:Tn):Tn:=
 if refusedB x t then t
 else if x.kind=1 \/ x.kind=2 then askedT c x t
 else if x.kind=4 \/ x.kind=8 \/ x.kind=9 then
  match t.seat x.client with
  | some ⟨s,some (k,left)⟩=>if wkKind k=x.kind/\wkOp k=x.op then answeredT c ⟨s,some (k,left)⟩ k left x t else t
  | _=>t
 else if x.kind=11 then deliverT c x t
 else if x.kind=10 \/ x.kind=12 then countedT c x t
 else t
def Tn.begin (t:Tn):Tn:={ t with mails:=[] }
def liveT (cl:ByteArray) (t:Tn):Int:=match t.seat cl with | some z=>z.s.conn | none=>0
end
end
section
open Go
def i64R (x:Int):Prop:=-9223372036854775808<=x/\x<=9223372036854775807
def u8R (x:Int):Prop:=0<=x/\x<=255
def MsOk (m:Msg):Prop:=m.t.size<=1000/\m.p.size<=1000/\u8R m.q
structure PkOk (p:Pkt):Prop where
 ty:u8R p.ty
 qos:u8R p.qos
 id:0<=p.id/\p.id<=65535
 topic:p.topic.size<=1000
 payload:p.payload.size<=1000
 will:MsOk p.will
 nsubs:p.subs.length<=100
 subs:∀ y ∈ p.subs,y.1.length<=1000/\u8R y.2
structure ItOk (x:Item):Prop where
 kind:u8R x.kind
 op:i64R x.op
 conn:i64R x.conn
 frm:i64R x.frm
 many:i64R x.many
 client:x.client.size<=1000
 pk:PkOk x.pk
 msg:MsOk x.msg
 nms:x.ms.length<=100
 ms:∀ m ∈ x.ms,MsOk m
 ncls:x.cls.length<=100
 cls:∀ s ∈ x.cls,s.size<=1000
structure SsOk (s:SS):Prop where
 conn:0<=s.conn/\s.conn<=9223372036854775807
 will:MsOk s.will
 l:SOk s.l
 client:s.client.size<=1000
 up:SUp s.l
 len:s.l.length<=16
 short:∀ y ∈ s.l,y.1.length<=1000
def WkOk (s:SS) (left:Int):Wk->Prop
 | .close x old=>ItOk x/\1<=x.conn/\x.client=s.client/\old=s.conn/\1<=old/\left=0
 | .att x _=>ItOk x/\1<=x.conn/\x.client=s.client/\1<=left/\left<=100000
 | .sub x codes kept=>ItOk x/\1<=x.conn/\x.client=s.client/\codes.length=x.pk.subs.length/\Up kept/\(∀ m ∈ kept,MsOk m)/\1<=left/\left<=100000
 | .uns x=>ItOk x/\1<=x.conn/\x.client=s.client/\1<=left/\left<=100000
 | .flow op=>i64R op/\left=0
 | .fin x clean=>ItOk x/\1<=x.conn/\x.client=s.client/\clean=s.clean/\1<=left/\left<=100000
structure SeOk (z:HSeat):Prop where
 s:SsOk z.s
 w:∀ k left,z.busy=some (k,left)->WkOk z.s left k
structure FlOk (f:HFlow):Prop where
 op:i64R f.op
 conn:0<=f.conn/\f.conn<=9223372036854775807
 p:PkOk f.p
 client:f.client.size<=1000
def isFlow:Option (Wk × Int)->Bool | some (.flow _,_)=>true | _=>false
structure HOk (t:Tn):Prop where
 nd:(t.seats.map (·.s.client)).Nodup
 seat:∀ z ∈ t.seats,SeOk z
 fnd:(t.flows.map (·.op)).Nodup
 flow:∀ f ∈ t.flows,FlOk f
 at':∀ f ∈ t.flows,f.conn ≠ 0 -> ∃ z,t.seat f.client=some z/\z.busy=some (.flow f.op,0)
def lookH (d:ByteArray) (l:List HSeat):Option HSeat:=l.find? fun z=>decide (z.s.client=d)
theorem lookH_turn {cl:ByteArray} {z:HSeat} (hz:z.s.client=cl) (d:ByteArray):∀ l:List HSeat,lookH d (l.map fun y=>if y.s.client=cl then z else y)=if d=cl then (lookH cl l).map (fun _=>z) else lookH d l
 | []=>by simp [lookH]
 | y :: r=>by
  have ih:=lookH_turn hz d r;unfold lookH at *;rw [List.map_cons,List.find?_cons,List.find?_cons,List.find?_cons]
  by_cases hy:y.s.client=cl
  ·rw [if_pos hy]
   by_cases hd:d=cl
   ·subst hd
    have e1:decide (z.s.client=d)=true:=by simpa using hz
    have e2:decide (y.s.client=d)=true:=by simpa using hy
    rw [e1,e2,if_pos rfl]
    rfl
   ·have e1:decide (z.s.client=d)=false:=by rw [hz];exact decide_eq_false fun h=>hd h.symm
    have e2:decide (y.s.client=d)=false:=by rw [hy];exact decide_eq_false fun h=>hd h.symm
    rw [e1,e2,if_neg hd];rw [if_neg hd] at ih;exact ih
  ·rw [if_neg hy]
   by_cases hd:d=cl
   ·subst hd
    have e1:decide (y.s.client=d)=false:=by simpa using hy
    rw [e1];rw [if_pos rfl] at ih ⊢;exact ih
   ·rw [if_neg hd] at ih ⊢
    by_cases h3:decide (y.s.client=d)=true
    ·rw [h3]
    ·simp only [Bool.not_eq_true] at h3
     rw [h3];exact ih
section
variable {t:Tn} {cl:ByteArray} {z z0:HSeat}
theorem seat_setS (h0:t.seat cl=some z0) (hz:z.s.client=cl) (d:ByteArray):(t.setS cl z).seat d=if d=cl then some z else t.seat d:=by
 have h1:lookH cl t.seats=some z0:=h0;have:=lookH_turn hz d t.seats;rw [h1] at this;exact this
theorem seat_at (h:t.seat cl=some z):z ∈ t.seats/\z.s.client=cl:=by
 unfold Tn.seat at h;exact ⟨List.mem_of_find?_eq_some h,by simpa using List.find?_some h⟩
theorem clients_setS (hz:z.s.client=cl):(t.setS cl z).seats.map (·.s.client)=t.seats.map (·.s.client):=by
 show (t.seats.map _).map _=_
 rw [List.map_map];refine List.map_congr_left fun y _ => ?_
 simp only [Function.comp]
 split
 ·rename_i h;rw [hz,h]
 ·rfl
theorem HOk.setS (h:HOk t) (h0:t.seat cl=some z0) (hc:z.s.client=z0.s.client) (hz:SeOk z) (hb:∀ f ∈ t.flows,f.conn ≠ 0->f.client=cl->z.busy=some (.flow f.op,0)):HOk (t.setS cl z):=by
 have hzc:z.s.client=cl:=hc.trans (seat_at h0).2;refine ⟨by rw [clients_setS hzc];exact h.nd,fun y hy => ?_,h.fnd,h.flow,fun f hf hfc => ?_⟩
 ·obtain ⟨y0,hy0,e⟩:=List.mem_map.1 hy
  split at e
  ·rw [<- e];exact hz
  ·rw [<- e];exact h.seat y0 hy0
 ·rw [seat_setS h0 hzc]
  by_cases hd:f.client=cl
  ·rw [if_pos hd]
   exact ⟨z,rfl,hb f hf hfc hd⟩
  ·rw [if_neg hd]
   exact h.at' f hf hfc
theorem HOk.noFlow (h:HOk t) (h0:t.seat cl=some z0) (hn:isFlow z0.busy=false):∀ f ∈ t.flows,f.conn ≠ 0->f.client ≠ cl:=fun f hf hfc e=>by
 obtain ⟨z1,h1,h2⟩:=h.at' f hf hfc;rw [e,h0] at h1
 cases h1
 rw [h2] at hn
 cases hn
theorem HOk.set0 (h:HOk t) (h0:t.seat cl=some z0) (hn:isFlow z0.busy=false) (hc:z.s.client=z0.s.client) (hz:SeOk z):HOk (t.setS cl z):=
 h.setS h0 hc hz fun f hf hfc e=>absurd e (h.noFlow h0 hn f hf hfc)
theorem HOk.setB (h:HOk t) (h0:t.seat cl=some z0) (hb:z.busy=z0.busy) (hc:z.s.client=z0.s.client) (hz:SeOk z):HOk (t.setS cl z):=
 h.setS h0 hc hz fun f hf hfc e=>by
  obtain ⟨z1,h1,h2⟩:=h.at' f hf hfc;rw [e,h0] at h1
  cases h1
  rw [hb,h2]
theorem HOk.of (h:HOk t) {t':Tn} (h1:t'.seats=t.seats) (h2:t'.flows=t.flows):HOk t':=by
 obtain ⟨a,b,c,d,e⟩:=h;have hs:∀ d,t'.seat d=t.seat d:=fun d=>by unfold Tn.seat;rw [h1]
 exact ⟨h1 ▸ a,h1 ▸ b,h2 ▸ c,h2 ▸ d,fun f hf hc=>by rw [hs];exact e f (h2 ▸ hf) hc⟩
end
end
section
open Go
structure SSF (t t':Tn):Prop where
 s:t'.seats=t.seats
 f:t'.flows=t.flows
section
variable {t t' t1:Tn}
theorem SSF.refl:SSF t t:=⟨rfl,rfl⟩
theorem SSF.trans (h:SSF t t1) (h':SSF t1 t'):SSF t t':=⟨h'.s.trans h.s,h'.f.trans h.f⟩
theorem SSF.seat (h:SSF t t') (cl:ByteArray):t'.seat cl=t.seat cl:=by unfold Tn.seat;rw [h.s]
theorem HOk.same (h:HOk t) (e:SSF t t'):HOk t':=h.of e.s e.f
end
theorem SSF.foldl {α:Type} {f:Tn -> α->Tn} (h:∀ t x,SSF t (f t x)):∀ (l:List α) (t:Tn),SSF t (l.foldl f t)
 | [],_=>SSF.refl
 | x :: r,t=>(h t x).trans (SSF.foldl h r _)
theorem ssf_sends (c:HCfg) (conn:Int) (l:List Pkt) (t:Tn):SSF t (sendsT c conn l t):=by
 unfold sendsT
 split <;> exact ⟨rfl,rfl⟩
theorem ssf_answers (c:HCfg) (conn:Int) (l:List Pkt) (t:Tn):SSF t (answersT c conn l t):=(ssf_sends c conn l t).trans ⟨rfl,rfl⟩
theorem ssf_note (n:Note) (t:Tn):SSF t (t.note n):=⟨rfl,rfl⟩
theorem HOk.note {t:Tn} (h:HOk t) (n:Note):HOk (t.note n):=h.of rfl rfl
theorem ssf_hub (c:HCfg) (x:Item) (f:Str) (t:Tn):SSF t (hubT c x f t):=by
 unfold hubT;exact SSF.foldl (f:=fun t (k:Nat)=>t.mail k 4 { x with filter:=⟨f.toArray⟩,frm:=c.me }) (fun _ _=>⟨rfl,rfl⟩) _ _
theorem ssf_hubs (c:HCfg) (x:Item) (fs:List Str) (t:Tn):SSF t (hubsT c x fs t):=SSF.foldl (fun _ _=>ssf_hub _ _ _ _) _ _
theorem ssf_told (c:HCfg) (op:Int) (cl:ByteArray) (conn:Int) (p:Pkt) (t:Tn):SSF t (toldT c op cl conn p t):=(ssf_answers c conn _ t).trans ⟨rfl,rfl⟩
structure LOk (l:List SubE):Prop where
 ok:SOk l
 up:SUp l
 len:l.length<=16
 short:∀ y ∈ l,y.1.length<=1000
theorem LOk.nil:LOk []:=⟨fun y hy=>(by cases hy),List.Pairwise.nil,Nat.zero_le _,fun y hy=>(by cases hy)⟩
theorem has_lt {f:Str}:∀ {l:List SubE},(∀ y ∈ l,f < y.1)->hasE f l=false:=fun {l} h=>by
 unfold hasE;rw [List.any_eq_false];intro y hy;have:=lt_ne (h y hy)
 simpa using fun e=>this e.symm
theorem len_putE_has {x:SubE}:∀ {l:List SubE},SUp l->hasE x.1 l=true->(putE x l).length=l.length
 | [],_,h=>by cases h
 | y :: r,hU,h=>by
  obtain ⟨h1,h2⟩:=List.pairwise_cons.1 hU;unfold putE
  split
  ·rename_i hlt
   have:hasE x.1 r=true:=by
    unfold hasE at h ⊢;rw [List.any_cons,Bool.or_eq_true] at h
    rcases h with h | h
    ·exact absurd (by simpa using h) (lt_ne hlt)
    ·exact h
   rw [List.length_cons,List.length_cons,len_putE_has h2 this]
  ·rename_i hlt
   split
   ·rfl
   ·rename_i he
    exfalso;have hx:x.1 < y.1:=lt_tri hlt (fun e=>he e.symm)
    have:=has_lt (f:=x.1) (l:=y :: r) (fun z hz=>by
     rcases List.mem_cons.1 hz with rfl | hz
     ·exact hx
     ·exact List.lt_trans hx (h1 z hz))
    rw [this] at h
    cases h
theorem len_putE_le (x:SubE):∀ l:List SubE,(putE x l).length<=l.length+1
 | []=>by simp [putE]
 | y :: r=>by
  have:=len_putE_le x r;unfold putE
  split
  ·simp only [List.length_cons];omega
  ·split
   ·simp
   ·simp
theorem LOk.setE {l:List SubE} (h:LOk l) {f:Str} {q:Int} (hq:0<=q) (hf:f.length<=1000):LOk (setE f q l):=by
 refine ⟨h.ok.setE hq (by omega),?_,?_,?_⟩
 ·unfold Go.Proofs.YtcekcoepdhnfgaaGreatDoor.setE
  split
  ·exact sup_put h.up
  ·exact h.up
 ·unfold Go.Proofs.YtcekcoepdhnfgaaGreatDoor.setE
  split
  ·rename_i ho
   unfold setOk at ho;rw [Bool.and_eq_true,Bool.and_eq_true,Bool.or_eq_true] at ho;obtain ⟨-,-,ho⟩:=ho
   rcases ho with ho | ho
   ·rw [len_putE_has h.up ho];exact h.len
   ·have:=len_putE_le (f,q) l
    have h16:l.length ≠ 16:=by simpa using ho
    have:=h.len;omega
  ·exact h.len
 ·unfold Go.Proofs.YtcekcoepdhnfgaaGreatDoor.setE
  split
  ·intro y hy
   rcases mem_putE hy with rfl | hy
   ·exact hf
   ·exact h.short y hy
  ·exact h.short
theorem LOk.delE {l:List SubE} (h:LOk l) {f:Str}:LOk (delE f l):=⟨h.ok.delE,h.up.filter _,Nat.le_trans (List.length_filter_le _ _) h.len,fun y hy=>h.short y (List.mem_filter.1 hy).1⟩
theorem LOk.sets {xs:List SubE} (hx:∀ y ∈ xs,y.1.length<=1000/\u8R y.2):∀ {l:List SubE},LOk l->LOk (xs.foldl (fun l y=>Go.Proofs.YtcekcoepdhnfgaaGreatDoor.setE y.1 y.2 l) l):=by
 induction xs with
 | nil=>exact fun h=>h
 | cons y r ih=>exact fun h=>ih (fun z hz=>hx z (by simp [hz])) (h.setE (hx y (by simp)).2.1 (hx y (by simp)).1)
theorem LOk.gone (xs:List SubE):∀ {l:List SubE} {o:List Str},LOk l->LOk (goneGo xs l o).2:=by
 induction xs with
 | nil=>exact fun h=>h
 | cons y r ih=>exact fun h=>ih h.delE
theorem gone_len:∀ (xs l:List SubE) (o:List Str),(goneGo xs l o).1.length<=o.length+xs.length
 | [],_,o=>by simp [goneGo]
 | x :: r,l,o=>by
  unfold goneGo;refine Nat.le_trans (gone_len r _ _) ?_
  split <;> simp <;> omega
theorem grant_len:∀ (xs:List SubE) (ks:Str) (o:List Str),(grantGo xs ks o).length<=o.length+xs.length
 | [],ks,o=>by cases ks <;> simp [grantGo]
 | x :: r,[],o=>by simp [grantGo]
 | x :: r,k :: ks,o=>by
  unfold grantGo;refine Nat.le_trans (grant_len r _ _) ?_
  split <;> simp <;> omega
theorem codes_len:∀ (xs l:List SubE) (o:Str),(codesGo xs l o).length=o.length+xs.length
 | [],_,o=>by simp [codesGo]
 | x :: r,l,o=>by
  unfold codesGo;rw [codes_len r];simp;omega
theorem hubsK_cap (c:HCfg) (hn1:1<=c.n) (hn2:c.n<=64) (fs:List Str):hubsK c fs<=64 * fs.length:=by
 unfold hubsK
 induction fs with
 | nil=>simp
 | cons f r ih =>
  have:=hubsN_len f hn1;rw [List.map_cons,List.sum_cons,List.length_cons];omega
theorem SsOk.lok {s:SS} (h:SsOk s):LOk s.l:=⟨h.l,h.up,h.len,h.short⟩
theorem SsOk.new {cl:ByteArray} (h:cl.size<=1000):SsOk (SS.new cl):=
 ⟨show (0:Int)<=0/\(0:Int)<=9223372036854775807 by decide,show MsOk Msg.none from ⟨by decide,by decide,by unfold u8R;decide⟩,LOk.nil.ok,h,LOk.nil.up,LOk.nil.len,LOk.nil.short⟩
theorem msOk_none:MsOk Msg.none:=⟨by decide,by decide,by unfold u8R;decide⟩
theorem SsOk.begin {s:SS} (h:SsOk s) {conn:Int} {p:Pkt} (hc:1<=conn) (hc':conn<=9223372036854775807) (hp:PkOk p):SsOk (beginS conn p s):=by
 have hw:MsOk (if p.hasWill=true then p.will else Msg.none):=by
  split
  ·exact hp.will
  ·exact msOk_none
 unfold beginS
 split
 ·split
  ·exact ⟨⟨(show 0<=conn by omega),hc'⟩,hw,LOk.nil.ok,h.client,LOk.nil.up,LOk.nil.len,LOk.nil.short⟩
  ·exact ⟨⟨(show 0<=conn by omega),hc'⟩,hw,h.l,h.client,h.up,h.len,h.short⟩
 ·exact h
theorem begin_client (conn:Int) (p:Pkt) (s:SS):(beginS conn p s).client=s.client:=by
 unfold beginS
 split
 ·split <;> rfl
 ·rfl
theorem beginA_len {s:SS} (h:SsOk s) (conn:Int) (p:Pkt):(beginA conn p s).2.length<=16:=by
 unfold beginA
 split
 ·split
  ·unfold namesE;rw [List.length_map];exact h.len
  ·exact Nat.zero_le _
 ·exact Nat.zero_le _
theorem SsOk.names {s:SS} (h:SsOk s):∀ f ∈ namesE s.l,f.length<=1000000:=fun f hf=>by
 obtain ⟨y,hy,rfl⟩:=List.mem_map.1 hf;have:=h.short y hy;omega
theorem beginA_short {s:SS} (h:SsOk s) (conn:Int) (p:Pkt):∀ f ∈ (beginA conn p s).2,f.length<=1000000:=by
 unfold beginA
 split
 ·split
  ·exact h.names
  ·exact fun f hf=>by cases hf
 ·exact fun f hf=>by cases hf
theorem SsOk.setL {s:SS} (h:SsOk s) {l:List SubE} (hl:LOk l):SsOk (s.setL l):=⟨h.conn,h.will,hl.ok,h.client,hl.up,hl.len,hl.short⟩
theorem SsOk.leave {s:SS} (h:SsOk s):SsOk (leaveS s):=⟨show (0:Int)<=0/\(0:Int)<=9223372036854775807 by decide,msOk_none,h.l,h.client,h.up,h.len,h.short⟩
theorem SeOk.idle {s:SS} (h:SsOk s):SeOk ⟨s,none⟩:=⟨h,fun k left hk=>by cases hk⟩
theorem SeOk.setO {z:HSeat} (h:SeOk z) (o:OT):SeOk ⟨z.s.setO o,z.busy⟩:=
 ⟨⟨h.s.conn,h.s.will,h.s.l,h.s.client,h.s.up,h.s.len,h.s.short⟩,fun k left hk=>by
  have:=h.w k left hk
  cases k <;> exact this⟩
theorem SeOk.setC {z:HSeat} (h:SeOk z) (l:List Int):SeOk ⟨z.s.setC l,z.busy⟩:=
 ⟨⟨h.s.conn,h.s.will,h.s.l,h.s.client,h.s.up,h.s.len,h.s.short⟩,fun k left hk=>by
  have:=h.w k left hk
  cases k <;> exact this⟩
section
variable {c:HCfg} {t t' t1:Tn} {cl:ByteArray} {z:HSeat}
theorem HOk.setO (h:HOk t) (h0:t.seat cl=some z) (o:OT):HOk (t.setS cl ⟨z.s.setO o,z.busy⟩):=h.setB h0 rfl rfl ((h.seat z (seat_at h0).1).setO o)
theorem HOk.setC (h:HOk t) (h0:t.seat cl=some z) (l:List Int):HOk (t.setS cl ⟨z.s.setC l,z.busy⟩):=h.setB h0 rfl rfl ((h.seat z (seat_at h0).1).setC l)
theorem HOk.addFlow (h:HOk t) {f:HFlow} (hf:FlOk f) (hz:f.conn ≠ 0 -> ∃ z,t.seat f.client=some z/\z.busy=some (.flow f.op,0)):HOk { t with flows:=withoutF f.op t.flows ++ [f] }:=by
 refine ⟨h.nd,h.seat,?_,fun g hg => ?_,fun g hg hc => ?_⟩
 ·show ((withoutF f.op t.flows ++ [f]).map (·.op)).Nodup
  rw [List.map_append,List.nodup_append];refine ⟨(h.fnd.sublist (List.Sublist.map _ List.filter_sublist)),by simp,fun a ha b hb => ?_⟩;obtain ⟨g,hg,rfl⟩:=List.mem_map.1 ha;have h1:g.op ≠ f.op:=by simpa using (List.mem_filter.1 hg).2
  simp at hb;rw [hb];exact h1
 ·rcases List.mem_append.1 hg with hg | hg
  ·exact h.flow g (List.mem_filter.1 hg).1
  ·rw [List.mem_singleton.1 hg];exact hf
 ·rcases List.mem_append.1 hg with hg | hg
  ·exact h.at' g (List.mem_filter.1 hg).1 hc
  ·rw [List.mem_singleton.1 hg] at hc ⊢;exact hz hc
theorem HOk.delFlow (h:HOk t) (op:Int):HOk { t with flows:=withoutF op t.flows }:=
 ⟨h.nd,h.seat,h.fnd.sublist (List.Sublist.map _ List.filter_sublist),fun g hg=>h.flow g (List.mem_filter.1 hg).1,fun g hg hc=>h.at' g (List.mem_filter.1 hg).1 hc⟩
theorem HOk.delSeat (h:HOk t) (hno:∀ f ∈ t.flows,f.conn ≠ 0->f.client ≠ cl):HOk { t with seats:=t.seats.filter fun z=>decide (z.s.client ≠ cl) }:=by
 refine ⟨h.nd.sublist (List.Sublist.map _ List.filter_sublist),fun y hy=>h.seat y (List.mem_filter.1 hy).1,h.fnd,h.flow,fun f hf hc => ?_⟩;obtain ⟨z,h1,h2⟩:=h.at' f hf hc;refine ⟨z,?_,h2⟩;have hne:=hno f hf hc;obtain ⟨hm,hzc⟩:=seat_at h1;unfold Tn.seat at h1 ⊢;dsimp only;rw [List.find?_filter,<- h1];apply congrArg (fun p=>List.find? p t.seats)
 funext y
 by_cases e:y.s.client=f.client
 ·simp [e,hne]
 ·simp [e]
theorem HOk.addSeat (h:HOk t) (h0:t.seat cl=none) {s:SS} (hs:SsOk s) (hc:s.client=cl):HOk { t with seats:=t.seats ++ [⟨s,none⟩] }:=by
 have hne:∀ y ∈ t.seats,y.s.client ≠ cl:=fun y hy e=>by
  have:=List.find?_eq_none.1 h0 y hy;simp [e] at this
 refine ⟨?_,fun y hy => ?_,h.fnd,h.flow,fun f hf hfc => ?_⟩
 ·show ((t.seats ++ [(⟨s,none⟩:HSeat)]).map (·.s.client)).Nodup
  rw [List.map_append,List.nodup_append];refine ⟨h.nd,by simp,fun a ha b hb => ?_⟩;obtain ⟨y,hy,rfl⟩:=List.mem_map.1 ha;simp at hb;rw [hb,hc];exact hne y hy
 ·rcases List.mem_append.1 hy with hy | hy
  ·exact h.seat y hy
  ·rw [List.mem_singleton.1 hy];exact SeOk.idle hs
 ·obtain ⟨z,h1,h2⟩:=h.at' f hf hfc
  refine ⟨z,?_,h2⟩;unfold Tn.seat at h1 ⊢;dsimp only;rw [List.find?_append,h1];rfl
theorem free_ok (h:HOk t) (hno:∀ g ∈ t.flows,g.conn ≠ 0->g.client ≠ cl):HOk (freeT cl t):=by
 unfold freeT
 split
 ·exact h
 ·rename_i z hz
  exact h.setS hz rfl (SeOk.idle (h.seat z (seat_at hz).1).s) fun f hf hc e=>absurd e (hno f hf hc)
theorem flowed_ok {f:HFlow} (h:HOk t) (hno:f.conn ≠ 0 -> ∀ g ∈ t.flows,g.conn ≠ 0->g.client ≠ f.client):HOk (flowedT c f t):=by
 unfold flowedT
 split
 ·exact h.of rfl rfl
 ·rename_i hc
  exact (free_ok h (hno hc)).same (ssf_told _ _ _ _ _ _)
theorem route_ok {op conn:Int} {p:Pkt} (h:HOk t) (hf:FlOk ⟨op,cl,conn,p,-1,0⟩) (hz:conn ≠ 0 -> ∃ z,t.seat cl=some z/\z.busy=some (.flow op,0)) (hno:conn ≠ 0 -> ∀ g ∈ t.flows,g.conn ≠ 0->g.client ≠ cl):HOk (routeT c op cl conn p t):=by
 unfold routeT
 split
 ·exact (HOk.addFlow (t:=t.note { noteN 4 op conn cl with msg:=msgOf p }) (h.of rfl rfl) hf hz).of rfl rfl
 ·exact flowed_ok h hno
theorem route0_seats (op:Int) (p:Pkt):(routeT c op cl 0 p t).seats=t.seats:=by
 unfold routeT
 split <;> rfl
theorem loses_seats (left:Bool):(losesT c z left t).seats=(t.setS z.s.client ⟨leaveS z.s,z.busy⟩).seats:=by
 unfold losesT;dsimp only
 split
 ·rfl
 ·split
  ·rw [route0_seats];rfl
  ·rfl
theorem will_flow {s:SS} (h:SsOk s) {op:Int} (ho:i64R op) (hl:(loseA s).2=true):FlOk ⟨op,s.client,0,pubOf (loseA s).1,-1,0⟩:=by
 have hm:(loseA s).1=s.will:=by
  unfold loseA at hl ⊢
  split
  ·rfl
  ·rename_i hn
   rw [if_neg hn] at hl
   cases hl
 rw [hm];obtain ⟨k1,k2,k3⟩:=h.will;exact ⟨ho,⟨Int.le_refl _,by show (0:Int)<=_;decide⟩,⟨by show u8R 3;unfold u8R;decide,k3,by show (0:Int)<=0/\(0:Int)<=65535;decide,k1,k2,msOk_none,Nat.zero_le _,fun y hy=>(by cases hy)⟩,h.client⟩
theorem loses_ok (h:HOk t) (h0:t.seat cl=some z) (hb:z.busy=none) (ho:i64R (t.ops+1)) (left:Bool):HOk (losesT c z left t):=by
 have hzc:=(seat_at h0).2;have hs:=(h.seat z (seat_at h0).1).s
 have h1:HOk (t.setS cl ⟨leaveS z.s,z.busy⟩):=by
  rw [hb];exact h.set0 h0 (by rw [hb];rfl) rfl (SeOk.idle hs.leave)
 unfold losesT;dsimp only;rw [hzc]
 split
 ·exact h1
 ·split
  ·rename_i hl
   have:=will_flow hs ho hl;rw [hzc] at this;exact route_ok (h1.of rfl rfl) this (fun h=>absurd rfl h) (fun h=>absurd rfl h)
  ·exact h1
theorem seat_same (h:t'.seats=t.seats) (d:ByteArray):t'.seat d=t.seat d:=by unfold Tn.seat;rw [h]
theorem seat_setS' (h0:t.seat cl=some z) {z':HSeat} (hz:z'.s.client=cl):(t.setS cl z').seat cl=some z':=by rw [seat_setS h0 hz,if_pos rfl]
theorem loses_seat (h0:t.seat cl=some z) (left:Bool):(losesT c z left t).seat cl=some ⟨leaveS z.s,z.busy⟩:=by
 rw [seat_same (loses_seats left),(seat_at h0).2];exact seat_setS' h0 (seat_at h0).2
theorem closedO_ssf (z:HSeat) (old many:Int) (t:Tn):SSF t (closedO z old many t):=by
 unfold closedO
 split <;> exact ⟨rfl,rfl⟩
theorem closedO_ops (z:HSeat) (old many:Int) (t:Tn):(closedO z old many t).ops=t.ops \/ (closedO z old many t).ops=t.ops+1:=by
 unfold closedO
 split
 ·exact .inr rfl
 ·exact .inl rfl
theorem closed_ok {old many:Int} (h:HOk t) (h0:t.seat cl=some z) (hb:z.busy=none) (ho1:0<=t.ops) (ho2:t.ops<=1000000):HOk (closedT c z old many t)/\(closedT c z old many t).seat cl=some ⟨leaveS z.s,none⟩:=by
 unfold closedT;have e3:SSF t ((closedO z old many t).note (noteP 2 (closedN many t) old z.s.client (closedP many))):=(closedO_ssf z old many t).trans (ssf_note _ _);have h0':=(e3.seat cl).trans h0;have ho:=closedO_ops z old many t;refine ⟨HOk.note (loses_ok (h.same e3) h0' hb ?_ _) _,?_⟩
 ·show i64R ((closedO z old many t).ops+1)
  unfold i64R;omega
 ·have:=loses_seat (c:=c) h0' (!decide (many=0))
  rw [hb] at this;exact this
theorem doneAtt_ok {x:Item} {pres:Bool} (h:HOk t) (h0:t.seat cl=some z):HOk (doneAtt c x pres z t):=by
 unfold doneAtt;dsimp only;rw [(seat_at h0).2];exact HOk.note (HOk.same (h.setO h0 _) (ssf_answers _ _ _ _)) _
theorem attach_ok {x:Item} (hn1:1<=c.n) (hn2:c.n<=64) (h:HOk t) (h0:t.seat cl=some z) (hb:z.busy=none) (hx:ItOk x) (hc:1<=x.conn) (hcl:x.client=cl):HOk (attachT c z x t):=by
 have hzc:=(seat_at h0).2;have hs:=(h.seat z (seat_at h0).1).s;have hs1:=hs.begin hc hx.conn.2 hx.pk;have hcl1:=(begin_client x.conn x.pk z.s).trans hzc;unfold attachT;dsimp only;rw [hzc,hb];have h1:HOk (t.setS cl ⟨beginS x.conn x.pk z.s,none⟩):=h.set0 h0 (by rw [hb];rfl) (hcl1.trans hzc.symm) (SeOk.idle hs1);have h1s:(t.setS cl ⟨beginS x.conn x.pk z.s,none⟩).seat cl=some ⟨beginS x.conn x.pk z.s,none⟩:=seat_setS' h0 hcl1;have e2:SSF (t.setS cl ⟨beginS x.conn x.pk z.s,none⟩) (hubsT c (itK 6 x.op x.client) (beginA x.conn x.pk z.s).2 ((t.setS cl ⟨beginS x.conn x.pk z.s,none⟩).note (noteA 2 x.op x.conn x.client x.pk.bare (beginA x.conn x.pk z.s).1))):=(ssf_note _ _).trans (ssf_hubs _ _ _ _);generalize hubsT c (itK 6 x.op x.client) (beginA x.conn x.pk z.s).2 ((t.setS cl ⟨beginS x.conn x.pk z.s,none⟩).note (noteA 2 x.op x.conn x.client x.pk.bare (beginA x.conn x.pk z.s).1))=t2 at *;have h2s:=(e2.seat cl).trans h1s
 split
 ·exact doneAtt_ok (h1.same e2) h2s
 ·rename_i hk
  have hle:=hubsK_cap c hn1 hn2 (beginA x.conn x.pk z.s).2;have:=beginA_len hs x.conn x.pk;refine (h1.same e2).set0 h2s rfl rfl ⟨hs1,fun k left e => ?_⟩
  cases e
  exact ⟨hx,hc,hcl.trans hcl1.symm,by omega,by omega⟩
theorem gate_seats' (lane conn:Int) (x:Item):(gateT c lane conn x t).seats=t.seats:=rfl
theorem connect_ok {x:Item} (hn1:1<=c.n) (hn2:c.n<=64) (h:HOk t) (hb:∀ z,t.seat x.client=some z->z.busy=none) (hx:ItOk x) (hc:1<=x.conn):HOk (connectT c x t):=by
 have key:∀ (t1:Tn) (z:HSeat),HOk t1->t1.seat x.client=some z->z.busy=none->HOk (if z.s.conn=0 \/ z.s.conn=x.conn then attachT c z x t1 else gateT c 2 z.s.conn (itK 3 x.op x.client) (t1.setS z.s.client ⟨z.s,some (.close x z.s.conn,0)⟩)):=fun t1 z h1 h0 hb=>by
  have hzc:=(seat_at h0).2;have hs:=(h1.seat z (seat_at h0).1).s
  split
  ·exact attach_ok hn1 hn2 h1 h0 hb hx hc rfl
  ·rename_i hcn
   rw [hzc];refine (h1.set0 (z:=⟨z.s,some (.close x z.s.conn,0)⟩) h0 (by rw [hb];rfl) rfl ⟨hs,fun k left e => ?_⟩).of rfl rfl
   cases e
   exact ⟨hx,hc,hzc.symm,rfl,by have:=hs.conn.1;have:=not_or.1 hcn;omega,rfl⟩
 unfold connectT
 cases hz:t.seat x.client with
 | some z=>exact key t z h hz (hb z hz)
 | none =>
  refine key _ ⟨SS.new x.client,none⟩ (h.addSeat hz (SsOk.new hx.client) rfl) ?_ rfl;unfold Tn.seat at hz ⊢;dsimp only;rw [List.find?_append,hz];simp [SS.new]
theorem puts_ok {op kind:Int} {m:Msg} (h:HOk t):HOk (putsT c cl op kind m t):=by
 unfold putsT
 split
 ·exact h
 ·rename_i z hz
  exact (h.setO hz _).of rfl rfl
theorem puts_seat {op kind:Int} {m:Msg} (h0:t.seat cl=some z):∃ o,(putsT c cl op kind m t).seat cl=some ⟨z.s.setO o,z.busy⟩:=by
 unfold putsT;rw [h0];exact ⟨_,seat_setS' (z':=⟨z.s.setO _,z.busy⟩) h0 (seat_at h0).2⟩
theorem putss_ok {op kind:Int} (f:Msg->Msg):∀ (l:List Msg) {t:Tn} {z:HSeat},HOk t->t.seat cl=some z->HOk (l.foldl (fun t m=>putsT c cl op kind (f m) t) t) /\ ∃ o,(l.foldl (fun t m=>putsT c cl op kind (f m) t) t).seat cl=some ⟨z.s.setO o,z.busy⟩
 | [],_,z,h,h0=>⟨h,z.s.o,h0⟩
 | m :: r,t,z,h,h0=>by
  obtain ⟨o,ho⟩:=puts_seat (c:=c) (op:=op) (kind:=kind) (m:=f m) h0;obtain ⟨h1,o1,h2⟩:=putss_ok f r (puts_ok h) ho;exact ⟨h1,o1,h2⟩
theorem doneSub_ok {x:Item} {codes:Str} {kept:List Msg} (h:HOk t) (h0:t.seat cl=some z) (hb:z.busy=none) (hx:ItOk x):HOk (doneSub c x codes kept z t):=by
 have hzc:=(seat_at h0).2;have hs:=(h.seat z (seat_at h0).1).s;unfold doneSub;dsimp only;rw [hzc]
 have h1:HOk ((t.setS cl ⟨z.s.setL (x.pk.subs.foldl (fun l y=>setE y.1 y.2 l) z.s.l),z.busy⟩).note (noteC 2 x.op x.conn x.client x.pk.bare codes)):=by
  refine (h.setB (z:=⟨z.s.setL (x.pk.subs.foldl (fun l y=>setE y.1 y.2 l) z.s.l),z.busy⟩) h0 rfl rfl ?_).of rfl rfl;rw [hb];exact SeOk.idle (hs.setL (hs.lok.sets hx.pk.subs))
 have h1s:((t.setS cl ⟨z.s.setL (x.pk.subs.foldl (fun l y=>setE y.1 y.2 l) z.s.l),z.busy⟩).note (noteC 2 x.op x.conn x.client x.pk.bare codes)).seat cl=some ⟨z.s.setL (x.pk.subs.foldl (fun l y=>setE y.1 y.2 l) z.s.l),z.busy⟩:=by
  show (t.setS cl _).seat cl=_
  exact seat_setS' h0 hzc
 obtain ⟨h2,o,h3⟩:=putss_ok (c:=c) (op:=x.op) (kind:=8) (fun m=>⟨m.t,m.p,min m.q (bestS m.k (ofGo x.pk.subs codes [])).1,true⟩) kept h1 h1s;simp only at h2 h3;rw [h3];dsimp only;exact HOk.note (HOk.same (h2.setO h3 _) (ssf_answers _ _ _ _)) _
theorem subscribe_ok {x:Item} (hn1:1<=c.n) (hn2:c.n<=64) (h:HOk t) (h0:t.seat cl=some z) (hb:z.busy=none) (hx:ItOk x) (hc:1<=x.conn) (hcl:x.client=cl):HOk (subscribeT c z x t):=by
 have hzc:=(seat_at h0).2;have hs:=(h.seat z (seat_at h0).1).s;unfold subscribeT;dsimp only;have e1:=ssf_hubs c (itK 5 x.op x.client) (granted x.pk.subs (codesGo x.pk.subs z.s.l [])) t;generalize hubsT c (itK 5 x.op x.client) (granted x.pk.subs (codesGo x.pk.subs z.s.l [])) t=t1 at *;have h1s:=(e1.seat cl).trans h0
 split
 ·exact doneSub_ok (h.same e1) h1s hb hx
 ·rename_i hk
  rw [hzc];refine (h.same e1).set0 h1s (by rw [hb];rfl) rfl ⟨hs,fun k left e => ?_⟩
  cases e
  have:=hubsK_cap c hn1 hn2 (granted x.pk.subs (codesGo x.pk.subs z.s.l []));have h5:=grant_len x.pk.subs (codesGo x.pk.subs z.s.l []) [];have h6:=hx.pk.nsubs;unfold granted at *;simp only [List.length_nil,Nat.zero_add] at h5;exact ⟨hx,hc,hcl.trans hzc.symm,by rw [codes_len];simp,List.Pairwise.nil,fun m hm=>(by cases hm),by omega,by omega⟩
theorem doneUns_ok {x:Item} (h:HOk t):HOk (doneUns c x t):=HOk.note (HOk.same h (ssf_answers _ _ _ _)) _
theorem unsubscribe_ok {x:Item} (hn1:1<=c.n) (hn2:c.n<=64) (h:HOk t) (h0:t.seat cl=some z) (hb:z.busy=none) (hx:ItOk x) (hc:1<=x.conn) (hcl:x.client=cl):HOk (unsubscribeT c z x t):=by
 have hzc:=(seat_at h0).2;have hs:=(h.seat z (seat_at h0).1).s;unfold unsubscribeT;dsimp only;rw [hzc,hb];have hl1:=LOk.gone x.pk.subs (o:=[]) hs.lok;have h1:HOk (t.setS cl ⟨z.s.setL (goneGo x.pk.subs z.s.l []).2,none⟩):=h.set0 h0 (by rw [hb];rfl) rfl (SeOk.idle (hs.setL hl1));have h1s:(t.setS cl ⟨z.s.setL (goneGo x.pk.subs z.s.l []).2,none⟩).seat cl=some ⟨z.s.setL (goneGo x.pk.subs z.s.l []).2,none⟩:=seat_setS' h0 hzc;have e2:SSF (t.setS cl ⟨z.s.setL (goneGo x.pk.subs z.s.l []).2,none⟩) (hubsT c (itK 6 x.op x.client) (goneGo x.pk.subs z.s.l []).1 ((t.setS cl ⟨z.s.setL (goneGo x.pk.subs z.s.l []).2,none⟩).note (noteP 2 x.op x.conn x.client x.pk.bare))):=(ssf_note _ _).trans (ssf_hubs _ _ _ _);generalize hubsT c (itK 6 x.op x.client) (goneGo x.pk.subs z.s.l []).1 ((t.setS cl ⟨z.s.setL (goneGo x.pk.subs z.s.l []).2,none⟩).note (noteP 2 x.op x.conn x.client x.pk.bare))=t2 at *;have h2s:=(e2.seat cl).trans h1s
 split
 ·exact doneUns_ok (h1.same e2)
 ·rename_i hk
  refine (h1.same e2).set0 h2s rfl rfl ⟨hs.setL hl1,fun k left e => ?_⟩
  cases e
  have:=hubsK_cap c hn1 hn2 (goneGo x.pk.subs z.s.l []).1;have h5:=gone_len x.pk.subs z.s.l [];have h6:=hx.pk.nsubs;simp only [List.length_nil,Nat.zero_add] at h5;exact ⟨hx,hc,hcl.trans hzc.symm,by omega,by omega⟩
theorem firstZ_is (x:Item) (z:HSeat):(firstZ x z).s.client=z.s.client/\(firstZ x z).busy=z.busy/\(SsOk z.s->SsOk (firstZ x z).s):=by
 unfold firstZ
 split
 ·exact ⟨rfl,rfl,fun h=>⟨h.conn,h.will,h.l,h.client,h.up,h.len,h.short⟩⟩
 ·exact ⟨rfl,rfl,id⟩
theorem publish_ok {x:Item} (h:HOk t) (h0:t.seat cl=some z) (hb:z.busy=none) (hx:ItOk x) (hc:1<=x.conn) (hcl:x.client=cl):HOk (publishT c z x t):=by
 have hzc:=(seat_at h0).2;have hs:=(h.seat z (seat_at h0).1).s;obtain ⟨f1,f2,f3⟩:=firstZ_is x z;have h1c:=f1.trans hzc;have h1b:=f2.trans hb;have h1o:=f3 hs;unfold publishT;dsimp only;rw [hzc];generalize firstZ x z=z1 at *
 have h1:HOk (t.setS cl z1):=h.set0 h0 (by rw [hb];rfl) (h1c.trans hzc.symm) (by
  have:=SeOk.idle h1o;rw [<- h1b] at this
  exact this)
 have h1s:=seat_setS' (z':=z1) h0 h1c
 split
 ·exact h1.same (ssf_told _ _ _ _ _ _)
 ·have h2:HOk ((t.setS cl z1).setS cl ⟨z1.s,some (.flow x.op,0)⟩):=h1.set0 h1s (by rw [h1b];rfl) rfl ⟨h1o,fun k left e=>by cases e;exact ⟨hx.op,rfl⟩⟩
  have h2s:=seat_setS' (z':=⟨z1.s,some (.flow x.op,0)⟩) h1s h1c;have hno:=h1.noFlow h1s (by rw [h1b];rfl);rw [hcl];exact route_ok h2 ⟨hx.op,⟨by show 0<=x.conn;omega,hx.conn.2⟩,hx.pk,by rw [<- hcl];exact hx.client⟩ (fun _=>⟨_,h2s,rfl⟩) (fun _=>hno)
theorem acks_ok {x:Item} (h:HOk t) (h0:t.seat cl=some z):HOk (acksT c z x t):=by
 unfold acksT;rw [(seat_at h0).2]
 split
 ·exact (h.setC h0 _).same (ssf_answers _ _ _ _)
 ·exact (h.setO h0 _).same (ssf_answers _ _ _ _)
theorem doneFin_ok {x:Item} {clean:Bool} (h:HOk t) (h0:t.seat cl=some z) (hb:z.busy=none) (hcl:x.client=cl):HOk (doneFin c x clean t):=by
 have h1:HOk (finS x clean t):=by
  unfold finS;rw [hcl]
  split
  ·exact h.delSeat (h.noFlow h0 (by rw [hb];rfl))
  ·exact h
 unfold doneFin;refine HOk.note ?_ _
 split
 ·exact h1.of rfl rfl
 ·exact h1
theorem SsOk.fin {s:SS} (h:SsOk s):SsOk (finL s):=by
 unfold finL;refine SsOk.setL h.leave ?_
 split
 ·exact LOk.nil
 ·exact h.lok
theorem finN_len {s:SS} (h:SsOk s):(finN s).length<=16:=by
 unfold finN
 split
 ·unfold namesE;rw [List.length_map];exact h.len
 ·exact Nat.zero_le _
theorem finH_ok {x:Item} (h:HOk t) (hz:SsOk z.s) {z':HSeat} (h0:t.seat cl=some z') (hb':z'.busy=none) (hzc:z.s.client=cl) (hb:z.busy=none):HOk (finH c z x t) /\ ∃ z3,(finH c z x t).seat cl=some z3/\z3.busy=none/\z3.s.client=cl:=by
 unfold finH
 split
 ·rw [hzc,hb]
  have h4:=h.set0 (z:=⟨finL z.s,none⟩) h0 (by rw [hb'];rfl) (hzc.trans (seat_at h0).2.symm) (SeOk.idle hz.fin);have e4:=ssf_hubs c (itK 6 x.op x.client) (finN z.s) (t.setS cl ⟨finL z.s,none⟩);exact ⟨h4.same e4,_,(e4.seat cl).trans (seat_setS' h0 hzc),rfl,hzc⟩
 ·exact ⟨h,z',h0,hb',(seat_at h0).2⟩
theorem ends_ok {x:Item} (hn1:1<=c.n) (hn2:c.n<=64) (h:HOk t) (h0:t.seat cl=some z) (hb:z.busy=none) (hx:ItOk x) (hc:1<=x.conn) (hcl:x.client=cl) (ho1:0<=t.ops) (ho2:t.ops<=1000000):HOk (endsT c z x t):=by
 have hzc:=(seat_at h0).2;have hs:=(h.seat z (seat_at h0).1).s;have h1:HOk (t.note (noteP 2 x.op x.conn x.client x.pk.bare)):=h.note _;have h1s:(t.note (noteP 2 x.op x.conn x.client x.pk.bare)).seat cl=some z:=h0;have h2:=loses_ok (c:=c) h1 h1s hb (by show i64R (t.ops+1);unfold i64R;omega) (decide (x.kind=1));have h2s:=loses_seat (c:=c) h1s (decide (x.kind=1));unfold endsT;generalize losesT c z (decide (x.kind=1)) (t.note (noteP 2 x.op x.conn x.client x.pk.bare))=t2 at *;obtain ⟨h3o,z3,h3s,h3b,h3c⟩:=finH_ok (c:=c) (x:=x) h2 hs h2s hb hzc hb;dsimp only;generalize finH c z x t2=t3 at *
 split
 ·exact doneFin_ok h3o h3s h3b hcl
 ·rename_i hk
  rw [hzc];have hle:=hubsK_cap c hn1 hn2 (finN z.s);have h9:=finN_len hs;refine h3o.set0 h3s (by rw [h3b];rfl) (hzc.trans h3c.symm) ⟨hs.fin,fun k left e => ?_⟩
  cases e
  exact ⟨hx,hc,hcl.trans hzc.symm,rfl,by omega,by omega⟩
theorem keepsW_ok {m:Msg} {x:Item} {codes:Str} {kept:List Msg} (hm:MsOk m) (hu:Up kept) (hk:∀ m ∈ kept,MsOk m):Up (keepsW m x codes kept) /\ ∀ y ∈ keepsW m x codes kept,MsOk y:=by
 unfold keepsW
 split
 ·split
  ·exact ⟨hu.del,fun y hy=>hk y (List.mem_filter.1 hy).1⟩
  ·exact ⟨hu.put,fun y hy=>(mem_put hy).elim (fun e=>e ▸ hm) (hk y)⟩
 ·exact ⟨hu,hk⟩
theorem deliverP_ok {x:Item} (h:HOk t):HOk (deliverP c x cl z t):=by
 unfold deliverP
 split
 ·dsimp only
  split
  ·exact puts_ok h
  ·split
   ·exact puts_ok h
   ·rename_i z1 hz1
    exact HOk.same ((puts_ok h).setO hz1 _) (ssf_sends _ _ _ _)
 ·exact h
theorem keepT_ok {x:Item} (h1:HOk t) (hx:ItOk x):HOk (keepT x cl t):=by
 unfold keepT
 split
 ·rename_i s y codes kept left hs
  split
  ·have hw:=h1.seat _ (seat_at hs).1
   have hk:=hw.w _ _ rfl;obtain ⟨k1,k2,k3,k4,k5,k6,k7,k8⟩:=hk;have hkk:=keepsW_ok (x:=y) (codes:=codes) hx.msg k5 k6;refine h1.set0 hs rfl rfl ⟨hw.s,fun k l e => ?_⟩
   cases e
   exact ⟨k1,k2,k3,k4,hkk.1,hkk.2,k7,k8⟩
  ·exact h1
 ·exact h1
theorem deliver1_hok {x:Item} (h:HOk t) (hx:ItOk x):HOk (deliver1 c x cl t):=by
 unfold deliver1
 split
 ·exact h
 ·exact keepT_ok (deliverP_ok h) hx
theorem deliver_ok {x:Item} (h:HOk t) (hx:ItOk x):HOk (deliverT c x t):=by
 unfold deliverT;dsimp only
 have h1:∀ (l:List ByteArray) (t:Tn),HOk t->HOk (l.foldl (fun t cl=>deliver1 c x cl t) t):=by
  intro l
  induction l with
  | nil=>exact fun t h=>h
  | cons a r ih=>exact fun t h=>ih _ (deliver1_hok h hx)
 split
 ·exact (h1 _ _ h).of rfl rfl
 ·exact h1 _ _ h
theorem countF_is (x:Item) (f:HFlow):(countF x f).op=f.op/\(countF x f).client=f.client/\(countF x f).conn=f.conn/\(FlOk f->FlOk (countF x f)):=by
 unfold countF
 split
 ·exact ⟨rfl,rfl,rfl,fun h=>⟨h.op,h.conn,h.p,h.client⟩⟩
 ·exact ⟨rfl,rfl,rfl,fun h=>⟨h.op,h.conn,h.p,h.client⟩⟩
theorem counted_ok {x:Item} (h:HOk t):HOk (countedT c x t):=by
 unfold countedT
 split
 ·exact h
 ·rename_i f hf
  have hm:=List.mem_of_find?_eq_some hf;have ho:f.op=x.op:=by simpa using List.find?_some hf
  obtain ⟨g1,g2,g3,g4⟩:=countF_is x f;replace g4:=g4 (h.flow f hm);generalize countF x f=g at *
  split
  ·refine flowed_ok (h.delFlow x.op) fun hgc q hq hqc e => ?_
   obtain ⟨hq1,hq2⟩:=List.mem_filter.1 hq;obtain ⟨z1,a1,a2⟩:=h.at' q hq1 hqc;obtain ⟨z2,b1,b2⟩:=h.at' f hm (by rw [<- g3];exact hgc);rw [e,g2,b1] at a1
   cases a1
   rw [b2] at a2;have e5:f.op=q.op:=by injection a2 with a3;injection a3 with a4;injection a4
   rw [<- e5,ho] at hq2;simp at hq2
  ·unfold Tn.setF
   have e1:(t.flows.map fun y=>if y.op=x.op then g else y).map (·.op)=t.flows.map (·.op):=by
    rw [List.map_map];refine List.map_congr_left fun y hy => ?_
    simp only [Function.comp]
    split
    ·rename_i e;rw [g1,ho,e]
    ·rfl
   refine ⟨h.nd,h.seat,by show (List.map _ _).Nodup;rw [e1];exact h.fnd,fun q hq => ?_,fun q hq hqc => ?_⟩
   ·obtain ⟨y,hy,e⟩:=List.mem_map.1 hq
    split at e
    ·rw [<- e];exact g4
    ·rw [<- e];exact h.flow y hy
   ·obtain ⟨y,hy,e⟩:=List.mem_map.1 hq
    split at e
    ·rw [<- e,g1,g2]
     rw [<- e,g3] at hqc;exact h.at' f hm hqc
    ·rw [<- e]
     rw [<- e] at hqc;exact h.at' y hy hqc
theorem wkAdd_ok {x:Item} {s:SS} {left:Int} {k:Wk} (hx:ItOk x) (h:WkOk s left k):WkOk s left (wkAdd x k):=by
 cases k with
 | sub y codes kept =>
  obtain ⟨k1,k2,k3,k4,k5,k6,k7,k8⟩:=h
  have:∀ (ms:List Msg) (kept:List Msg),(∀ m ∈ ms,MsOk m)->Up kept->(∀ m ∈ kept,MsOk m)->Up (ms.foldl (fun l m=>put m l) kept) /\ ∀ m ∈ ms.foldl (fun l m=>put m l) kept,MsOk m:=by
   intro ms
   induction ms with
   | nil=>exact fun kept _ h1 h2=>⟨h1,h2⟩
   | cons a r ih=>exact fun kept h0 h1 h2=>ih _ (fun m hm=>h0 m (by simp [hm])) h1.put fun m hm=>(mem_put hm).elim (fun e=>e ▸ h0 a (by simp)) (h2 m)
  obtain ⟨a,b⟩:=this x.ms kept hx.ms k5 k6;exact ⟨k1,k2,k3,k4,a,b,k7,k8⟩
 | _=>exact h
theorem answered_ok {x:Item} {s:SS} {k:Wk} {left:Int} (hn1:1<=c.n) (hn2:c.n<=64) (h:HOk t) (h0:t.seat cl=some ⟨s,some (k,left)⟩) (hk:wkKind k ≠ 0) (hx:ItOk x) (ho1:0<=t.ops) (ho2:t.ops<=1000000):HOk (answeredT c ⟨s,some (k,left)⟩ k left x t):=by
 have hzc:s.client=cl:=(seat_at h0).2;have hz:=h.seat _ (seat_at h0).1;have hw:=hz.w k left rfl;have hnf:isFlow (some (k,left))=false:=by cases k <;> first | rfl | exact absurd rfl hk
 have h1:HOk (t.setS cl ⟨s,none⟩):=h.set0 h0 hnf rfl (SeOk.idle hz.s);have h1s:(t.setS cl ⟨s,none⟩).seat cl=some ⟨s,none⟩:=seat_setS' h0 hzc;unfold answeredT
 split
 ·rename_i y old
  obtain ⟨k1,k2,k3,-⟩:=hw;dsimp only;rw [hzc];obtain ⟨h2,h2s⟩:=closed_ok (c:=c) (old:=old) (many:=x.many) h1 h1s rfl ho1 ho2;exact attach_ok hn1 hn2 h2 h2s rfl k1 k2 (k3.trans hzc)
 ·rename_i hnc
  dsimp only;rw [hzc];have hw1:=wkAdd_ok hx hw;have hkk:isFlow (some (wkAdd x k,left - 1))=false:=by cases k <;> first | rfl | exact absurd rfl hk
  split
  ·cases k with
   | close y old=>exact absurd rfl (hnc y old)
   | att y pres=>exact doneAtt_ok h1 h1s
   | sub y codes kept=>exact doneSub_ok h1 h1s rfl hw1.1
   | uns y=>exact doneUns_ok h1
   | flow op=>exact absurd rfl hk
   | fin y clean=>exact doneFin_ok h1 h1s rfl (hw1.2.2.1.trans hzc)
  ·rename_i hl
   refine h.set0 h0 hnf rfl ⟨hz.s,fun k' l' e => ?_⟩
   cases e
   cases k with
   | close y old=>exact absurd rfl (hnc y old)
   | att y pres=>obtain ⟨a,b,d,e1,e2⟩:=hw;exact ⟨a,b,d,by omega,by omega⟩
   | sub y codes kept=>obtain ⟨a,b,d,e1,e2,e3,e4,e5⟩:=hw1;exact ⟨a,b,d,e1,e2,e3,by omega,by omega⟩
   | uns y=>obtain ⟨a,b,d,e1,e2⟩:=hw;exact ⟨a,b,d,by omega,by omega⟩
   | flow op=>exact absurd rfl hk
   | fin y clean=>obtain ⟨a,b,d,e0,e1,e2⟩:=hw;exact ⟨a,b,d,e0,by omega,by omega⟩
theorem pkOk_z:PkOk pkZ:=⟨by show u8R 0;unfold u8R;decide,by show u8R 0;unfold u8R;decide,by show (0:Int)<=0/\(0:Int)<=65535;decide,by decide,by decide,msOk_none,Nat.zero_le _,fun y hy=>(by cases hy)⟩
theorem ItOk.gone {x:Item} (h:ItOk x):ItOk { x with pk:=pkZ }:=⟨h.kind,h.op,h.conn,h.frm,h.many,h.client,pkOk_z,h.msg,h.nms,h.ms,h.ncls,h.cls⟩
theorem hear_ok {x:Item} (hn1:1<=c.n) (hn2:c.n<=64) (h:HOk t) (hx:ItOk x) (ho1:0<=t.ops) (ho2:t.ops<=1000000):HOk (hearT c x t):=by
 unfold hearT
 split
 ·exact h
 ·rename_i hr
  split
  ·rename_i hk
   have hb:∀ z,t.seat x.client=some z->z.busy=none:=fun z hz=>by
    unfold refusedB at hr;rw [hz] at hr;have h2:(decide (x.kind=1) || decide (x.kind=2))=true:=by simpa using hk
    rw [h2,Bool.true_and] at hr
    simpa using hr
   unfold askedT
   split
   ·rename_i h1
    exact connect_ok hn1 hn2 h hb hx (by omega)
   ·split
    ·exact h
    ·rename_i z hz
     have hzb:=hb z hz
     split
     ·exact h
     ·rename_i hcn
      have hc:1<=x.conn:=by omega
      split
      ·exact ends_ok (x:={ x with pk:=pkZ }) hn1 hn2 h hz hzb hx.gone hc rfl ho1 ho2
      ·split
       ·exact subscribe_ok hn1 hn2 h hz hzb hx hc rfl
       ·split
        ·exact unsubscribe_ok hn1 hn2 h hz hzb hx hc rfl
        ·split
         ·exact publish_ok h hz hzb hx hc rfl
         ·split
          ·exact ends_ok hn1 hn2 h hz hzb hx hc rfl ho1 ho2
          ·exact acks_ok h hz
  ·split
   ·rename_i hk
    split
    ·rename_i s k left hz
     split
     ·rename_i hw
      exact answered_ok hn1 hn2 h hz (by omega) hx ho1 ho2
     ·exact h
    ·exact h
   ·split
    ·exact deliver_ok h hx
    ·split
     ·exact counted_ok h
     ·exact h
end
end
section
open Go
structure Gr (dn dm dop df:Nat) (t t':Tn):Prop where
 n:t'.notes.length<=t.notes.length+dn
 m:t'.mails.length<=t.mails.length+dm
 o0:t.ops<=t'.ops
 o1:t'.ops<=t.ops+dop
 f:t'.flows.length<=t.flows.length+df
section
variable {a b d e a' b' d' e':Nat} {t t1 t':Tn} {c:HCfg}
theorem Gr.refl:Gr 0 0 0 0 t t:=⟨Nat.le_refl _,Nat.le_refl _,Int.le_refl _,by omega,Nat.le_refl _⟩
theorem Gr.trans (h:Gr a b d e t t1) (h':Gr a' b' d' e' t1 t'):Gr (a+a') (b+b') (d+d') (e+e') t t':=
 ⟨by have:=h.n;have:=h'.n;omega,by have:=h.m;have:=h'.m;omega,by have:=h.o0;have:=h'.o0;omega,by have:=h.o1;have:=h'.o1;omega,by have:=h.f;have:=h'.f;omega⟩
theorem Gr.le (h:Gr a b d e t t') (h1:a<=a':=by omega) (h2:b<=b':=by omega) (h3:d<=d':=by omega) (h4:e<=e':=by omega):Gr a' b' d' e' t t':=
 ⟨by have:=h.n;omega,by have:=h.m;omega,h.o0,by have:=h.o1;omega,by have:=h.f;omega⟩
theorem gr_of (h1:t'.notes.length<=t.notes.length+a) (h2:t'.mails.length<=t.mails.length+b) (h3:t'.ops=t.ops) (h4:t'.flows.length<=t.flows.length+e):Gr a b 0 e t t':=⟨h1,h2,by omega,by omega,h4⟩
theorem gr_note (n:Note):Gr 1 0 0 0 t (t.note n):=gr_of (by simp [Tn.note]) (Nat.le_refl _) rfl (Nat.le_refl _)
theorem gr_op:Gr 0 0 1 0 t t.op:=⟨Nat.le_refl _,Nat.le_refl _,by show t.ops<=t.ops+1;omega,by show t.ops+1<=t.ops+(1:Nat);omega,Nat.le_refl _⟩
theorem gr_mail (x:Int) (l:Int) (i:Item):Gr 0 1 0 0 t (t.mail x l i):=gr_of (Nat.le_refl _) (by simp [Tn.mail]) rfl (Nat.le_refl _)
theorem gr_setS (cl:ByteArray) (z:HSeat):Gr 0 0 0 0 t (t.setS cl z):=gr_of (Nat.le_refl _) (Nat.le_refl _) rfl (Nat.le_refl _)
theorem gr_sends (conn:Int) (l:List Pkt):Gr 0 1 0 0 t (sendsT c conn l t):=by
 unfold sendsT
 split
 ·exact Gr.refl.le
 ·exact gr_mail _ _ _
theorem gr_answers (conn:Int) (l:List Pkt):Gr 0 2 0 0 t (answersT c conn l t):=((gr_sends (c:=c) conn l).trans (gr_mail _ _ _)).le
theorem gr_hub (x:Item) (f:Str):Gr 0 (hubsN f c.n).length 0 0 t (hubT c x f t):=by
 unfold hubT;generalize hubsN f c.n=l
 induction l generalizing t with
 | nil=>exact Gr.refl
 | cons k r ih=>exact ((gr_mail _ _ _).trans ih).le (h2:=by rw [List.length_cons];omega)
theorem gr_hubs (x:Item) (fs:List Str):Gr 0 (hubsK c fs) 0 0 t (hubsT c x fs t):=by
 unfold hubsT hubsK
 induction fs generalizing t with
 | nil=>exact Gr.refl
 | cons f r ih=>exact ((gr_hub x f).trans ih).le (h2:=by rw [List.map_cons,List.sum_cons];omega)
theorem gr_told (op:Int) (cl:ByteArray) (conn:Int) (p:Pkt):Gr 1 2 0 0 t (toldT c op cl conn p t):=((gr_answers (c:=c) conn _).trans (gr_note _)).le
theorem gr_free (cl:ByteArray):Gr 0 0 0 0 t (freeT cl t):=by
 unfold freeT
 split
 ·exact Gr.refl
 ·exact gr_setS _ _
theorem gr_flowed (f:HFlow):Gr 1 2 0 0 t (flowedT c f t):=by
 unfold flowedT
 split
 ·exact (gr_note _).le
 ·exact ((gr_free _).trans (gr_told _ _ _ _)).le
theorem len_wo (op:Int) (l:List HFlow):(withoutF op l).length<=l.length:=List.length_filter_le _ _
theorem gr_route (op:Int) (cl:ByteArray) (conn:Int) (p:Pkt):Gr 1 2 0 1 t (routeT c op cl conn p t):=by
 unfold routeT
 split
 ·refine gr_of (by simp [Tn.note,Tn.mail]) (by simp [Tn.note,Tn.mail]) rfl ?_
  show (withoutF op t.flows ++ [_]).length<=_
  have:=len_wo op t.flows;simp;omega
 ·exact (gr_flowed _).le
theorem gr_loses (z:HSeat) (left:Bool):Gr 2 2 1 1 t (losesT c z left t):=by
 unfold losesT;dsimp only
 split
 ·exact (gr_setS _ _).le
 ·split
  ·exact ((((gr_setS _ _).trans gr_op).trans (gr_note _)).trans (gr_route _ _ _ _)).le
  ·exact (gr_setS _ _).le
theorem gr_closed (z:HSeat) (old many:Int):Gr 5 2 2 1 t (closedT c z old many t):=by
 unfold closedT
 have h1:Gr 1 0 1 0 t (closedO z old many t):=by
  unfold closedO
  split
  ·exact (gr_op.trans (gr_note _)).le
  ·exact Gr.refl.le
 exact (((h1.trans (gr_note _)).trans (gr_loses z _)).trans (gr_note _)).le
theorem gr_doneAtt (x:Item) (pres:Bool) (z:HSeat):Gr 1 2 0 0 t (doneAtt c x pres z t):=(((gr_setS _ _).trans (gr_answers (c:=c) _ _)).trans (gr_note _)).le
theorem gr_attach (z:HSeat) (x:Item):Gr 2 (hubsK c (beginA x.conn x.pk z.s).2+2) 0 0 t (attachT c z x t):=by
 unfold attachT;dsimp only;have h1:=((gr_setS (t:=t) z.s.client ⟨beginS x.conn x.pk z.s,z.busy⟩).trans (gr_note (noteA 2 x.op x.conn x.client x.pk.bare (beginA x.conn x.pk z.s).1))).trans (gr_hubs (c:=c) (itK 6 x.op x.client) (beginA x.conn x.pk z.s).2)
 split
 ·exact (h1.trans (gr_doneAtt _ _ _)).le
 ·exact (h1.trans (gr_setS _ _)).le
theorem gr_connect (hn1:1<=c.n) (hn2:c.n<=64) (h:HOk t) (x:Item):Gr 2 1026 0 0 t (connectT c x t):=by
 have key:∀ (t1:Tn) (z:HSeat),(beginA x.conn x.pk z.s).2.length<=16->Gr 2 1026 0 0 t1 (if z.s.conn=0 \/ z.s.conn=x.conn then attachT c z x t1 else gateT c 2 z.s.conn (itK 3 x.op x.client) (t1.setS z.s.client ⟨z.s,some (.close x z.s.conn,0)⟩)):=fun t1 z hl=>by
  split
  ·have:=hubsK_cap c hn1 hn2 (beginA x.conn x.pk z.s).2
   exact (gr_attach z x).le
  ·exact ((gr_setS _ _).trans (gr_mail _ _ _)).le
 unfold connectT
 cases hz:t.seat x.client with
 | some z=>exact key t z (beginA_len (h.seat z (seat_at hz).1).s _ _)
 | none =>
  have h0:Gr 0 0 0 0 t { t with seats:=t.seats ++ [⟨SS.new x.client,none⟩] }:=gr_of (Nat.le_refl _) (Nat.le_refl _) rfl (Nat.le_refl _);refine (h0.trans (key _ ⟨SS.new x.client,none⟩ ?_)).le;unfold beginA
  split
  ·split <;> exact Nat.zero_le _
  ·exact Nat.zero_le _
theorem gr_puts (cl:ByteArray) (op kind:Int) (m:Msg):Gr 1 0 0 0 t (putsT c cl op kind m t):=by
 unfold putsT
 split
 ·exact Gr.refl.le
 ·exact ((gr_setS _ _).trans (gr_note _)).le
theorem gr_putss (cl:ByteArray) (op kind:Int) (f:Msg->Msg) (l:List Msg):Gr l.length 0 0 0 t (l.foldl (fun t m=>putsT c cl op kind (f m) t) t):=by
 induction l generalizing t with
 | nil=>exact Gr.refl
 | cons m r ih=>exact ((gr_puts _ _ _ _).trans ih).le (h1:=by rw [List.length_cons];omega)
theorem gr_doneSub (x:Item) (codes:Str) (kept:List Msg) (z:HSeat):Gr (kept.length+2) 2 0 0 t (doneSub c x codes kept z t):=by
 unfold doneSub;dsimp only;have h1:=((gr_setS (t:=t) z.s.client ⟨z.s.setL (x.pk.subs.foldl (fun l y=>setE y.1 y.2 l) z.s.l),z.busy⟩).trans (gr_note (noteC 2 x.op x.conn x.client x.pk.bare codes))).trans (gr_putss (c:=c) z.s.client x.op 8 (fun m=>⟨m.t,m.p,min m.q (bestS m.k (ofGo x.pk.subs codes [])).1,true⟩) kept)
 split
 ·exact h1.le
 ·exact (h1.trans (((gr_setS _ _).trans (gr_answers (c:=c) _ _)).trans (gr_note _))).le
theorem gr_subscribe (hn1:1<=c.n) (hn2:c.n<=64) (z:HSeat) (x:Item) (hx:x.pk.subs.length<=100):Gr 2 6402 0 0 t (subscribeT c z x t):=by
 unfold subscribeT;dsimp only;have h1:=gr_hubs (c:=c) (t:=t) (itK 5 x.op x.client) (granted x.pk.subs (codesGo x.pk.subs z.s.l []));have:=hubsK_cap c hn1 hn2 (granted x.pk.subs (codesGo x.pk.subs z.s.l []));have h5:=grant_len x.pk.subs (codesGo x.pk.subs z.s.l []) [];unfold granted at *;simp only [List.length_nil,Nat.zero_add] at h5
 split
 ·exact (h1.trans (gr_doneSub _ _ _ _)).le (h1:=by simp)
 ·exact (h1.trans (gr_setS _ _)).le
theorem gr_doneUns (x:Item):Gr 1 2 0 0 t (doneUns c x t):=((gr_answers (c:=c) _ _).trans (gr_note _)).le
theorem gr_unsubscribe (hn1:1<=c.n) (hn2:c.n<=64) (z:HSeat) (x:Item) (hx:x.pk.subs.length<=100):Gr 2 6402 0 0 t (unsubscribeT c z x t):=by
 unfold unsubscribeT;dsimp only;have h1:=((gr_setS (t:=t) z.s.client ⟨z.s.setL (goneGo x.pk.subs z.s.l []).2,z.busy⟩).trans (gr_note (noteP 2 x.op x.conn x.client x.pk.bare))).trans (gr_hubs (c:=c) (itK 6 x.op x.client) (goneGo x.pk.subs z.s.l []).1);have:=hubsK_cap c hn1 hn2 (goneGo x.pk.subs z.s.l []).1;have h5:=gone_len x.pk.subs z.s.l [];simp only [List.length_nil,Nat.zero_add] at h5
 split
 ·exact (h1.trans (gr_doneUns _)).le
 ·exact (h1.trans (gr_setS _ _)).le
theorem gr_publish (z:HSeat) (x:Item):Gr 1 2 0 1 t (publishT c z x t):=by
 unfold publishT;dsimp only
 split
 ·exact ((gr_setS _ _).trans (gr_told _ _ _ _)).le
 ·exact (((gr_setS _ _).trans (gr_setS _ _)).trans (gr_route _ _ _ _)).le
theorem gr_acks (z:HSeat) (x:Item):Gr 0 2 0 0 t (acksT c z x t):=by
 unfold acksT
 split
 ·exact ((gr_setS _ _).trans (gr_answers (c:=c) _ _)).le
 ·exact ((gr_setS _ _).trans (gr_answers (c:=c) _ _)).le
theorem gr_doneFin (x:Item) (clean:Bool):Gr 1 1 0 0 t (doneFin c x clean t):=by
 have h1:Gr 0 0 0 0 t (finS x clean t):=by
  unfold finS
  split
  ·exact gr_of (Nat.le_refl _) (Nat.le_refl _) rfl (Nat.le_refl _)
  ·exact Gr.refl
 unfold doneFin
 split
 ·exact ((h1.trans (gr_mail _ _ _)).trans (gr_note _)).le
 ·exact (h1.trans (gr_note _)).le
theorem gr_ends (hn1:1<=c.n) (hn2:c.n<=64) (z:HSeat) (hz:SsOk z.s) (x:Item):Gr 4 1027 1 1 t (endsT c z x t):=by
 have h1:=(gr_note (t:=t) (noteP 2 x.op x.conn x.client x.pk.bare)).trans (gr_loses (c:=c) z (decide (x.kind=1)));unfold endsT;generalize losesT c z (decide (x.kind=1)) (t.note (noteP 2 x.op x.conn x.client x.pk.bare))=t2 at *;have hle:=hubsK_cap c hn1 hn2 (finN z.s);have h9:=finN_len hz
 have h3:Gr 0 1024 0 0 t2 (finH c z x t2):=by
  unfold finH
  split
  ·exact ((gr_setS _ _).trans (gr_hubs (c:=c) _ _)).le
  ·exact Gr.refl.le
 dsimp only
 split
 ·exact ((h1.trans h3).trans (gr_doneFin _ _)).le
 ·exact ((h1.trans h3).trans (gr_setS _ _)).le
theorem gr_deliverP (x:Item) (cl:ByteArray) (z:HSeat):Gr 1 1 0 0 t (deliverP c x cl z t):=by
 unfold deliverP
 split
 ·dsimp only
  split
  ·exact (gr_puts _ _ _ _).le
  ·split
   ·exact (gr_puts _ _ _ _).le
   ·exact (((gr_puts _ _ _ _).trans (gr_setS _ _)).trans (gr_sends _ _)).le
 ·exact Gr.refl.le
theorem gr_keepT (x:Item) (cl:ByteArray):Gr 0 0 0 0 t (keepT x cl t):=by
 unfold keepT
 split
 ·split
  ·exact gr_setS _ _
  ·exact Gr.refl
 ·exact Gr.refl
theorem gr_deliver1 (x:Item) (cl:ByteArray):Gr 1 1 0 0 t (deliver1 c x cl t):=by
 unfold deliver1
 split
 ·exact Gr.refl.le
 ·exact ((gr_deliverP _ _ _).trans (gr_keepT _ _)).le
theorem gr_deliver (x:Item):Gr x.cls.length (x.cls.length+1) 0 0 t (deliverT c x t):=by
 unfold deliverT;dsimp only
 have h1:∀ (l:List ByteArray) (t:Tn),Gr l.length l.length 0 0 t (l.foldl (fun t cl=>deliver1 c x cl t) t):=by
  intro l
  induction l with
  | nil=>exact fun t=>Gr.refl
  | cons a r ih=>exact fun t=>((gr_deliver1 x a).trans (ih _)).le (h1:=by rw [List.length_cons];omega) (h2:=by rw [List.length_cons];omega)
 split
 ·exact ((h1 x.cls t).trans (gr_mail _ _ _)).le
 ·exact (h1 x.cls t).le
theorem gr_counted (x:Item):Gr 1 2 0 0 t (countedT c x t):=by
 unfold countedT
 split
 ·exact Gr.refl.le
 ·split
  ·have h1:Gr 0 0 0 0 t { t with flows:=withoutF x.op t.flows }:=gr_of (Nat.le_refl _) (Nat.le_refl _) rfl (by have:=len_wo x.op t.flows;omega)
   exact (h1.trans (gr_flowed _)).le
  ·exact gr_of (by show t.notes.length<=_;omega) (by show t.mails.length<=_;omega) rfl (by simp [Tn.setF])
def KeptLe (K:Nat) (t:Tn):Prop:=∀ z ∈ t.seats,∀ y codes kept left,z.busy=some (.sub y codes kept,left)->kept.length<=K
end
end
section
open Go
def Adds (P:HMl->Prop) (t t':Tn):Prop:=∃ new,t'.mails=t.mails++new /\ ∀ m ∈ new,P m
section
variable {P Q:HMl->Prop} {t t' t1:Tn}
theorem Adds.of (h:t'.mails=t.mails):Adds P t t':=⟨[],by simp [h],by simp⟩
theorem Adds.refl:Adds P t t:=Adds.of rfl
theorem Adds.trans (h:Adds P t t1) (h':Adds P t1 t'):Adds P t t':=by
 obtain ⟨a,ha,ha'⟩:=h;obtain ⟨b,hb,hb'⟩:=h';exact ⟨a++b,by rw [hb,ha,List.append_assoc],fun m hm=>(List.mem_append.1 hm).elim (ha' m) (hb' m)⟩
theorem Adds.mono (h:Adds P t t') (hP:∀ m,P m->Q m):Adds Q t t':=by
 obtain ⟨a,ha,ha'⟩:=h;exact ⟨a,ha,fun m hm=>hP m (ha' m hm)⟩
theorem Adds.mail {d lane:Int} {x:Item} (h:P ⟨d,lane,x⟩):Adds P t (t.mail d lane x):=⟨[⟨d,lane,x⟩],rfl,fun m hm=>by rw [List.mem_singleton.1 hm];exact h⟩
theorem Adds.foldl {α:Type} {f:Tn -> α->Tn} (l:List α) (h:∀ t,∀ x ∈ l,Adds P t (f t x)):∀ t,Adds P t (l.foldl f t):=by
 induction l with
 | nil=>exact fun t=>Adds.refl
 | cons x r ih=>exact fun t=>(h t x (by simp)).trans (ih (fun t y hy=>h t y (by simp [hy])) _)
theorem Adds.note {n:Note} (h:Adds P t t'):Adds P t (t'.note n):=h.trans (Adds.of rfl)
theorem Adds.setS {c:ByteArray} {z:HSeat} (h:Adds P t t'):Adds P t (t'.setS c z):=h.trans (Adds.of rfl)
end
def To7 (n:Nat) (m:HMl):Prop:=(m.it.kind=13 \/ m.it.kind=14 \/ m.it.kind=15)/\m.lane=7/\0<=m.dest/\m.dest < n
def To4 (n:Nat) (m:HMl):Prop:=(m.it.kind=5 \/ m.it.kind=6 \/ m.it.kind=7)/\m.lane=4/\0<=m.dest/\m.dest < n
def To6 (n:Nat) (m:HMl):Prop:=m.it.kind=12/\m.lane=6/\0<=m.dest/\m.dest < n
def To2 (n:Nat) (m:HMl):Prop:=m.it.kind=3/\m.lane=2/\0<=m.dest/\m.dest < n
def To47 (n:Nat) (m:HMl):Prop:=To4 n m \/ To7 n m
def FlowsC (t:Tn):Prop:=∀ f ∈ t.flows,0<=f.conn
def WkC:Wk->Prop
 | .close y old=>1<=y.conn/\1<=old
 | .att y _=>1<=y.conn
 | .sub y _ _=>1<=y.conn
 | .uns y=>1<=y.conn
 | .flow _=>True
 | .fin y _=>1<=y.conn
def SeatsC (t:Tn):Prop:=∀ z ∈ t.seats,0<=z.s.conn /\ ∀ k left,z.busy=some (k,left)->WkC k
section
variable {c:HCfg} {t:Tn}
theorem seat_mem {cl:ByteArray} {z:HSeat} (h:t.seat cl=some z):z ∈ t.seats/\z.s.client=cl:=by
 unfold Tn.seat at h;exact ⟨List.mem_of_find?_eq_some h,by simpa using List.find?_some h⟩
theorem gate7 (hn:1<=c.n) {conn:Int} (h:1<=conn) {x:Item} (hx:x.kind=13 \/ x.kind=14 \/ x.kind=15):Adds (To7 c.n) t (gateT c 7 conn x t):=
 Adds.mail ⟨hx,rfl,(gateN_in h hn).1,(gateN_in h hn).2⟩
theorem sends7 (hn:1<=c.n) {conn:Int} (h:1<=conn) (l:List Pkt):Adds (To7 c.n) t (sendsT c conn l t):=by
 unfold sendsT
 split
 ·exact Adds.refl
 ·exact gate7 hn h (.inl rfl)
theorem answers7 (hn:1<=c.n) {conn:Int} (h:1<=conn) (l:List Pkt):Adds (To7 c.n) t (answersT c conn l t):=(sends7 hn h l).trans (gate7 hn h (.inr (.inl rfl)))
theorem hub4 (hn:1<=c.n) {x:Item} (hx:x.kind=5 \/ x.kind=6) (f:Str):Adds (To4 c.n) t (hubT c x f t):=
 Adds.foldl _ (fun t k hk=>Adds.mail ⟨hx.elim .inl (.inr ∘ .inl),rfl,by show (0:Int)<=(k:Int);omega,by have:=hubsN_in hn k hk;show (k:Int) < c.n;omega⟩) t
theorem hubs4 (hn:1<=c.n) {x:Item} (hx:x.kind=5 \/ x.kind=6) (fs:List Str):Adds (To4 c.n) t (hubsT c x fs t):=Adds.foldl _ (fun _ f _=>hub4 hn hx f) t
theorem told7 (hn:1<=c.n) {op conn:Int} (h:1<=conn) (cl:ByteArray) (p:Pkt):Adds (To7 c.n) t (toldT c op cl conn p t):=(answers7 hn h _).note
theorem free_mails (cl:ByteArray):(freeT cl t).mails=t.mails:=by
 unfold freeT
 split <;> rfl
theorem flowed7 (hn:1<=c.n) {f:HFlow} (h:0<=f.conn):Adds (To7 c.n) t (flowedT c f t):=by
 unfold flowedT
 split
 ·exact Adds.refl.note
 ·exact (Adds.of (free_mails f.client)).trans (told7 hn (by omega) _ _)
theorem route47 (hn:1<=c.n) {op conn:Int} (h:0<=conn) (cl:ByteArray) (p:Pkt):Adds (To47 c.n) t (routeT c op cl conn p t):=by
 unfold routeT
 split
 ·rename_i hnm
  exact (Adds.of (t':={ t.note { noteN 4 op conn cl with msg:=msgOf p } with flows:=withoutF op (t.note { noteN 4 op conn cl with msg:=msgOf p }).flows ++ [⟨op,cl,conn,p,-1,0⟩] }) rfl).trans (Adds.mail (.inl ⟨.inr (.inr rfl),rfl,(hubN_in hnm hn).1,(hubN_in hnm hn).2⟩))
 ·exact (flowed7 hn h).mono fun m hm => .inr hm
theorem loses47 (hn:1<=c.n) (z:HSeat) (left:Bool):Adds (To47 c.n) t (losesT c z left t):=by
 unfold losesT;dsimp only
 split
 ·exact Adds.of rfl
 ·split
  ·exact (Adds.of rfl).trans (route47 hn (by omega) _ _)
  ·exact Adds.of rfl
theorem doneAtt7 (hn:1<=c.n) {x:Item} (h:1<=x.conn) (pres:Bool) (z:HSeat):Adds (To7 c.n) t (doneAtt c x pres z t):=((Adds.of rfl).trans (answers7 hn h _)).note
theorem attach47 (hn:1<=c.n) {x:Item} (h:1<=x.conn) (z:HSeat):Adds (To47 c.n) t (attachT c z x t):=by
 unfold attachT;dsimp only;have h4:=hubs4 (t:=(t.setS z.s.client ⟨beginS x.conn x.pk z.s,z.busy⟩).note (noteA 2 x.op x.conn x.client x.pk.bare (beginA x.conn x.pk z.s).1)) hn (x:=(itK 6 x.op x.client)) (.inr rfl) (beginA x.conn x.pk z.s).2;have h1:Adds (To47 c.n) t _:=(Adds.of rfl).trans (h4.mono fun m hm => .inl hm)
 split
 ·exact h1.trans ((doneAtt7 hn h _ _).mono fun m hm => .inr hm)
 ·exact h1.setS
theorem connect247 (hn:1<=c.n) {x:Item} (h:1<=x.conn) (hs:SeatsC t):Adds (fun m=>To2 c.n m \/ To47 c.n m) t (connectT c x t):=by
 unfold connectT;dsimp only
 have h0:∀ z:HSeat,z=(t.seat x.client).getD ⟨SS.new x.client,none⟩->0<=z.s.conn:=by
  rintro z rfl
  cases hz:t.seat x.client with
  | none=>exact Int.le_refl 0
  | some z=>exact (hs z (seat_mem hz).1).1
 have h1:Adds (fun m=>To2 c.n m \/ To47 c.n m) t (match t.seat x.client with | some _=>t | none => { t with seats:=t.seats ++ [⟨SS.new x.client,none⟩] }):=by
  split
  ·exact Adds.refl
  ·exact Adds.of rfl
 split
 ·exact h1.trans ((attach47 hn h _).mono fun m hm => .inr hm)
 ·rename_i hc
  have:=h0 _ rfl
  have hc1:1<=((t.seat x.client).getD ⟨SS.new x.client,none⟩).s.conn:=by
   rcases not_or.1 hc with ⟨h2,-⟩
   omega
  exact h1.trans ((Adds.of rfl).trans (Adds.mail (.inl ⟨rfl,rfl,(gateN_in hc1 hn).1,(gateN_in hc1 hn).2⟩)))
theorem closed47 (hn:1<=c.n) (z:HSeat) (old many:Int):Adds (To47 c.n) t (closedT c z old many t):=by
 unfold closedT
 have h0:Adds (To47 c.n) t (closedO z old many t):=by
  unfold closedO
  split
  ·exact Adds.of rfl
  ·exact Adds.refl
 exact (h0.note.trans (loses47 hn z _)).note
theorem puts_mails (cl:ByteArray) (op kind:Int) (m:Msg):(putsT c cl op kind m t).mails=t.mails:=by
 unfold putsT
 split
 ·rfl
 ·rfl
theorem doneSub7 (hn:1<=c.n) {x:Item} (h:1<=x.conn) (codes:Str) (kept:List Msg) (z:HSeat):Adds (To7 c.n) t (doneSub c x codes kept z t):=by
 unfold doneSub;dsimp only;refine Adds.trans (t1:=kept.foldl (fun t m=>putsT c z.s.client x.op 8 ⟨m.t,m.p,min m.q (bestS m.k (ofGo x.pk.subs codes [])).1,true⟩ t) ((t.setS z.s.client ⟨z.s.setL (x.pk.subs.foldl (fun l y=>setE y.1 y.2 l) z.s.l),z.busy⟩).note (noteC 2 x.op x.conn x.client x.pk.bare codes))) ?_ ?_
 ·exact (Adds.of rfl).trans (Adds.foldl _ (fun t m _=>Adds.of (puts_mails _ _ _ _)) _)
 ·split
  ·exact Adds.refl
  ·exact ((Adds.of rfl).trans (answers7 hn h _)).note
theorem subscribe47 (hn:1<=c.n) {x:Item} (h:1<=x.conn) (z:HSeat):Adds (To47 c.n) t (subscribeT c z x t):=by
 unfold subscribeT;dsimp only;have h1:Adds (To47 c.n) t _:=(hubs4 (t:=t) hn (x:=(itK 5 x.op x.client)) (.inl rfl) (granted x.pk.subs (codesGo x.pk.subs z.s.l []))).mono fun m hm => .inl hm
 split
 ·exact h1.trans ((doneSub7 hn h _ _ _).mono fun m hm => .inr hm)
 ·exact h1.setS
theorem doneUns7 (hn:1<=c.n) {x:Item} (h:1<=x.conn):Adds (To7 c.n) t (doneUns c x t):=(answers7 hn h _).note
theorem unsubscribe47 (hn:1<=c.n) {x:Item} (h:1<=x.conn) (z:HSeat):Adds (To47 c.n) t (unsubscribeT c z x t):=by
 unfold unsubscribeT;dsimp only;have h1:Adds (To47 c.n) t _:=(Adds.of rfl).trans ((hubs4 (t:=(t.setS z.s.client ⟨z.s.setL (goneGo x.pk.subs z.s.l []).2,z.busy⟩).note (noteP 2 x.op x.conn x.client x.pk.bare)) hn (x:=(itK 6 x.op x.client)) (.inr rfl) (goneGo x.pk.subs z.s.l []).1).mono fun m hm => .inl hm)
 split
 ·exact h1.trans ((doneUns7 hn h).mono fun m hm => .inr hm)
 ·exact h1.setS
theorem publish47 (hn:1<=c.n) {x:Item} (h:1<=x.conn) (z:HSeat):Adds (To47 c.n) t (publishT c z x t):=by
 unfold publishT;dsimp only
 split
 ·exact Adds.trans (Adds.of rfl) (Adds.mono (told7 (t:=t.setS z.s.client (firstZ x z)) hn h _ _) fun m hm=>Or.inr hm)
 ·exact Adds.trans (Adds.of rfl) (route47 (t:=(t.setS z.s.client (firstZ x z)).setS z.s.client ⟨(firstZ x z).s,some (.flow x.op,0)⟩) hn (by omega) _ _)
theorem acks7 (hn:1<=c.n) {x:Item} (h:1<=x.conn) (z:HSeat):Adds (To7 c.n) t (acksT c z x t):=by
 unfold acksT
 split
 ·exact (Adds.of rfl).trans (answers7 hn h _)
 ·exact (Adds.of rfl).trans (answers7 hn h _)
theorem doneFin7 (hn:1<=c.n) {x:Item} (h:1<=x.conn) (clean:Bool):Adds (To7 c.n) t (doneFin c x clean t):=by
 have h1:Adds (To7 c.n) t (finS x clean t):=by
  unfold finS
  split
  ·exact Adds.of rfl
  ·exact Adds.refl
 unfold doneFin
 split
 ·exact (h1.trans (gate7 hn h (.inr (.inr rfl)))).note
 ·exact h1.note
theorem ends47 (hn:1<=c.n) {x:Item} (h:1<=x.conn) (z:HSeat):Adds (To47 c.n) t (endsT c z x t):=by
 have h2:Adds (To47 c.n) t (losesT c z (decide (x.kind=1)) (t.note (noteP 2 x.op x.conn x.client x.pk.bare))):=Adds.trans (Adds.note Adds.refl) (loses47 hn z _);unfold endsT;generalize losesT c z (decide (x.kind=1)) (t.note (noteP 2 x.op x.conn x.client x.pk.bare))=t2 at *
 have h3:Adds (To47 c.n) t (finH c z x t2):=by
  unfold finH
  split
  ·exact Adds.trans h2.setS (Adds.mono (hubs4 hn (.inr rfl) _) fun m hm=>Or.inl hm)
  ·exact h2
 dsimp only
 split
 ·exact Adds.trans h3 (Adds.mono (doneFin7 hn h _) fun m hm=>Or.inr hm)
 ·exact h3.setS
theorem mem_setL {cl:ByteArray} {z y:HSeat} (h:y ∈ (t.setS cl z).seats):y=z \/ y ∈ t.seats:=by
 obtain ⟨y0,h0,e⟩:=List.mem_map.1 h
 split at e
 ·exact .inl e.symm
 ·exact .inr (e ▸ h0)
def ConnsC (t:Tn):Prop:=∀ z ∈ t.seats,0<=z.s.conn
theorem ConnsC.setS {cl:ByteArray} {z:HSeat} (h:ConnsC t) (hz:0<=z.s.conn):ConnsC (t.setS cl z):=fun y hy=>by
 rcases mem_setL hy with rfl | hy
 ·exact hz
 ·exact h y hy
theorem ConnsC.seat {cl:ByteArray} {z:HSeat} (h:ConnsC t) (hz:t.seat cl=some z):0<=z.s.conn:=h z (seat_mem hz).1
theorem ConnsC.puts {cl:ByteArray} {op kind:Int} {m:Msg} (h:ConnsC t):ConnsC (putsT c cl op kind m t):=by
 unfold putsT
 split
 ·exact h
 ·rename_i z hz
  exact h.setS (z:=⟨z.s.setO (putO c.most m z.s.o).2,z.busy⟩) (show 0<=z.s.conn from h.seat hz)
theorem sends_seats (conn:Int) (l:List Pkt):(sendsT c conn l t).seats=t.seats:=by
 unfold sendsT
 split <;> rfl
theorem keepT_c {x:Item} {cl:ByteArray} (h:ConnsC t):(keepT x cl t).mails=t.mails/\ConnsC (keepT x cl t):=by
 unfold keepT
 split
 ·rename_i s y codes kept left hs
  split
  ·exact ⟨rfl,h.setS (z:=⟨s,some (.sub y codes (keepsW x.msg y codes kept),left)⟩) (show 0<=s.conn from h.seat (z:=⟨s,some (.sub y codes kept,left)⟩) hs)⟩
  ·exact ⟨rfl,h⟩
 ·exact ⟨rfl,h⟩
theorem deliverP_c (hn:1<=c.n) {x:Item} {cl:ByteArray} {z:HSeat} (h:ConnsC t) (hzc:0<=z.s.conn):Adds (To7 c.n) t (deliverP c x cl z t)/\ConnsC (deliverP c x cl z t):=by
 unfold deliverP
 split
 ·have hp:Adds (To7 c.n) t (putsT c cl x.op 6 ⟨x.msg.t,x.msg.p,min x.msg.q (bestS x.msg.k z.s.l).1,false⟩ t):=Adds.of (puts_mails _ _ _ _)
  have hq:ConnsC (putsT c cl x.op 6 ⟨x.msg.t,x.msg.p,min x.msg.q (bestS x.msg.k z.s.l).1,false⟩ t):=h.puts;dsimp only
  split
  ·exact ⟨hp,hq⟩
  ·rename_i hc0
   split
   ·exact ⟨hp,hq⟩
   ·rename_i z1 hz1
    refine ⟨Adds.trans hp.setS (sends7 hn (by omega) _),fun y hy => ?_⟩;rw [sends_seats] at hy;exact hq.setS (z:=⟨z1.s.setO (pumpO c.win z1.s.o.wait z1.s.o.row).2,z1.busy⟩) (hq.seat (z:=z1) hz1) y hy
 ·exact ⟨Adds.refl,h⟩
theorem deliver1_ok (hn:1<=c.n) {x:Item} {cl:ByteArray} (h:ConnsC t):Adds (To7 c.n) t (deliver1 c x cl t)/\ConnsC (deliver1 c x cl t):=by
 unfold deliver1
 split
 ·exact ⟨Adds.refl,h⟩
 ·rename_i z hz
  obtain ⟨h1,h2⟩:=deliverP_c (x:=x) (cl:=cl) (z:=z) hn h (h.seat (z:=z) hz);obtain ⟨h3,h4⟩:=keepT_c (x:=x) (cl:=cl) h2;exact ⟨h1.trans (Adds.of h3),h4⟩
theorem deliver67 (hn:1<=c.n) {x:Item} (h:ConnsC t):Adds (fun m=>To6 c.n m \/ To7 c.n m) t (deliverT c x t):=by
 unfold deliverT;dsimp only
 have h1:∀ (l:List ByteArray) (t1:Tn),ConnsC t1->Adds (To7 c.n) t1 (l.foldl (fun t cl=>deliver1 c x cl t) t1):=by
  intro l
  induction l with
  | nil=>exact fun t1 _=>Adds.refl
  | cons a r ih=>exact fun t1 h=>(deliver1_ok hn h).1.trans (ih _ (deliver1_ok hn h).2)
 have h2:Adds (fun m=>To6 c.n m \/ To7 c.n m) t _:=(h1 x.cls t h).mono fun m hm => .inr hm
 split
 ·rename_i hf
  exact h2.trans (Adds.mail (.inl ⟨rfl,rfl,hf.1,hf.2⟩))
 ·exact h2
theorem counted7 (hn:1<=c.n) {x:Item} (h:FlowsC t):Adds (To7 c.n) t (countedT c x t):=by
 unfold countedT
 split
 ·exact Adds.refl
 ·rename_i f hf
  have hf0:=h f (List.mem_of_find?_eq_some hf)
  have hf1:0<=(countF x f).conn:=by
   unfold countF
   split <;> exact hf0
  split
  ·exact Adds.trans (t1:={ t with flows:=withoutF x.op t.flows }) (Adds.of rfl) (flowed7 hn hf1)
  ·exact Adds.of rfl
theorem answered47 (hn:1<=c.n) {z:HSeat} {k:Wk} {left:Int} {x:Item} (hk:WkC k):Adds (fun m=>if wkKind k=4 then To47 c.n m else To7 c.n m) t (answeredT c z k left x t):=by
 cases k with
 | close y old =>
  have h2:Adds (To47 c.n) t (answeredT c z (.close y old) left x t):=Adds.trans (t1:=closedT c ⟨z.s,none⟩ old x.many (t.setS z.s.client ⟨z.s,none⟩)) (Adds.trans (t1:=t.setS z.s.client ⟨z.s,none⟩) (Adds.of rfl) (closed47 hn ⟨z.s,none⟩ old x.many)) (attach47 hn hk.1 ⟨leaveS z.s,none⟩);exact h2.mono fun m hm=>by simpa [wkKind] using hm
 | flow op =>
  have h2:Adds (To7 c.n) t (answeredT c z (.flow op) left x t):=by
   unfold answeredT;dsimp only
   split
   ·exact Adds.of rfl
   ·exact Adds.of rfl
  exact h2.mono fun m hm=>by simpa [wkKind] using hm
 | att y pres =>
  have h2:Adds (To7 c.n) t (answeredT c z (.att y pres) left x t):=by
   unfold answeredT;dsimp only
   split
   ·exact Adds.trans (t1:=t.setS z.s.client ⟨z.s,none⟩) (Adds.of rfl) (doneAtt7 hn hk _ _)
   ·exact Adds.of rfl
  exact h2.mono fun m hm=>by simpa [wkKind] using hm
 | sub y codes kept =>
  have h2:Adds (To7 c.n) t (answeredT c z (.sub y codes kept) left x t):=by
   unfold answeredT;dsimp only
   split
   ·exact Adds.trans (t1:=t.setS z.s.client ⟨z.s,none⟩) (Adds.of rfl) (doneSub7 hn hk _ _ _)
   ·exact Adds.of rfl
  exact h2.mono fun m hm=>by simpa [wkKind] using hm
 | uns y =>
  have h2:Adds (To7 c.n) t (answeredT c z (.uns y) left x t):=by
   unfold answeredT;dsimp only
   split
   ·exact Adds.trans (t1:=t.setS z.s.client ⟨z.s,none⟩) (Adds.of rfl) (doneUns7 hn hk)
   ·exact Adds.of rfl
  exact h2.mono fun m hm=>by simpa [wkKind] using hm
 | fin y clean =>
  have h2:Adds (To7 c.n) t (answeredT c z (.fin y clean) left x t):=by
   unfold answeredT;dsimp only
   split
   ·exact Adds.trans (t1:=t.setS z.s.client ⟨z.s,none⟩) (Adds.of rfl) (doneFin7 hn hk _)
   ·exact Adds.of rfl
  exact h2.mono fun m hm=>by simpa [wkKind] using hm
def LaneP (n:Nat) (k:Int) (m:HMl):Prop:=if k=1 \/ k=2 then To2 n m \/ To47 n m else if k=4 then To47 n m else if k=12 then To7 n m else (k=8 \/ k=9 \/ k=10 \/ k=11)/\(To6 n m \/ To7 n m)
theorem hear_lanes (hn:1<=c.n) {x:Item} (hs:SeatsC t) (hf:FlowsC t):Adds (LaneP c.n x.kind) t (hearT c x t):=by
 have hc:ConnsC t:=fun z hz=>(hs z hz).1
 unfold hearT
 split
 ·exact Adds.refl
 split
 ·rename_i hk
  have h12:∀ {t1},Adds (fun m=>To2 c.n m \/ To47 c.n m) t t1->Adds (LaneP c.n x.kind) t t1:=fun h=>h.mono fun m hm=>by unfold LaneP;rw [if_pos hk];exact hm
  have h47:∀ {t1},Adds (To47 c.n) t t1->Adds (LaneP c.n x.kind) t t1:=fun h=>h12 (h.mono fun m hm => .inr hm)
  unfold askedT
  split
  ·rename_i h1
   exact h12 (connect247 hn (by omega) hs)
  ·split
   ·exact Adds.refl
   ·rename_i z hz
    split
    ·exact Adds.refl
    ·rename_i hcn
     have h1:1<=x.conn:=by omega
     split
     ·exact h47 (ends47 hn (x:={ x with pk:=pkZ }) h1 z)
     ·split
      ·exact h47 (subscribe47 hn h1 z)
      ·split
       ·exact h47 (unsubscribe47 hn h1 z)
       ·split
        ·exact h47 (publish47 hn h1 z)
        ·split
         ·exact h47 (ends47 hn h1 z)
         ·exact h47 ((acks7 hn h1 z).mono fun m hm => .inr hm)
 ·rename_i hk
  split
  ·rename_i hk2
   split
   ·rename_i s k left hz
    split
    ·rename_i hw
     have hzk:=(hs _ (seat_mem hz).1).2 k left rfl;refine (answered47 hn hzk).mono fun m hm => ?_
     unfold LaneP;rw [if_neg hk,<- hw.1]
     by_cases h4:wkKind k=4
     ·rw [if_pos h4] at hm ⊢;exact hm
     ·rw [if_neg h4] at hm ⊢
      have:wkKind k=8 \/ wkKind k=9:=by
       have:=hw.1;omega
      rw [if_neg (by omega)];exact ⟨by omega,.inr hm⟩
    ·exact Adds.refl
   ·exact Adds.refl
  ·rename_i hk2
   split
   ·rename_i h11
    refine (deliver67 hn hc).mono fun m hm => ?_
    unfold LaneP;rw [if_neg hk,if_neg (by omega),if_neg (by omega)];exact ⟨by omega,hm⟩
   ·split
    ·rename_i h10
     refine (counted7 hn hf).mono fun m hm => ?_
     unfold LaneP;rw [if_neg hk,if_neg (by omega)]
     split
     ·exact hm
     ·exact ⟨by omega,.inr hm⟩
    ·exact Adds.refl
end
end
end Go.Proofs.YtcekcoepdhnfgaaGreatDoor
