/- How a turn lies in memory. -/
import Derived.Test.YtcekcoepdhnfgaaGreatDoorHPl
import Derived.Test.YtcekcoepdhnfgaaGreatDoorMZ
import Derived.Test.YtcekcoepdhnfgaaGreatDoorSeR
import Derived.Test.YtcekcoepdhnfgaaGreatDoorStB
import Derived.Test.YtcekcoepdhnfgaaGreatDoorKHas
namespace Go.Proofs.YtcekcoepdhnfgaaGreatDoor
section
open Go Go.RowKit Go.Maps
def HMl.cells (m:HMl):List Value:=[.int .i64 m.dest,.int .i64 m.lane]++m.it.cells
def hmlsV (l:List HMl):List Value:=l.flatMap HMl.cells
def notesV (l:List Note):List Value:=l.flatMap Note.cells
def MailIs (w:World) (F:List Nat) (m h:HMl):Prop:=m.dest=h.dest/\m.lane=h.lane /\ ∃ a cp,m.it = { h.it with pksA:=a,pksC:=cp } /\ Beside w F a (pksV h.it.pks)
def NoteIs (w:World) (F:List Nat) (n k:Note):Prop:=∃ a cp,n = { k with pk:={ k.pk with subsA:=a,subsC:=cp } } /\ Beside w F a (subsV k.pk.subs)
theorem MailIs.upd {w w':World} {F F':List Nat} {m h:HMl} (k:MailIs w F m h) (hu:Upd F F' w w'):MailIs w' F' m h:=by
 obtain ⟨h1,h2,a,cp,h3,h4⟩:=k;exact ⟨h1,h2,a,cp,h3,h4.upd hu⟩
theorem NoteIs.upd {w w':World} {F F':List Nat} {n k:Note} (h:NoteIs w F n k) (hu:Upd F F' w w'):NoteIs w' F' n k:=by
 obtain ⟨a,cp,h3,h4⟩:=h;exact ⟨a,cp,h3,h4.upd hu⟩
def All2 {α β:Type} (R:α -> β->Prop):List α->List β->Prop
 | [],[]=>True
 | a :: r,b :: s=>R a b/\All2 R r s
 | _,_=>False
section
variable {α β:Type} {R S:α -> β->Prop}
theorem All2.mono (hRS:∀ a b,R a b->S a b):∀ {l:List α} {m:List β},All2 R l m->All2 S l m
 | [],[],_=>trivial
 | _ :: _,_ :: _,h=>⟨hRS _ _ h.1,All2.mono hRS h.2⟩
theorem All2.len:∀ {l:List α} {m:List β},All2 R l m->l.length=m.length
 | [],[],_=>rfl
 | _ :: _,_ :: _,h=>by rw [List.length_cons,List.length_cons,All2.len h.2]
theorem All2.snoc {a:α} {b:β} (hab:R a b):∀ {l:List α} {m:List β},All2 R l m->All2 R (l ++ [a]) (m ++ [b])
 | [],[],_=>⟨hab,trivial⟩
 | _ :: _,_ :: _,h=>⟨h.1,All2.snoc hab h.2⟩
end
def Stay (w:World) (F:List Nat) (b:Nat) (cs:List Value) (T:TypeId):Prop:=b ∉ F/\b < w.heap.size/\w.heap[b]? = some (.cells cs.toArray T (0,0))
theorem Stay.upd {w w':World} {F F':List Nat} {b:Nat} {cs:List Value} {T:TypeId} (h:Stay w F b cs T) (hu:Upd F F' w w'):Stay w' F' b cs T:=
 ⟨fun hk=>(hu.2 b hk).elim h.1 fun h1=>by have:=h.2.1;omega,Nat.lt_of_lt_of_le h.2.1 hu.1.size,(hu.1.block b h.2.1 h.1).trans h.2.2⟩
theorem Stay.below {w w':World} {F:List Nat} {b:Nat} {cs:List Value} {T:TypeId} (h:Stay w F b cs T) (hb:Below w.heap.size w w'):Stay w' F b cs T:=h.upd (Upd.of_below hb)
def ItB (w:World) (F:List Nat) (x:Item):Prop:=Beside w F x.pk.subsA (subsV x.pk.subs)/\Beside w F x.msA (msgs x.ms)/\Beside w F x.clsA (x.cls.map .string)
theorem ItB.upd {w w':World} {F F':List Nat} {x:Item} (h:ItB w F x) (hu:Upd F F' w w'):ItB w' F' x:=⟨h.1.upd hu,h.2.1.upd hu,h.2.2.upd hu⟩
structure HAd where
 hb:Nat
 lg:Nat
 ms:Nat
 mf:Nat
 seat:ByteArray->Nat
 sess:ByteArray->Nat
structure SeV where
 F:List Nat
 wb:Nat
 b1:Nat
 b2:Nat
 b3:Nat
 b4:Nat
 kb:Nat
def bxV (b:Nat):Value:=.pointer (some ⟨b,0,none⟩)
def waitC (op:Int) (p:Pkt) (kind left:Int) (codes:ByteArray) (kept:Option Nat) (done:Value):List Value:=[.int .i64 op,.int .i64 0]++(p.cells ++ [.int .u8 kind,.int .i64 left,.string codes,.map kept,done])
def doneV (v:SeV):Wk->Value
 | .close _ _ => .func (.func 104) #[] #[bxV v.b1,bxV v.b2,bxV v.b3,bxV v.b4]
 | .att _ _ => .func (.func 190) #[] #[bxV v.b1,bxV v.b2,bxV v.b3]
 | .sub _ _ _ => .func (.func 115) #[] #[bxV v.b1,bxV v.b2,bxV v.b3]
 | .uns _ => .func (.func 122) #[] #[bxV v.b1]
 | .flow _ => .nilFunc
 | .fin _ _ => .func (.func 111) #[] #[bxV v.b1,bxV v.b2]
def wkC (v:SeV) (k:Wk) (left:Int):List Value:=
 match k with
 | .sub x codes _=>waitC x.op x.pk 8 left ⟨codes.toArray⟩ (some v.kb) (doneV v k)
 | k=>waitC (wkOp k) pkZ (wkKind k) left ⟨#[]⟩ none (doneV v k)
def keptPc (b:Nat) (l:List Msg):Pc:=⟨[b],fun w => ∃ D:DataW Unit,w.ownsMap Tryz.prog 9 msgElem b (Maps.size D) D/\Has D l⟩
theorem keptPc_ok (b:Nat) (l:List Msg):(keptPc b l).Ok:=
 pc_ok (fun h k hk=>by
  obtain ⟨D,h1,-⟩:=h
  rw [List.mem_singleton.1 hk];exact h1.lt) fun h hk=>by
  obtain ⟨D,h1,h2⟩:=h;exact ⟨D,owns_block h1 (hk b (by simp [keptPc])),h2⟩
def wkPcs (v:SeV) (k:Wk) (left:Int):List Pc:=
 cellPc v.wb (wkC v k left) 110 :: match k with | .sub _ _ kept => [keptPc v.kb kept] | _ => []
def busyPcs (v:SeV):Option (Wk × Int)->List Pc
 | none => []
 | some (k,left)=>wkPcs v k left
def busyV (v:SeV):Option (Wk × Int)->Value
 | none => .pointer none
 | some _=>bxV v.wb
def sesPc (b:Nat) (s:SS) (win most:Int) (F:List Nat):Pc:=⟨F,fun w=>SesRep w b win most s F⟩
theorem sesPc_ok (b:Nat) (s:SS) (win most:Int) (F:List Nat):(sesPc b s win most F).Ok:=
 ⟨fun h k hk=>h.lt k hk,fun h hm hS=>h.mod hm hS⟩
def seatPcs (c:HCfg) (ad:HAd) (v:SeV) (z:HSeat):List Pc:=
 cellPc (ad.seat z.s.client) [bxV (ad.sess z.s.client),busyV v z.busy] 105 :: sesPc (ad.sess z.s.client) z.s c.win c.most v.F :: busyPcs v z.busy
def flowC (f:HFlow):List Value:=[.string f.client,.int .i64 f.conn]++(f.p.cells ++ [.int .i64 f.many,.int .i64 f.taken])
def flowPc (b:Nat) (f:HFlow):Pc:=cellPc b (flowC f) 161
def mapPc (b n:Nat) (f:Str->Option Nat):Pc:=⟨[b],fun w=>PMap w b n f⟩
theorem mapPc_ok (b n:Nat) (f:Str->Option Nat):(mapPc b n f).Ok:=
 pc_ok (fun h k hk=>by rw [List.mem_singleton.1 hk];exact PMap.lt h) fun h hk=>PMap.of h (hk b (by simp [mapPc])) (Nat.le_refl _) fun _=>rfl
def IMap (w:World) (m n:Nat) (f:Int->Option Nat):Prop:=
 ∃ D:DataW Unit,w.ownsMap Tryz.prog 3 ptrElem m (Maps.size D) D/\Maps.size D<=n /\ ∀ x,i64R x->Maps.has D (.int .i64 x)=(f x).isSome /\ ∀ b,f x=some b -> ∀ z,D.atKey (.int .i64 x) z=ptrDat b
def imapPc (b n:Nat) (f:Int->Option Nat):Pc:=⟨[b],fun w=>IMap w b n f⟩
theorem imapPc_ok (b n:Nat) (f:Int->Option Nat):(imapPc b n f).Ok:=
 pc_ok (fun h k hk=>by
  obtain ⟨D,h1,-⟩:=h
  rw [List.mem_singleton.1 hk];exact h1.lt) fun h hk=>by
  obtain ⟨D,h1,h2⟩:=h;exact ⟨D,owns_block h1 (hk b (by simp [imapPc])),h2⟩
def homeC (c:HCfg) (ad:HAd):List Value:=[.int .i64 c.n,.int .i64 c.mail,.int .i64 c.packet,.int .i64 c.most,.int .i64 c.win,.int .i64 c.me,.map (some ad.ms),.map (some ad.mf)]
def logPc (b:Nat) (v:Value) (N:List Note) (ops:Int):Pc:=
 ⟨b :: v.ownBlock.toList,fun w=>w.heap[b]? = some (.cells #[v,.int .i64 ops] 97 (0,0))/\w.ownsRow 0 79 35 v N.length (notesV N)/\v.ownBlock ≠ some b⟩
theorem logPc_ok (b:Nat) (v:Value) (N:List Note) (ops:Int):(logPc b v N ops).Ok:=
 pc_ok (fun h k hk=>by
  rcases List.mem_cons.1 hk with rfl | hk
  ·exact (Array.getElem?_eq_some_iff.1 h.1).1
  ·exact (h.2.1.lt k (Option.mem_toList.1 hk)).2) fun h hk =>
  ⟨(hk b (by simp [logPc])).trans h.1,ownsRow_local h.2.1 fun k hk'=>hk k (by simp [logPc,hk']),h.2.2⟩
def turnPc (tb:Nat) (ad:HAd) (v:Value) (L:List HMl):Pc:=
 ⟨tb :: v.ownBlock.toList,fun w=>w.heap[tb]? = some (.cells #[bxV ad.hb,bxV ad.lg,v] 100 (0,0))/\w.ownsRow 0 46 40 v L.length (hmlsV L)/\v.ownBlock ≠ some tb⟩
theorem turnPc_ok (tb:Nat) (ad:HAd) (v:Value) (L:List HMl):(turnPc tb ad v L).Ok:=
 pc_ok (fun h k hk=>by
  rcases List.mem_cons.1 hk with rfl | hk
  ·exact (Array.getElem?_eq_some_iff.1 h.1).1
  ·exact (h.2.1.lt k (Option.mem_toList.1 hk)).2) fun h hk =>
  ⟨(hk tb (by simp [turnPc])).trans h.1,ownsRow_local h.2.1 fun k hk'=>hk k (by simp [turnPc,hk']),h.2.2⟩
def seatF (ad:HAd) (t:Tn) (s:Str):Option Nat:=(t.seat ⟨s.toArray⟩).map fun _=>ad.seat ⟨s.toArray⟩
def flowF (fb:Int->Nat) (t:Tn) (op:Int):Option Nat:=(t.flows.find? fun f=>f.op == op).map fun _=>fb op
structure TnV where
 mv:Value
 L:List HMl
 nv:Value
 N:List Note
 sv:ByteArray->SeV
 fb:Int->Nat
def restPcs (c:HCfg) (ad:HAd) (v:TnV) (t:Tn):List Pc:=
 cellPc ad.hb (homeC c ad) 92 :: mapPc ad.ms t.seats.length (seatF ad t) :: imapPc ad.mf t.flows.length (flowF v.fb t) :: (t.seats.flatMap (fun z=>seatPcs c ad (v.sv z.s.client) z)++t.flows.map fun f=>flowPc (v.fb f.op) f)
def pcs (c:HCfg) (ad:HAd) (tb:Nat) (v:TnV) (t:Tn):List Pc:=turnPc tb ad v.mv v.L :: logPc ad.lg v.nv v.N t.ops :: restPcs c ad v t
def Caught (w:World) (F:List Nat) (ad:HAd) (v:SeV) (z:HSeat):Wk->Prop
 | .close x old=>Stay w F v.b1 [bxV (ad.seat z.s.client)] 101 /\ Stay w F v.b2 [.int .i64 old] 3 /\ Stay w F v.b3 [bxV v.wb] 103 /\ Stay w F v.b4 x.cells 44 /\ ItB w F x
 | .att x pres=>Stay w F v.b1 [.bool pres] 4 /\ Stay w F v.b2 [bxV (ad.seat z.s.client)] 101 /\ Stay w F v.b3 x.cells 44 /\ ItB w F x
 | .sub x _ _=>Stay w F v.b1 x.cells 44 /\ Stay w F v.b2 [bxV (ad.seat z.s.client)] 101 /\ Stay w F v.b3 [bxV v.wb] 103 /\ ItB w F x
 | .uns x=>Stay w F v.b1 x.cells 44 /\ ItB w F x
 | .flow _=>True
 | .fin x clean=>Stay w F v.b1 [.bool clean] 4 /\ Stay w F v.b2 x.cells 44 /\ ItB w F x
theorem Caught.upd {w w':World} {F F':List Nat} {ad:HAd} {v:SeV} {z:HSeat} {k:Wk} (h:Caught w F ad v z k) (hu:Upd F F' w w'):Caught w' F' ad v z k:=by
 cases k with
 | close x old=>exact ⟨h.1.upd hu,h.2.1.upd hu,h.2.2.1.upd hu,h.2.2.2.1.upd hu,h.2.2.2.2.upd hu⟩
 | att x pres=>exact ⟨h.1.upd hu,h.2.1.upd hu,h.2.2.1.upd hu,h.2.2.2.upd hu⟩
 | sub x codes kept=>exact ⟨h.1.upd hu,h.2.1.upd hu,h.2.2.1.upd hu,h.2.2.2.upd hu⟩
 | uns x=>exact ⟨h.1.upd hu,h.2.upd hu⟩
 | flow op=>trivial
 | fin x clean=>exact ⟨h.1.upd hu,h.2.1.upd hu,h.2.2.upd hu⟩
structure TurnP (c:HCfg) (ad:HAd) (w:World) (tb:Nat) (t:Tn) (v:TnV) (E:List Nat):Prop where
 lies:Lies w (pcs c ad tb v t)
 ext:∀ k ∈ E,k < w.heap.size/\k ∉ feet (pcs c ad tb v t)
 mails:All2 (MailIs w (E++feet (pcs c ad tb v t))) v.L t.mails
 notes:All2 (NoteIs w (E++feet (pcs c ad tb v t))) v.N t.notes
 caught:∀ z ∈ t.seats,∀ k left,z.busy=some (k,left)->Caught w (E++feet (pcs c ad tb v t)) ad (v.sv z.s.client) z k
def TurnAt (c:HCfg) (ad:HAd) (w:World) (tb:Nat) (t:Tn) (E G:List Nat):Prop:=∃ v,TurnP c ad w tb t v E/\G=feet (pcs c ad tb v t)
end
section
open Go Go.RowKit Go.Maps
theorem Upd.ext {F F':List Nat} {w w':World} (E:List Nat) (h:Upd F F' w w'):Upd (E++F) (E++F') w w':=
 ⟨h.1.mono fun _ hk=>List.mem_append_right _ hk,fun _ hk=>(List.mem_append.1 hk).elim (fun h1 => .inl (List.mem_append_left _ h1)) fun h1=>(h.2 _ h1).imp (fun h2=>List.mem_append_right _ h2) id⟩
theorem ext_turn {E A B:List Nat} {w w':World} (he:∀ k ∈ E,k < w.heap.size/\k ∉ A) (hu:Upd A B w w'):∀ k ∈ E,k < w'.heap.size/\k ∉ B:=fun k hk =>
 ⟨Nat.lt_of_lt_of_le (he k hk).1 hu.1.size,fun h=>(hu.2 k h).elim (he k hk).2 fun h1=>by have:=(he k hk).1;omega⟩
section
variable {c:HCfg} {ad:HAd} {w w':World} {tb:Nat} {t:Tn} {v:TnV} {E:List Nat}
theorem TurnP.lt (h:TurnP c ad w tb t v E):∀ k ∈ E++feet (pcs c ad tb v t),k < w.heap.size:=fun k hk=>(List.mem_append.1 hk).elim (fun h1=>(h.ext k h1).1) (h.lies.lt k)
theorem TurnP.below (h:TurnP c ad w tb t v E) (hb:Below w.heap.size w w'):TurnP c ad w' tb t v E:=
 have hu:Upd (E++feet (pcs c ad tb v t)) (E++feet (pcs c ad tb v t)) w w':=Upd.of_below hb
 ⟨h.lies.below hb,ext_turn h.ext (Upd.of_below hb),All2.mono (fun _ _ k=>k.upd hu) h.mails,All2.mono (fun _ _ k=>k.upd hu) h.notes,fun z hz k left hk=>(h.caught z hz k left hk).upd hu⟩
theorem TurnAt.below {G:List Nat} (h:TurnAt c ad w tb t E G) (hb:Below w.heap.size w w'):TurnAt c ad w' tb t E G:=by
 obtain ⟨v,h1,rfl⟩:=h;exact ⟨v,h1.below hb,rfl⟩
theorem TurnAt.lt {G:List Nat} (h:TurnAt c ad w tb t E G):∀ k ∈ E++G,k < w.heap.size:=by
 obtain ⟨v,h1,rfl⟩:=h;exact h1.lt
theorem TurnP.turn (h:TurnP c ad w tb t v E):(turnPc tb ad v.mv v.L).R w:=h.lies.at' _ (by simp [pcs])
theorem TurnP.log (h:TurnP c ad w tb t v E):(logPc ad.lg v.nv v.N t.ops).R w:=h.lies.at' _ (by simp [pcs])
theorem TurnP.home (h:TurnP c ad w tb t v E):w.heap[ad.hb]? = some (.cells (homeC c ad).toArray 92 (0,0)):=h.lies.at' (cellPc ad.hb (homeC c ad) 92) (by simp [pcs,restPcs])
theorem TurnP.seats (h:TurnP c ad w tb t v E):PMap w ad.ms t.seats.length (seatF ad t):=h.lies.at' (mapPc ad.ms t.seats.length (seatF ad t)) (by simp [pcs,restPcs])
theorem TurnP.flows (h:TurnP c ad w tb t v E):IMap w ad.mf t.flows.length (flowF v.fb t):=h.lies.at' (imapPc ad.mf t.flows.length (flowF v.fb t)) (by simp [pcs,restPcs])
theorem TurnP.mailed (h:TurnP c ad w tb t v E) {m h1:HMl} {mv':Value} (hq:(turnPc tb ad mv' (v.L ++ [m])).R w') (hu:Upd (turnPc tb ad v.mv v.L).F (turnPc tb ad mv' (v.L ++ [m])).F w w')
  (hmi:∀ F',Upd (E++feet (pcs c ad tb v t)) F' w w'->MailIs w' F' m h1) :
  TurnP c ad w' tb { t with mails:=t.mails ++ [h1] } { v with mv:=mv',L:=v.L ++ [m] } E/\Upd (feet (pcs c ad tb v t)) (feet (pcs c ad tb { v with mv:=mv',L:=v.L ++ [m] } { t with mails:=t.mails ++ [h1] })) w w':=by
 have hl:=Lies.turn1 (A:=[]) (p:=turnPc tb ad v.mv v.L) (q:=turnPc tb ad mv' (v.L ++ [m])) (B:=logPc ad.lg v.nv v.N t.ops :: restPcs c ad v t) h.lies (turnPc_ok _ _ _ _) hq hu;have hu':Upd (E++feet (pcs c ad tb v t)) (E++feet (pcs c ad tb { v with mv:=mv',L:=v.L ++ [m] } { t with mails:=t.mails ++ [h1] })) w w':=hl.2.ext E;exact ⟨⟨hl.1,ext_turn h.ext hl.2,All2.snoc (hmi _ hu') (All2.mono (fun _ _ k=>k.upd hu') h.mails),All2.mono (fun _ _ k=>k.upd hu') h.notes,fun z hz k left hk=>(h.caught z hz k left hk).upd hu'⟩,hl.2⟩
theorem TurnP.noted (h:TurnP c ad w tb t v E) {n n1:Note} {nv':Value} (hq:(logPc ad.lg nv' (v.N ++ [n]) t.ops).R w') (hu:Upd (logPc ad.lg v.nv v.N t.ops).F (logPc ad.lg nv' (v.N ++ [n]) t.ops).F w w')
  (hni:∀ F',(∀ k ∈ F',k ∈ E++feet (pcs c ad tb v t) \/ k ∈ (logPc ad.lg nv' (v.N ++ [n]) t.ops).F)->NoteIs w' F' n n1) :
  TurnP c ad w' tb (t.note n1) { v with nv:=nv',N:=v.N ++ [n] } E/\Upd (feet (pcs c ad tb v t)) (feet (pcs c ad tb { v with nv:=nv',N:=v.N ++ [n] } (t.note n1))) w w':=by
 have hl:=Lies.turn1 (A:=[turnPc tb ad v.mv v.L]) (p:=logPc ad.lg v.nv v.N t.ops) (q:=logPc ad.lg nv' (v.N ++ [n]) t.ops) (B:=restPcs c ad v t) h.lies (logPc_ok _ _ _ _) hq hu;have hu':Upd (E++feet (pcs c ad tb v t)) (E++feet (pcs c ad tb { v with nv:=nv',N:=v.N ++ [n] } (t.note n1))) w w':=hl.2.ext E
 have hin:∀ k ∈ E++feet (pcs c ad tb { v with nv:=nv',N:=v.N ++ [n] } (t.note n1)),k ∈ E++feet (pcs c ad tb v t) \/ k ∈ (logPc ad.lg nv' (v.N ++ [n]) t.ops).F:=fun k hk=>by
  rcases List.mem_append.1 hk with hk | hk
  ·exact .inl (List.mem_append_left _ hk)
  ·obtain ⟨p,hp,hk⟩:=mem_feet.1 hk
   rcases List.mem_cons.1 hp with rfl | hp
   ·exact .inl (List.mem_append_right _ (mem_feet.2 ⟨_,by simp [pcs],hk⟩))
   ·rcases List.mem_cons.1 hp with rfl | hp
    ·exact .inr hk
    ·exact .inl (List.mem_append_right _ (mem_feet.2 ⟨p,List.mem_cons_of_mem _ (List.mem_cons_of_mem _ hp),hk⟩))
 exact ⟨⟨hl.1,ext_turn h.ext hl.2,All2.mono (fun _ _ k=>k.upd hu') h.mails,All2.snoc (hni _ hin) (All2.mono (fun _ _ k=>k.upd hu') h.notes),fun z hz k left hk=>(h.caught z hz k left hk).upd hu'⟩,hl.2⟩
theorem TurnP.oped (h:TurnP c ad w tb t v E) (hq:(logPc ad.lg v.nv v.N (t.ops+1)).R w') (hu:Upd (logPc ad.lg v.nv v.N t.ops).F (logPc ad.lg v.nv v.N (t.ops+1)).F w w') :
  TurnP c ad w' tb t.op v E/\Upd (feet (pcs c ad tb v t)) (feet (pcs c ad tb v t.op)) w w':=by
 have hl:=Lies.turn1 (A:=[turnPc tb ad v.mv v.L]) (p:=logPc ad.lg v.nv v.N t.ops) (q:=logPc ad.lg v.nv v.N (t.ops+1)) (B:=restPcs c ad v t) h.lies (logPc_ok _ _ _ _) hq hu;have hu':Upd (E++feet (pcs c ad tb v t)) (E++feet (pcs c ad tb v t.op)) w w':=hl.2.ext E;exact ⟨⟨hl.1,ext_turn h.ext hl.2,All2.mono (fun _ _ k=>k.upd hu') h.mails,All2.mono (fun _ _ k=>k.upd hu') h.notes,fun z hz k left hk=>(h.caught z hz k left hk).upd hu'⟩,hl.2⟩
theorem seat_split {cl:ByteArray} {z:HSeat} (hnd:(t.seats.map (·.s.client)).Nodup) (h0:t.seat cl=some z) :
  ∃ S1 S2,t.seats=S1++z :: S2/\(∀ y ∈ S1,y.s.client ≠ cl) /\ ∀ y ∈ S2,y.s.client ≠ cl:=by
 obtain ⟨hm,hc⟩:=seat_at h0;obtain ⟨S1,S2,e⟩:=List.append_of_mem hm;rw [e,List.map_append,List.map_cons] at hnd;obtain ⟨-,h2,h3⟩:=List.nodup_append.1 hnd;refine ⟨S1,S2,e,fun y hy e1 => ?_,fun y hy e1 => ?_⟩
 ·exact h3 y.s.client (List.mem_map_of_mem hy) z.s.client (by simp) (e1.trans hc.symm)
 ·exact (List.nodup_cons.1 h2).1 (by rw [hc,<- e1];exact List.mem_map_of_mem hy)
theorem setS_split {cl:ByteArray} {z z':HSeat} {S1 S2:List HSeat} (e:t.seats=S1++z :: S2) (hz:z.s.client=cl) (h1:∀ y ∈ S1,y.s.client ≠ cl) (h2:∀ y ∈ S2,y.s.client ≠ cl):(t.setS cl z').seats=S1++z' :: S2:=by
 show t.seats.map _=_
 rw [e,List.map_append,List.map_cons,if_pos hz]
 congr 1
 ·conv=>rhs;rw [<- List.map_id S1]
  exact List.map_congr_left fun y hy=>if_neg (h1 y hy)
 ·congr 1
  conv=>rhs;rw [<- List.map_id S2]
  exact List.map_congr_left fun y hy=>if_neg (h2 y hy)
theorem seatF_setS {cl:ByteArray} {z z':HSeat} (h0:t.seat cl=some z) (hz:z'.s.client=cl):seatF ad (t.setS cl z')=seatF ad t:=by
 funext s
 unfold seatF;rw [seat_setS h0 hz]
 by_cases e:(⟨s.toArray⟩:ByteArray)=cl
 ·rw [if_pos e,e,h0];rfl
 ·rw [if_neg e]
def SeV.put (sv:ByteArray->SeV) (cl:ByteArray) (v1:SeV):ByteArray->SeV:=fun d=>if d=cl then v1 else sv d
theorem TurnP.setSeat (h:TurnP c ad w tb t v E) (hnd:(t.seats.map (·.s.client)).Nodup) {cl:ByteArray} {z z':HSeat} {v1:SeV} (h0:t.seat cl=some z) (hz:z'.s.client=cl)
  (hl:Lies w' (seatPcs c ad v1 z')) (hu:Upd (feet (seatPcs c ad (v.sv cl) z)) (feet (seatPcs c ad v1 z')) w w')
  (hc:∀ F',Upd (E++feet (pcs c ad tb v t)) F' w w' -> ∀ k left,z'.busy=some (k,left)->Caught w' F' ad v1 z' k) :
  TurnP c ad w' tb (t.setS cl z') { v with sv:=SeV.put v.sv cl v1 } E/\Upd (feet (pcs c ad tb v t)) (feet (pcs c ad tb { v with sv:=SeV.put v.sv cl v1 } (t.setS cl z'))) w w':=by
 obtain ⟨S1,S2,e,h1,h2⟩:=seat_split hnd h0;have hzc:z.s.client=cl:=(seat_at h0).2;have e':=setS_split (z':=z') e hzc h1 h2
 have g1:∀ (S:List HSeat),(∀ y ∈ S,y.s.client ≠ cl)->S.flatMap (fun z=>seatPcs c ad (SeV.put v.sv cl v1 z.s.client) z)=S.flatMap (fun z=>seatPcs c ad (v.sv z.s.client) z):=fun S hS=>by
  have:∀ y ∈ S,seatPcs c ad (SeV.put v.sv cl v1 y.s.client) y=seatPcs c ad (v.sv y.s.client) y:=fun y hy=>by unfold SeV.put;rw [if_neg (hS y hy)]
  induction S with
  | nil=>rfl
  | cons a r ih=>rw [List.flatMap_cons,List.flatMap_cons,this a (by simp),ih (fun y hy=>hS y (by simp [hy])) (fun y hy=>this y (by simp [hy]))]
 have p0:pcs c ad tb v t=(turnPc tb ad v.mv v.L :: logPc ad.lg v.nv v.N t.ops :: cellPc ad.hb (homeC c ad) 92 :: mapPc ad.ms t.seats.length (seatF ad t) :: imapPc ad.mf t.flows.length (flowF v.fb t) :: S1.flatMap (fun z=>seatPcs c ad (v.sv z.s.client) z))++(seatPcs c ad (v.sv cl) z++(S2.flatMap (fun z=>seatPcs c ad (v.sv z.s.client) z)++t.flows.map fun f=>flowPc (v.fb f.op) f)):=by
  unfold pcs restPcs;generalize t.seats.length=n;rw [e,List.flatMap_append,List.flatMap_cons,hzc];simp only [List.cons_append,List.append_assoc]
 have p1:pcs c ad tb { v with sv:=SeV.put v.sv cl v1 } (t.setS cl z')=(turnPc tb ad v.mv v.L :: logPc ad.lg v.nv v.N t.ops :: cellPc ad.hb (homeC c ad) 92 :: mapPc ad.ms t.seats.length (seatF ad t) :: imapPc ad.mf t.flows.length (flowF v.fb t) :: S1.flatMap (fun z=>seatPcs c ad (v.sv z.s.client) z))++(seatPcs c ad v1 z'++(S2.flatMap (fun z=>seatPcs c ad (v.sv z.s.client) z)++t.flows.map fun f=>flowPc (v.fb f.op) f)):=by
  unfold pcs restPcs;rw [show (t.setS cl z').seats.length=t.seats.length by simp [Tn.setS],e',List.flatMap_append,List.flatMap_cons,seatF_setS h0 hz];dsimp only;rw [g1 S1 h1,g1 S2 h2,hz];rw [show SeV.put v.sv cl v1 cl=v1 by simp [SeV.put]];simp only [List.cons_append,List.append_assoc]
  rfl
 have hL:=h.lies;rw [p0] at hL;have ht:=hL.turn hl hu;rw [<- p0,<- p1] at ht;have hx:=ht.2.ext E;refine ⟨⟨ht.1,ext_turn h.ext ht.2,All2.mono (fun _ _ k=>k.upd hx) h.mails,All2.mono (fun _ _ k=>k.upd hx) h.notes,fun y hy k left hk => ?_⟩,ht.2⟩;rw [e'] at hy
 have other:∀ S:List HSeat,(∀ y ∈ S,y.s.client ≠ cl)->(∀ y ∈ S,y ∈ t.seats)->y ∈ S->Caught w' (E++feet (pcs c ad tb { v with sv:=SeV.put v.sv cl v1 } (t.setS cl z'))) ad (SeV.put v.sv cl v1 y.s.client) y k:=fun S hS hSt hyS=>by
  have:=(h.caught y (hSt y hyS) k left hk).upd hx;rw [show SeV.put v.sv cl v1 y.s.client=v.sv y.s.client by unfold SeV.put;rw [if_neg (hS y hyS)]];exact this
 rcases List.mem_append.1 hy with hy | hy
 ·exact other S1 h1 (fun y hy=>by rw [e];simp [hy]) hy
 ·rcases List.mem_cons.1 hy with rfl | hy
  ·show Caught w' _ ad (SeV.put v.sv cl v1 y.s.client) y k
   rw [hz,show SeV.put v.sv cl v1 cl=v1 by simp [SeV.put]];exact hc _ hx k left hk
  ·exact other S2 h2 (fun y hy=>by rw [e];simp [hy]) hy
theorem TurnP.seatAt (h:TurnP c ad w tb t v E) {cl:ByteArray} {z:HSeat} (h0:t.seat cl=some z):∀ p ∈ seatPcs c ad (v.sv cl) z,p.R w:=fun p hp=>by
 obtain ⟨hm,hc⟩:=seat_at h0;refine h.lies.at' p ?_;unfold pcs restPcs;refine List.mem_cons_of_mem _ (List.mem_cons_of_mem _ (List.mem_cons_of_mem _ (List.mem_cons_of_mem _ (List.mem_cons_of_mem _ (List.mem_append_left _ (List.mem_flatMap.2 ⟨z,hm,?_⟩))))));rw [hc];exact hp
theorem TurnP.seatLies (h:TurnP c ad w tb t v E) (hnd:(t.seats.map (·.s.client)).Nodup) {cl:ByteArray} {z:HSeat} (h0:t.seat cl=some z):Lies w (seatPcs c ad (v.sv cl) z):=by
 obtain ⟨S1,S2,e,h1,h2⟩:=seat_split hnd h0;have hL:=h.lies
 have p0:pcs c ad tb v t=(turnPc tb ad v.mv v.L :: logPc ad.lg v.nv v.N t.ops :: cellPc ad.hb (homeC c ad) 92 :: mapPc ad.ms t.seats.length (seatF ad t) :: imapPc ad.mf t.flows.length (flowF v.fb t) :: S1.flatMap (fun z=>seatPcs c ad (v.sv z.s.client) z))++(seatPcs c ad (v.sv cl) z++(S2.flatMap (fun z=>seatPcs c ad (v.sv z.s.client) z)++t.flows.map fun f=>flowPc (v.fb f.op) f)):=by
  unfold pcs restPcs;generalize t.seats.length=n;rw [e,List.flatMap_append,List.flatMap_cons,(seat_at h0).2];simp only [List.cons_append,List.append_assoc]
 rw [p0] at hL;exact hL.part
theorem TurnP.ses (h:TurnP c ad w tb t v E) (hnd:(t.seats.map (·.s.client)).Nodup) {cl:ByteArray} {z:HSeat} {s':SS} {F1:List Nat} (h0:t.seat cl=some z) (hz:s'.client=cl)
  (hr:SesRep w' (ad.sess cl) c.win c.most s' F1) (hu:Upd (v.sv cl).F F1 w w') :
  TurnP c ad w' tb (t.setS cl ⟨s',z.busy⟩) { v with sv:=SeV.put v.sv cl { v.sv cl with F:=F1 } } E/\Upd (feet (pcs c ad tb v t)) (feet (pcs c ad tb { v with sv:=SeV.put v.sv cl { v.sv cl with F:=F1 } } (t.setS cl ⟨s',z.busy⟩))) w w':=by
 have hzc:z.s.client=cl:=(seat_at h0).2;have hS:=h.seatLies hnd h0
 have e1:seatPcs c ad { v.sv cl with F:=F1 } ⟨s',z.busy⟩=cellPc (ad.seat cl) [bxV (ad.sess cl),busyV (v.sv cl) z.busy] 105 :: sesPc (ad.sess cl) s' c.win c.most F1 :: busyPcs (v.sv cl) z.busy:=by
  unfold seatPcs;rw [hz]
  cases hb:z.busy with
  | none=>rfl
  | some k=>obtain ⟨k,left⟩:=k;cases k <;> rfl
 have e0:seatPcs c ad (v.sv cl) z = [cellPc (ad.seat cl) [bxV (ad.sess cl),busyV (v.sv cl) z.busy] 105]++sesPc (ad.sess cl) z.s c.win c.most (v.sv cl).F :: busyPcs (v.sv cl) z.busy:=by
  unfold seatPcs;rw [hzc];rfl
 rw [e0] at hS;have ht:=hS.turn1 (q:=sesPc (ad.sess cl) s' c.win c.most F1) (sesPc_ok _ _ _ _ _) hr hu;refine h.setSeat hnd h0 hz ?_ ?_ ?_
 ·rw [e1];exact ht.1
 ·rw [e1,e0];exact ht.2
 ·intro F' hu' k left hk
  have:=(h.caught z (seat_at h0).1 k left hk).upd hu';rw [hzc] at this
  cases k with
  | close x old=>simpa [Caught,hz,hzc] using this
  | att x pres=>simpa [Caught,hz,hzc] using this
  | sub x codes kept=>simpa [Caught,hz,hzc] using this
  | uns x=>simpa [Caught,hz,hzc] using this
  | flow op=>trivial
  | fin x clean=>simpa [Caught,hz,hzc] using this
theorem TurnP.more (h:TurnP c ad w tb t v E) {b:Nat} (hb:b < w.heap.size) (hbF:b ∉ E++feet (pcs c ad tb v t)) {w0:World} (h0:TurnP c ad w0 tb t v E) (hw:Below w0.heap.size w0 w) (hb0:w0.heap.size<=b):TurnP c ad w tb t v (b :: E):=by
 have hu:Upd (E++feet (pcs c ad tb v t)) ((b :: E)++feet (pcs c ad tb v t)) w0 w:=⟨Mod.of_below hw _,fun k hk=>(List.mem_cons.1 hk).elim (fun e => .inr (by rw [e];exact hb0)) .inl⟩;refine ⟨h.lies,fun k hk => ?_,All2.mono (fun _ _ k=>k.upd hu) h0.mails,All2.mono (fun _ _ k=>k.upd hu) h0.notes,fun z hz k left hk=>(h0.caught z hz k left hk).upd hu⟩
 rcases List.mem_cons.1 hk with rfl | hk
 ·exact ⟨hb,fun hk=>hbF (List.mem_append_right _ hk)⟩
 ·exact h.ext k hk
theorem TurnAt.more {G:List Nat} (h:TurnAt c ad w tb t E G) {b:Nat} (hw:Below w.heap.size w w') (hb0:w.heap.size<=b) (hb:b < w'.heap.size):TurnAt c ad w' tb t (b :: E) G:=by
 obtain ⟨v,h1,rfl⟩:=h;exact ⟨v,(h1.below hw).more hb (fun hk=>by have:=h1.lt b hk;omega) h1 hw hb0,rfl⟩
theorem TurnAt.wrote {G:List Nat} (h:TurnAt c ad w tb t E G) {S:List Nat} (hm:Mod S w w') (hS:∀ k ∈ S,k ∈ E):TurnAt c ad w' tb t E G:=by
 obtain ⟨v,h1,rfl⟩:=h;have hu:Upd (E++feet (pcs c ad tb v t)) (E++feet (pcs c ad tb v t)) w w':=⟨hm.mono fun k hk=>List.mem_append_left _ (hS k hk),fun k hk => .inl hk⟩;exact ⟨v,⟨h1.lies.mod hm fun k hk hk'=>(h1.ext k (hS k hk')).2 hk,fun k hk=>⟨Nat.lt_of_lt_of_le (h1.ext k hk).1 hm.size,(h1.ext k hk).2⟩,All2.mono (fun _ _ k=>k.upd hu) h1.mails,All2.mono (fun _ _ k=>k.upd hu) h1.notes,fun z hz k left hk=>(h1.caught z hz k left hk).upd hu⟩,rfl⟩
theorem TurnAt.ext {G:List Nat} (h:TurnAt c ad w tb t E G):∀ k ∈ E,k < w.heap.size/\k ∉ G:=by
 obtain ⟨v,h1,rfl⟩:=h;exact h1.ext
theorem TurnAt.less {G E':List Nat} (h:TurnAt c ad w tb t E G) (hE:∀ k ∈ E',k ∈ E):TurnAt c ad w tb t E' G:=by
 obtain ⟨v,h1,rfl⟩:=h;have hu:Upd (E++feet (pcs c ad tb v t)) (E'++feet (pcs c ad tb v t)) w w:=⟨Mod.refl _ _,fun k hk => .inl ((List.mem_append.1 hk).elim (fun h2=>List.mem_append_left _ (hE k h2)) fun h2=>List.mem_append_right _ h2)⟩;exact ⟨v,⟨h1.lies,fun k hk=>h1.ext k (hE k hk),All2.mono (fun _ _ k=>k.upd hu) h1.mails,All2.mono (fun _ _ k=>k.upd hu) h1.notes,fun z hz k left hk=>(h1.caught z hz k left hk).upd hu⟩,rfl⟩
end
end
section
open Go Go.RowKit Go.Maps
theorem kI:Keyed Tryz.prog 3:=int_keyed Tryz.underlying3
theorem klI (x:Int):WideAt.IsKeyLit (.int .i64 x):=trivial
theorem wfI {x:Int} (h:i64R x):(Lit.int .i64 x).wf=true:=by
 obtain ⟨h1,h2⟩:=h;simp [Lit.wf,IntKind.min,IntKind.max,IntKind.signed,IntKind.bits];omega
theorem ikey {x:Int} (h:i64R x):keyOf Tryz.prog 3 (.int .i64 x)=some (.int .i64 x):=keyOf_int_mk Tryz.underlying3 (wfI h)
theorem zeroFlow (w:World):(zeroValue 159).run Tryz.prog w = .ok (.pointer none) w:=by kernel_rfl
section
variable {w w2:World} {m n n' b:Nat} {f:Int->Option Nat} {D:DataW Unit} {x:Int}
theorem IMap.look (h:IMap w m n f) (hx:i64R x):(Instr.lookup 90 (.map (some m)) (.int .i64 x) false).run Tryz.prog w = .ok (ptrV (f x)) w:=by
 obtain ⟨D,h1,-,h3⟩:=h;obtain ⟨v,ps,hrun,hv⟩:=h1.lookup kI Tryz.underlying90 (zeroFlow w) (zd:=nilDat) (zp:=[]) rfl (ikey hx);obtain ⟨h4,h5⟩:=h3 x hx;rw [hrun]
 cases hf:f x with
 | none =>
  rw [hf] at h4;rw [atKey_of_not_has h4] at hv;rw [ptrElem_nil hv];rfl
 | some b =>
  rw [h5 b hf] at hv;rw [ptrElem_inv hv];rfl
theorem IMap.put (hD1:w.ownsMap Tryz.prog 3 ptrElem m (Maps.size D) D) (hD2:Maps.size D<=n) (hD3:∀ x,i64R x->Maps.has D (.int .i64 x)=(f x).isSome /\ ∀ b,f x=some b -> ∀ z,D.atKey (.int .i64 x) z=ptrDat b)
  (hx:i64R x) (hown2:w2.ownsMap Tryz.prog 3 ptrElem m n' (D.put (.int .i64 x) (ptrDat b))):IMap w2 m (n+(if (f x).isSome then 0 else 1)) (updF f x (some b)):=by
 have hT:=hD1.tidy kI;refine ⟨_,owns_tightR hown2,?_,fun y hy => ?_⟩
 ·rw [size_put hT,(hD3 x hx).1]
  split <;> omega
 ·by_cases e:y=x
  ·subst e
   refine ⟨by rw [has_put_same hT.isMap (klI _),updF_same];rfl,fun b' hb z => ?_⟩;rw [updF_same] at hb;rw [atKey_put_same hT.isMap (klI _),Option.some.inj hb]
  ·refine ⟨by rw [has_put_other (by simpa using e),updF_other e];exact (hD3 y hy).1,fun b' hb z => ?_⟩
   rw [updF_other e] at hb;rw [atKey_put_other (by simpa using e)];exact (hD3 y hy).2 b' hb z
theorem IMap.del (hD1:w.ownsMap Tryz.prog 3 ptrElem m (Maps.size D) D) (hD2:Maps.size D<=n) (hD3:∀ x,i64R x->Maps.has D (.int .i64 x)=(f x).isSome /\ ∀ b,f x=some b -> ∀ z,D.atKey (.int .i64 x) z=ptrDat b)
  (hx:i64R x) (hs:(f x).isSome=true) (hown2:w2.ownsMap Tryz.prog 3 ptrElem m n' (D.del (.int .i64 x))):IMap w2 m (n - 1) (updF f x none):=by
 have hT:=hD1.tidy kI;refine ⟨_,owns_tightR hown2,?_,fun y hy => ?_⟩
 ·have:=size_del (k:=.int .i64 x) hT
  rw [(hD3 x hx).1,hs] at this;simp at this;omega
 ·by_cases e:y=x
  ·subst e
   refine ⟨by rw [has_del_same,updF_same];rfl,fun b' hb z => ?_⟩;rw [updF_same] at hb
   cases hb
  ·refine ⟨by rw [has_del_other (by simpa using e),updF_other e];exact (hD3 y hy).1,fun b' hb z => ?_⟩
   rw [updF_other e] at hb;rw [atKey_del_other (by simpa using e)];exact (hD3 y hy).2 b' hb z
end
theorem Lies.sub {w:World} {ps qs:List Pc} (h:Lies w ps) (hs:qs.Sublist ps):Lies w qs:=⟨fun p hp=>h.ok p (hs.subset hp),fun p hp=>h.at' p (hs.subset hp),h.off.sublist hs⟩
theorem feet_sub {ps qs:List Pc} (hs:qs.Sublist ps):∀ k ∈ feet qs,k ∈ feet ps:=fun k hk=>by
 obtain ⟨p,hp,hk⟩:=mem_feet.1 hk;exact mem_feet.2 ⟨p,hs.subset hp,hk⟩
theorem find_without (op:Int) (l:List HFlow) (q:Int):(withoutF op l).find? (fun f=>f.op == q)=if q=op then none else l.find? fun f=>f.op == q:=by
 unfold withoutF
 induction l with
 | nil=>simp
 | cons f r ih =>
  rw [List.filter_cons]
  by_cases h1:f.op=op
  ·rw [if_neg (by simpa using h1),ih,List.find?_cons]
   by_cases h2:q=op
   ·rw [if_pos h2,if_pos h2]
   ·rw [if_neg h2,if_neg h2]
    have:(f.op == q)=false:=by rw [h1];simpa using fun e=>h2 e.symm
    rw [this]
  ·rw [if_pos (by simpa using h1),List.find?_cons,List.find?_cons,ih]
   by_cases h2:q=op
   ·subst h2
    have:(f.op == q)=false:=by simpa using h1
    rw [if_pos rfl] at ih ⊢;rw [if_pos rfl,this]
   ·rw [if_neg h2,if_neg h2]
theorem len_without {op:Int}:∀ {l:List HFlow},(l.map (·.op)).Nodup->(withoutF op l).length+(if ((l.find? fun f=>f.op == op).map fun _=>()).isSome then 1 else 0)=l.length
 | [],_=>by simp [withoutF]
 | f :: r,h=>by
  rw [List.map_cons,List.nodup_cons] at h;have ih:=len_without (op:=op) h.2;unfold withoutF at *;rw [List.filter_cons,List.find?_cons]
  by_cases h1:f.op=op
  ·have h2:(f.op == op)=true:=by simpa using h1
   rw [if_neg (by simpa using h1),h2]
   have h3:r.find? (fun f=>f.op == op)=none:=by
    rw [List.find?_eq_none];intro g hg e;refine h.1 ?_;rw [h1,<- (by simpa using e:g.op=op)];exact List.mem_map_of_mem hg
   rw [h3] at ih;simp at ih ⊢;omega
  ·have h2:(f.op == op)=false:=by simpa using h1
   rw [if_pos (by simpa using h1),h2,List.length_cons,List.length_cons];simp only at ih ⊢;omega
theorem Upd.join {G0 G G':List Nat} {w0 w w':World} {b:Nat} (h1:Upd G0 G w0 w) (hm:Mod G w w') (hk:∀ k ∈ G',k ∈ G \/ k=b) (hb:w0.heap.size<=b):Upd G0 G' w0 w':=
 ⟨h1.1.trans hm h1.2,fun k hk'=>(hk k hk').elim (h1.2 k) fun e => .inr (e ▸ hb)⟩
def fbPut (fb:Int->Nat) (op:Int) (b:Nat):Int->Nat:=fun o=>if o=op then b else fb o
section
variable {c:HCfg} {ad:HAd} {w w':World} {tb:Nat} {t:Tn} {v:TnV} {E:List Nat}
theorem flowF_put (f:HFlow) (b:Nat):flowF (fbPut v.fb f.op b) { t with flows:=withoutF f.op t.flows ++ [f] } = updF (flowF v.fb t) f.op (some b):=by
 funext q
 unfold flowF updF;show ((withoutF f.op t.flows ++ [f]).find? fun g=>g.op == q).map _=_
 rw [List.find?_append,find_without]
 by_cases e:q=f.op
 ·subst e
  rw [if_pos rfl,if_pos rfl];simp [fbPut]
 ·rw [if_neg e,if_neg e]
  have h1:(f.op == q)=false:=by simpa using fun h=>e h.symm
  cases hq:t.flows.find? fun g=>g.op == q with
  | none=>dsimp only;rw [hq];simp [h1]
  | some g=>dsimp only;rw [hq];simp [fbPut,e]
theorem TurnP.flowSet {b:Nat} (h:TurnP c ad w tb t v (b :: E)) {f:HFlow} (hst:w.heap[b]? = some (.cells (flowC f).toArray 161 (0,0)))
  (hbE:b ∉ E) (him:IMap w' ad.mf (withoutF f.op t.flows ++ [f]).length (updF (flowF v.fb t) f.op (some b))) (hm:Mod [ad.mf] w w') :
  TurnP c ad w' tb { t with flows:=withoutF f.op t.flows ++ [f] } { v with fb:=fbPut v.fb f.op b } E/\Mod (feet (pcs c ad tb v t)) w w' ∧
   ∀ k ∈ feet (pcs c ad tb { v with fb:=fbPut v.fb f.op b } { t with flows:=withoutF f.op t.flows ++ [f] }),k ∈ feet (pcs c ad tb v t) \/ k=b:=by
 have hmf:ad.mf ∈ feet (pcs c ad tb v t):=mem_feet.2 ⟨imapPc ad.mf t.flows.length (flowF v.fb t),by simp [pcs,restPcs],by simp [imapPc]⟩;have e0:pcs c ad tb v t = [turnPc tb ad v.mv v.L,logPc ad.lg v.nv v.N t.ops,cellPc ad.hb (homeC c ad) 92, mapPc ad.ms t.seats.length (seatF ad t)]++imapPc ad.mf t.flows.length (flowF v.fb t) :: (t.seats.flatMap (fun z=>seatPcs c ad (v.sv z.s.client) z)++t.flows.map fun f=>flowPc (v.fb f.op) f):=rfl
 have hsub:([turnPc tb ad v.mv v.L,logPc ad.lg v.nv v.N t.ops,cellPc ad.hb (homeC c ad) 92, mapPc ad.ms t.seats.length (seatF ad t)]++imapPc ad.mf t.flows.length (flowF v.fb t) :: (t.seats.flatMap (fun z=>seatPcs c ad (v.sv z.s.client) z)++(withoutF f.op t.flows).map fun f=>flowPc (v.fb f.op) f)).Sublist (pcs c ad tb v t):=by
  rw [e0];exact (List.Sublist.refl _).append (((List.Sublist.refl _).append (List.Sublist.map _ List.filter_sublist)).cons_cons _)
 have h1:=h.lies.sub hsub;have h2:=h1.turn1 (w':=w') (q:=imapPc ad.mf (withoutF f.op t.flows ++ [f]).length (updF (flowF v.fb t) f.op (some b))) (imapPc_ok _ _ _) him ⟨hm,fun k hk => .inl hk⟩;have hbn:b ∉ feet (pcs c ad tb v t):=(h.ext b (by simp)).2;have hbl:b < w.heap.size:=(h.ext b (by simp)).1;have hbx:w'.heap[b]? = some (.cells (flowC f).toArray 161 (0,0)):=(hm.block b hbl (fun hk=>hbn (by rw [List.mem_singleton.1 hk];exact hmf))).trans hst
 have e2:pcs c ad tb { v with fb:=fbPut v.fb f.op b } { t with flows:=withoutF f.op t.flows ++ [f] } = ([turnPc tb ad v.mv v.L,logPc ad.lg v.nv v.N t.ops,cellPc ad.hb (homeC c ad) 92, mapPc ad.ms t.seats.length (seatF ad t)]++imapPc ad.mf (withoutF f.op t.flows ++ [f]).length (updF (flowF v.fb t) f.op (some b)) :: (t.seats.flatMap (fun z=>seatPcs c ad (v.sv z.s.client) z)++(withoutF f.op t.flows).map fun f=>flowPc (v.fb f.op) f)) ++ [flowPc b f]:=by
  unfold pcs restPcs;rw [flowF_put]
  have hm1:(withoutF f.op t.flows).map (fun g=>flowPc (fbPut v.fb f.op b g.op) g)=(withoutF f.op t.flows).map fun g=>flowPc (v.fb g.op) g:=List.map_congr_left fun g hg=>by
   have:g.op ≠ f.op:=by simpa using (List.mem_filter.1 hg).2
   simp [fbPut,this]
  have hm2:fbPut v.fb f.op b f.op=b:=by simp [fbPut]
  dsimp only;rw [List.map_append,hm1,List.map_cons,List.map_nil,hm2];simp only [List.cons_append,List.append_assoc,List.nil_append]
  rfl
 have hlt:∀ k ∈ feet (pcs c ad tb { v with fb:=fbPut v.fb f.op b } { t with flows:=withoutF f.op t.flows ++ [f] }),k ∈ feet (pcs c ad tb v t) \/ k=b:=fun k hk=>by
  rw [e2,feet_app] at hk
  rcases List.mem_append.1 hk with hk | hk
  ·rcases h2.2.2 k hk with h3 | h3
   ·exact .inl (feet_sub hsub k h3)
   ·left
    rw [feet_app] at hk;exfalso
    have:k < w.heap.size:=by
     have h5:k ∈ feet ([turnPc tb ad v.mv v.L,logPc ad.lg v.nv v.N t.ops,cellPc ad.hb (homeC c ad) 92, mapPc ad.ms t.seats.length (seatF ad t)]++imapPc ad.mf t.flows.length (flowF v.fb t) :: (t.seats.flatMap (fun z=>seatPcs c ad (v.sv z.s.client) z)++(withoutF f.op t.flows).map fun f=>flowPc (v.fb f.op) f)):=by
      rw [feet_app];exact hk
     exact h1.lt k h5
    omega
  ·right
   simpa [feet,flowPc,cellPc] using hk
 have hl:Lies w' (pcs c ad tb { v with fb:=fbPut v.fb f.op b } { t with flows:=withoutF f.op t.flows ++ [f] }):=by
  rw [e2];refine lies_app h2.1 (lies_one (cellPc_ok _ _ _) hbx) fun k hk hk' => ?_
  have hkb:k=b:=by simpa [feet,flowPc,cellPc] using hk'
  subst hkb
  rcases h2.2.2 k hk with h3 | h3
  ·exact hbn (feet_sub hsub k h3)
  ·omega
 have hmm:Mod (feet (pcs c ad tb v t)) w w':=hm.mono fun k hk=>by rw [List.mem_singleton.1 hk];exact hmf
 have hu:Upd ((b :: E)++feet (pcs c ad tb v t)) (E++feet (pcs c ad tb { v with fb:=fbPut v.fb f.op b } { t with flows:=withoutF f.op t.flows ++ [f] })) w w':=by
  refine ⟨hmm.mono fun k hk=>List.mem_append_right _ hk,fun k hk => .inl ?_⟩
  rcases List.mem_append.1 hk with hk | hk
  ·exact List.mem_append_left _ (List.mem_cons_of_mem _ hk)
  ·rcases hlt k hk with h3 | h3
   ·exact List.mem_append_right _ h3
   ·rw [h3];exact List.mem_append_left _ (by simp)
 refine ⟨⟨hl,fun k hk => ?_,All2.mono (fun _ _ k=>k.upd hu) h.mails,All2.mono (fun _ _ k=>k.upd hu) h.notes,fun z hz k left hk=>(h.caught z hz k left hk).upd hu⟩,hmm,hlt⟩;have h5:=h.ext k (List.mem_cons_of_mem _ hk);refine ⟨Nat.lt_of_lt_of_le h5.1 hm.size,fun h6 => ?_⟩
 rcases hlt k h6 with h7 | h7
 ·exact h5.2 h7
 ·subst h7
  exact hbE hk
end
end
end Go.Proofs.YtcekcoepdhnfgaaGreatDoor
