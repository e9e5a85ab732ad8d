/- Parts of one proof (Ob92 to Ob97). No condition. -/
import Derived.Test.YtngagklmbbogiaaGreatDoorE4
set_option linter.all false
namespace Go.Proofs.YtngagklmbbogiaaGreatDoor.Ob
open Go Go.RowKit Vx
set_option maxRecDepth 100000
noncomputable section
variable{c:Act}{NM:ByteArray}{E:Env}{h:Heap}{l:List V4}{b i mz n nt p:Nat}{v:V4}{V:Value}{w w0:World}{fs:aB}
def mq:List (Nat×Nat×Nat):=[(88,6,121390429860705),(89,6,111550524650083),(90,14,2463397432817095070742675148137828),(91,6,111576361562726),(92,24,2805947119396938920427194473873559009489280880887284917607),(93,19,2573421258830701972015807444801943604642997607),(94,21,168691743253275916479622775680962576023838596031847),(95,14,2075096198370335216509268027270503),(96,2,29545),(97,12,31389014717615377969513329513),(98,8,7954898935897027433),(99,8,7234307542008165225),(100,4,1937335659),(101,17,39279265759193974485341313937393999770224),(102,4,1818322291),(103,14,2075096198370335216509268027270515)]
def SS:fV:=fun g=>match g with
 |46=>some R7
 |_=>none
theorem SS_ok[JC]:fg P SS:=by
 intro g C hC;unfold SS at hC;split at hC
 ·cases hC;exact zg Con.EW
 ·cases hC
def cS:aO:=Vx.run SS 40
theorem Z5[JC]:bj P cS:=eH SS_ok 40
def slS:AV:=.sz 3 (.sy 2)
def hS0:Heap:=jq ((List.range 9).map (fun _=>AO.gone)) 10
def elS:AO:=.glob 4300404 4 (gw (vS 6) fc 0)
def fbS(g:Nat):AO:=.cells 1 ⟨0,some 94,true⟩ (fu [.fn (.func g) [] []] ⟨1,fZ⟩ 0)
def hSr(el:AO)(g:Nat):Heap:=jq ([AO.gone,.gone,.gone,.gone,el,.gone,.gone,.gone,.gone,fbS g]) 10
def Gb(nm idx:AV)(p:Nat):List (Nat×AV):=[(0,nm),(1,slS),(4,.pn),(5,.i .i64 0),(6,.p p 0),(7,.b true),(24,slS),(25,.x (.i .i64) (.sy 2)),(26,idx)]
def Cy:aB:=[(.cmp .leq (.sy 2) (.li .i64 64),true),(.cmp .leq (.sy 2) (.li .i64 (-1)),false)]
def ltS:aB:=[(.cmp .lss (.sy 4) (.sy 2),true),(.cmp .leq (.sy 2) (.sy 4),false),(.cmp .leq (.sy 4) (.li .i64 64),true),(.cmp .leq (.sy 4) (.li .i64 (-1)),false)]
def geS:aB:=[(.cmp .leq (.sy 2) (.sy 4),true),(.cmp .lss (.sy 4) (.sy 2),false),(.cmp .leq (.sy 4) (.li .i64 64),true),(.cmp .leq (.sy 4) (.li .i64 (-1)),false)]
def Uo:SE:=.fn 10 (sk (.sy 6) (.sy 7) (.sy 8) (.sy 9))
def uD(i n t:Nat)(l:List AV)(h:Heap):Bool:=match T.get .gone h i with
 |.cells n' ⟨0,some t',true⟩ c=>bc (Nat.beq n n') (bc (Nat.beq t t') (xE ((List.range n).map fun j=>c.get j) l) false) false
 |_=>false
def FO:wz:=fun ph g args h n k=>match args with
 |[.sz 3 (.sy 2)]=>bc (bc (Nat.beq ph 0) (bc (Nat.beq n 11) (nT (au h) [(.cmp .leq (.sy 2) (.sy 4),true)]) false) false) (aM (Nat.succ n) fun n1=>k 1 (.sz 11 (.sy 2)) h n1) false
 |_=>false
def pAt(h:Heap)(i:Nat)(k:Nat->Bool):Bool:=match T.get .gone h i with
 |.cells _ _ c=>(match c.get 0 with
  |.p m 0=>k m
  |_=>false)
 |_=>false
def fAt(h:Heap)(i:Nat)(k:Nat->Nat->Bool):Bool:=match T.get .gone h i with
 |.cells _ _ c=>(match c.get 0 with
  |.fn (.func _) [] [.p fb 0,.p ob 0]=>k fb ob
  |_=>false)
 |_=>false
def mchL(fb ob:Nat):List AV:=[.fn (.func 49) [] [.p fb 0,.p ob 0],.sn,.i .u8 0,.i .u8 0,.b false,.b false]
def nb(a b:Nat):Bool:=bc (Nat.beq a b) false true
def endS(g:Nat)(v:AV)(h:Heap):Bool:=match v with
 |.tu [.p tb 0,.i .i64 (.ofNat 0)]=>pAt h tb fun mb=>fAt h mb fun fb ob=>
  bc (bc (bc (uD tb 1 105 [.p mb 0] h) (uD mb 6 120 (mchL fb ob) h) false) (bc (uD fb 1 94 [.fn (.func g) [] []] h) (uD ob 1 22 [.sz 11 (.sy 2)] h) false) false)
   (bc (bc (bc (Nat.ble 10 tb) (Nat.ble 10 mb) false) (bc (Nat.ble 10 fb) (Nat.ble 10 ob) false) false) (bc (bc (nb tb mb) (bc (nb tb fb) (nb tb ob) false) false) (bc (nb mb fb) (bc (nb mb ob) (nb fb ob) false) false) false) false) false
 |_=>false
def badS(v:AV):Bool:=match v with
 |.tu [.pn,.i .i64 (.ofNat (Nat.succ m))]=>Nat.ble m 1000
 |_=>false
def yM(g ph:Nat)(v:AV)(h:Heap):Bool:=bc (Nat.beq ph 0) (badS v) (bc (Nat.beq ph 1) (bc (Nat.beq g 0) false (endS g v h)) false)
def dS:jS:=fD P XT cS
def xV(cl:Code)(nm:AV)(g:Nat)(el:AO)(fs:aB)(kn:SP)(kx:Nat->SP)(kr:SP):Bool:=bQ fs (hSr el g) fun h=>BM P cS FO XT dS Tryz.f14.ntmps [47] (fun _ _ _=>qH) cl kn kx kr 0 (gd (Gb nm (.x (.i .i64) (.sy 4)) 10)) h 11
def DJ(nm:AV)(g ph:Nat)(regs:aI)(h:Heap):Bool:=bc (Nat.beq ph 0) (bc (bc (fi (Gb nm (.x (.i .i64) (.cD 4 (.sy 4) (.li .i64 1))) 10) regs) (uD 10 1 94 [.fn (.func g) [] []] h) false) (nT (au h) [(Uo,true)]) false) false
def JS(nm:AV)(g p0:Nat)(cl:Code):SP->(Nat->SP)->SP->SP:=fun kn kx kr ph regs h n=>
 bc (bc (Nat.beq ph 0) (bc (fi (Gb nm (.i .i64 0) p0) regs) (uD p0 1 94 [.fn (.func g) [] []] h) false) false)
  (bc (xV cl nm g elS (Cy++ltS) (fun ph regs h _=>DJ nm g ph regs h) (fun _=>qH) kr) (xV cl nm g .gone (Cy++geS) qH kx kr) false) false
def BQ(nm:AV)(g p0:Nat)(fs:aB):Bool:=match Tryz.f14.body with
 |some c=>(match aS c with
  |[cl]=>(match aS cl with
   |[]=>bc (Nat.ble 2 Tryz.f14.ntmps) (bQ (Cy++fs) hS0 fun h=>BM P cS FO XT dS Tryz.f14.ntmps [47] (JS nm g p0 cl) c (ui P Tryz.f14 (yM g)) (fun _=>qH) (ui P Tryz.f14 (yM g)) 0 (gw [nm,slS] fc 0) h 10) false
   |_=>false)
  |_=>false)
 |none=>false
def nmS(x:Nat×Nat×Nat):AV:=.s x.2.1 x.2.2
def oE:aB:=mq.map fun x=>(.cmp .eql (.sy 1) (.ls x.2.1 x.2.2),false)
theorem Up:(mq.all fun x=>BQ (nmS x) x.1 11 [])=true:=by kernel_rfl
theorem Uq:BQ (.x .s (.sy 1)) 0 11 oE=true:=by kernel_rfl
def eK(w:World)(S:Value)(l:List V4):Prop:=(S=bO∧l=[])∨
 ∃(b off cap:Nat)(arr:Array Value)(el:TypeId)(fr:Nat×Nat),S=.slice (some ⟨b,off,none⟩) l.length cap∧w.heap[b]? =some (.cells arr el fr)∧off+4*l.length<=arr.size∧
  ∀j v,l[j]? =some v->∀i,i<4->arr.getD (off+4*j+i) undef=v.cells.getD i undef
theorem wE{S:Value}(h:eK w S l)(hz:0<w.heap.size):(aT 0 S).aH<w.heap.size:=by
 rcases h with⟨rfl,_⟩|⟨b,off,cp,arr,e,fr,rfl,h2,_⟩
 ·exact hz
 ·exact(cW.1 h2).1
theorem BR{S:Value}(h:eK w S l)(hl:l.length<=64)(e3:E p=some (aT 0 S))(d2:den E (.sy 2)=some (.int .i64 l.length)):Rv E (.sz p (.sy 2)) S:=by
 rw[Rv];rcases h with⟨rfl,rfl⟩|⟨b,off,cap,arr,el,fr,rfl,h2,h3,h4⟩
 ·exact⟨⟨0,0,0⟩,0,e3,d2,by omega,fun _=>rfl,rfl⟩
 ·exact⟨⟨b,off,cap+1⟩,l.length,e3,d2,by omega,fun h=>absurd (show cap+1=0 from h) (by omega),by show _=(if cap+1=0 then _ else _);rw[if_neg (by omega)];rfl⟩
def sS0(NM:ByteArray)(S:Value)(n:Nat):List aZ:=[aw (.string NM),aw (.int .i64 n),aT 0 S,aw (.int .i64 (0:Nat)),⟨0,0,0⟩,⟨0,0,0⟩,⟨0,0,0⟩,⟨0,0,0⟩,⟨0,0,0⟩]
def sS(NM:ByteArray)(S:Value)(n i mz:Nat)(v:V4):List aZ:=[aw (.string NM),aw (.int .i64 n),aT 0 S,aw (.int .i64 i),⟨(aT 0 S).aH,(aT 0 S).base+i*4,0⟩,aw (.int .u8 v.k),aw (.float .f64 v.x),aw (.string v.s),aw (.int .i64 v.r),⟨mz,0,0⟩]
structure Ur(w0:World)(NM:ByteArray)(S:Value)(l:List V4)(g:FuncId)(mz nt i:Nat)(c:Act)(w:World):Prop where
 r0:c.tmps.getD 0 undef=.string NM
 r1:c.tmps.getD 1 undef=S
 r4:c.tmps.getD 4 undef=.pointer none
 r5:c.tmps.getD 5 undef=.int .i64 0
 r6:c.tmps.getD 6 undef=.pointer (some ⟨mz,0,none⟩)
 r7:c.tmps.getD 7 undef=.bool true
 r24:c.tmps.getD 24 undef=S
 r25:c.tmps.getD 25 undef=.int .i64 l.length
 r26:c.tmps.getD 26 undef=.int .i64 i
 size:c.tmps.size=nt
 defers:c.defers=[]
 bJ:dH (fun _=>False) w0 w
 box:cQ w mz 94 [.func (.func g) #[] #[]]
 lo:w0.heap.size<=mz
 il:i<=l.length
def Us(NM:ByteArray)(nm:AV):Prop:=pZ nm=true∧∀E:Env,E 1=some (aw (.string NM))->Rv E nm (.string NM)
def Zs(NM:ByteArray)(S:Value)(l:List V4)(E:Env)(h:Heap):Prop:=(ae (sS0 NM S l.length)).le E∨∃i mz v,(ae (sS NM S l.length i mz v)).le E∧i<=l.length∧∀j,j<i->∀v,l[j]? =some v->v.may=true
theorem Zs.low{S:Value}(z:Zs NM S l E h):E 1=some (aw (.string NM))∧E 2=some (aw (.int .i64 l.length))∧E 3=some (aT 0 S)∧∃i:Nat,E 4=some (aw (.int .i64 i))∧i<=l.length∧∀j,j<i->∀v,l[j]? =some v->v.may=true:=by
 rcases z with z|⟨i,mz,v,z,hi,hm⟩
 ·exact⟨z 1 _ rfl,z 2 _ rfl,z 3 _ rfl,0,z 4 _ rfl,nzQ _,fun j hj=>by omega⟩
 ·exact⟨z 1 _ rfl,z 2 _ rfl,z 3 _ rfl,i,z 4 _ rfl,hi,hm⟩
theorem kP(h:E p=some (aw V))(ok:jk V):den E (.sy p)=some V:=by
 show(E p).map oD=some V;rw[h];show some (oD (aw V))=some V;rw[pj ok]
section
variable{w0:World}{NM:ByteArray}{S:Value}{l:List V4}(ha:eK w0 S l)(qf:∀v∈l,v.ok)(hl:l.length<=64)(h0:0<w0.heap.size){nm:AV}(BW:Us NM nm){g:FuncId}
theorem sS_v:∀j V,v.cells[j]? =some V->den (ae (sS NM S n i mz v)) (.sy (6+j))=some V:=fun j V hj=>by
 have:j<4:=(bR.1 hj).1;match j,this,hj with
 |0,_,hj=>cases hj;exact aj (i:=5) rfl (ax _ _)
 |1,_,hj=>cases hj;exact aj (i:=6) rfl (lN _)
 |2,_,hj=>cases hj;exact aj (i:=7) rfl (eV _)
 |3,_,hj=>cases hj;exact aj (i:=8) rfl (ax _ _)
theorem FP(d2:den E (.sy 2)=some (.int .i64 l.length))(hl:l.length<=64):Holds E Cy:=
 ah ((az d2).trans (by rw[eX (by omega)])) (ah ((az d2).trans (by rw[gM (by omega)])) holds_nil)
include ha qf hl h0 BW
theorem IJ{JF:Nat->JC}(hJ:∀E h w,dH (fun _=>False) w0 w->(JF 0).J E h w){el:AO}(hd:Ur w0 NM S l g mz nt i c w)(hI:∀j,j<i->∀v,l[j]? =some v->v.may=true)(fo:(el=elS∧l[i]? =some v)∨el=.gone)(dX:Holds (ae (sS NM S l.length i mz v)) fs){Zq:Env->Heap->Prop}(hZ:∀E h,(ae (sS NM S l.length i mz v)).le E->Zq E h)
  {k:Heap->Bool} (hk:bQ fs (hSr el g) k=true):∃h1,k h1=true∧@Vx.St (JF 0) [] (ae (sS NM S l.length i mz v)) (gd (Gb nm (.x (.i .i64) (.sy 4)) 10)) h1 11 nt c w∧jh (fun _=>False) w0 10 Zq (ae (sS NM S l.length i mz v)) h1 w:=by
 have e1:ae (sS NM S l.length i mz v) 1=some (aw (.string NM)):=rfl;have e3:ae (sS NM S l.length i mz v) 3=some (aT 0 S):=rfl;have e5:ae (sS NM S l.length i mz v) 5=some ⟨(aT 0 S).aH,(aT 0 S).base+i*4,0⟩:=rfl;have Vu:ae (sS NM S l.length i mz v) 10=some ⟨mz,0,0⟩:=rfl;have d2:den (ae (sS NM S l.length i mz v)) (.sy 2)=some (.int .i64 l.length):=aj (i:=1) rfl (ax _ _);have d4:den (ae (sS NM S l.length i mz v)) (.sy 4)=some (.int .i64 i):=aj (i:=3) rfl (ax _ _);have Ah:=hd.lo;have hbl:=hd.box.lt;have uy:=hd.il;have alt:=wE ha h0;have rel:RO (ae (sS NM S l.length i mz v)) w 5 el:=by
  rcases fo with⟨rfl,hv⟩|rfl
  ·rcases ha with⟨_,h⟩|⟨b,off,cp,arr,e,fr,hS,h2,h3,h4⟩
   ·rw[h] at hv;cases hv
   ·have hi:=(bR.1 hv).1
    have hkS:aT 0 S=⟨b,off,cp+1⟩:=by rw[hS];rfl
    have oH:w.heap[b]? =some (.cells arr e fr):=by rw[hd.bJ.same b (cW.1 h2).1 (fun h=>h)];exact h2
    rw[hkS] at e5 e3;refine⟨⟨b,off+i*4,0⟩,arr,e,fr,e5,fun h=>absurd h (by decide),oH,by show off+i*4+4<=_;omega,fun j hj=>?_,⟨fun h=>absurd h.2.1 (by decide),fun h=>absurd h.2.1 (by decide),fun _=>⟨⟨b,off,cp+1⟩,i,e3,d4,rfl,rfl⟩⟩⟩;refine jf (g:=fun j=>arr.getD (off+i*4+j) undef) _ _ _ (fun q x hx=>?_) (fun q=>by rw[nw];simp[Rv]) j
    have q4:q<4:=(bR.1 hx).1;obtain⟨V,h1,Wc⟩:=xf (iM (qf v (gq hv)) sS_v) q x hx;show Rv _ _ (arr.getD (off+i*4+(0+q)) undef);have e2:arr.getD (off+i*4+(0+q)) undef=V:=by
     rw[show off+i*4+(0+q)=off+4*i+q by omega,h4 i v hv q q4,cB,h1];rfl
    rw[e2];exact Wc
  ·trivial
 have hr:HR (ae (sS NM S l.length i mz v)) (hSr el g) 11 w:=by
  refine cX (C:=sS NM S l.length i mz v) rfl (show 10<=11 from by decide) ⟨trivial,trivial,trivial,trivial,rel,trivial,trivial,trivial,trivial,?_,trivial⟩ (fun L hL=>?_) ?_
  ·exact hd.box.ro Vu (ad (by rw[Rv];exact⟨[],[],rfl,aF,aF⟩) aF) rfl
  ·have s0:∀V,(aw V).aH<w.heap.size:=fun V=>by rw[bH];omega
   have hk:(aT 0 S).aH<w.heap.size:=dV alt hd.bJ.size;unfold sS at hL;simp only[mcQ,mnQ,or_false] at hL;rcases hL with rfl|rfl|rfl|rfl|rfl|rfl|rfl|rfl|rfl|rfl<;>first|exact s0 _|assumption
  ·have ne:(aT 0 S).aH≠mz:=by omega
   rcases fo with⟨rfl,_⟩|rfl
   ·show[(aT 0 S).aH,mz].Nodup
    simp[ne]
   ·show[mz].Nodup
    simp
 obtain⟨h1,he,fw,fk⟩:=bZ hk hr dX;have cG:bM (hSr el g)=10:=bX _ _;refine⟨h1,he,@Vx.St.mk (JF 0) _ _ _ _ _ _ _ _ (fun t=>?_) hd.size hd.defers fw (hJ _ _ _ hd.bJ),⟨hd.bJ,fun k hk Cn=>?_,fk.bM.trans cG,fun E' h' hle oN=>hZ E' h' hle⟩⟩
 ·rcases iK (Gb nm (.x (.i .i64) (.sy 4)) 10) t with q|⟨v',Al,q⟩
  ·rw[q];simp[Rv]
  ·rw[q]
   unfold Gb at Al;simp only[mcQ,mnQ,or_false,Prod.mk.injEq] at Al;rcases Al with⟨rfl,rfl⟩|⟨rfl,rfl⟩|⟨rfl,rfl⟩|⟨rfl,rfl⟩|⟨rfl,rfl⟩|⟨rfl,rfl⟩|⟨rfl,rfl⟩|⟨rfl,rfl⟩|⟨rfl,rfl⟩
   ·rw[hd.r0];exact BW.2 _ e1
   ·rw[hd.r1];exact BR ha hl e3 d2
   ·rw[hd.r4,Rv]
   ·rw[hd.r5,Rv]
   ·rw[hd.r6,Rv];exact⟨⟨mz,0,0⟩,Vu,rfl⟩
   ·rw[hd.r7,Rv]
   ·rw[hd.r24];exact BR ha hl e3 d2
   ·rw[hd.r25];exact fK d2 (by omega)
   ·rw[hd.r26];exact fK d4 (by omega)
 ·obtain⟨x,L,a1,a2,a3,rfl⟩:=Cn
  rw[fk.bM,cG] at a1;rw[fk.live] at a2;have hx:x=10:=by
   obtain⟨j,b,rfl,g1,g2⟩:=bT (a:=.gone) a2;have:=(bR.1 g1).1;have:j<10:=this;omega
  subst hx;rw[Vu] at a3;cases a3
  have hk:mz<w0.heap.size:=hk;omega
end
theorem nJ{nx:Nat}{t:Nat}{l:List AV}(hr:HR E h nx w)(hk:uD i n t l h=true):∃L,E i=some L∧L.base=0∧(T.get .gone h i).live=true∧∀ib:List Value,ib.length=n->(∀vs,aP E l vs->vs=ib)->cQ w L.aH t ib:=by
 unfold uD at hk;split at hk
 ·rename_i n' t' c hc
  obtain⟨h1,h2⟩:=aa hk;obtain⟨h2,h3⟩:=aa h2;have h1:=aN h1;have h2:=aN h2;subst h1;subst h2;obtain⟨L,arr,el,eL,hb,cC,dr,dz⟩:=hr.cells hc;have fo:el=t:=dr.2.1 _ rfl;subst fo;have hz:L.base=0:=dr.2.2 rfl;refine⟨L,eL,hz,by rw[hc];rfl,fun ib hv hex=>⟨arr,hb,by omega,fun j hj=>?_⟩⟩;have e:=xG h3;have rr:aP E l ((List.range n).map fun j=>arr.getD j undef):=by
   rw[←e];rw[List.range_eq_range'];refine aP.j8 n 0 fun j _ hj=>?_
   have:=dz j (by omega);rw[hz,Nat.zero_add] at this;exact this
  rw[←hex _ rr];have:((List.range n).map fun j=>arr.getD j undef).getD j undef=arr.getD j undef:=by
   rw[cB,fL,List.getElem?_range (by omega)];rfl
  exact this.symm
 ·cases hk
theorem Ut{g:FuncId}{vs:List Value}(r:aP E [.fn (.func g) [] []] vs):vs=[.func (.func g) #[] #[]]:=by
 obtain⟨V,e,r⟩:=r.one;rw[Rv] at r;obtain⟨v1,v2,rfl,q1,q2⟩:=r;rw[aP] at q1;rw[aP] at q2;subst q1;subst q2;rw[e]
section
variable{w0:World}{NM:ByteArray}{S:Value}{l:List V4}(ha:eK w0 S l)(qf:∀v∈l,v.ok)(hl:l.length<=64)(h0:0<w0.heap.size){nm:AV}(BW:Us NM nm){g:FuncId}{JF:Nat->JC}(hJ:∀E h w,dH (fun _=>False) w0 w->(JF 0).J E h w)
include ha hl BW
theorem IK{idx:AV}{regs:aI}(st:@Vx.St (JF 0) [] E regs h n nt c w){Zq:Env->Heap->Prop}(hZ:∀E h,Zq E h->Zs NM S l E h)(ci:jh (fun _=>False) w0 10 Zq E h w)(hk:fi (Gb nm idx p) regs=true)(hb:uD p 1 94 [.fn (.func g) [] []] h=true)(hp:10<=p)(hidx:∀V,Rv E idx V->V=.int .i64 i)(uy:i<=l.length):∃L,E p=some L∧Ur w0 NM S l g L.aH nt i c w:=by
 letI Jp:JC:=JF 0
 obtain⟨z1,z2,z3,_⟩:=(hZ E h (ci.z E h (Env.le_refl _) fun _ _=>rfl)).low;have d2:den E (.sy 2)=some (.int .i64 l.length):=kP z2 (ax _ _);have rSl:Rv E slS S:=BR ha hl z3 d2;have eSl:∀V,Rv E slS V->V=S:=fun V r=>Rv.exact (Env.le_refl E) slS S V rfl rSl r
 have eNm:∀V,Rv E nm V->V=.string NM:=fun V r=>Rv.exact (Env.le_refl E) nm (.string NM) V BW.1 (BW.2 E z1) r
 obtain⟨L,eL,hz,oU,Vv⟩:=nJ st.heap hb;have hbox:=Vv [.func (.func g) #[] #[]] rfl fun vs r=>Ut r
 have Ah:w0.heap.size<=L.aH:=by
  rcases gC L.aH w0.heap.size with cL|ll
  ·exact(ci.iq L.aH cL ⟨p,L,by rw[ci.bM];exact hp,oU,eL,rfl⟩).elim
  ·exact ll
 have oz:∀{t:Nat}{v:AV},(t,v)∈Gb nm idx p->Rv E v (c.tmps.getD t undef):=fun {t v} hm=>by
  have r2:=st.regs t;rw[cK hk t v hm] at r2;exact r2
 have r6:=oz (t:=6) (v:=.p p 0) (by unfold Gb;simp);rw[Rv] at r6;obtain⟨M,eM,r6⟩:=r6;rw[eL] at eM;cases eM;rw[hz] at r6;have r4:=oz (t:=4) (v:=.pn) (by unfold Gb;simp);rw[Rv] at r4;have r5:=oz (t:=5) (v:=.i .i64 0) (by unfold Gb;simp);rw[Rv] at r5;have r7:=oz (t:=7) (v:=.b true) (by unfold Gb;simp);rw[Rv] at r7;have r25:=oz (t:=25) (v:=.x (.i .i64) (.sy 2)) (by unfold Gb;simp);have r26:=oz (t:=26) (v:=idx) (by unfold Gb;simp);refine⟨L,eL,{r0:=eNm _ (oz (by unfold Gb;simp)),r1:=eSl _ (oz (by unfold Gb;simp)),r4:=r4,r5:=r5,r6:=r6,r7:=r7,r24:=eSl _ (oz (by unfold Gb;simp)),r25:=?_,r26:=hidx _ r26,size:=st.size,defers:=st.defers,bJ:=ci.bJ,box:=hbox,lo:=Ah,il:=uy}⟩;rw[Rv,d2] at r25;exact(mL r25.1).symm
end
theorem info31:∃i0 z,Tryz.prog.info? 31=some i0∧i0.zero=some z∧i0.size=4∧z.cells.size=4∧i0.bytes<=1000:=by
 have e:(match Tryz.prog.info? 31 with
  |some i=>(match i.zero with
   |some z=>Nat.beq i.size 4&&(Nat.beq z.cells.size 4&&Nat.ble i.bytes 1000)
   |none=>false)
  |none=>false)=true:=by kernel_rfl
 cases h:Tryz.prog.info? 31 with
 |none=>rw[h] at e;cases e
 |some i=>
  rw[h] at e;dsimp only at e;cases hz:i.zero with
  |none=>rw[hz] at e;cases e
  |some z=>
   rw[hz] at e;simp only[Bool.and_eq_true] at e;exact⟨i,z,rfl,hz,aN e.1,aN e.2.1,aU e.2.2⟩
theorem Uu:ET P 47 0:=by
 obtain⟨i0,z,hi,hz,h2,WH,hby⟩:=info31;refine⟨fun w=>(AnyE.slices_Clone_nil Tryz.MO 0 0 w).mono fun e w'⟨h,hw⟩=>⟨h,by rw[hw];exact Below.refl _ _⟩,fun b off n c news w hl hn hc h1=>?_⟩;have hb:n*i0.bytes<=140737488355328:=by
  have:=Nat.mul_le_mul hn hby
  omega
 refine(AnyE.slices_Clone Tryz.MO i0 z 4 i0.bytes hi hz h2 rfl WH (by decide) Tryz.sizeOf31 b off n c news w hl (by unfold maxLen;omega) hb hc h1).mono ?_;rintro e w' ⟨v',rfl,⟨_,hv⟩,yO,Vl⟩;rcases hv with⟨rfl,_⟩|⟨g,cap,cur,rfl,hg,pP,wQ,HJ,cC,uw⟩
 ·exact absurd rfl yO
 ·exact⟨⟨g,cap,cur,_,rfl,hg,pP,wQ,HJ,cC,uw⟩,Vl⟩
def NR(s0:Nat)(w:World)(S:Value)(l:List V4):Prop:=(S=bO∧l=[])∨∃ab cap,S=.slice (some ⟨ab,0,none⟩) l.length cap∧s0<=ab∧ab<w.heap.size∧E7 w ab S l
theorem PJ{S:Value}(ha:eK w S l)(hl:l.length<=64):Calls P 47 #[S] w fun e w'=>∃S',e=.returned S'∧Below w.heap.size w w'∧NR w.heap.size w' S' l:=by
 rcases ha with⟨rfl,rfl⟩|⟨b,off,cap,arr,el,fr,rfl,h2,h3,h4⟩
 ·refine(Uu.1 w).mono ?_
  rintro e w' ⟨rfl,hb⟩;exact⟨_,rfl,hb,.inl ⟨rfl,rfl⟩⟩
 ·have at_:∀j,j<4*l.length->∃v,l[j/4]? =some v∧arr.getD (off+j) undef=v.cells.getD (j%4) undef:=fun j hj=>by
   have hd:j/4<l.length:=by omega
   refine⟨l[j/4],cN hd,?_⟩;have:=h4 (j/4) _ (cN hd) (j%4) (Nat.mod_lt _ (by decide));rw[←this,show off+4*(j/4)+j%4=off+j by omega]
  refine(Uu.2 b off l.length cap ((List.range (4*l.length)).map fun j=>arr.getD (off+j) undef) w (by rw[gp,ot];show _=l.length*4;omega) (by omega) (fun j u hu=>?_) (fun u hu=>?_)).mono ?_
  ·rw[fL] at hu
   have hj:j<4*l.length:=by
    rcases gC j (4*l.length) with h|h
    ·exact h
    ·rw[List.getElem?_eq_none (by rw[ot];exact h)] at hu;cases hu
   rw[List.getElem?_range hj] at hu;cases hu
   exact cell_of (L:=⟨b,off,0⟩) h2 (show off+j<arr.size by omega)
  ·obtain⟨j,hj,rfl⟩:=bU.1 hu
   obtain⟨v,_,e⟩:=at_ j (List.mem_range.1 hj);rw[e];have YY:j%4<4:=Nat.mod_lt _ (by decide);generalize j%4=q at YY;match q,YY with
   |0,_=>rfl
   |1,_=>rfl
   |2,_=>rfl
   |3,_=>rfl
  ·rintro e w' ⟨⟨b',bz,cur,wP,rfl,hg,pP,wQ,HJ,cC,uw⟩,hb⟩
   have cC:cur.size=bz*4:=cC;have uw:cur.toList.take (l.length*4)=(List.range (4*l.length)).map fun j=>arr.getD (off+j) undef:=uw
   refine⟨_,rfl,hb,.inr ⟨b',bz,rfl,hg,(cW.1 pP).1,.inr ⟨cur,wP,_,bz,rfl,pP,by omega,fun j v hv i hi=>?_,wQ⟩⟩⟩;have hj:=(bR.1 hv).1;have cL:4*j+i<4*l.length:=by omega
   have e1:cur.getD (4*j+i) undef=((List.range (4*l.length)).map fun j=>arr.getD (off+j) undef).getD (4*j+i) undef:=by
    rw[←uw,cB,List.getElem?_take_of_lt (by omega),Ai,Array.getElem?_toList]
   rw[e1,cB,fL,List.getElem?_range cL];show arr.getD (off+(4*j+i)) undef=_;rw[show off+(4*j+i)=off+4*j+i by omega];exact h4 j v hv i hi
def jxe(Ok:Env->World->(Nat->Prop)->Prop)(E:Env)(h:Heap)(w:World):Prop:=∃w1 K,Ok E w1 K∧bL (fun _=>none) w1 K E h w
@[reducible] def JXE(Ok:Nat->Env->World->(Nat->Prop)->Prop)(hm:∀ph E E' w K,E.le E'->Ok ph E w K->Ok ph E' w K):Nat->JC:=fun ph=>⟨jxe (Ok ph),fun hr j g cO=>by
  obtain⟨w1,K,o,j⟩:=j;exact⟨w1,K,hm _ _ _ _ _ g.ext o,(KJ (fun _=>none) w1 K).goes hr j g cO⟩,fun hr ha j=>by
  obtain⟨w1,K,o,j⟩:=j;exact⟨w1,K,o,(KJ (fun _=>none) w1 K).Ve hr ha j⟩⟩
def okSt(w0:World)(l:List V4)(ph:Nat)(E:Env)(w1:World)(K:Nat->Prop):Prop:=(ph=0∧w1=w0∧K=fun _=>False)∨(ph=1∧(∀v∈l,v.may=true)∧∃S,E 11=some (aT 0 S)∧NR w0.heap.size w1 S l∧K=cn S)
theorem PK:∀ph E E' w K,Env.le E E'->okSt w0 l ph E w K->okSt w0 l ph E' w K:=fun ph E E' w K hle h=>by
 rcases h with h|⟨h1,h2,S,h3,h4⟩
 ·exact .inl h
 ·exact .inr ⟨h1,h2,S,hle _ _ h3,h4⟩
@[reducible] def Cz(w0:World)(l:List V4):Nat->JC:=JXE (okSt w0 l) PK
theorem Uv(E:Env)(h:Heap)(w:World)(hb:dH (fun _=>False) w0 w):(Cz w0 l 0).J E h w:=
 ⟨w0,fun _=>False,.inl ⟨rfl,rfl,rfl⟩,fun _ _ h=>(by cases h),hb.size,fun k hk=>hk.elim⟩
theorem LF:wA P [47]:=fun g hg=>by
 obtain rfl:g=47:=by simpa using hg
 refine⟨Tryz.f47,_,Tryz.func47,rfl,?_⟩;intro h;revert h;decide
section
variable{w0:World}{NM:ByteArray}{S:Value}{l:List V4}(ha:eK w0 S l)(hl:l.length<=64)(h0:0<w0.heap.size)
theorem eK.same{w':World}{S:Value}(h:eK w S l)(hs:∀k,k<w.heap.size->w'.heap[k]? =w.heap[k]?):eK w' S l:=by
 rcases h with h|⟨b,off,cap,arr,el,fr,h1,h2,h3⟩
 ·exact .inl h
 ·exact .inr ⟨b,off,cap,arr,el,fr,h1,by rw[hs b (cW.1 h2).1];exact h2,h3⟩
include ha hl h0
theorem LG{Zq:Env->Heap->Prop}(hZ:∀E h,Zq E h->Zs NM S l E h):xR (Cz w0 l) P (fun _=>False) w0 10 Zq [47] FO:=by
 intro ph g args ARGS E h n w k hg he ra hr hj ci;obtain rfl:g=47:=by simpa using hg
 unfold FO at he;split at he<;>try (cases he;done)
 obtain⟨q1,q2⟩:=aa he;obtain⟨q3,q4⟩:=aa q1;obtain⟨q5,q6⟩:=aa q4;have B5:=aN q3;have hn:=aN q5;rw[aC] at q2;clear he q1 q3 q4 q5;subst B5;subst hn;have z:=hZ E h (ci.z E h (Env.le_refl _) fun _ _=>rfl);obtain⟨z1,z2,z3,i,z4,hi,Fu⟩:=z.low;have d2:den E (.sy 2)=some (.int .i64 l.length):=kP z2 (ax _ _);have d4:den E (.sy 4)=some (.int .i64 i):=kP z4 (ax _ _);have ll:=iz (aD hr) q6 _ List.mem_cons_self;have ll:den E (.cmp .leq (.sy 2) (.sy 4))=some (.bool true):=ll;rw[gu d2 d4] at ll;have ll:=gD (Value.bool.inj (mL ll));have may:∀v∈l,v.may=true:=fun v hv=>by
  obtain⟨j,hj⟩:=List.getElem?_of_mem hv;have:=(bR.1 hj).1;exact Fu j (by omega) v hj
 obtain⟨V,hA,rv⟩:=ra.one;obtain rfl:ARGS=#[V]:=Array.ext' hA;have hV:V=S:=Rv.exact (Env.le_refl E) (.sz 3 (.sy 2)) S V rfl (BR ha hl z3 d2) rv;subst hV;have L6:eK w V l:=ha.same fun k hk=>ci.bJ.same k hk fun h=>h
 refine(PJ L6 hl).mono ?_;rintro e w' ⟨S',rfl,hb,hc⟩;have hz':0<w'.heap.size:=dV (dV h0 ci.bJ.size) hb.size;have cO:HR E h 11 w':=HR.other hr hb.size fun i L oU hL=>hb.block _ (hr.kT i L hL)
 have hE11:E 11=none:=hr.fresh 11 (nrQ _);have za:(aT 0 S').aH<w'.heap.size:=by
  rcases hc with⟨rfl,_⟩|⟨ab,cap,rfl,_,h1,_⟩
  ·exact hz'
  ·exact h1
 have hle:E.le (fun i=>if i=11 then some (aT 0 S') else E i):=fun i L hi=>by
  by_cases e:i=11
  ·rw[e,hE11] at hi;cases hi
  ·show(if i=11 then _ else _)=_
   rw[if_neg e];exact hi
 have NS:∀i,(T.get .gone h i).live=true->(fun i=>if i=11 then some (aT 0 S') else E i) i=E i:=fun i hi=>by
  show(if i=11 then _ else _)=_;rw[if_neg];rintro rfl;rw[hr.lt 11 (nrQ _)] at hi;cases hi
 have jF:HR (fun i=>if i=11 then some (aT 0 S') else E i) h 12 w':=by
  refine⟨fun i=>(cO.obj i).wide hle,fun i j L M hi hj hL hM e=>?_,fun i hi=>hr.lt i (by omega),fun i hi=>?_,fun i L hi=>?_,by omega,by have:=hr.kU;omega,hr.zero⟩
  ·exact hr.inj i j L M hi hj ((NS i hi).symm.trans hL) ((NS j hj).symm.trans hM) e
  ·show(if i=11 then _ else _)=_
   rw[if_neg (by omega)];exact hr.fresh i (by omega)
  ·have hi:(if i=11 then some (aT 0 S') else E i)=some L:=hi
   split at hi
   ·cases hi;exact za
   ·exact cO.kT i L hi
 have Jb:(fun i=>if i=11 then some (aT 0 S') else E i) 11=some (aT 0 S'):=rfl;have rS':Rv (fun i=>if i=11 then some (aT 0 S') else E i) (.sz 11 (.sy 2)) S':=by
  have d2':=an hle _ _ d2;rw[Rv];rcases hc with⟨rfl,rfl⟩|⟨ab,cap,rfl,_,_,_⟩
  ·exact⟨⟨0,0,0⟩,0,Jb,d2',by omega,fun _=>rfl,rfl⟩
  ·exact⟨⟨ab,0,cap+1⟩,l.length,Jb,d2',by omega,fun h=>absurd (show cap+1=0 from h) (by omega),by show _=(if cap+1=0 then _ else _);rw[if_neg (by omega)];rfl⟩
 refine⟨1,S',.sz 11 (.sy 2),h,12,_,rfl,rS',jF,⟨w',cn S',.inr ⟨rfl,may,S',Jb,?_,rfl⟩,fun _ _ h=>(by cases h),nrQ _,fun k hk=>⟨rfl,?_,fun i L oU hL e=>?_⟩⟩,⟨⟨Nat.le_trans ci.bJ.size hb.size,fun k hk hn=>(hb.block k (dV hk ci.bJ.size)).trans (ci.bJ.same k hk hn),hb.os.trans ci.bJ.os,hb.output.trans ci.bJ.output,hb.tape.trans ci.bJ.tape⟩,fun k hk hf=>?_,ci.bM,fun E2 h2 Ov sq=>ci.z E2 h2 (Env.le_trans hle Ov) sq⟩,hle,q2⟩
 ·rcases hc with h|⟨ab,cap,h1,h2,h3,h4⟩
  ·exact .inl h
  ·exact .inr ⟨ab,cap,h1,Nat.le_trans ci.bJ.size h2,h3,h4⟩
 ·obtain⟨off,n',c',hK⟩:=hk
  rcases hc with⟨h,_⟩|⟨ab,cap,h1,_,h3,_⟩
  ·rw[hK] at h;cases h
  ·rw[hK] at h1;cases h1;exact h3
 ·obtain⟨off,n',c',hK⟩:=hk
  have cL:=hr.kT i L ((NS i oU).symm.trans hL);rcases hc with⟨h,_⟩|⟨ab,cap,h1,h2,_,_⟩
  ·rw[hK] at h;cases h
  ·rw[hK] at h1;cases h1;omega
 ·obtain⟨i,L,a1,a2,a3,a4⟩:=hf
  exact ci.iq k hk ⟨i,L,a1,a2,(NS i a2).symm.trans a3,a4⟩
end
section
variable{w0:World}{NM:ByteArray}{S:Value}{l:List V4}(ha:eK w0 S l)(qf:∀v∈l,v.ok)(hl:l.length<=64)(h0:0<w0.heap.size){nm:AV}(BW:Us NM nm){g:FuncId}
include ha qf hl h0 BW
theorem loopS{cl:Code}{kn kr:SP}{kx:Nat->SP}(hn:aS cl=[])
  (hA:xV cl nm g elS (Cy++ltS) (fun ph regs h _=>DJ nm g ph regs h) (fun _=>qH) kr=true) (hB:xV cl nm g .gone (Cy++geS) qH kx kr=true):
  ∀(N i mz:Nat)(c:Act)(w:World),l.length-i=N->Ur w0 NM S l g mz Tryz.f14.ntmps i c w->(∀j,j<i->∀v,l[j]? =some v->v.may=true)->
   Code.rounds P cl (kL (Cz w0 l) (fun _=>False) w0 10 (Zs NM S l) Tryz.f14.ntmps kn kx kr) (N+1) c w:=by
 have aQ:∀ph,@bj (Cz w0 l ph) P cS:=fun ph=>@Z5 (Cz w0 l ph)
 have cE:∀ph,@fz (Cz w0 l ph) P dS:=fun ph=>@ep (Cz w0 l ph) P XT mixed dv cS (aQ ph)
 have out:∀{i mz:Nat}{v:V4}{Kn:SP}{KX:Nat->SP}{e:Exit}{c':Act}{w':World},i<=l.length->(∀j,j<i->∀v,l[j]? =some v->v.may=true)->(∀x ph regs h n,KX x ph regs h n=true->kx x ph regs h n=true)->e≠.normal->
   kL (Cz w0 l) (fun _=>False) w0 10 (fun E h=>(ae (sS NM S l.length i mz v)).le E) Tryz.f14.ntmps Kn KX kr e c' w'->kL (Cz w0 l) (fun _=>False) w0 10 (Zs NM S l) Tryz.f14.ntmps kn kx kr e c' w':=by
  intro i mz v Kn KX e c' w' hi hI O' cR oU;obtain⟨ph,E',av,h',n',dB,ci,hk⟩:=oU;refine⟨ph,E',av,h',n',dB,⟨ci.bJ,ci.iq,ci.bM,fun E2 h2 hle oN=>.inr ⟨i,mz,v,ci.z E2 h2 hle oN,hi,hI⟩⟩,?_⟩;cases e with
  |normal=>exact absurd rfl cR
  |exit x=>exact O' _ _ _ _ _ hk
  |ret=>exact hk
  |goto l=>exact hk.elim
  |panic l=>exact hk.elim
  |outgrown=>exact hk.elim
 intro N;induction N with
 |zero=>
  intro i mz c w hN hd hI;have uy:=hd.il;have d2:den (ae (sS NM S l.length i mz z4)) (.sy 2)=some (.int .i64 l.length):=aj (i:=1) rfl (ax _ _);have d4:den (ae (sS NM S l.length i mz z4)) (.sy 4)=some (.int .i64 i):=aj (i:=3) rfl (ax _ _);have dX:Holds (ae (sS NM S l.length i mz z4)) (Cy++geS):=aJ (FP d2 hl) (ah ((gu d2 d4).trans (by rw[eX (by omega)])) (ah ((lD d4 d2).trans (by rw[gM (by omega)])) (ah ((az d4).trans (by rw[eX (by omega)])) (ah ((az d4).trans (by rw[gM (by omega)])) holds_nil))));obtain⟨h1,he,st,ci⟩:=IJ ha qf hl h0 BW (JF:=Cz w0 l) Uv hd hI (el:=.gone) (.inr rfl) dX (Zq:=fun E h=>(ae (sS NM S l.length i mz z4)).le E) (fun E h q=>q) hB;rw[rounds_succ];refine wp_mono (wD aQ dv cE (LG ha hl h0 fun E h q=>.inr ⟨i,mz,z4,q,uy,hI⟩) LF mixed cl (fun l Em=>by rw[hn] at Em;cases Em) qH kx 0 _ _ h1 11 c w he st ci) ?_
  intro e c' w' oU;cases e with
  |normal=>obtain⟨_,_,_,_,_,_,_,hk⟩:=oU;cases hk
  |_=>exact out uy hI (fun _ _ _ _ _ h=>h) (by intro h;cases h) oU
 |succ N ih=>
  intro i mz c w hN hd hI;have uy:=hd.il;have hi:i<l.length:=by omega
  have hv:l[i]? =some l[i]:=cN hi;generalize l[i]=v at hv;have d2:den (ae (sS NM S l.length i mz v)) (.sy 2)=some (.int .i64 l.length):=aj (i:=1) rfl (ax _ _);have d4:den (ae (sS NM S l.length i mz v)) (.sy 4)=some (.int .i64 i):=aj (i:=3) rfl (ax _ _);have dX:Holds (ae (sS NM S l.length i mz v)) (Cy++ltS):=aJ (FP d2 hl) (ah ((lD d4 d2).trans (by rw[eX hi])) (ah ((gu d2 d4).trans (by rw[gM (by omega)])) (ah ((az d4).trans (by rw[eX (by omega)])) (ah ((az d4).trans (by rw[gM (by omega)])) holds_nil))));obtain⟨h1,he,st,ci⟩:=IJ ha qf hl h0 BW (JF:=Cz w0 l) Uv hd hI (el:=elS) (.inl ⟨rfl,hv⟩) dX (Zq:=fun E h=>(ae (sS NM S l.length i mz v)).le E) (fun E h q=>q) hA;have hZ:∀(E:Env)(h:Heap),(ae (sS NM S l.length i mz v)).le E->Zs NM S l E h:=fun E h q=>.inr ⟨i,mz,v,q,uy,hI⟩
  rw[rounds_succ];refine wp_mono (wD aQ dv cE (LG ha hl h0 hZ) LF mixed cl (fun l Em=>by rw[hn] at Em;cases Em) (fun ph regs h _=>DJ nm g ph regs h) (fun _=>qH) 0 _ _ h1 11 c w he st ci) ?_
  intro e c' w' oU;cases e with
  |normal=>
   obtain⟨ph,E',av,h',n',dB,qE,hk⟩:=oU;have z:=qE.z E' h' (Env.le_refl _) fun _ _=>rfl
   have hk:DJ nm g ph av h'=true:=hk;unfold DJ at hk;obtain⟨q1,q2⟩:=aa hk;obtain⟨q3,q4⟩:=aa q2;obtain⟨q5,q6⟩:=aa q3;have B5:=aN q1;clear hk q1 q2 q3;subst B5;have hrx:HR E' h' n' w':=(letI Jq:JC:=Cz w0 l 0;dB.heap);have Fu:v.may=true:=by
    have cv:∀j V,v.cells[j]? =some V->den E' (.sy (6+j))=some V:=fun j V hj=>an z _ _ (sS_v j V hj)
    have dm:den E' Uo=some (.bool v.may):=jc (cv 0 (.int .u8 v.k) rfl) (cv 1 (.float .f64 v.x) rfl) (cv 2 (.string v.s) rfl) (cv 3 (.int .i64 v.r) rfl);have q:=iz (aD hrx) q4 _ List.mem_cons_self;have q:den E' Uo=some (.bool true):=q;rw[dm] at q;exact Value.bool.inj (mL q)
   obtain⟨L,_,qw⟩:=IK ha hl BW (JF:=Cz w0 l) (i:=i+1) dB hZ qE q5 q6 (by decide) (fun V r=>by
    have dn:=an z _ _ (qh d4 (by omega));rw[Rv,dn] at r;exact(mL r.1).symm) hi
   exact ih (i+1) L.aH c' w' (by omega) qw fun j hj u hu=>by
    rcases gC j i with h|h
    ·exact hI j h u hu
    ·obtain rfl:j=i:=by omega
     rw[hv] at hu;cases hu;exact Fu
  |_=>exact out (KX:=fun _=>qH) uy hI (fun _ _ _ _ _ h=>by cases h) (by intro h;cases h) oU
theorem IL(hk:BQ nm g 11 fs=true)(dX:Holds (ae (sS0 NM S l.length)) fs){Fin:Value->World->Prop}
  (KO:∀(ph:Nat)(E:Env)(h:Heap)(n:Nat)(w:World)(v:AV)(V:Value),HR E h n w->(Cz w0 l ph).J E h w->jh (fun _=>False) w0 10 (Zs NM S l) E h w->Rv E v V->yM g ph v h=true->Fin V w):
  Calls P 14 #[.string NM,S] w0 fun e w'=>∃V,e=.returned V∧dH (fun _=>False) w0 w'∧Fin V w':=by
 unfold BQ at hk;split at hk<;>try (cases hk;done)
 rename_i c hc;split at hk<;>try (cases hk;done)
 rename_i cl qZ;split at hk<;>try (cases hk;done)
 rename_i hn;obtain⟨hle,hk⟩:=aa hk;have aQ:∀ph,@bj (Cz w0 l ph) P cS:=fun ph=>@Z5 (Cz w0 l ph)
 have cE:∀ph,@fz (Cz w0 l ph) P dS:=fun ph=>@ep (Cz w0 l ph) P XT mixed dv cS (aQ ph)
 have d2:den (ae (sS0 NM S l.length)) (.sy 2)=some (.int .i64 l.length):=aj (i:=1) rfl (ax _ _);have alt:=wE ha h0;have hr:HR (ae (sS0 NM S l.length)) hS0 10 w0:=by
  refine cX (C:=sS0 NM S l.length) rfl (show 10<=10 from by decide) (.dead _ _ fun a ha=>by obtain⟨_,_,rfl⟩:=bU.1 ha;rfl) (fun L hL=>?_) (show([]:List Nat).Nodup by simp)
  have s0:∀V,(aw V).aH<w0.heap.size:=fun V=>by rw[bH];omega
  unfold sS0 at hL;simp only[mcQ,mnQ,or_false] at hL;rcases hL with rfl|rfl|rfl|rfl|rfl|rfl|rfl|rfl|rfl<;>first|exact s0 _|assumption
 obtain⟨h1,he,fw,fk⟩:=bZ hk hr (aJ (FP d2 hl) dX);have cG:bM hS0=10:=bX _ _;have ra:aP (ae (sS0 NM S l.length)) [nm,slS] (#[.string NM,S]:Array Value).toList:=ad (BW.2 _ rfl) (ad (BR ha hl rfl d2) aF);refine Uj (JF:=Cz w0 l) aQ dv cE (LG ha hl h0 fun E h q=>q) LF mixed (Fin:=Fin) Tryz.func14 hc ra (aU hle) fw (Uv _ _ _ (dH.refl _ _)) ⟨dH.refl _ _,fun k hk hf=>?_,fk.bM.trans cG,fun E' h' hle oN=>.inl hle⟩ (fun lc P' kn kx ph E regs h n c w hJ st ci=>?_) he KO
 ·obtain⟨x,L,a1,a2,a3,rfl⟩:=hf
  rw[fk.live] at a2;obtain⟨j,b,rfl,g1,g2⟩:=bT (a:=.gone) a2;rw[fL] at g1;have hj:j<9:=by
   rcases gC j 9 with h|h
   ·exact h
   ·rw[List.getElem?_eq_none (by rw[ot];exact h)] at g1;cases g1
  rw[List.getElem?_range hj] at g1;cases g1;cases g2
 ·rw[qZ] at P'
  obtain rfl:lc=cl:=by simpa using P'
  have hJ:bc (bc (Nat.beq ph 0) (bc (fi (Gb nm (.i .i64 0) 11) regs) (uD 11 1 94 [.fn (.func g) [] []] h) false) false)
   (bc (xV lc nm g elS (Cy++ltS) (fun ph regs h _=>DJ nm g ph regs h) (fun _=>qH) (ui P Tryz.f14 (yM g))) (xV lc nm g .gone (Cy++geS) qH kx (ui P Tryz.f14 (yM g))) false) false=true:=hJ
  obtain⟨q1,q2⟩:=aa hJ;obtain⟨q3,q4⟩:=aa q1;obtain⟨q5,q6⟩:=aa q4;obtain⟨q7,q8⟩:=aa q2;have B5:=aN q3;clear hJ q1 q2 q3 q4;subst B5;obtain⟨L,_,hd⟩:=IK ha hl BW (JF:=Cz w0 l) (i:=0) st (fun E h q=>q) ci q5 q6 (by decide) (fun V r=>by rw[Rv] at r;exact r) (nzQ _);refine wp_loop_rounds (l.length-0+1) ?_;exact loopS ha qf hl h0 BW hn q7 q8 _ 0 L.aH c w rfl hd fun j hj=>by omega
end
def Started(w0:World)(g:FuncId)(l:List V4)(V:Value)(w:World):Prop:=(∃x:Int,V=.tuple #[.pointer none,.int .i64 x]∧0<x∧x<=1001)∨
 ∃tb K,g≠0∧V=.tuple #[.pointer (some ⟨tb,0,none⟩),.int .i64 0]∧(∀v∈l,v.may=true)∧w0.heap.size<=tb∧mo g l w0.heap.size tb w K∧∀k,K k->(w0.heap.size<=k∨k=2∨k=0)∧k<w.heap.size
theorem Yp{v:AV}(h:badS v=true)(r:Rv E v V):∃x:Int,V=.tuple #[.pointer none,.int .i64 x]∧0<x∧x<=1001:=by
 unfold badS at h;split at h<;>try (cases h;done)
 rename_i m;rw[Rv] at r;obtain⟨vs,rfl,rl⟩:=r;obtain⟨V1,V2,rfl,r1,r2⟩:=rl.two;rw[Rv] at r1;rw[Rv] at r2;have hm:=aU h;exact⟨_,by rw[r1,r2],by show(0:Int)<((Nat.succ m:Nat):Int);omega,by show((Nat.succ m:Nat):Int)<=1001;omega⟩
theorem pAt_ok{k:Nat->Bool}(he:pAt h i k=true):∃m,k m=true:=by
 unfold pAt at he;split at he<;>try (cases he;done)
 split at he<;>try (cases he;done)
 exact⟨_,he⟩
theorem fAt_ok{k:Nat->Nat->Bool}(he:fAt h i k=true):∃a b,k a b=true:=by
 unfold fAt at he;split at he<;>try (cases he;done)
 split at he<;>try (cases he;done)
 exact⟨_,_,he⟩
theorem nb_ne{a:Nat}(h:nb a b=true):a≠b:=by
 rintro rfl;unfold nb at h;rw[Nat.beq_refl] at h;cases h
section
variable{w0:World}{NM:ByteArray}{S:Value}{l:List V4}(qf:∀v∈l,v.ok)(hl:l.length<=64)(mh:fq w0)
include qf hl mh
theorem IM{g ph:Nat}{v:AV}(hr:HR E h n w)(hj:(Cz w0 l ph).J E h w)(ci:jh (fun _=>False) w0 10 (Zs NM S l) E h w)(rv:Rv E v V)(hf:yM g ph v h=true):Started w0 g l V w:=by
 unfold yM at hf;rcases aR hf with⟨_,P3⟩|⟨_,P3⟩
 ·exact .inl (Yp P3 rv)
 obtain⟨B5,na⟩:=aa P3;have B5:=aN B5;clear hf P3;subst B5;obtain⟨w1,K,kQ,hj⟩:=hj;rcases kQ with⟨hc,_⟩|⟨_,Fu,S',Jb,qZ,rfl⟩
 ·cases hc
 have hg0:g≠0:=fun e=>by
  subst e;cases na
 have hf:endS g v h=true:=by
  rcases aR na with⟨_,q⟩|⟨_,q⟩
  ·cases q
  ·exact q
 clear na;unfold endS at hf;split at hf<;>try (cases hf;done)
 rename_i tb;obtain⟨mb,hf⟩:=pAt_ok hf;obtain⟨fb,ob,hf⟩:=fAt_ok hf;obtain⟨f1,f2⟩:=aa hf;obtain⟨f1,f3⟩:=aa f1;obtain⟨bt,bm⟩:=aa f1;obtain⟨bf,bo⟩:=aa f3;obtain⟨f2,f4⟩:=aa f2;obtain⟨f2,f5⟩:=aa f2;obtain⟨gt,gm⟩:=aa f2;obtain⟨gf,go⟩:=aa f5;obtain⟨f4,f6⟩:=aa f4;obtain⟨ntm,f4⟩:=aa f4;obtain⟨ntf,nto⟩:=aa f4;obtain⟨nmf,f6⟩:=aa f6;obtain⟨nmo,nfo⟩:=aa f6;obtain⟨Lt,eT,zT,lT,xT⟩:=nJ hr bt;obtain⟨Lm,eM,zM,lM,xM⟩:=nJ hr bm;obtain⟨Lf,eF,zF,lF,xF⟩:=nJ hr bf;obtain⟨Lo,eO,zO,lO,xO⟩:=nJ hr bo;have old:∀{p:Nat}{L:aZ},Nat.ble 10 p=true->E p=some L->(T.get .gone h p).live=true->w0.heap.size<=L.aH:=fun {p L} hp eL oU=>by
  rcases gC L.aH w0.heap.size with cL|ll
  ·exact(ci.iq L.aH cL ⟨p,L,by rw[ci.bM];exact aU hp,oU,eL,rfl⟩).elim
  ·exact ll
 have oT:=old gt eT lT;have oM:=old gm eM lM;have oF:=old gf eF lF;have oO:=old go eO lO;have PL:∀{p q:Nat}{L M:aZ},nb p q=true->E p=some L->E q=some M->(T.get .gone h p).live=true->(T.get .gone h q).live=true->L.aH≠M.aH:=fun {p q L M} hn e1 e2 l1 l2 e=>nb_ne hn (hr.inj p q L M l1 l2 e1 e2 e)
 have hT:=xT [.pointer (some ⟨Lm.aH,0,none⟩)] rfl fun vs r=>by
  obtain⟨U,e,r⟩:=r.one;rw[Rv] at r;obtain⟨M,e2,rfl⟩:=r;rw[eM] at e2;cases e2;rw[e,zM]
 have hF:=xF [.func (.func g) #[] #[]] rfl fun vs r=>Ut r
 have rS:Rv E (.sz 11 (.sy 2)) S':=by
  have z2:=(ci.z E h (Env.le_refl _) fun _ _=>rfl).low.2.1;have d2:den E (.sy 2)=some (.int .i64 l.length):=kP z2 (ax _ _);rw[Rv];rcases qZ with⟨rfl,rfl⟩|⟨ab,cap,rfl,_,_,_⟩
  ·exact⟨⟨0,0,0⟩,0,Jb,d2,by omega,fun _=>rfl,rfl⟩
  ·exact⟨⟨ab,0,cap+1⟩,l.length,Jb,d2,by omega,fun h=>absurd (show cap+1=0 from h) (by omega),by show _=(if cap+1=0 then _ else _);rw[if_neg (by omega)];rfl⟩
 have hO:=xO [S'] rfl fun vs r=>by
  obtain⟨U,e,r⟩:=r.one;rw[e,Rv.exact (Env.le_refl E) (.sz 11 (.sy 2)) S' U rfl rS r]
 have hM:=xM [Pu Lf.aH Lo.aH,bO,.int .u8 0,.int .u8 0,.bool false,.bool false] rfl fun vs r=>by
  unfold mchL at r;rw[aP] at r;obtain⟨V1,vs1,rfl,r1,r⟩:=r;rw[aP] at r;obtain⟨V2,vs2,rfl,r2,r⟩:=r;rw[aP] at r;obtain⟨V3,vs3,rfl,r3,r⟩:=r;rw[aP] at r;obtain⟨V4,vs4,rfl,r4,r⟩:=r;obtain⟨V5,V6,rfl,r5,r6⟩:=r.two;rw[Rv] at r1;rw[Rv] at r2;rw[Rv] at r3;rw[Rv] at r4;rw[Rv] at r5;rw[Rv] at r6;obtain⟨us,ws,rfl,q1,q2⟩:=r1;rw[aP] at q1;subst q1;obtain⟨U1,U2,rfl,p1,p2⟩:=q2.two;rw[Rv] at p1;rw[Rv] at p2;obtain⟨M1,m1,rfl⟩:=p1;obtain⟨M2,m2,rfl⟩:=p2;rw[eF] at m1;cases m1;rw[eO] at m2;cases m2;rw[r2,r3,r4,r5,r6,zF,zO];rfl
 rw[Rv] at rv;obtain⟨vs,rfl,rl⟩:=rv;obtain⟨V1,V2,rfl,r1,r2⟩:=rl.two;rw[Rv] at r1;rw[Rv] at r2;obtain⟨L',e',rfl⟩:=r1;rw[eT] at e';cases e';have tl:=mh.lt;have cC:=ci.bJ.size;have htab:fq w:=mh.same (ci.bJ.same _ tl fun h=>h);obtain⟨ab,yR⟩:∃ab,E7 w ab S' l∧ab<w.heap.size∧ab≠2∧(w0.heap.size<=ab∨ab=0)∧ab≠Lt.aH∧ab≠Lm.aH∧ab≠Lf.aH∧ab≠Lo.aH:=by
  rcases qZ with⟨rfl,rfl⟩|⟨ab,cap,hS,h1,h2,h3⟩
  ·exact⟨0,.inl ⟨rfl,rfl⟩,by omega,by decide,.inr rfl,by omega,by omega,by omega,by omega⟩
  ·have hk:=hj.2.2 ab ⟨_,_,_,hS⟩
   refine⟨ab,?_,dV h2 hj.2.1,by omega,.inl h1,(hk.2.2 tb Lt lT eT).symm,(hk.2.2 mb Lm lM eM).symm,(hk.2.2 fb Lf lF eF).symm,(hk.2.2 ob Lo lO eO).symm⟩;rcases h3 with h3|⟨arr,el,fr,c,q1,q2,q3⟩
   ·exact .inl h3
   ·exact .inr ⟨arr,el,fr,c,q1,by rw[hk.1];exact q2,q3⟩
 obtain⟨yR,habs,habt,habo,nat,nam,naf,nao⟩:=yR;have n1:=PL ntm eT eM lT lM;have n2:=PL ntf eT eF lT lF;have n3:=PL nto eT eO lT lO;have n4:=PL nmf eM eF lM lF;have n5:=PL nmo eM eO lM lO;have n6:=PL nfo eF eO lF lO;have M:wK w Lm.aH Lf.aH Lo.aH ab Lm.aH 0 g S' l [] bO 0 0 false false:=
  {mc:=hM,f:=hF,o:=hO,args:=yR,P7:=qf,al:=hl,abs:=habs,mh:=htab,ans:=fun i a h=>(by cases h),len:=nzQ _,fits:=fun i a h=>(by cases h),row:=.inl ⟨rfl,rfl,rfl⟩,
   apart:=fun k hk=>by
    rcases hk with⟨x,hx,_⟩|rfl|rfl|rfl|rfl
    ·cases hx
    ·exact⟨by omega,by omega⟩
    ·exact⟨nam,nam⟩
    ·exact⟨n4.symm,n4.symm⟩
    ·exact⟨n5.symm,n5.symm⟩,
   kk:=fun k hk=>by
    rcases hk with⟨x,hx,_⟩|rfl|rfl
    ·cases hx
    ·exact⟨by omega,by omega⟩
    ·exact⟨naf,nao⟩,
   nfo:=n6,XU:=fun x hx=>(by cases hx),P8:=habt.symm,ZJ:=by decide,ZK:=by decide}
 have X:mo g l w0.heap.size Lt.aH w (fun k=>nI Lm.aH Lm.aH Lf.aH Lo.aH ab [] k∨k=Lt.aH):=by
  refine⟨Lm.aH,Lf.aH,Lo.aH,ab,0,S',0,0,M,oM,hT,fun hk=>?_,rfl⟩;rcases hk with(⟨x,hx,_⟩|hk|hk|hk|hk)|hk|hk
  ·cases hx
  ·omega
  ·exact nat hk.symm
  ·exact n2 hk
  ·exact n3 hk
  ·exact n1 hk
  ·exact n1 hk
 refine .inr ⟨Lt.aH,_,hg0,by rw[r2,zT];rfl,Fu,oT,X,fun k hk=>⟨?_,X.blt hk⟩⟩
 rcases hk with((⟨x,hx,_⟩|rfl|rfl|rfl|rfl)|rfl|rfl)|rfl
 ·cases hx
 ·exact .inr (.inl rfl)
 ·rcases habo with h|h
  ·exact .inl h
  ·exact .inr (.inr h)
 ·exact .inl oF
 ·exact .inl oO
 ·exact .inl oM
 ·exact .inl oM
 ·exact .inl oT
end
theorem NT{s l:Nat}{S:ByteArray}(d:den E (.sy s)=some (.string S)):den E (.cmp .eql (.sy s) (.ls l b))=some (.bool (S.toList==(str l b).toList)):=by
 show(match den E (.sy s),den E (.ls l b) with|some X,some Y=>(bu .eql X Y).map Value.bool|_,_=>none)=_;rw[d];rfl
theorem LH{S:Value}(ha:eK w0 S l)(qf:∀v∈l,v.ok)(hl:l.length<=64)(mh:fq w0){x:Nat×Nat×Nat}(hx:x∈mq):
  Calls P 14 #[.string (str x.2.1 x.2.2),S] w0 fun e w'=>∃V,e=.returned V∧dH (fun _=>False) w0 w'∧Started w0 x.1 l V w':=by
 have h0:0<w0.heap.size:=by have:=mh.lt;omega
 have hk:BQ (nmS x) x.1 11 []=true:=Aad.1 Up x hx;have BW:Us (str x.2.1 x.2.2) (nmS x):=⟨rfl,fun E _=>by unfold nmS;rw[Rv]⟩;exact IL ha qf hl h0 BW hk holds_nil fun ph E h n w v V hr hj ci rv hf=>IM qf hl mh hr hj ci rv hf
theorem IN{S:Value}(ha:eK w0 S l)(qf:∀v∈l,v.ok)(hl:l.length<=64)(mh:fq w0)(hs:(NM.size:Int)<=9223372036854775807)(G2:∀x∈mq,(NM.toList==(str x.2.1 x.2.2).toList)=false):
  Calls P 14 #[.string NM,S] w0 fun e w'=>∃V,e=.returned V∧dH (fun _=>False) w0 w'∧Started w0 0 l V w':=by
 have h0:0<w0.heap.size:=by have:=mh.lt;omega
 have d1:∀E:Env,E 1=some (aw (.string NM))->den E (.sy 1)=some (.string NM):=fun E h=>kP h (eV _)
 have BW:Us NM (.x .s (.sy 1)):=⟨rfl,fun E h=>by rw[Rv];exact⟨d1 E h,_,rfl,hs⟩⟩;refine IL ha qf hl h0 BW Uq (fun p hp=>?_) fun ph E h n w v V hr hj ci rv hf=>IM qf hl mh hr hj ci rv hf
 obtain⟨x,hx,rfl⟩:=bU.1 hp;exact(NT (d1 _ rfl)).trans (by rw[G2 x hx])
end
end Go.Proofs.YtngagklmbbogiaaGreatDoor.Ob
