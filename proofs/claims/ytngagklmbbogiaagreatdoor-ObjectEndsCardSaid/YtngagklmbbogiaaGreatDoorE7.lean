/- Parts of one proof (Ob100 to Ob108). No condition. -/
import Derived.Test.YtngagklmbbogiaaGreatDoorE6
set_option linter.all false
namespace Go.Proofs.YtngagklmbbogiaaGreatDoor.Ob
open Go Go.RowKit Vx
set_option maxRecDepth 100000
noncomputable section
variable{ac:Act}{a:An}{b:Bool}{NM:ByteArray}{cl:Code}{E:Env}{g:FuncId}{h:Heap}{k:K}{c:List AV}{R:List An}{l lv:List V4}{ws:List Value}{i m n nt p ph tb wb:Nat}{ok:Nat->Nat->Bool}{L V:Value}{W w:World}{fs:aB}
def UG(NM:ByteArray):Env:=fun i=>if i=7 then some (aw (.string NM)) else none
def j4(E0:Env)(Ok:Env->World->(Nat->Prop)->Prop)(E:Env)(h:Heap)(w:World):Prop:=∃w1 K,Ok E w1 K∧bL E0 w1 K E h w
@[reducible] def J4(E0:Env)(Ok:Nat->Env->World->(Nat->Prop)->Prop)(hm:∀ph E E' w K,Env.le E E'->Ok ph E w K->Ok ph E' w K):Nat->JC:=fun ph=>⟨j4 E0 (Ok ph),fun hr j g cO=>by
  obtain⟨w1,K,o,j⟩:=j;exact⟨w1,K,hm _ _ _ _ _ g.ext o,(KJ E0 w1 K).goes hr j g cO⟩,fun hr ha j=>by
  obtain⟨w1,K,o,j⟩:=j;exact⟨w1,K,o,(KJ E0 w1 K).Ve hr ha j⟩⟩
def bdK(base:Nat)(K:Nat->Prop):Prop:=∀k,K k->base<=k∨k=2∨k=0
def ok4(W:World)(ok:Nat->Nat->Bool)(g:FuncId)(lv:List V4)(m ph:Nat)(E:Env)(w1:World)(K:Nat->Prop):Prop:=
 ((ph=0∨ph=9)∧w1=W∧K=fun _=>False)∨
 (ph=1∧∃tb T,E 14=some ⟨tb,0,0⟩∧W.heap.size<=tb∧cf ok (fun _ _=>False) 0 T∧BN g lv T∧mo g lv W.heap.size tb w1 K∧bdK W.heap.size K)∨
 (ph=2∧∃tb T,E 14=some ⟨tb,0,0⟩∧W.heap.size<=tb∧cf ok (fun _ _=>False) 0 T∧BN g lv T∧qK T ok g lv W.heap.size m tb w1 K∧bdK W.heap.size K)∨
 (ph=3∧∃tb T,E 14=some ⟨tb,0,0⟩∧W.heap.size<=tb∧cf ok (fun _ _=>False) 0 T∧BN g lv T∧qK T ok g lv W.heap.size (m+1) tb w1 K∧bdK W.heap.size K)
theorem UH:∀ph E E' w K,Env.le E E'->ok4 W ok g lv m ph E w K->ok4 W ok g lv m ph E' w K:=fun ph E E' w K hle h=>by
 rcases h with h|⟨h1,tb,T,h2,h3⟩|⟨h1,tb,T,h2,h3⟩|⟨h1,tb,T,h2,h3⟩
 ·exact .inl h
 ·exact .inr (.inl ⟨h1,tb,T,hle _ _ h2,h3⟩)
 ·exact .inr (.inr (.inl ⟨h1,tb,T,hle _ _ h2,h3⟩))
 ·exact .inr (.inr (.inr ⟨h1,tb,T,hle _ _ h2,h3⟩))
@[reducible] def JE(W:World)(NM:ByteArray)(ok:Nat->Nat->Bool)(g:FuncId)(lv:List V4)(m:Nat):Nat->JC:=J4 (UG NM) (ok4 W ok g lv m) UH
theorem FT(hj:(JE W NM ok g lv m ph).J E h w):(UG NM).le E:=by
 obtain⟨w1,K,_,hj⟩:=hj;exact hj.1
section
variable{W:World}{NM:ByteArray}{ok:Nat->Nat->Bool}{g:FuncId}{lv:List V4}{m ph:Nat}
theorem PM:@gL (JE W NM ok g lv m ph) P 13 LI:=by
 intro args ARGS E h n w k he ra hr hj;unfold LI at he;split at he<;>try (cases he;done)
 have hA:ARGS=#[]:=by
  rw[aP] at ra;exact Array.ext' ra
 subst hA;have hz:0<w.heap.size:=Nat.lt_of_le_of_lt (nzQ _) (hr.kT 7 _ (FT hj 7 _ rfl));refine(Uy hz).mono ?_;rintro e w' ⟨rfl,hb⟩;exact .inl ⟨_,rfl,.b true,h,n,E,by rw[Rv],hr.below hb,bk.below hb,he⟩
theorem PN(hq:∀w:World,0<w.heap.size->Calls P 16 #[.string NM] w fun e w'=>e=.returned (.bool b)∧Below w.heap.size w w'):@gL (JE W NM ok g lv m ph) P 16 (LJ b):=by
 intro args ARGS E h n w k he ra hr hj;unfold LJ at he;split at he<;>try (cases he;done)
 obtain⟨V,hA,rv⟩:=ra.one;obtain rfl:ARGS=#[V]:=Array.ext' hA;have e7:E 7=some (aw (.string NM)):=FT hj 7 _ rfl;have d7:den E (.sy 7)=some (.string NM):=kP e7 (eV _);rw[Rv,d7] at rv;have hV:=(mL rv.1).symm;subst hV;have hz:0<w.heap.size:=Nat.lt_of_le_of_lt (nzQ _) (hr.kT 7 _ e7);refine(hq w hz).mono ?_;rintro e w' ⟨rfl,hb⟩;exact .inl ⟨_,rfl,.b b,h,n,E,by rw[Rv],hr.below hb,bk.below hb,he⟩
theorem UI:@gL (JE W NM ok g lv m ph) P 18 Uz:=by
 intro args ARGS E h n w k he ra hr hj;unfold Uz at he;split at he<;>try (cases he;done)
 obtain⟨q1,q2⟩:=aa he;obtain⟨q3,q4⟩:=aa q1;obtain⟨q5,q6⟩:=aa q4;obtain⟨V1,V2,hA,r1,r2⟩:=ra.two;obtain rfl:ARGS=#[V1,V2]:=Array.ext' hA;rw[bb q3] at r1;rw[bb q5] at r2;have hV:V2=V1:=Rv.exact (Env.le_refl E) (.ag vE1) V1 V2 rfl r1 r2;subst hV;rw[Rv] at r1;obtain⟨vs,rfl,rl⟩:=r1;have hz:0<w.heap.size:=Nat.lt_of_le_of_lt (nzQ _) (hr.kT 7 _ (FT hj 7 _ rfl));unfold vE1 at rl;rw[aP] at rl;obtain⟨U1,us1,rfl,u1,rl⟩:=rl;rw[aP] at rl;obtain⟨U2,us2,rfl,u2,rl⟩:=rl;obtain⟨U3,U4,rfl,u3,u4⟩:=rl.two;rw[Rv] at u1;rw[Rv] at u2;rw[Rv] at u3;rw[Rv] at u4;obtain⟨d1,k1,rfl,b1⟩:=u1;obtain⟨d2,x2,rfl,b2⟩:=u2;obtain⟨d3,s3,rfl,b3⟩:=u3;obtain⟨d4,r4,rfl,b4⟩:=u4;have dm:den E (wv 1)=some (.bool (gI k1 x2 s3 r4)):=jc d1 d2 d3 d4;have q:=iz (aD hr) q6 _ List.mem_cons_self;have q:den E (wv 1)=some (.bool true):=q;rw[dm] at q;have hm:gI k1 x2 s3 r4=true:=Value.bool.inj (mL q);have vok:(⟨k1,x2,s3,r4⟩:V4).ok:=⟨b1,b2,b3,b4⟩;refine(sameVV (v:=⟨k1,x2,s3,r4⟩) vok hm hz).mono ?_;rintro e w' ⟨rfl,hb⟩;exact .inl ⟨_,rfl,.b true,h,n,E,by rw[Rv],hr.below hb,bk.below hb,q2⟩
theorem UJ(hq:∀w:World,0<w.heap.size->Calls P 16 #[.string NM] w fun e w'=>e=.returned (.bool b)∧Below w.heap.size w w'):@fg (JE W NM ok g lv m ph) P (SL b):=by
 intro g C hC;unfold SL at hC;split at hC
 ·cases hC;exact PM
 ·cases hC;exact PN hq
 ·cases hC;exact UI
 ·cases hC
end
def qq(ok:Nat->Nat->Bool)(cs:lx):Prop:=∀q qm,ok q qm=true->∃p∈cs,p.1=q∧(p.2=none∨p.2=some qm)
theorem Yu:qq ud UA:=fun q qm h=>by
 unfold ud at h;simp only[Bool.or_eq_true,Bool.and_eq_true,beq_iff_eq] at h;unfold UA;rcases h with⟨rfl,rfl⟩|⟨rfl,((rfl|rfl)|rfl)|rfl⟩
 ·exact⟨(4,some 0),by simp,rfl,.inr rfl⟩
 ·exact⟨(1,some 1),by simp,rfl,.inr rfl⟩
 ·exact⟨(1,some 3),by simp,rfl,.inr rfl⟩
 ·exact⟨(1,some 5),by simp,rfl,.inr rfl⟩
 ·exact⟨(1,some 11),by simp,rfl,.inr rfl⟩
theorem NX:qq nR UB:=fun q qm h=>by
 unfold nR at h;simp only[Bool.or_eq_true,Bool.and_eq_true,beq_iff_eq] at h;unfold UB;rcases h with⟨(rfl|rfl)|rfl,_⟩
 ·exact⟨(1,none),by simp,rfl,.inl rfl⟩
 ·exact⟨(2,none),by simp,rfl,.inl rfl⟩
 ·exact⟨(4,none),by simp,rfl,.inl rfl⟩
theorem Yv{p:Nat×Option Nat}{q qm:Nat}{e:Int}(hw:Ja V ws e)(h0:ws.getD 0 undef=.int .u8 q)(h1:ws.getD 1 undef=.int .u8 qm)(yQ:p.1=q)(TL:p.2=none∨p.2=some qm):aP E (BU p) ws:=by
 have hl:=hw.len;have h2:ws=ws[0]::ws[1]::ws.drop 2:=by
  have a0:=List.drop_eq_getElem_cons (l:=ws) (i:=0) (by omega);have a1:=List.drop_eq_getElem_cons (l:=ws) (i:=1) (by omega);rw[List.drop_zero] at a0;rw[a1] at a0;exact a0
 have o1:One ws[1]:=hw.one _ (List.getElem_mem (by omega));have e0:=jC h0 (by omega);have e1:=jC h1 (by omega);rw[h2];unfold BU;refine ad (by rw[e0,Rv,yQ];rfl) (ad ?_ (kM _ (fun U hU=>hw.one U (List.mem_of_mem_drop hU)) (by rw[List.length_drop,hl])))
 rcases TL with h|h
 ·rw[h]
  show Rv E .any _;rw[Rv];exact o1
 ·rw[h]
  show Rv E (.i .u8 (.ofNat qm)) _;rw[e1,Rv];rfl
section
variable{ok:Nat->Nat->Bool}{cs:lx}(dz:qq ok cs)
include dz
theorem NY(hk:UC cs h n k=true)(hw:IG ok V):∃v,Rv E v V∧k v h n=true:=by
 obtain⟨h1,h3⟩:=aa hk;obtain⟨h1,h2⟩:=aa h1;cases hw with
 | @wait ws q qm hw e0 e1 kQ=>
   obtain⟨p,hp,p1,p2⟩:=dz q qm kQ;exact⟨_,oQ hw (Yv hw e0 e1 p1 p2),Aad.1 h1 _ hp⟩
 | @done ws hw e0 e1=>
   have hl:=hw.len;refine⟨_,oQ hw (kO hw e0 ?_),h2⟩;have a:=List.drop_eq_getElem_cons (l:=ws) (i:=61) (by omega);rw[a,jC e1 (by omega)];exact ad (by rw[Rv]) (kM _ (fun U hU=>hw.one U (List.mem_of_mem_drop hU)) (by rw[List.length_drop,hl]))
 | @fail ws er l x hw e0 hf e1=>
   have hl:=hw.len;refine⟨_,oQ hw (kO hw e0 ?_),Aad.1 h3 _ (BO hf)⟩;have e2:ws.drop 61=(ou er l x).cells bO:=by
    have I9:((ou er l x).cells bO).length=26:=rfl;refine List.ext_getElem (by rw[List.length_drop,hl,I9]) fun c h1 h2=>?_
    have:=e1 c (by rw[I9] at h2;exact h2);rw[List.getElem_drop];rw[cB,cB,cN (by rw[hl];rw[I9] at h2;omega),cN h2] at this;exact this
   rw[e2];exact BP E er l x
end
theorem mo.base{base Z7:Nat}{K:Nat->Prop}(h:mo g l base tb w K)(hb:Z7<=base):mo g l Z7 tb w K:=by
 obtain⟨mb,fb,ob,ab,cap,S,kd,md,M,Cx,h⟩:=h;exact⟨mb,fb,ob,ab,cap,S,kd,md,M,Nat.le_trans hb Cx,h⟩
theorem IQ{cs:lx}(dz:qq ok cs)(hk:UD cs b h n k=true)(hr:HR E h n w)(ao:a.o.ok)(cell:b=false->∀i U,a.o.syms[i]? =some U->den E (aE i)=some U)(hw:xS ok b a V):∃v h1,Rv E v V∧HR E h1 n w∧Fk h h1∧k v h1 n=true:=by
 rcases hw with⟨rfl,hw⟩|⟨rfl,hw⟩
 ·have hk:UC cs h n k=true:=hk
  obtain⟨v,r,hk⟩:=NY dz (E:=E) hk hw;exact⟨v,h,r,hr,Fk.refl h,hk⟩
 ·have cell:=cell rfl
  have d0:=cell 0 (.int .u8 a.o.k) rfl;have hk:bc (bc (k (Jd (di 87) 160) h n) (bQ (k1F::au h) h fun h1=>UC cs h1 n k) false) (bQ (k2F++au h) h fun h1=>k (Jd Yo 0) h1 n) false=true:=hk;obtain⟨h1,h3⟩:=aa hk;obtain⟨h1,h2⟩:=aa h1;cases hw with
  | @step ws hw=>exact⟨_,h,oQ hw (kM ws hw.one hw.len),hr,Fk.refl h,h1⟩
  |go yS hw=>
   obtain⟨hh,he,fw,fk⟩:=bZ h2 hr (ah ((bx d0).trans (by rw[eX yS];rfl)) (aD hr));obtain⟨v,r,hk⟩:=NY dz (E:=E) he hw;exact⟨v,hh,r,fw,fk,hk⟩
  | @ans sq hm ws hw e0 e1=>
    obtain⟨hh,he,fw,fk⟩:=bZ h3 hr (aJ (ah ((bx d0).trans (by rw[gM (by omega)])) (ah ((bx d0).trans (by rw[eX sq])) (ah ((jc (cell 1 (.int .u8 a.o.v.k) rfl) (cell 2 (.float .f64 a.o.v.x) rfl) (cell 3 (.string a.o.v.s) rfl) (cell 4 (.int .i64 a.o.v.r) rfl)).trans (by rw[hm])) holds_nil))) (aD hr));refine⟨_,hh,oQ hw (kO hw e0 ?_),fw,fk,he⟩;have hl:=hw.len;have r2:aP E (List.take 23 Vt) (List.take 23 (a.o.cells bO)):=aP.take 23 (gP ao (by rw[Rv];rfl) cell);have e2:ws.drop 61=List.take 23 (a.o.cells bO)++ws.drop 84:=by
     have I9:(a.o.cells bO).length=26:=rfl;rw[←List.take_append_drop 23 (ws.drop 61),List.drop_drop];congr 1;refine List.ext_getElem (by simp only[List.length_take,List.length_drop,hl,I9]) fun c h1 h2=>?_
     have hc:c<23:=by rw[List.length_take,I9] at h2;omega
     have:=e1 c hc;rw[List.getElem_take,List.getElem_take,List.getElem_drop];rw[cB,cB,cN (by omega),cN (by omega)] at this;exact this
    rw[e2];exact aP.append r2 (kM _ (fun U hU=>hw.one U (List.mem_of_mem_drop hU)) (by rw[List.length_drop,hl]))
theorem Yw:F0 jL=true:=by kernel_rfl
section
variable{W:World}{NM:ByteArray}{ok:Nat->Nat->Bool}{cs:lx}(dz:qq ok cs)(cL:∀k m,ok k m=true->k<5∧m<14){g:FuncId}{lv:List V4}{m:Nat}{Zq:Env->Heap->Prop}
include dz cL
theorem hookR(ht:LB ok false=true)(hm:m<=39)(ao:a.o.ok)(ak:ia W a.K a.ks)(mS:qT a.ks)(fc:(a.ks.length:Int)<=9223372036854775807)(hZ:∀E h,Zq E h->E 1=some (aw (.int .i64 (aG (jU [a]))))∧E 5=some (fP 0 a.K)∧E 6=some (aw (.int .i64 (aG (aA a.ks))))):
  xR (JE W NM ok g lv m) P (fun _=>False) W 14 Zq [14,15] (hkR cs):=by
 intro ph gg args ARGS E h n w k hg he ra hr hj ci;unfold hkR at he;obtain⟨q0,jD⟩:=aa he;have hgg:=aN q0;clear he q0;split at jD<;>try (cases jD;done)
 rename_i l;obtain⟨q1,q2⟩:=aa jD;obtain⟨q3,q4⟩:=aa q1;have B5:=aN q3;clear jD q1 q3;subst B5;subst hgg;obtain⟨w1,K,kQ,hj⟩:=hj;rcases kQ with⟨h0,_⟩|⟨h0,_⟩|⟨_,tb,TT,Np,LC,Ga,law,X,Z8⟩|⟨h0,_⟩
 ·omega
 ·omega
 rotate_left
 ·omega
 obtain⟨e1,e5,e6⟩:=hZ E h (ci.z E h (Env.le_refl _) fun _ _=>rfl);have d1:den E (.sy 1)=some (.int .i64 (aG (jU [a]))):=kP e1 (ax _ _);have d6:den E (.sy 6)=some (.int .i64 (aG (aA a.ks))):=kP e6 (ax _ _);have cell:∀i U,a.o.syms[i]? =some U->den E (aE i)=some U:=fun i U hi=>by
  have BX:=(bR.1 hi).1;exact eI d1 (m:=0) rfl (by rfl) (by rw[iA BX];exact hi) (gO a.o U (gq hi))
 obtain⟨V1,V2,e2,r1,r2⟩:=ra.two;obtain rfl:ARGS=#[V1,V2]:=Array.ext' e2;rw[Rv] at r1;obtain⟨L,eL,rfl⟩:=r1;rw[Np] at eL;cases eL
 rw[Rv] at r2;obtain⟨vs,rfl,rl⟩:=r2;rw[bb q4] at rl;have r0:aP E (oL 5) (a.o.cells a.K):=gP ao (kK ak fc e5 d6) cell;have ev:=aP.exact (Env.le_refl E) _ _ _ (Is 5) r0 rl;subst ev;have cC:=ci.bJ.size;have LK:∀k,k<W.heap.size->w.heap[k]? =W.heap[k]?:=fun k hk=>ci.bJ.same k hk fun h=>h
 have klt:∀b,HM a.K b->b<W.heap.size:=fun b hb=>ak.lt hb
 have Xw:=X.same hj.2.1 fun k hk=>(hj.2.2 k hk).1
 refine(PI cL Ga law ht Xw hm cC ao (ak.same fun b hb=>LK b (klt b hb)) mS fc klt).mono ?_;rintro e w' ⟨V,rfl,hb,hw,K',X',UK⟩;have II:∀i L,(T.get .gone h i).live=true->E i=some L->¬K L.aH:=fun i L hl hL hk=>(hj.2.2 L.aH hk).2.2 i L hl hL rfl
 have cO:HR E h n w':=HR.other hr hb.size fun i L hl hL=>hb.same L.aH (hr.kT i L hL) fun hk=>II i L hl hL hk.1
 obtain⟨v,OP,rv,jF,fk,hk⟩:=IQ dz q2 cO ao (fun _=>cell) (.inr ⟨rfl,hw⟩);have qE:jh (fun _=>False) W 14 Zq E h w':=⟨⟨Nat.le_trans cC hb.size,fun k hk _=>(hb.same k (dV hk cC) fun h=>by omega).trans (LK k hk),hb.os.trans ci.bJ.os,hb.output.trans ci.bJ.output,hb.tape.trans ci.bJ.tape⟩,ci.iq,ci.bM,ci.z⟩;refine⟨3,V,v,OP,n,E,rfl,rv,jF,⟨w',K',.inr (.inr (.inr ⟨rfl,tb,TT,Np,LC,Ga,law,X',fun k hk=>?_⟩)),bL.fk ⟨hj.1,nrQ _,fun k hk=>⟨rfl,(UK k hk).2,fun i L hl hL e=>?_⟩⟩ fk⟩,qE.goes fk.goes,Env.le_refl _,hk⟩
 ·rcases(UK k hk).1 with h|h
  ·exact Z8 k h
  ·exact .inl (Nat.le_trans cC h)
 ·rcases(UK k hk).1 with h|h
  ·exact II i L hl hL (by rw[e];exact h)
  ·have:=hr.kT i L hL
   omega
end
def tZ(E:Env)(p:Nat)(L:aZ):Env:=fun i=>if i=p then some L else E i
theorem zu(E:Env)(p:Nat)(L:aZ):tZ E p L p=some L:=if_pos rfl
theorem zv{L:aZ}(h:i≠p):tZ E p L i=E i:=if_neg h
theorem zw(hr:HR E h n w)(L:aZ):E.le (tZ E n L):=fun i M hi=>by
 by_cases e:i=n
 ·rw[e,hr.fresh n (nrQ _)] at hi;cases hi
 ·rw[zv e];exact hi
theorem tN(hr:HR E h n w)(L:aZ)(hi:(T.get .gone h i).live=true):tZ E n L i=E i:=zv (by
 rintro rfl;rw[hr.lt i (nrQ _)] at hi;cases hi)
theorem NZ(hr:HR E h n w){L:aZ}(hL:L.aH<w.heap.size):HR (tZ E n L) h (n+1) w:=by
 refine⟨fun i=>(hr.obj i).wide (zw hr L),fun i j A B hi hj hA hB e=>?_,fun i hi=>hr.lt i (by omega),fun i hi=>?_,fun i A hi=>?_,by omega,by have:=hr.kU;omega,hr.zero⟩
 ·rw[tN hr L hi] at hA
  rw[tN hr L hj] at hB;exact hr.inj i j A B hi hj hA hB e
 ·rw[zv (by omega)]
  exact hr.fresh i (by omega)
 ·by_cases e:i=n
  ·rw[e,zu] at hi;cases hi;exact hL
  ·rw[zv e] at hi;exact hr.kT i A hi
section
variable{W:World}{NM:ByteArray}{ok:Nat->Nat->Bool}{cs:lx}(dz:qq ok cs)(cL:∀k m,ok k m=true->k<5∧m<14){g:FuncId}{S:Value}{lv:List V4}{m:Nat}{Zq:Env->Heap->Prop}
include dz cL
theorem hookM(ht:LB ok true=true)(ha:eK W S lv)(mh:fq W)(QE:∀w,eK w S lv->fq w->lv.length<=64->Calls P 14 #[.string NM,S] w fun e w'=>∃V,e=.returned V∧dH (fun _=>False) w w'∧Started w g lv V w')(gY:g≠0->dy g ok)
  (hZ:∀E h,Zq E h->E 8=some (aw (.int .i64 lv.length))∧E 9=some (aT 0 S)∧∀i L,i<14->(T.get .gone h i).live=true->E i=some L->L.aH≠2∧L.aH≠0) (fc:(lv.length:Int)<=9223372036854775807):
  xR (JE W NM ok g lv m) P (fun _=>False) W 14 Zq [14,15] (hkM cs):=by
 intro ph gg args ARGS E h n w k hg he ra hr hj ci;have z:=hZ E h (ci.z E h (Env.le_refl _) fun _ _=>rfl);obtain⟨z8,z9,zl⟩:=z;have cC:=ci.bJ.size;have tl:=mh.lt;have LK:∀k,k<W.heap.size->w.heap[k]? =W.heap[k]?:=fun k hk=>ci.bJ.same k hk fun h=>h
 have T3:∀i L,(T.get .gone h i).live=true->E i=some L->L.aH≠2∧L.aH≠0:=fun i L hl hL=>by
  rcases gC i 14 with hi|hi
  ·exact zl i L hi hl hL
  ·have ll:W.heap.size<=L.aH:=by
    rcases gC L.aH W.heap.size with h1|h1
    ·exact(ci.iq L.aH h1 ⟨i,L,by rw[ci.bM];exact hi,hl,hL,rfl⟩).elim
    ·exact h1
   exact⟨by omega,by omega⟩
 have hz:0<w.heap.size:=by omega
 unfold hkM at he;rcases aR he with⟨q0,jD⟩|⟨_,jD⟩
 ·have hgg:=aN q0
  clear he q0;split at jD<;>try (cases jD;done)
  obtain⟨q1,q2⟩:=aa jD;obtain⟨q3,q4⟩:=aa q1;obtain⟨q5,q6⟩:=aa q4;obtain⟨q7,q8⟩:=aa q2;have B5:=aN q3;have hn:=aN q5;clear jD q1 q2 q3 q4 q5;subst B5;subst hgg;subst hn;obtain⟨w1,K,kQ,hj⟩:=hj;have hok0:w1=W∧K=fun _=>False:=by
   rcases kQ with⟨_,h1,h2⟩|⟨h0,_⟩|⟨h0,_⟩|⟨h0,_⟩
   ·exact⟨h1,h2⟩
   ·omega
   ·omega
   ·omega
  have d8:den E (.sy 8)=some (.int .i64 lv.length):=kP z8 (ax _ _);have e7:E 7=some (aw (.string NM)):=hj.1 7 _ rfl;have d7:den E (.sy 7)=some (.string NM):=kP e7 (eV _);have Yx:=iz (aD hr) q6 _ List.mem_cons_self;have Yx:den E (.cmp .leq (.sy 8) (.li .i64 64))=some (.bool true):=Yx;rw[az d8] at Yx;have Yx:=gD (Value.bool.inj (mL Yx));have hl64:lv.length<=64:=by omega
  obtain⟨V1,V2,e2,r1,r2⟩:=ra.two;obtain rfl:ARGS=#[V1,V2]:=Array.ext' e2;rw[Rv,d7] at r1;have hV1:=(mL r1.1).symm;subst hV1;have rS:Rv E (.sz 9 (.sy 8)) S:=by
   rw[Rv];rcases ha with⟨rfl,rfl⟩|⟨b,off,cap,arr,el,fr,rfl,h2,h3,h4⟩
   ·exact⟨⟨0,0,0⟩,0,z9,d8,by omega,fun _=>rfl,rfl⟩
   ·exact⟨⟨b,off,cap+1⟩,lv.length,z9,d8,by omega,fun h=>absurd (show cap+1=0 from h) (by omega),by show _=(if cap+1=0 then _ else _);rw[if_neg (by omega)];rfl⟩
  have hV2:V2=S:=Rv.exact (Env.le_refl E) (.sz 9 (.sy 8)) S V2 rfl rS r2;subst hV2;refine(QE w (ha.same LK) (mh.same (LK _ tl)) hl64).mono ?_;rintro e w' ⟨V,rfl,hb,hS⟩;have cO:HR E h 14 w':=HR.other hr hb.size fun i L hl hL=>hb.same L.aH (hr.kT i L hL) fun h=>h
  have bW:dH (fun _=>False) W w':=⟨Nat.le_trans cC hb.size,fun k hk _=>(hb.same k (dV hk cC) fun h=>h).trans (LK k hk),hb.os.trans ci.bJ.os,hb.output.trans ci.bJ.output,hb.tape.trans ci.bJ.tape⟩;have hz':0<w'.heap.size:=dV hz hb.size;have mk:∀(L:aZ)(w2:World),jh (fun _=>False) W 14 Zq (tZ E 14 L) h w':=fun L w2=>⟨bW,fun k hk hf=>by
   obtain⟨i,M,a1,a2,a3,a4⟩:=hf;rw[tN hr L a2] at a3;exact ci.iq k hk ⟨i,M,a1,a2,a3,a4⟩,ci.bM,fun E2 h2 hle sq=>ci.z E2 h2 (Env.le_trans (zw hr L) hle) sq⟩
  rcases hS with⟨x,hV,ZA,hx1⟩|⟨tb,K',hg0,hV,Fu,LC,X,UK⟩
  ·have jF:HR (tZ E 14 (aw (.int .i64 x))) h 15 w':=NZ cO (by rw[bH];exact hz')
   have dx:den (tZ E 14 (aw (.int .i64 x))) (.sy 14)=some (.int .i64 x):=kP (zu _ _ _) (ax _ _);have hle:=zw hr (aw (.int .i64 x));have hold:Holds (tZ E 14 (aw (.int .i64 x))) (au h):=fun p hp=>an hle _ _ (aD hr p hp)
   obtain⟨h1,yS,wa,fk⟩:=bZ q7 jF (ah ((bx dx).trans (by rw[gM (by omega)])) (ah ((az dx).trans (by rw[gM (by omega)])) hold));refine⟨0,V,_,h1,15,tZ E 14 (aw (.int .i64 x)),rfl,?_,wa,⟨W,fun _=>False,.inl ⟨.inl rfl,rfl,rfl⟩,Env.le_trans hj.1 hle,bW.size,fun k hk=>hk.elim⟩,(mk (aw (.int .i64 x)) w').goes fk.goes,hle,yS⟩;rw[hV,Rv];refine⟨[.pointer none,.int .i64 x],rfl,ad (by rw[Rv]) (ad ?_ aF)⟩;rw[Rv];exact⟨dx,_,rfl,by show(-9223372036854775808:Int)<=x;omega,by show x<=9223372036854775807;omega⟩
  ·have xy:tb<w'.heap.size:=by
    obtain⟨_,_,_,_,_,_,_,_,_,_,Vv,_⟩:=X;exact Vv.lt
   have jF:HR (tZ E 14 ⟨tb,0,0⟩) h 15 w':=NZ cO xy;have hle:=zw hr ⟨tb,0,0⟩;obtain⟨TT,Ga,law⟩:=gY hg0 lv Fu;refine⟨1,V,_,h,15,tZ E 14 ⟨tb,0,0⟩,rfl,?_,jF,⟨w',K',.inr (.inl ⟨rfl,tb,TT,zu _ _ _,Nat.le_trans cC LC,Ga,law,X.base cC,fun k hk=>?_⟩),Env.le_trans hj.1 hle,nrQ _,fun k hk=>⟨rfl,(UK k hk).2,fun i L hl hL e=>?_⟩⟩,mk ⟨tb,0,0⟩ w',hle,q8⟩
   ·rw[hV,Rv]
    exact⟨[.pointer (some ⟨tb,0,none⟩),.int .i64 0],rfl,ad (by rw[Rv];exact⟨⟨tb,0,0⟩,zu _ _ _,rfl⟩) (ad (by rw[Rv]) aF)⟩
   ·rcases(UK k hk).1 with h|h
    ·exact .inl (Nat.le_trans cC h)
    ·exact .inr h
   ·rw[tN hr _ hl] at hL
    have hlt2:=hr.kT i L hL;obtain⟨f1,f2⟩:=T3 i L hl hL;rcases(UK k hk).1 with h|h|h
    ·omega
    ·exact f1 (e.trans h)
    ·exact f2 (e.trans h)
 ·obtain⟨q0,qu⟩:=aa jD
  have hgg:=aN q0;clear he jD q0;split at qu<;>try (cases qu;done)
  rename_i l;obtain⟨q1,q2⟩:=aa qu;obtain⟨q3,q4⟩:=aa q1;have B5:=aN q3;clear qu q1 q3;subst B5;subst hgg;obtain⟨w1,K,kQ,hj⟩:=hj;rcases kQ with⟨h0,_⟩|⟨_,tb,TT,Np,LC,Ga,law,X,Z8⟩|⟨h0,_⟩|⟨h0,_⟩
  ·omega
  rotate_left
  ·omega
  ·omega
  obtain⟨V1,V2,e2,r1,r2⟩:=ra.two;obtain rfl:ARGS=#[V1,V2]:=Array.ext' e2;rw[Rv] at r1;obtain⟨L,eL,rfl⟩:=r1;rw[Np] at eL;cases eL
  rw[Rv] at r2;obtain⟨vs,rfl,rl⟩:=r2;rw[bb q4] at rl;have ev:=aP.exact (Env.le_refl E) _ _ _ Yw eZ rl;subst ev;have zok:zO.ok:=⟨by decide,ow,by decide,ow,ow,ow,by decide,by decide⟩;have Xw:=X.same hj.2.1 fun k hk=>(hj.2.2 k hk).1
  refine(LD cL Ga law ht (n:=m) Xw cC (a:=⟨zO,[],bO⟩) zok rfl rfl).mono ?_;rintro e w' ⟨V,rfl,hb,hw,K',X',UK⟩;have II:∀i L,(T.get .gone h i).live=true->E i=some L->¬K L.aH:=fun i L hl hL hk=>(hj.2.2 L.aH hk).2.2 i L hl hL rfl
  have cO:HR E h n w':=HR.other hr hb.size fun i L hl hL=>hb.same L.aH (hr.kT i L hL) fun hk=>II i L hl hL hk.1
  obtain⟨v,OP,rv,jF,fk,hk⟩:=IQ dz (a:=⟨zO,[],bO⟩) q2 cO zok (fun h=>by cases h) (.inl ⟨rfl,hw⟩);have qE:jh (fun _=>False) W 14 Zq E h w':=⟨⟨Nat.le_trans cC hb.size,fun k hk _=>(hb.same k (dV hk cC) fun h=>by omega).trans (LK k hk),hb.os.trans ci.bJ.os,hb.output.trans ci.bJ.output,hb.tape.trans ci.bJ.tape⟩,ci.iq,ci.bM,ci.z⟩;refine⟨2,V,v,OP,n,E,rfl,rv,jF,⟨w',K',.inr (.inr (.inl ⟨rfl,tb,TT,Np,LC,Ga,law,X',fun k hk=>?_⟩)),bL.fk ⟨hj.1,nrQ _,fun k hk=>⟨rfl,(UK k hk).2,fun i L hl hL e=>?_⟩⟩ fk⟩,qE.goes fk.goes,Env.le_refl _,hk⟩
  ·rcases(UK k hk).1 with h|h
   ·exact Z8 k h
   ·exact .inl (Nat.le_trans cC h)
  ·rcases(UK k hk).1 with h|h
   ·exact II i L hl hL (by rw[e];exact h)
   ·have:=hr.kT i L hL
    omega
end
def oR(W:World)(L:Value)(R:List An):Prop:=(L=bO∧R=[])∨
 ∃(b off cap:Nat)(arr:Array Value)(el:TypeId)(fr:Nat×Nat),L=.slice (some ⟨b,off,none⟩) R.length cap∧W.heap[b]? =some (.cells arr el fr)∧off+26*R.length<=arr.size∧b≠2∧b≠0∧
  ∀j a,R[j]? =some a->∀c,c<26->arr.getD (off+26*j+c) undef=(a.o.cells a.K).getD c undef
structure CA(W:World)(a:An):Prop where
 o:a.o.ok
 keys:ia W a.K a.ks
 mS:qT a.ks
 fc:(a.ks.length:Int)<=9223372036854775807
theorem IS(h:oR w L R)(hz:0<w.heap.size):(aT 0 L).aH<w.heap.size:=by
 rcases h with⟨rfl,_⟩|⟨b,off,cp,arr,e,fr,rfl,h2,_⟩
 ·exact hz
 ·exact(cW.1 h2).1
theorem xW{S:Value}{sp:Nat}(h:S=bO∧n=0∨∃b off cap,S=.slice (some ⟨b,off,none⟩) n cap)(hn:n<=9223372036854775807)(e3:E p=some (aT 0 S))(d2:den E (.sy sp)=some (.int .i64 n)):Rv E (.sz p (.sy sp)) S:=by
 rw[Rv];rcases h with⟨rfl,rfl⟩|⟨b,off,cap,rfl⟩
 ·exact⟨⟨0,0,0⟩,0,e3,d2,by omega,fun _=>rfl,rfl⟩
 ·exact⟨⟨b,off,cap+1⟩,n,e3,d2,hn,fun h=>absurd (show cap+1=0 from h) (by omega),by show _=(if cap+1=0 then _ else _);rw[if_neg (by omega)];rfl⟩
theorem eK.sl{S:Value}(h:eK W S l):S=bO∧l.length=0∨∃b off cap,S=.slice (some ⟨b,off,none⟩) l.length cap:=by
 rcases h with⟨h1,h2⟩|⟨b,off,cap,_,_,_,h,_⟩
 ·exact .inl ⟨h1,by rw[h2];rfl⟩
 ·exact .inr ⟨b,off,cap,h⟩
theorem oR.sl(h:oR W L R):L=bO∧R.length=0∨∃b off cap,L=.slice (some ⟨b,off,none⟩) R.length cap:=by
 rcases h with⟨h1,h2⟩|⟨b,off,cap,_,_,_,h,_⟩
 ·exact .inl ⟨h1,by rw[h2];rfl⟩
 ·exact .inr ⟨b,off,cap,h⟩
def UL(NM:ByteArray)(S L:Value)(nA nL:Nat):List aZ:=[⟨0,0,0⟩,⟨0,0,0⟩,⟨0,0,0⟩,⟨0,0,0⟩,⟨0,0,0⟩,⟨0,0,0⟩,aw (.string NM),aw (.int .i64 nA),aT 0 S,aw (.int .i64 nL),aT 0 L,⟨0,0,0⟩,⟨0,0,0⟩]
def sL(NM:ByteArray)(S L:Value)(nA nL:Nat)(a:An)(i tb wb:Nat):List aZ:=[aw (.int .i64 (aG (jU [a]))),⟨0,0,0⟩,⟨0,0,0⟩,⟨0,0,0⟩,fP 0 a.K,aw (.int .i64 (aG (aA a.ks))),aw (.string NM),aw (.int .i64 nA),aT 0 S,aw (.int .i64 nL),aT 0 L,aw (.int .i64 i),⟨(aT 0 L).aH,(aT 0 L).base+i*26,0⟩,⟨tb,0,0⟩,⟨wb,0,0⟩]
structure N1(W:World)(NM:ByteArray)(S L:Value)(lv:List V4)(R:List An)(ok:Nat->Nat->Bool)(g:FuncId)(c:List AV)(tb wb nt i:Nat)(ac:Act)(w:World):Prop where
 r0:ac.tmps.getD 0 undef=.string NM
 r1:ac.tmps.getD 1 undef=S
 r2:ac.tmps.getD 2 undef=L
 r6:ac.tmps.getD 6 undef=.bool false
 r7:ac.tmps.getD 7 undef=.bool true
 r8:ac.tmps.getD 8 undef=.pointer (some ⟨tb,0,none⟩)
 r9:ac.tmps.getD 9 undef=.int .i64 0
 O0:ac.tmps.getD 10 undef=.pointer (some ⟨wb,0,none⟩)
 r11:ac.tmps.getD 11 undef=.int .i64 i
 size:ac.tmps.size=nt
 defers:ac.defers=[]
 bJ:dH (fun _=>False) W w
 box:∃ws,cQ w wb 45 ws∧∀E:Env,aP E c ws
 len:c.length=87
 lo:W.heap.size<=wb
 lt:W.heap.size<=tb
 il:i<=R.length
 i40:i<=40
 task:∃TT K,cf ok (fun _ _=>False) 0 TT∧BN g lv TT∧qK TT ok g lv W.heap.size i tb w K∧bdK W.heap.size K∧¬K wb
section
variable{W:World}{NM:ByteArray}(CB:(NM.size:Int)<=9223372036854775807){S L:Value}{lv:List V4}{R:List An}(ha:eK W S lv)(hA:lv.length<=9223372036854775807)(ho:oR W L R)(hR:R.length<=9223372036854775807)(xX:∀a∈R,CA W a)(h0:0<W.heap.size){ok:Nat->Nat->Bool}{g:FuncId}
include CB ha hA ho hR h0
theorem IT{el:AO}(hd:N1 W NM S L lv R ok g c tb wb nt i ac w)(ga:CA W a)(fo:(el=elL∧R[i]? =some a)∨el=.gone)(dX:Holds (ae (sL NM S L lv.length R.length a i tb wb)) fs)
  {Zq:Env->Heap->Prop} (hZ:∀E' h',(ae (sL NM S L lv.length R.length a i tb wb)).le E'->(∀j,j<14->(T.get .gone h' j).live=true->j=13∧el=elL)->Zq E' h') {k:Heap->Bool} (hk:bQ fs (hLr el c) k=true):∃h1,k h1=true∧@Vx.St (JE W NM ok g lv i 2) [] (ae (sL NM S L lv.length R.length a i tb wb)) (gd (Gc (.x (.i .i64) (.sy 12)))) h1 16 nt ac w∧
   jh (fun _=>False) W 14 Zq (ae (sL NM S L lv.length R.length a i tb wb)) h1 w:=by
 have e1:ae (sL NM S L lv.length R.length a i tb wb) 1=some (aw (.int .i64 (aG (jU [a])))):=rfl;have e5:ae (sL NM S L lv.length R.length a i tb wb) 5=some (fP 0 a.K):=rfl;have e9:ae (sL NM S L lv.length R.length a i tb wb) 9=some (aT 0 S):=rfl;have Jb:ae (sL NM S L lv.length R.length a i tb wb) 11=some (aT 0 L):=rfl;have e13:ae (sL NM S L lv.length R.length a i tb wb) 13=some ⟨(aT 0 L).aH,(aT 0 L).base+i*26,0⟩:=rfl;have Np:ae (sL NM S L lv.length R.length a i tb wb) 14=some ⟨tb,0,0⟩:=rfl;have e15:ae (sL NM S L lv.length R.length a i tb wb) 15=some ⟨wb,0,0⟩:=rfl;have d6:den (ae (sL NM S L lv.length R.length a i tb wb)) (.sy 6)=some (.int .i64 (aG (aA a.ks))):=aj (i:=5) rfl (ax _ _);have d7:den (ae (sL NM S L lv.length R.length a i tb wb)) (.sy 7)=some (.string NM):=aj (i:=6) rfl (eV _);have d8:den (ae (sL NM S L lv.length R.length a i tb wb)) (.sy 8)=some (.int .i64 lv.length):=aj (i:=7) rfl (ax _ _);have d10:den (ae (sL NM S L lv.length R.length a i tb wb)) (.sy 10)=some (.int .i64 R.length):=aj (i:=9) rfl (ax _ _);have d12:den (ae (sL NM S L lv.length R.length a i tb wb)) (.sy 12)=some (.int .i64 i):=aj (i:=11) rfl (ax _ _);have Ah:=hd.lo;have hi40:=hd.i40;obtain⟨ws,Vv,I5⟩:=hd.box;obtain⟨TT,K,Ga,law,X,Z8,hKw⟩:=hd.task;have hwl:=Vv.lt;have olt:=IS ho h0;have hwsl:ws.length=87:=by have h1:=(I5 (fun _=>none)).length;have h2:=hd.len;omega
 have rel:RO (ae (sL NM S L lv.length R.length a i tb wb)) w 13 el:=by
  rcases fo with⟨rfl,hv⟩|rfl
  ·rcases ho with⟨_,h⟩|⟨b,off,cp,arr,e,fr,hS,h2,h3,h4,h5,h6⟩
   ·rw[h] at hv;cases hv
   ·have hi:=(bR.1 hv).1
    have hkS:aT 0 L=⟨b,off,cp+1⟩:=by rw[hS];rfl
    have oH:w.heap[b]? =some (.cells arr e fr):=by rw[hd.bJ.same b (cW.1 h2).1 (fun h=>h)];exact h2
    have r0:aP (ae (sL NM S L lv.length R.length a i tb wb)) (oL 5) (a.o.cells a.K):=gP ga.o (kK ga.keys ga.fc e5 d6) (oC rfl);rw[hkS] at e13 Jb;refine⟨⟨b,off+i*26,0⟩,arr,e,fr,e13,fun h=>absurd h (by decide),oH,by show off+i*26+26<=_;omega,fun j hj=>?_,⟨fun h=>absurd h.2.1 (by decide),fun h=>absurd h.2.1 (by decide),fun _=>⟨⟨b,off,cp+1⟩,i,Jb,d12,rfl,rfl⟩⟩⟩;refine jf (g:=fun j=>arr.getD (off+i*26+j) undef) _ _ _ (fun q x hx=>?_) (fun q=>by rw[nw];simp[Rv]) j
    have q26:q<26:=(bR.1 hx).1;obtain⟨V,h1,Wc⟩:=xf r0 q x hx;show Rv _ _ (arr.getD (off+i*26+(0+q)) undef);have e2:arr.getD (off+i*26+(0+q)) undef=V:=by
     rw[show off+i*26+(0+q)=off+26*i+q by omega,h6 i a hv q q26,cB,h1];rfl
    rw[e2];exact Wc
  ·trivial
 have hr:HR (ae (sL NM S L lv.length R.length a i tb wb)) (hLr el c) 16 w:=by
  refine cX (C:=sL NM S L lv.length R.length a i tb wb) rfl (show 14<=16 from by decide) (.append (.dead _ _ fun a ha=>by obtain⟨_,_,rfl⟩:=bU.1 ha;rfl) ⟨rel,trivial,?_,trivial⟩) (fun L' hL=>?_) ?_
  ·exact Vv.ro e15 (I5 _) (by exact hd.len)
  ·have s0:∀V,(aw V).aH<w.heap.size:=fun V=>by rw[bH];omega
   have yS:(aT 0 L).aH<w.heap.size:=dV olt hd.bJ.size;have sq:(aT 0 S).aH<w.heap.size:=dV (wE ha h0) hd.bJ.size;have P9:(fP 0 a.K).aH<w.heap.size:=dV (pF ga.keys h0) hd.bJ.size;have hk4:tb<w.heap.size:=by
    obtain⟨_,_,_,_,_,_,_,_,_,_,_,_,_,hb,_⟩:=X;exact hb.lt
   have hk0:0<w.heap.size:=by omega
   unfold sL at hL;simp only[mcQ,mnQ,or_false] at hL;rcases hL with rfl|rfl|rfl|rfl|rfl|rfl|rfl|rfl|rfl|rfl|rfl|rfl|rfl|rfl|rfl<;>first|exact s0 _|assumption
  ·have ne:(aT 0 L).aH≠wb:=by omega
   rcases fo with⟨rfl,_⟩|rfl
   ·show[(aT 0 L).aH,wb].Nodup
    simp[ne]
   ·show[wb].Nodup
    simp
 obtain⟨h1,he,fw,fk⟩:=bZ hk hr dX;have cG:bM (hLr el c)=14:=bX _ _;have lv2:∀x L',(T.get .gone h1 x).live=true->ae (sL NM S L lv.length R.length a i tb wb) x=some L'->(x=13∧el=elL∧L'.aH=(aT 0 L).aH)∨(x=15∧L'.aH=wb):=fun x L' hl hL=>by
  rw[fk.live] at hl;obtain⟨j,b,rfl,g1,g2⟩:=bT (a:=.gone) hl;have hj:=(bR.1 g1).1;have hj:j<15:=hj;rcases gC j 12 with h|h
  ·exfalso
   rw[iA (by rw[gp,ot];exact h),fL,List.getElem?_range h] at g1;cases g1;cases g2
  ·have:j=12∨j=13∨j=14:=by omega
   rcases this with rfl|rfl|rfl
   ·have g1:some el=some b:=g1
    cases g1
    rcases fo with⟨rfl,_⟩|rfl
    ·have hL:some (⟨(aT 0 L).aH,(aT 0 L).base+i*26,0⟩:aZ)=some L':=hL
     cases hL
     exact .inl ⟨rfl,rfl,rfl⟩
    ·cases g2
   ·cases g1;cases g2
   ·have hL:some (⟨wb,0,0⟩:aZ)=some L':=hL
    cases hL
    exact .inr ⟨rfl,rfl⟩
 have lv3:∀x,(T.get .gone h1 x).live=true->(x=13∧el=elL)∨x=15:=fun x hl=>by
  rw[fk.live] at hl;obtain⟨j,b,rfl,g1,g2⟩:=bT (a:=.gone) hl;have hj:=(bR.1 g1).1;have hj:j<15:=hj;rcases gC j 12 with h|h
  ·exfalso
   rw[iA (by rw[gp,ot];exact h),fL,List.getElem?_range h] at g1;cases g1;cases g2
  ·have:j=12∨j=13∨j=14:=by omega
   rcases this with rfl|rfl|rfl
   ·have g1:some el=some b:=g1
    cases g1
    rcases fo with⟨rfl,_⟩|rfl
    ·exact .inl ⟨rfl,rfl⟩
    ·cases g2
   ·cases g1;cases g2
   ·exact .inr rfl
 have hJ:(JE W NM ok g lv i 2).J (ae (sL NM S L lv.length R.length a i tb wb)) h1 w:=by
  refine⟨w,K,.inr (.inr (.inl ⟨rfl,tb,TT,Np,hd.lt,Ga,law,X,Z8⟩)),fun x M hx=>?_,nrQ _,fun k hk=>⟨rfl,X.blt hk,fun x L' hl hL e=>?_⟩⟩
  ·unfold UG at hx
   split at hx
   ·rename_i hx7
    subst hx7;cases hx;rfl
   ·cases hx
  ·rcases lv2 x L' hl hL with⟨_,hel2,h⟩|⟨_,h⟩
   ·have sq:=Z8 k hk
    rcases ho with⟨_,h3⟩|⟨b,off,cp,arr,e',fr,hS,h2,h3,h4,h5,h6⟩
    ·rcases fo with⟨_,hv⟩|fo
     ·rw[h3] at hv;cases hv
     ·rw[fo] at hel2;cases hel2
    ·have hkS:(aT 0 L).aH=b:=by rw[hS];rfl
     rcases sq with sq|sq|sq
     ·omega
     ·exact h4 (by omega)
     ·exact h5 (by omega)
   ·exact hKw (by rw[←h,e];exact hk)
 refine⟨h1,he,@Vx.St.mk (JE W NM ok g lv i 2) _ _ _ _ _ _ _ _ (fun t=>?_) hd.size hd.defers fw hJ,⟨hd.bJ,fun k hk Cn=>?_,fk.bM.trans cG,fun E' h' hle oN=>hZ E' h' hle fun j hj hl=>by
  rw[oN j hj] at hl;rcases lv3 j hl with h|h
  ·exact h
  ·omega⟩⟩
 ·rcases iK (Gc (.x (.i .i64) (.sy 12))) t with q|⟨v',Al,q⟩
  ·rw[q];simp[Rv]
  ·rw[q]
   unfold Gc at Al;simp only[mcQ,mnQ,or_false,Prod.mk.injEq] at Al;rcases Al with⟨rfl,rfl⟩|⟨rfl,rfl⟩|⟨rfl,rfl⟩|⟨rfl,rfl⟩|⟨rfl,rfl⟩|⟨rfl,rfl⟩|⟨rfl,rfl⟩|⟨rfl,rfl⟩|⟨rfl,rfl⟩
   ·rw[hd.r0];unfold nmL;rw[Rv];exact⟨d7,_,rfl,CB⟩
   ·rw[hd.r1];exact xW ha.sl hA e9 d8
   ·rw[hd.r2];exact xW ho.sl hR Jb d10
   ·rw[hd.r6,Rv]
   ·rw[hd.r7,Rv]
   ·rw[hd.r8,Rv];exact⟨⟨tb,0,0⟩,Np,rfl⟩
   ·rw[hd.r9,Rv]
   ·rw[hd.O0,Rv];exact⟨⟨wb,0,0⟩,e15,rfl⟩
   ·rw[hd.r11];exact fK d12 (by omega)
 ·obtain⟨x,L',a1,a2,a3,rfl⟩:=Cn
  rw[fk.bM,cG] at a1;rcases lv2 x L' a2 a3 with⟨h,_⟩|⟨_,h⟩
  ·omega
  ·have hk:L'.aH<W.heap.size:=hk
   omega
end
theorem UM{p:Nat×Option Nat}(hl:ws.length=87)(FM:∀U∈ws,One U)(h0:ws.getD 0 undef=.int .u8 p.1)(h1:∀q,p.2=some q->ws.getD 1 undef=.int .u8 q):aP E (BU p) ws:=by
 have h2:ws=ws[0]::ws[1]::ws.drop 2:=by
  have a0:=List.drop_eq_getElem_cons (l:=ws) (i:=0) (by omega);have a1:=List.drop_eq_getElem_cons (l:=ws) (i:=1) (by omega);rw[List.drop_zero] at a0;rw[a1] at a0;exact a0
 have o1:One ws[1]:=FM _ (List.getElem_mem (by omega));have e0:=jC h0 (by omega);rw[h2];unfold BU;refine ad (by rw[e0,Rv];rfl) (ad ?_ (kM _ (fun U hU=>FM U (List.mem_of_mem_drop hU)) (by rw[List.length_drop,hl])))
 cases h:p.2 with
 |none=>
  show Rv E .any _;rw[Rv];exact o1
 |some q=>
  show Rv E (.i .u8 (.ofNat q)) _;rw[jC (h1 q h) (by omega),Rv];rfl
def DM(cs:lx)(c:List AV):Prop:=(∃p∈cs,c=BU p)∨c∈DL
theorem PO{cs:lx}(h:DM cs c):c.length=87:=by
 rcases h with⟨p,_,rfl⟩|h
 ·unfold BU
  rfl
 ·unfold DL at h
  rcases mcQ.1 h with rfl|h
  ·rfl
  ·rcases mcQ.1 h with rfl|h
   ·rfl
   ·obtain⟨f,_,rfl⟩:=bU.1 h
    rfl
theorem UN{cs:lx}{l:List AV}(hk:UE cs l h=true)(hr:HR E h n w)(rl:aP E l ws):∃c,DM cs c∧∀E':Env,aP E' c ws:=by
 unfold UE at hk;obtain⟨q1,q⟩:=aa hk;obtain⟨q1,q2⟩:=aa q1;have q1:=aN q1;have hl:ws.length=87:=by have:=rl.length;omega
 have FM:∀U∈ws,One U:=fun U hU=>by
  obtain⟨j,hj⟩:=List.getElem?_of_mem hU;have y8:=(bR.1 hj).1;have r:=rl.nth j;have hx:l[j]? =some (cV l j):=by
   have:j<l.length:=by omega
   rw[ff,cB,cN this];rfl
  have e:ws.getD j undef=U:=by rw[cB,hj];rfl
  rw[e] at r;exact bY (cM q2 _ (gq hx)) r
 have hw:Ja (.tuple #[.agg ws.toArray,.int .i64 0]) ws 0:=⟨rfl,hl,FM⟩;have qJ:∀{j m:Nat},cY (cV l j) (.i .u8 (.ofNat m))=true->ws.getD j undef=.int .u8 m:=fun {j m} hs=>by
  have:=rl.nth j;rw[bV hs,Rv] at this;exact this
 have a61:=List.drop_eq_getElem_cons (l:=ws) (i:=61) (by omega);have Z9:∀{z:Int}{E':Env},ws.getD 61 undef=.int .u8 z->aP E' (.i .u8 z::di 25) (ws.drop 61):=fun {z E'} hz=>by
  rw[a61,jC hz (by omega)];exact ad (by rw[Rv]) (kM _ (fun U hU=>FM U (List.mem_of_mem_drop hU)) (by rw[List.length_drop,hl]))
 rcases aR q with⟨q,_⟩|⟨_,q⟩
 ·unfold Z6 at q
  rcases aR q with⟨q,_⟩|⟨_,q⟩
  ·obtain⟨p,hp,hq⟩:=List.any_eq_true.1 q
   obtain⟨b1,b2⟩:=aa hq;refine⟨BU p,.inl ⟨p,hp,rfl⟩,fun E'=>UM hl FM (qJ b1) fun m hm=>?_⟩;rw[hm] at b2;exact qJ b2
  ·obtain⟨b1,q⟩:=aa q
   have h7:ws.getD 0 undef=.int .u8 7:=qJ (m:=7) b1;rcases aR q with⟨q,_⟩|⟨_,q⟩
   ·exact⟨NO,.inr (by unfold DL;simp),fun E'=>kO hw h7 (Z9 (qJ (m:=1) q))⟩
   ·obtain⟨f,hf,hq⟩:=List.any_eq_true.1 q
    refine⟨NP f,.inr (by unfold DL;exact List.mem_cons_of_mem _ (List.mem_cons_of_mem _ (bU.2 ⟨f,hf,rfl⟩))),fun E'=>kO hw h7 ?_⟩;have rr:=rl.drop 61;rw[bb hq] at rr;rw[pw rr];exact BP E' _ _ _
 ·obtain⟨b1,q⟩:=aa q
  have h7:ws.getD 0 undef=.int .u8 7:=qJ (m:=7) b1;have h2:ws.getD 61 undef=.int .u8 2:=by
   rcases aR q with⟨q,_⟩|⟨_,q⟩
   ·exact qJ (m:=2) q
   ·obtain⟨b2,b3⟩:=aa q
    have r:=rl.nth 61;rw[bV b2,Rv] at r;obtain⟨d,k,hk,_⟩:=r;rw[hk] at d;have f:=iz (aD hr) b3 _ List.mem_cons_self;have f:den E (.cmp .eql (aE 0) (.li .u8 2))=some (.bool true):=f;rw[bx d] at f;have:=gD (Value.bool.inj (mL f));rw[hk,this]
  exact⟨wThr,.inr (by unfold DL;simp),fun E'=>kO hw h7 (Z9 h2)⟩
section
variable{W:World}{NM:ByteArray}{S L:Value}{lv:List V4}{R:List An}(ha:eK W S lv)(hA:lv.length<=9223372036854775807)(ho:oR W L R)(hR:R.length<=9223372036854775807){ok:Nat->Nat->Bool}{cs:lx}{g:FuncId}
include ha hA ho hR
theorem IU{idx:AV}{Zq:Env->Heap->Prop}{regs:aI}(st:@Vx.St (JE W NM ok g lv m ph) [] E regs h n nt ac w)(ci:jh (fun _=>False) W 14 Zq E h w)
  (e7:E 7=some (aw (.string NM))) (e8:E 8=some (aw (.int .i64 lv.length))) (e9:E 9=some (aT 0 S)) (Vu:E 10=some (aw (.int .i64 R.length))) (Jb:E 11=some (aT 0 L))
  (hk:fi (Gc idx) regs=true) (hc:IP cs h=true) (hidx:∀V,Rv E idx V->V=.int .i64 i) (uy:i<=R.length) (Vw:i<=40) (B5:(ph=2∧m=i)∨(ph=3∧m+1=i)):∃c tb wb,DM cs c∧N1 W NM S L lv R ok g c tb wb nt i ac w:=by
 letI Jp:JC:=JE W NM ok g lv m ph
 have hr:=st.heap;have d8:den E (.sy 8)=some (.int .i64 lv.length):=kP e8 (ax _ _);have d10:den E (.sy 10)=some (.int .i64 R.length):=kP Vu (ax _ _);have d7:den E (.sy 7)=some (.string NM):=kP e7 (eV _);have eS:∀V,Rv E slA V->V=S:=fun V r=>Rv.exact (Env.le_refl E) slA S V rfl (xW ha.sl hA e9 d8) r
 have eL:∀V,Rv E slL V->V=L:=fun V r=>Rv.exact (Env.le_refl E) slL L V rfl (xW ho.sl hR Jb d10) r
 have oz:∀{t:Nat}{v:AV},(t,v)∈Gc idx->Rv E v (ac.tmps.getD t undef):=fun {t v} hm=>by
  have r2:=st.regs t;rw[cK hk t v hm] at r2;exact r2
 unfold IP at hc;split at hc<;>try (cases hc;done)
 rename_i cc Nd;obtain⟨Lw,arr,el,eLw,hb,cC,dr,hcs2⟩:=hr.cells Nd;have fo:el=45:=dr.2.1 _ rfl;subst fo;have hz:Lw.base=0:=dr.2.2 rfl;have lw:(T.get .gone h 15).live=true:=by rw[Nd];rfl
 have rl:aP E ((List.range 87).map fun j=>cc.get j) ((List.range 87).map fun j=>arr.getD j undef):=by
  rw[List.range_eq_range'];refine aP.j8 87 0 fun j _ hj=>?_
  have:=hcs2 j (by omega);rw[hz,Nat.zero_add] at this;exact this
 obtain⟨c,qZ,I5⟩:=UN hc hr rl;have Vv:cQ w Lw.aH 45 ((List.range 87).map fun j=>arr.getD j undef):=⟨arr,hb,by rw[gp,ot];omega,fun j hj=>by
  rw[gp,ot] at hj;rw[cB,fL,List.getElem?_range hj];rfl⟩
 have Ah:W.heap.size<=Lw.aH:=by
  rcases gC Lw.aH W.heap.size with cL|ll
  ·exact(ci.iq Lw.aH cL ⟨15,Lw,by rw[ci.bM];decide,lw,eLw,rfl⟩).elim
  ·exact ll
 obtain⟨w1,K,kQ,hj⟩:=st.j;obtain⟨tb,TT,Np,LC,Ga,law,X,Z8⟩:∃tb TT,E 14=some ⟨tb,0,0⟩∧W.heap.size<=tb∧cf ok (fun _ _=>False) 0 TT∧BN g lv TT∧qK TT ok g lv W.heap.size i tb w1 K∧bdK W.heap.size K:=by
  rcases kQ with⟨h0,_⟩|⟨h0,_⟩|⟨h0,q⟩|⟨h0,q⟩
  ·omega
  ·omega
  ·have:m=i:=by omega
   subst this;exact q
  ·have:m+1=i:=by omega
   subst this;exact q
 have r0:=oz (t:=0) (v:=nmL) (by unfold Gc;simp);unfold nmL at r0;rw[Rv,d7] at r0;have r6:=oz (t:=6) (v:=.b false) (by unfold Gc;simp);rw[Rv] at r6;have r7:=oz (t:=7) (v:=.b true) (by unfold Gc;simp);rw[Rv] at r7;have r8:=oz (t:=8) (v:=.p 14 0) (by unfold Gc;simp);rw[Rv] at r8;obtain⟨M8,m8,r8⟩:=r8;rw[Np] at m8;cases m8;have r9:=oz (t:=9) (v:=.i .i64 0) (by unfold Gc;simp);rw[Rv] at r9;have O0:=oz (t:=10) (v:=.p 15 0) (by unfold Gc;simp);rw[Rv] at O0;obtain⟨M,eM,O0⟩:=O0;rw[eLw] at eM;cases eM;rw[hz] at O0;exact⟨c,tb,Lw.aH,qZ,{r0:=(mL r0.1).symm,r1:=eS _ (oz (by unfold Gc;simp)),r2:=eL _ (oz (by unfold Gc;simp)),r6:=r6,r7:=r7,r8:=r8,r9:=r9,O0:=O0,r11:=hidx _ (oz (by unfold Gc;simp)),size:=st.size,defers:=st.defers,bJ:=ci.bJ,box:=⟨_,Vv,I5⟩,len:=PO qZ,lo:=Ah,lt:=LC,il:=uy,i40:=Vw,task:=⟨TT,K,Ga,law,X.same hj.2.1 fun k hk=>(hj.2.2 k hk).1,Z8,fun hk=>(hj.2.2 Lw.aH hk).2.2 15 Lw lw eLw rfl⟩}⟩
end
def ZL(NM:ByteArray)(S L:Value)(nA nL:Nat)(E:Env)(h:Heap):Prop:=((ae (UL NM S L nA nL)).le E∨∃a i tb wb,(ae (sL NM S L nA nL a i tb wb)).le E)∧∀i,i<14->(T.get .gone h i).live=false
theorem ZL.low{S:Value}{nA nL:Nat}(z:ZL NM S L nA nL E h):E 7=some (aw (.string NM))∧E 8=some (aw (.int .i64 nA))∧E 9=some (aT 0 S)∧E 10=some (aw (.int .i64 nL))∧E 11=some (aT 0 L):=by
 rcases z.1 with z|⟨a,i,tb,wb,z⟩
 ·exact⟨z 7 _ rfl,z 8 _ rfl,z 9 _ rfl,z 10 _ rfl,z 11 _ rfl⟩
 ·exact⟨z 7 _ rfl,z 8 _ rfl,z 9 _ rfl,z 10 _ rfl,z 11 _ rfl⟩
theorem PQ{JF:Nat->JC}{P:Program}{ok:Nat->Prop}{w0:World}{F:Nat}{Z:Env->Heap->Prop}{HC:wz}:xR JF P ok w0 F Z [] HC:=fun _ _ _ _ _ _ _ _ _ hg=>by cases hg
theorem PR{P:Program}:wA P []:=fun g hg=>by cases hg
theorem UO:wA P [14,15]:=fun g hg=>by
 simp only[mcQ,mnQ,or_false] at hg;rcases hg with rfl|rfl
 ·exact⟨Tryz.f14,_,Tryz.func14,rfl,by intro h;revert h;decide⟩
 ·exact⟨Tryz.f15,_,Tryz.func15,rfl,by intro h;revert h;decide⟩
section
variable{W:World}{NM:ByteArray}(CB:(NM.size:Int)<=9223372036854775807){S L:Value}{lv:List V4}{R:List An}(ha:eK W S lv)(hA:lv.length<=9223372036854775807)(ho:oR W L R)(hR:R.length<=9223372036854775807)(xX:∀a∈R,CA W a)(h0:0<W.heap.size){ok:Nat->Nat->Bool}{cs:lx}(dz:qq ok cs)(cL:∀k m,ok k m=true->k<5∧m<14){g:FuncId}{b:Bool}
 (hq:∀w:World,0<w.heap.size->Calls P 16 #[.string NM] w fun e w'=>e=.returned (.bool b)∧Below w.heap.size w w') (ht:LB ok false=true)
theorem Yy:CA W ⟨zO,[],bO⟩:=⟨⟨by decide,ow,by decide,ow,ow,ow,by decide,by decide⟩,.inl (.inl ⟨rfl,rfl⟩),fun k hk=>(by cases hk),by decide⟩
theorem zx(hi:i<=40):Holds (ae (sL NM S L lv.length R.length a i tb wb)) FQ:=by
 have d12:den (ae (sL NM S L lv.length R.length a i tb wb)) (.sy 12)=some (.int .i64 i):=aj (i:=11) rfl (ax _ _);have d6:den (ae (sL NM S L lv.length R.length a i tb wb)) (.sy 6)=some (.int .i64 (aG (aA a.ks))):=aj (i:=5) rfl (ax _ _);have dl:den (ae (sL NM S L lv.length R.length a i tb wb)) (.fn 20 (.sy 6))=some (.int .i64 a.ks.length):=by rw[bC d6];unfold aA;rw[gp]
 exact ah ((az d12).trans (by rw[gM (by omega)])) (ah ((az d12).trans (by rw[eX (by omega)])) (ah ((az dl).trans (by rw[gM (by omega)])) holds_nil))
include CB ha hA ho hR h0 hq
theorem UP(hn:aS cl=[]){kn kr:SP}{kx:Nat->SP}(hd:N1 W NM S L lv R ok g c tb wb Tryz.f4.ntmps i ac w)(hk:wI [] cl b cs .gone c fs qH (Yt kx) qH=true)(dX:Holds (ae (sL NM S L lv.length R.length ⟨zO,[],bO⟩ i tb wb)) fs){N:Nat}:
  Code.rounds P cl (kL (JE W NM ok g lv 0) (fun _=>False) W 14 (ZL NM S L lv.length R.length) Tryz.f4.ntmps kn kx kr) (N+1) ac w:=by
 have aQ:∀ph,@bj (JE W NM ok g lv i ph) P (Ys b):=fun ph=>@eH (JE W NM ok g lv i ph) _ (UJ hq) 40
 have cE:∀ph,@fz (JE W NM ok g lv i ph) P (dL4 b):=fun ph=>@u5 (JE W NM ok g lv i ph) P XT mixed dv (Ys b) (aQ ph)
 obtain⟨h1,he,st,ci⟩:=IT CB ha hA ho hR h0 hd Yy (el:=.gone) (.inr rfl) dX (Zq:=ZL NM S L lv.length R.length) (fun E' h' hle hl=>⟨.inr ⟨_,_,_,_,hle⟩,fun j hj=>by
  cases oU:(T.get .gone h' j).live with
  |false=>rfl
  |true=>obtain⟨_,h⟩:=hl j hj oU;cases h⟩) hk
 rw[rounds_succ];refine wp_mono (wD (JF:=JE W NM ok g lv i) aQ dv cE PQ PR mixed cl (fun l hl=>by rw[hn] at hl;cases hl) qH (Yt kx) 2 _ _ h1 16 ac w he st ci) ?_
 intro e c' w' hl;obtain⟨ph,E',av,h',n',dB,qE,lA⟩:=hl;have hr:HR E' h' n' w':=(letI Jq:JC:=JE W NM ok g lv i ph;dB.heap);have hj9:(JE W NM ok g lv 0 9).J E' h' w':=by
  have hjj:=(letI Jq:JC:=JE W NM ok g lv i ph;dB.j);exact⟨W,fun _=>False,.inl ⟨.inr rfl,rfl,rfl⟩,FT hjj,qE.bJ.size,fun k hk=>hk.elim⟩
 have st9:@Vx.St (JE W NM ok g lv 0 9) [] E' av h' n' Tryz.f4.ntmps c' w':=@Vx.St.mk (JE W NM ok g lv 0 9) _ _ _ _ _ _ _ _ (letI Jq:JC:=JE W NM ok g lv i ph;dB.regs) (letI Jq:JC:=JE W NM ok g lv i ph;dB.size) (letI Jq:JC:=JE W NM ok g lv i ph;dB.defers) hr hj9;cases e with
 |normal=>cases lA
 |exit x=>exact⟨9,E',av,h',n',st9,qE,lA⟩
 |ret=>cases lA
 |goto l=>exact lA.elim
 |panic l=>exact lA.elim
 |outgrown=>exact lA.elim
end
section
variable{W:World}{NM:ByteArray}(CB:(NM.size:Int)<=9223372036854775807){S L:Value}{lv:List V4}{R:List An}(ha:eK W S lv)(hA:lv.length<=9223372036854775807)(ho:oR W L R)(hR:R.length<=9223372036854775807)(h0:0<W.heap.size){ok:Nat->Nat->Bool}{cs:lx}{g:FuncId}{b:Bool}
 (hq:∀w:World,0<w.heap.size->Calls P 16 #[.string NM] w fun e w'=>e=.returned (.bool b)∧Below w.heap.size w w') (xX:∀a∈R,CA W a) (dz:qq ok cs) (cL:∀k m,ok k m=true->k<5∧m<14) (ht:LB ok false=true)
theorem Yz:den (ae (sL NM S L lv.length R.length a i tb wb)) (.sy 12)=some (.int .i64 i)∧den (ae (sL NM S L lv.length R.length a i tb wb)) (.sy 10)=some (.int .i64 R.length):=⟨aj (i:=11) rfl (ax _ _),aj (i:=9) rfl (ax _ _)⟩
theorem YA(h:R.length<=i):Holds (ae (sL NM S L lv.length R.length a i tb wb)) NV:=by
 obtain⟨d12,d10⟩:=Yz (NM:=NM) (S:=S) (L:=L) (lv:=lv) (R:=R) (a:=a) (i:=i) (tb:=tb) (wb:=wb);exact ah ((lD d12 d10).trans (by rw[gM (by omega)])) (ah ((gu d10 d12).trans (by rw[eX h])) holds_nil)
theorem UQ(h:i<R.length)(Vw:40<=i):Holds (ae (sL NM S L lv.length R.length a i tb wb)) FR:=by
 obtain⟨d12,d10⟩:=Yz (NM:=NM) (S:=S) (L:=L) (lv:=lv) (R:=R) (a:=a) (i:=i) (tb:=tb) (wb:=wb);have d40:den (ae (sL NM S L lv.length R.length a i tb wb)) (.li .i64 40)=some (.int .i64 ((40:Nat):Int)):=rfl;exact ah ((lD d12 d10).trans (by rw[eX h])) (ah ((gu d10 d12).trans (by rw[gM (by omega)])) (ah ((lD d12 d40).trans (by rw[gM (by omega)])) (ah ((gu d40 d12).trans (by rw[eX Vw])) (ah ((az d12).trans (by rw[gM (by omega)])) holds_nil))))
theorem UR(h:i<R.length)(Vw:i<40):Holds (ae (sL NM S L lv.length R.length a i tb wb)) midL:=by
 obtain⟨d12,d10⟩:=Yz (NM:=NM) (S:=S) (L:=L) (lv:=lv) (R:=R) (a:=a) (i:=i) (tb:=tb) (wb:=wb);have d40:den (ae (sL NM S L lv.length R.length a i tb wb)) (.li .i64 40)=some (.int .i64 ((40:Nat):Int)):=rfl;exact ah ((lD d12 d10).trans (by rw[eX h])) (ah ((gu d10 d12).trans (by rw[gM (by omega)])) (ah ((lD d12 d40).trans (by rw[eX Vw])) (ah ((gu d40 d12).trans (by rw[gM (by omega)])) (ah ((az d12).trans (by rw[eX (by omega)])) holds_nil))))
include CB ha hA ho hR h0 hq xX dz cL ht
theorem loopL(hn:aS cl=[]){kn kr:SP}{kx:Nat->SP}(hk:zt cl b cs kx kr=true):∀(N i:Nat)(c:List AV)(tb wb:Nat)(ac:Act)(w:World),R.length-i=N->DM cs c->N1 W NM S L lv R ok g c tb wb Tryz.f4.ntmps i ac w->
  Code.rounds P cl (kL (JE W NM ok g lv 0) (fun _=>False) W 14 (ZL NM S L lv.length R.length) Tryz.f4.ntmps kn kx kr) (N+1) ac w:=by
 unfold zt at hk;obtain⟨k1,k3⟩:=aa hk;obtain⟨k1,k2⟩:=aa k1;have past:∀c,DM cs c->wI [] cl b cs .gone c (FQ++NV) qH (Yt kx) qH=true:=fun c hc=>by
  rcases hc with⟨p,hp,rfl⟩|hc
  ·exact(aa (Aad.1 k2 p hp)).1
  ·exact(aa (Aad.1 k3 c hc)).1
 have forty:∀c,DM cs c->wI [] cl b cs .gone c (FQ++FR) qH (Yt kx) qH=true:=fun c hc=>by
  rcases hc with⟨p,hp,rfl⟩|hc
  ·exact(aa (Aad.1 k2 p hp)).2
  ·exact(aa (aa (Aad.1 k3 c hc)).2).1
 intro N;induction N with
 |zero=>
  intro i c tb wb ac w hN hc hd;exact UP CB ha hA ho hR h0 hq hn hd (past c hc) (aJ (zx hd.i40) (YA (by omega)))
 |succ N ih=>
  intro i c tb wb ac w hN hc hd;have hi:i<R.length:=by omega
  have hi40:=hd.i40;rcases gC i 40 with Vw|Vw;rotate_left
  ·exact UP CB ha hA ho hR h0 hq hn hd (forty c hc) (aJ (zx hd.i40) (UQ hi Vw))
  rcases hc with⟨p,hp,rfl⟩|hc;rotate_left
  ·exact UP CB ha hA ho hR h0 hq hn hd (aa (aa (Aad.1 k3 c hc)).2).2 (aJ (zx hd.i40) (UR hi Vw))
  have hv:R[i]? =some R[i]:=cN hi;have ga:=xX _ (List.getElem_mem hi);generalize R[i]=a at hv ga;have aQ:∀ph,@bj (JE W NM ok g lv i ph) P (Ys b):=fun ph=>@eH (JE W NM ok g lv i ph) _ (UJ hq) 40
  have cE:∀ph,@fz (JE W NM ok g lv i ph) P (dL4 b):=fun ph=>@u5 (JE W NM ok g lv i ph) P XT mixed dv (Ys b) (aQ ph)
  obtain⟨h1,he,st,ci⟩:=IT CB ha hA ho hR h0 hd ga (el:=elL) (.inl ⟨rfl,hv⟩) (aJ (zx hd.i40) (UR hi Vw)) (Zq:=fun E _=>(ae (sL NM S L lv.length R.length a i tb wb)).le E) (fun E' h' hle _=>hle) (Aad.1 k1 p hp);rw[rounds_succ];refine wp_mono (wD (JF:=JE W NM ok g lv i) aQ dv cE (hookR dz cL ht (by omega) ga.o ga.keys ga.mS ga.fc fun E h z=>⟨z 1 _ rfl,z 5 _ rfl,z 6 _ rfl⟩) UO mixed cl (fun l hl=>by rw[hn] at hl;cases hl) (fun ph regs h _=>NW cs ph regs h) (fun _=>qH) 2 _ _ h1 16 ac w he st ci) ?_
  intro e c' w' hl;obtain⟨ph,E',av,h',n',dB,qE,lA⟩:=hl;cases e with
  |normal=>
   have z:=qE.z E' h' (Env.le_refl _) fun _ _=>rfl
   have lA:NW cs ph av h'=true:=lA;unfold NW at lA;obtain⟨q1,q2⟩:=aa lA;obtain⟨q3,q4⟩:=aa q2;have B5:=aN q1;obtain⟨c2,tb2,wb2,Aa,Vf⟩:=IU ha hA ho hR (i:=i+1) dB qE (z 7 _ rfl) (z 8 _ rfl) (z 9 _ rfl) (z 10 _ rfl) (z 11 _ rfl) q3 q4 (fun V r=>by
    have dn:=an z _ _ (qh (Yz (NM:=NM) (S:=S) (L:=L) (lv:=lv) (R:=R) (a:=a) (i:=i) (tb:=tb) (wb:=wb)).1 (by omega));rw[Rv,dn] at r;exact(mL r.1).symm) hi (by omega) (.inr ⟨B5,rfl⟩)
   exact ih (i+1) c2 tb2 wb2 c' w' (by omega) Aa Vf
  |exit x=>cases lA
  |ret=>cases lA
  |goto l=>exact lA.elim
  |panic l=>exact lA.elim
  |outgrown=>exact lA.elim
end
section
variable{W:World}{NM:ByteArray}(CB:(NM.size:Int)<=9223372036854775807){S L:Value}{lv:List V4}{R:List An}(ha:eK W S lv)(hA:lv.length<=9223372036854775807)(ho:oR W L R)(hR:R.length<=9223372036854775807)(mh:fq W){ok:Nat->Nat->Bool}{cs:lx}{g:FuncId}{b:Bool}
 (hq:∀w:World,0<w.heap.size->Calls P 16 #[.string NM] w fun e w'=>e=.returned (.bool b)∧Below w.heap.size w w') (xX:∀a∈R,CA W a) (dz:qq ok cs) (cL:∀k m,ok k m=true->k<5∧m<14) (ht:LB ok false=true) (ht2:LB ok true=true)
 (QE:∀w,eK w S lv->fq w->lv.length<=64->Calls P 14 #[.string NM,S] w fun e w'=>∃V,e=.returned V∧dH (fun _=>False) w w'∧Started w g lv V w') (gY:g≠0->dy g ok)
include CB ha hA ho hR mh hq xX dz cL ht ht2 QE gY
theorem FU(hk:yC b cs (f64 (decide (lv.length<=64)))=true):Calls P 4 #[.string NM,S,L] W fun e w'=>∃V,e=.returned V∧dH (fun _=>False) W w'∧V=.bool true:=by
 have tl:=mh.lt;have h0:0<W.heap.size:=by omega
 unfold yC at hk;split at hk<;>try (cases hk;done)
 rename_i c hc;split at hk<;>try (cases hk;done)
 rename_i cl qZ;split at hk<;>try (cases hk;done)
 rename_i hn;obtain⟨hle,hk⟩:=aa hk;have aQ:∀ph,@bj (JE W NM ok g lv 0 ph) P (Ys b):=fun ph=>@eH (JE W NM ok g lv 0 ph) _ (UJ hq) 40
 have cE:∀ph,@fz (JE W NM ok g lv 0 ph) P (dL4 b):=fun ph=>@u5 (JE W NM ok g lv 0 ph) P XT mixed dv (Ys b) (aQ ph)
 have d7:den (ae (UL NM S L lv.length R.length)) (.sy 7)=some (.string NM):=aj (i:=6) rfl (eV _);have d8:den (ae (UL NM S L lv.length R.length)) (.sy 8)=some (.int .i64 lv.length):=aj (i:=7) rfl (ax _ _);have d10:den (ae (UL NM S L lv.length R.length)) (.sy 10)=some (.int .i64 R.length):=aj (i:=9) rfl (ax _ _);have alt:=wE ha h0;have olt:=IS ho h0;have hr:HR (ae (UL NM S L lv.length R.length)) hL0 14 W:=by
  refine cX (C:=UL NM S L lv.length R.length) rfl (show 14<=14 from by decide) (.dead _ _ fun a ha=>by obtain⟨_,_,rfl⟩:=bU.1 ha;rfl) (fun L' hL=>?_) (show([]:List Nat).Nodup by simp)
  have s0:∀V,(aw V).aH<W.heap.size:=fun V=>by rw[bH];omega
  unfold UL at hL;simp only[mcQ,mnQ,or_false] at hL;rcases hL with rfl|rfl|rfl|rfl|rfl|rfl|rfl|rfl|rfl|rfl|rfl|rfl|rfl<;>first|exact s0 _|assumption
 have dX:Holds (ae (UL NM S L lv.length R.length)) (argF++f64 (decide (lv.length<=64))):=by
  refine aJ (ah ((az d8).trans (by rw[gM (by omega)])) (ah ((az d10).trans (by rw[gM (by omega)])) holds_nil)) (ah ((az d8).trans ?_) holds_nil);show some (Value.bool (decide ((lv.length:Int)<=64)))=some (Value.bool (decide (lv.length<=64)));rw[show decide ((lv.length:Int)<=64)=decide (lv.length<=64) from decide_eq_decide.2 (by omega)]
 obtain⟨h1,he,fw,fk⟩:=bZ hk hr dX;have cG:bM hL0=14:=bX _ _;have dead:∀i,(T.get .gone h1 i).live=false:=fun i=>by
  cases hl:(T.get .gone h1 i).live with
  |false=>rfl
  |true=>
   rw[fk.live] at hl;obtain⟨j,x,rfl,g1,g2⟩:=bT (a:=.gone) hl;rw[fL] at g1;have hj:j<13:=by
    rcases gC j 13 with h|h
    ·exact h
    ·rw[List.getElem?_eq_none (by rw[ot];exact h)] at g1;cases g1
   rw[List.getElem?_range hj] at g1;cases g1;cases g2
 have ra:aP (ae (UL NM S L lv.length R.length)) [nmL,slA,slL] (#[.string NM,S,L]:Array Value).toList:=
  ad (by unfold nmL;rw[Rv];exact⟨d7,_,rfl,CB⟩) (ad (xW ha.sl hA rfl d8) (ad (xW ho.sl hR rfl d10) aF))
 have henv:(UG NM).le (ae (UL NM S L lv.length R.length)):=fun x M hx=>by
  unfold UG at hx;split at hx
  ·rename_i hx7
   subst hx7;cases hx;rfl
  ·cases hx
 have AI:(JE W NM ok g lv 0 0).J (ae (UL NM S L lv.length R.length)) h1 W:=⟨W,fun _=>False,.inl ⟨.inl rfl,rfl,rfl⟩,henv,nrQ _,fun k hk=>hk.elim⟩
 refine Uj (JF:=JE W NM ok g lv 0) aQ dv cE (hookM (Zq:=ZL NM S L lv.length R.length) dz cL ht2 ha mh QE gY (fun E h z=>⟨z.low.2.1,z.low.2.2.1,fun i L' hi hl _=>by rw[z.2 i hi] at hl;cases hl⟩) (by omega)) UO mixed (Fin:=fun V _=>V=.bool true) Tryz.func4 hc ra (aU hle) fw AI
  ⟨dH.refl _ _,fun k hk hf=>?_,fk.bM.trans cG,fun E' h' hle oN=>⟨.inl hle,fun i hi=>by rw[oN i hi];exact dead i⟩⟩ (fun lc P' kn kx ph E regs h n ac w hJ st ci=>?_) he fun ph E h n w v V hr hj ci rv hf=>wG hf (aD hr) rv
 ·obtain⟨x,L',a1,a2,_⟩:=hf
  rw[dead x] at a2;cases a2
 ·rw[qZ] at P'
  obtain rfl:lc=cl:=by simpa using P'
  have hJ:bc (bc (Nat.beq ph 2) (bc (fi (Gc (.i .i64 0)) regs) (IP cs h) false) false) (zt lc b cs kx (ui P Tryz.f4 UF)) false=true:=hJ;obtain⟨q1,q2⟩:=aa hJ;obtain⟨q3,q4⟩:=aa q1;obtain⟨q5,q6⟩:=aa q4;have B5:=aN q3;have z:=(ci.z E h (Env.le_refl _) fun _ _=>rfl).low;obtain⟨c2,tb,wb,Aa,hd⟩:=IU ha hA ho hR (i:=0) st ci z.1 z.2.1 z.2.2.1 z.2.2.2.1 z.2.2.2.2 q5 q6 (fun V r=>by rw[Rv] at r;exact r) (nzQ _) (nzQ _) (.inl ⟨B5,rfl⟩);refine wp_loop_rounds (R.length-0+1) ?_;exact loopL CB ha hA ho hR h0 hq xX dz cL ht hn q2 _ 0 c2 tb wb ac w rfl Aa hd
end
def quO:Bool:=bQ oE Uw fun h=>c0 16 [.x .s (.sy 1)] h 5 fun v h _=>sU false v h
theorem US:quO=true:=by kernel_rfl
theorem IV(d:den E (.sy 1)=some (.string NM))(G2:∀x∈mq,(NM.toList==(str x.2.1 x.2.2).toList)=false):Holds E oE:=fun p hp=>by
 obtain⟨x,hx,rfl⟩:=bU.1 hp;exact(NT d).trans (by rw[G2 x hx])
theorem UT(hs:(NM.size:Int)<=9223372036854775807)(G2:∀x∈mq,(NM.toList==(str x.2.1 x.2.2).toList)=false)(hz:0<w.heap.size):Calls P 16 #[.string NM] w fun e w'=>e=.returned (.bool false)∧Below w.heap.size w w':=by
 let C:List aZ:=[aw (.string NM),⟨0,0,0⟩,⟨0,0,0⟩,⟨0,0,0⟩];have d1:den (ae C) (.sy 1)=some (.string NM):=aj (i:=0) rfl (eV _);have hr:HR (ae C) Uw 5 w:=by
  refine cX (C:=C) rfl (show 5<=5 from by decide) ⟨trivial,trivial,trivial,trivial,trivial⟩ (fun L hL=>?_) (show([]:List Nat).Nodup by simp)
  simp only[C,mcQ,mnQ,or_false] at hL;rcases hL with rfl|rfl|rfl|rfl
  ·rw[bH];exact hz
  ·exact hz
  ·exact hz
  ·exact hz
 refine(@jK JC.qP P c0 (@iL JC.qP) _ _ _ _ oE 16 _ #[.string NM] (sU false) US hr (fun _ _=>trivial) (IV d1 G2) (ad (by rw[Rv];exact⟨d1,_,rfl,hs⟩) aF) (fun v h=>rfl)).mono ?_;rintro e w' ⟨V,u,h',n',E',rfl,rv,cO,_,gs,xg,hk⟩;refine⟨by rw[wG hk xg rv],{size:=gs.size,block:=fun k hk=>gs.fr k hk fun hf=>?_,os:=gs.os,output:=gs.output,tape:=gs.tape}⟩;obtain⟨i,L,a1,a2,_⟩:=hf;obtain⟨j,x,rfl,g1,g2⟩:=bT (a:=.gone) a2;have:=(bR.1 g1).1;have:j<4:=this;rw[show bM Uw=5 from bX _ _] at a1;omega
theorem okQ_cl:∀k m,ud k m=true->k<5∧m<14:=fun k m h=>by
 unfold ud at h;simp only[Bool.or_eq_true,Bool.and_eq_true,beq_iff_eq] at h;omega
theorem UU:∀k m,nR k m=true->k<5∧m<14:=fun k m h=>by
 unfold nR at h;simp only[Bool.or_eq_true,Bool.and_eq_true,beq_iff_eq] at h;have:=aU h.2;omega
theorem runs49:∀x∈mq,(isQ x.1=true∧dy x.1 ud)∨(isQ x.1=false∧dy x.1 nR):=by
 intro x hx;unfold mq at hx;simp only[mcQ,mnQ,or_false] at hx;rcases hx with rfl|rfl|rfl|rfl|rfl|rfl|rfl|rfl|rfl|rfl|rfl|rfl|rfl|rfl|rfl|rfl
 ·exact .inr ⟨rfl,l49_88⟩
 ·exact .inr ⟨rfl,l49_89⟩
 ·exact .inr ⟨rfl,l49_90⟩
 ·exact .inr ⟨rfl,l49_91⟩
 ·exact .inr ⟨rfl,l49_92⟩
 ·exact .inl ⟨rfl,l49_93⟩
 ·exact .inl ⟨rfl,l49_94⟩
 ·exact .inl ⟨rfl,l49_95⟩
 ·exact .inl ⟨rfl,l49_96⟩
 ·exact .inl ⟨rfl,l49_97⟩
 ·exact .inl ⟨rfl,l49_98⟩
 ·exact .inl ⟨rfl,l49_99⟩
 ·exact .inl ⟨rfl,XN⟩
 ·exact .inr ⟨rfl,XO⟩
 ·exact .inr ⟨rfl,XP⟩
 ·exact .inr ⟨rfl,XQ⟩
theorem UW(b:Bool):yC true UA (f64 b)=true∧yC false UB (f64 b)=true:=by
 cases b
 ·exact⟨es_q0,es_a0⟩
 ·exact⟨es_q,es_a⟩
theorem YB(CB:(NM.size:Int)<=9223372036854775807){S:Value}(ha:eK W S lv)(qf:∀v∈lv,v.ok)(hA:lv.length<=9223372036854775807)(ho:oR W L R)(hR:R.length<=9223372036854775807)(mh:fq W)(xX:∀a∈R,CA W a):
  Calls P 4 #[.string NM,S,L] W fun e w'=>e=.returned (.bool true)∧dH (fun _=>False) W w':=by
 by_cases hx:∃x∈mq,NM=str x.2.1 x.2.2
 ·obtain⟨x,hx,rfl⟩:=hx
  have hq:∀w:World,0<w.heap.size->Calls P 16 #[.string (str x.2.1 x.2.2)] w fun e w'=>e=.returned (.bool (isQ x.1))∧Below w.heap.size w w':=fun w hz=>Yq hz hx
  have QE:∀w,eK w S lv->fq w->lv.length<=64->Calls P 14 #[.string (str x.2.1 x.2.2),S] w fun e w'=>∃V,e=.returned V∧dH (fun _=>False) w w'∧Started w x.1 lv V w':=fun w L6 tab' Yx=>LH L6 qf Yx tab' hx
  rcases runs49 x hx with⟨h1,h2⟩|⟨h1,h2⟩
  ·rw[h1] at hq
   exact(FU CB ha hA ho hR mh hq xX Yu okQ_cl tn_qf tn_qt QE (fun _=>h2) (UW _).1).mono fun e w'⟨V,q1,q2,q3⟩=>⟨by rw[q1,q3],q2⟩
  ·rw[h1] at hq
   exact(FU CB ha hA ho hR mh hq xX NX UU Z4 Z3 QE (fun _=>h2) (UW _).2).mono fun e w'⟨V,q1,q2,q3⟩=>⟨by rw[q1,q3],q2⟩
 ·have G2:∀x∈mq,(NM.toList==(str x.2.1 x.2.2).toList)=false:=fun x hm=>by
   cases hb:NM.toList==(str x.2.1 x.2.2).toList with
   |false=>rfl
   |true=>
    have e:=eq_of_beq hb;rw[ByteArray.toList_eq,ByteArray.toList_eq] at e;have e2:NM.data=(str x.2.1 x.2.2).data:=Array.ext' e;have e3:NM=str x.2.1 x.2.2:=by
     revert e2;cases NM
     cases str x.2.1 x.2.2
     intro e2;cases e2
     rfl
    exact absurd ⟨x,hm,e3⟩ hx
  exact(FU CB ha hA ho hR mh (fun w hz=>UT CB G2 hz) xX NX UU Z4 Z3 (g:=0) (fun w L6 tab' Yx=>IN L6 qf Yx tab' CB G2) (fun h=>absurd rfl h) (UW _).2).mono fun e w'⟨V,q1,q2,q3⟩=>⟨by rw[q1,q3],q2⟩
end
end Go.Proofs.YtngagklmbbogiaaGreatDoor.Ob
