/- Parts of one proof (Ob82 to Ob84). No condition. -/
import Derived.Test.YtngagklmbbogiaaGreatDoorE2
import Derived.Test.YtngagklmbbogiaaGreatDoorD6
set_option linter.all false
namespace Go.Proofs.YtngagklmbbogiaaGreatDoor.Ob
open Go Go.RowKit Vx
set_option maxRecDepth 100000
noncomputable section
variable{c:Act}{a:An}{s:ByteArray}{cl:Code}{E E':Env}{h:Heap}{kd md:Int}{C:List aZ}{bo g i nt:Nat}{I:Nat->Prop}{e:SE}{w:World}{fs:aB}
def Iz:SE->Bool
 |.sy n=>n==1||n==6
 |.lb _=>true
 |.li _ _=>true
 |.lf _=>true
 |.ls _ _=>true
 |.len e=>Iz e
 |.not e=>Iz e
 |.conv _ e=>Iz e
 |.rem _ e=>Iz e
 |.fn _ e=>Iz e
 |.cD _ a b=>Iz a&&Iz b
 |.cmp _ a b=>Iz a&&Iz b
 |.and a b=>Iz a&&Iz b
theorem DF(h1:E 1=E' 1)(h6:E 6=E' 6):∀e:SE,Iz e=true->den E e=den E' e:=by
 intro e;induction e with
 |sy n=>
  intro h;simp only[Iz,Bool.or_eq_true,beq_iff_eq] at h;simp only[den];rcases h with rfl|rfl
  ·rw[h1]
  ·rw[h6]
 |lb|li|lf|ls=>intro _;rfl
 |len e ih|not e ih|conv k e ih|rem m e ih|fn c e ih=>intro h;simp only[den];rw[ih h]
 |cD c a b nK mu|cmp op a b nK mu|and a b nK mu=>
  intro h;simp only[Iz,Bool.and_eq_true] at h;simp only[den];rw[nK h.1,mu h.2]
def Ub(fs:aB):Bool:=fs.all fun p=>Iz p.1
theorem oB(h1:E 1=E' 1)(h6:E 6=E' 6)(ok:Ub fs=true)(h:Holds E fs):Holds E' fs:=fun p hp=>by
 rw[←DF h1 h6 _ (Aad.1 ok p hp)];exact h p hp
def kS(a:An):List aZ:=[aw (.int .i64 (aG (jU [a]))),⟨0,0,0⟩,⟨0,0,0⟩,⟨0,0,0⟩,⟨0,0,0⟩,aw (.int .i64 (aG (aA a.ks)))]
def BK(k:Ky):Prop:=0<=k.2∧(k.1.size:Int)<=4096∧(k.2<=0∨(0<k.2∧(k.1.toList==(str 0 0).toList)=true))
def wy(a:An)(one:Bool)(g:Nat):Prop:=Holds (ae (kS a)) (gF g++(Ln one++F2))
def Good(a:An):Prop:=(∀k∈a.ks,BK k)∧∃one g,g<3∧wy a one g
theorem ZX(one:Bool)(g:Nat):Ub (gF g++(Ln one++F2))=true:=by
 cases one<;>(match g with
  |0=>rfl
  |1=>rfl
  |n+2=>rfl)
def ug(a:An)(kd md:Int):List aZ:=[aw (.int .i64 (aG (jU [a]))),⟨0,0,0⟩,⟨0,0,0⟩,⟨0,0,0⟩,fP 0 a.K,aw (.int .i64 (aG (aA a.ks))),aw (.int .u8 kd),aw (.int .u8 md),⟨0,0,0⟩,⟨0,0,0⟩,⟨0,0,0⟩]
def sF(a:An)(kd md:Int)(i bo:Nat):List aZ:=[aw (.int .i64 (aG (jU [a]))),⟨0,0,0⟩,⟨0,0,0⟩,⟨0,0,0⟩,fP 0 a.K,aw (.int .i64 (aG (aA a.ks))),aw (.int .u8 kd),aw (.int .u8 md),aw (.int .i64 i),⟨(fP 0 a.K).aH,(fP 0 a.K).base+i*2,0⟩,⟨bo,0,0⟩]
structure PB(w:World)(a:An):Prop where
 o:a.o.ok
 keys:ia w a.K a.ks
 fc:(a.ks.length:Int)<=9223372036854775807
 mS:qT a.ks
structure IA(w0:World)(a:An)(kd md:Int)(bo nt i:Nat)(c:Act)(w:World):Prop where
 r0:c.tmps.getD 0 undef=.int .u8 kd
 r1:c.tmps.getD 1 undef=.int .u8 md
 r5:c.tmps.getD 5 undef=.pointer (some ⟨bo,0,none⟩)
 r6:c.tmps.getD 6 undef=.bool false
 r40:c.tmps.getD 40 undef=a.K
 r41:c.tmps.getD 41 undef=.int .i64 a.ks.length
 r42:c.tmps.getD 42 undef=.int .i64 i
 size:c.tmps.size=nt
 defers:c.defers=[]
 bJ:dH (fun _=>False) w0 w
 box:cQ w bo 36 (a.o.cells a.K)
 lo:w0.heap.size<=bo
 il:i<=a.ks.length
theorem Yc(el:AO):T.get .gone (hFr el) 11=uC:=by kernel_rfl
section
variable{w0:World}{a:An}{kd md:Int}(G:PB w0 a)(u7:0<=kd∧kd<=255)(nM:0<=md∧md<=255)(h0:0<w0.heap.size)
theorem oC(h:C[0]? =some (aw (.int .i64 (aG (jU [a]))))):∀i V,a.o.syms[i]? =some V->den (ae C) (jv (zi 0) i)=some V:=fun i V hi=>by
 have BX:=(bR.1 hi).1;exact eI (aj (i:=0) h (ax _ _)) (m:=0) rfl (by rfl) (by rw[iA BX];exact hi) (gO a.o V (gq hi))
include G
theorem FI(h:C[0]? =some (aw (.int .i64 (aG (jU [a])))))(h5:C[4]? =some (fP 0 a.K))(h6:C[5]? =some (aw (.int .i64 (aG (aA a.ks))))):aP (ae C) (oL 5) (a.o.cells a.K):=
 gP G.o (kK G.keys G.fc h5 (aj (i:=5) h6 (ax _ _))) (oC h)
include h0
theorem sF_in(hb:w0.heap.size<=w.heap.size)(hbo:bo<w.heap.size):∀L∈sF a kd md i bo,L.aH<w.heap.size:=by
 intro L hL;have s0:∀V,(aw V).aH<w.heap.size:=fun V=>by rw[bH];omega
 have hk:(fP 0 a.K).aH<w.heap.size:=dV (pF G.keys h0) hb;have hz:0<w.heap.size:=dV h0 hb;unfold sF at hL;simp only[mcQ,mnQ,or_false] at hL;rcases hL with rfl|rfl|rfl|rfl|rfl|rfl|rfl|rfl|rfl|rfl|rfl<;>first|exact s0 _|assumption
include u7 nM
theorem IB{el:AO}{Zf:Env->Heap->Prop}(hd:IA w0 a kd md bo nt i c w)(fo:(el=X9∧i<a.ks.length)∨el=.gone)(dX:Holds (ae (sF a kd md i bo)) fs)(hZ:∀E h,(ae (sF a kd md i bo)).le E->T.get .gone h 11=uC->Zf E h)
  {k:Heap->Bool} (hk:bQ fs (hFr el) k=true):∃h1,k h1=true∧@Vx.St JC.qP [] (ae (sF a kd md i bo)) (gd (B4 (.x (.i .i64) (.sy 9)) 11)) h1 12 nt c w∧jh (fun _=>False) w0 12 Zf (ae (sF a kd md i bo)) h1 w:=by
 have e5:ae (sF a kd md i bo) 5=some (fP 0 a.K):=rfl;have Vu:ae (sF a kd md i bo) 10=some ⟨(fP 0 a.K).aH,(fP 0 a.K).base+i*2,0⟩:=rfl;have Jb:ae (sF a kd md i bo) 11=some ⟨bo,0,0⟩:=rfl;have d6:den (ae (sF a kd md i bo)) (.sy 6)=some (.int .i64 (aG (aA a.ks))):=aj (i:=5) rfl (ax _ _);have d7:den (ae (sF a kd md i bo)) (.sy 7)=some (.int .u8 kd):=aj (i:=6) rfl (ax _ _);have d8:den (ae (sF a kd md i bo)) (.sy 8)=some (.int .u8 md):=aj (i:=7) rfl (ax _ _);have d9:den (ae (sF a kd md i bo)) (.sy 9)=some (.int .i64 i):=aj (i:=8) rfl (ax _ _);have dl:den (ae (sF a kd md i bo)) (.fn 20 (.sy 6))=some (.int .i64 a.ks.length):=by rw[bC d6];unfold aA;rw[gp]
 have hbig:=G.fc;have uy:=hd.il;have hbo:=hd.box.lt;have klt:=pF G.keys h0;have Ah:=hd.lo;have rel:RO (ae (sF a kd md i bo)) w 10 el:=by
  rcases fo with⟨rfl,hi⟩|rfl
  ·rcases G.keys.cases with⟨_,h,_⟩|⟨h,_⟩|⟨b,off,cp,arr,e,fr,hK,h2,h3,h4,_,hg⟩
   ·rw[h] at hi;cases hi
   ·rw[h] at hi;cases hi
   ·have Ce:a.ks[i]? =some a.ks[i]:=cN hi
    obtain⟨c1,c2⟩:=h4 i _ Ce;obtain⟨o1,o2,o3⟩:=G.mS _ (List.getElem_mem hi);have hkS:fP 0 a.K=⟨b,off,cp+1⟩:=hg 0;have oH:w.heap[b]? =some (.cells arr e fr):=by rw[hd.bJ.same b (cW.1 h2).1 (fun h=>h)];exact h2
    rw[hkS] at e5 Vu;refine⟨⟨b,off+i*2,0⟩,arr,e,fr,Vu,fun h=>absurd h (by decide),oH,by show off+i*2+2<=_;omega,fun x hx=>?_,⟨fun h=>absurd h.2.1 (by decide),fun h=>absurd h.2.1 (by decide),fun _=>⟨⟨b,off,cp+1⟩,i,e5,d9,rfl,rfl⟩⟩⟩;refine jf (g:=fun x=>arr.getD (off+i*2+x) undef) _ _ _ (fun q x hx=>?_) (fun q=>by rw[nw];simp[Rv]) x
    have q2:q<2:=(bR.1 hx).1;match q,q2,hx with
    |0,_,hx=>
     cases hx
     have:=iQ (c:=0) d6 d9 Ce rfl (eV _);show Rv _ _ (arr.getD (off+i*2+(0+0)) undef);rw[show off+i*2+(0+0)=off+2*i by omega,c1,Rv];exact⟨this,_,rfl,o1⟩
    |1,_,hx=>
     cases hx
     have:=iQ (c:=1) d6 d9 Ce rfl (ax _ _);show Rv _ _ (arr.getD (off+i*2+(0+1)) undef);rw[show off+i*2+(0+1)=off+(2*i+1) by omega,c2,Rv];exact⟨this,_,rfl,o2,o3⟩
  ·trivial
 have hr:HR (ae (sF a kd md i bo)) (hFr el) 12 w:=by
  refine cX (C:=sF a kd md i bo) rfl (show 12<=12 from by decide) (.append (.dead _ _ fun a ha=>by obtain⟨_,_,rfl⟩:=bU.1 ha;rfl) ⟨rel,?_,trivial⟩) (sF_in G h0 hd.bJ.size hbo) ?_
  ·exact hd.box.ro Jb (FI G rfl rfl rfl) rfl
  ·have ne:(fP 0 a.K).aH≠bo:=by omega
   rcases fo with⟨rfl,hi⟩|rfl
   ·show[(fP 0 a.K).aH,bo].Nodup
    simp[ne]
   ·show[bo].Nodup
    simp
 obtain⟨h1,he,fw,fk⟩:=bZ hk hr dX;have cG:bM (hFr el)=12:=bX _ _;refine⟨h1,he,@Vx.St.mk JC.qP _ _ _ _ _ _ _ _ (fun t=>?_) hd.size hd.defers fw trivial,⟨hd.bJ,fun k hk Cn=>?_,fk.bM.trans cG,fun E' h' hle oN=>hZ E' h' hle ?_⟩⟩
 ·rcases iK (B4 (.x (.i .i64) (.sy 9)) 11) t with q|⟨v,hv,q⟩
  ·rw[q];simp[Rv]
  ·rw[q]
   unfold B4 at hv;simp only[mcQ,mnQ,or_false,Prod.mk.injEq] at hv;rcases hv with⟨rfl,rfl⟩|⟨rfl,rfl⟩|⟨rfl,rfl⟩|⟨rfl,rfl⟩|⟨rfl,rfl⟩|⟨rfl,rfl⟩|⟨rfl,rfl⟩
   ·rw[hd.r0,Rv];exact⟨d7,_,rfl,u7⟩
   ·rw[hd.r1,Rv];exact⟨d8,_,rfl,nM⟩
   ·rw[hd.r5,Rv];exact⟨⟨bo,0,0⟩,rfl,rfl⟩
   ·rw[hd.r6,Rv]
   ·rw[hd.r40];exact kK G.keys G.fc e5 d6
   ·rw[hd.r41]
    show Rv _ (xk 6) _;unfold xk;rw[Rv];exact⟨dl,_,rfl,by show(-9223372036854775808:Int)<=(a.ks.length:Int);omega,by show(a.ks.length:Int)<=9223372036854775807;omega⟩
   ·rw[hd.r42,Rv];exact⟨d9,_,rfl,by show(-9223372036854775808:Int)<=(i:Int);omega,by show(i:Int)<=9223372036854775807;omega⟩
 ·obtain⟨x,L,a1,a2,a3,rfl⟩:=Cn
  rw[fk.bM,cG] at a1;rw[fk.live] at a2;obtain⟨j,b,rfl,g1,g2⟩:=bT (a:=.gone) a2;have:=(bR.1 g1).1;rw[List.length_append,gp,ot] at this;have:j<9+2:=this;omega
 ·rw[oN 11 (by decide),fk.same 11 (.inr (.inr (.inl (by rw[cG];decide))))]
  exact Yc el
end
theorem PC(e:T.get .gone h 11=uC):dA 11 26 36 (oL 5) h=true:=by
 unfold dA;rw[e]
 kernel_rfl
theorem Uc(e:T.get .gone h 11=.gone):wx h=false:=by unfold wx;rw[e]
theorem PD(e:T.get .gone h 11=uC):wx h=true:=by unfold wx;rw[e];rfl
def Zf(a:An)(kd md:Int)(I:Nat->Prop)(E:Env)(h:Heap):Prop:=((ae (ug a kd md)).le E∧T.get .gone h 11=.gone)∨∃i bo,(ae (sF a kd md i bo)).le E∧T.get .gone h 11=uC∧i<=a.ks.length∧I i
section
variable{w0:World}{a:An}{kd md:Int}(G:PB w0 a)(u7:0<=kd∧kd<=255)(nM:0<=md∧md<=255)(h0:0<w0.heap.size)
include G u7 nM h0
theorem nextF{c':Act}{w':World}{av:aI}{h':Heap}{n':Nat}{Z:Env->Heap->Prop}(hd:IA w0 a kd md bo nt i c w)(hi:i<a.ks.length)(DG:a.ks.length<=1024)(st:@Vx.St JC.qP [] E' av h' n' nt c' w')(ci:jh (fun _=>False) w0 12 Z E' h' w')
  (hle:(ae (sF a kd md i bo)).le E') (hb:T.get .gone h' 11=uC) (hk:qo av h'=true):IA w0 a kd md bo nt (i+1) c' w':=by
 have e5:ae (sF a kd md i bo) 5=some (fP 0 a.K):=rfl;have d6:den (ae (sF a kd md i bo)) (.sy 6)=some (.int .i64 (aG (aA a.ks))):=aj (i:=5) rfl (ax _ _);have d7:den (ae (sF a kd md i bo)) (.sy 7)=some (.int .u8 kd):=aj (i:=6) rfl (ax _ _);have d8:den (ae (sF a kd md i bo)) (.sy 8)=some (.int .u8 md):=aj (i:=7) rfl (ax _ _);have d9:den (ae (sF a kd md i bo)) (.sy 9)=some (.int .i64 i):=aj (i:=8) rfl (ax _ _);have dl:den (ae (sF a kd md i bo)) (.fn 20 (.sy 6))=some (.int .i64 a.ks.length):=by rw[bC d6];unfold aA;rw[gp]
 unfold qo at hk;obtain⟨_,k1⟩:=aa hk;have oz:∀{t:Nat}{v:AV}{V:Value},(t,v)∈B4 (.x (.i .i64) (.cD 4 (.sy 9) (.li .i64 1))) 11->pZ v=true->Rv (ae (sF a kd md i bo)) v V->c'.tmps.getD t undef=V:=fun {t v V} hm hex r=>by
  have r2:=st.regs t;rw[cK k1 t v hm] at r2;exact Rv.exact hle _ _ _ hex r r2
 exact {r0:=oz (t:=0) (v:=.x (.i .u8) (.sy 7)) (by unfold B4;simp) rfl (by rw[Rv];exact⟨d7,_,rfl,u7⟩),r1:=oz (t:=1) (v:=.x (.i .u8) (.sy 8)) (by unfold B4;simp) rfl (by rw[Rv];exact⟨d8,_,rfl,nM⟩),r5:=oz (t:=5) (v:=.p 11 0) (by unfold B4;simp) rfl (by rw[Rv];exact⟨⟨bo,0,0⟩,rfl,rfl⟩),r6:=oz (t:=6) (v:=.b false) (by unfold B4;simp) rfl (by rw[Rv]),r40:=oz (t:=40) (v:=I6 5 6) (by unfold B4;simp) rfl (kK G.keys G.fc e5 d6),r41:=oz (t:=41) (v:=xk 6) (by unfold B4;simp) rfl (fK dl (by omega)),r42:=oz (t:=42) (v:=.x (.i .i64) (.cD 4 (.sy 9) (.li .i64 1))) (by unfold B4;simp) rfl (fK (qh d9 (by omega)) (by omega)),size:=st.size,defers:=st.defers,bJ:=ci.bJ,box:=iS st.heap hle (PC hb) (hle 11 _ rfl) (Is 5) (FI G rfl rfl rfl),lo:=hd.lo,il:=hi}
theorem Ud{regs:aI}{n:Nat}(st:@Vx.St JC.qP [] E regs h n nt c w)(ci:jh (fun _=>False) w0 12 (Zf a kd md I) E h w)(hk:xP regs h=true):(ae (ug a kd md)).le E∧∃bo,IA w0 a kd md bo nt 0 c w:=by
 have hbig:=G.fc;unfold xP at hk;obtain⟨k0,hk⟩:=aa hk;obtain⟨k1,k2⟩:=aa hk;have hle:(ae (ug a kd md)).le E:=by
  rcases ci.z E h (Env.le_refl _) (fun _ _=>rfl) with⟨z,_⟩|⟨_,_,_,z,_⟩
  ·exact z
  ·exfalso
   rw[PD z] at k0;cases k0
 have e5:ae (ug a kd md) 5=some (fP 0 a.K):=rfl;have d6:den (ae (ug a kd md)) (.sy 6)=some (.int .i64 (aG (aA a.ks))):=aj (i:=5) rfl (ax _ _);have d7:den (ae (ug a kd md)) (.sy 7)=some (.int .u8 kd):=aj (i:=6) rfl (ax _ _);have d8:den (ae (ug a kd md)) (.sy 8)=some (.int .u8 md):=aj (i:=7) rfl (ax _ _);have dl:den (ae (ug a kd md)) (.fn 20 (.sy 6))=some (.int .i64 a.ks.length):=by rw[bC d6];unfold aA;rw[gp]
 have oz:∀{t:Nat}{v:AV}{V:Value},(t,v)∈B4 (.i .i64 0) 12->pZ v=true->Rv (ae (ug a kd md)) v V->c.tmps.getD t undef=V:=fun {t v V} hm hex r=>by
  have r2:=st.regs t;rw[cK k1 t v hm] at r2;exact Rv.exact hle _ _ _ hex r r2
 obtain⟨L,eL,hz,oU,Vv⟩:=eB st.heap hle k2 (Is 5) (FI G (C:=ug a kd md) rfl rfl rfl);have Ah:w0.heap.size<=L.aH:=by
  rcases gC L.aH w0.heap.size with cL|ll
  ·exact(ci.iq L.aH cL ⟨12,L,by rw[ci.bM];omega,oU,eL,rfl⟩).elim
  ·exact ll
 have r5:=st.regs 5;rw[cK k1 5 (.p 12 0) (by unfold B4;simp),Rv] at r5;obtain⟨M,eM,r5⟩:=r5;rw[eL] at eM;cases eM;rw[hz] at r5;exact⟨hle,L.aH,{r0:=oz (t:=0) (v:=.x (.i .u8) (.sy 7)) (by unfold B4;simp) rfl (by rw[Rv];exact⟨d7,_,rfl,u7⟩),r1:=oz (t:=1) (v:=.x (.i .u8) (.sy 8)) (by unfold B4;simp) rfl (by rw[Rv];exact⟨d8,_,rfl,nM⟩),r5:=r5,r6:=oz (t:=6) (v:=.b false) (by unfold B4;simp) rfl (by rw[Rv]),r40:=oz (t:=40) (v:=I6 5 6) (by unfold B4;simp) rfl (kK G.keys G.fc e5 d6),r41:=oz (t:=41) (v:=xk 6) (by unfold B4;simp) rfl (by unfold xk;rw[Rv];exact⟨dl,_,rfl,by show(-9223372036854775808:Int)<=(a.ks.length:Int);omega,by show(a.ks.length:Int)<=9223372036854775807;omega⟩),r42:=oz (t:=42) (v:=.i .i64 0) (by unfold B4;simp) rfl (by rw[Rv];rfl),size:=st.size,defers:=st.defers,bJ:=ci.bJ,box:=Vv,lo:=Ah,il:=nzQ _}⟩
theorem ZY{kn kr:Vx.S}{kx:Nat->Vx.S}(hn:aS cl=[])(DG:a.ks.length<=1024)
  (hstep:∀i bo,i<a.ks.length->I i->∃(fs:aB)(kn' kr':Vx.S),Holds (ae (sF a kd md i bo)) fs∧jG cl X9 fs kn' (fun _=>fj) kr'=true∧(∀regs h n,kn' regs h n=true->qo regs h=true∧∀E,(ae (sF a kd md i bo)).le E->Holds E (au h)->I (i+1))∧∀regs h n,kr' regs h n=true->kr regs h n=true)
  (hend:∀i bo,a.ks.length<=i->i<=a.ks.length->I i->∃fs:aB,Holds (ae (sF a kd md i bo)) fs∧jG cl .gone fs fj kx kr=true):
  ∀(N i bo:Nat)(c:Act)(w:World),a.ks.length-i=N->IA w0 a kd md bo Tryz.f68.ntmps i c w->I i->
   Code.rounds P cl (@dG JC.qP (fun _=>False) w0 12 (Zf a kd md I) Tryz.f68.ntmps kn kx kr) (N+1) c w:=by
 letI J:JC:=JC.qP
 have aQ:bj P cF:=ZT;have cE:fz P dF:=ep mixed dv cF aQ;have out:∀{i bo:Nat}{c:Act}{w:World}{Kn Kr:Vx.S}{e:Exit}{c':Act}{w':World}{KX:Nat->Vx.S},(∀x regs h n,KX x regs h n=true->kx x regs h n=true)->(∀regs h n,Kr regs h n=true->kr regs h n=true)->e≠.normal->
   dG (fun _=>False) w0 12 (fun E h=>(ae (sF a kd md i bo)).le E∧T.get .gone h 11=uC∧i<=a.ks.length∧I i) Tryz.f68.ntmps Kn KX Kr e c' w'->dG (fun _=>False) w0 12 (Zf a kd md I) Tryz.f68.ntmps kn kx kr e c' w':=by
  intro i bo c w Kn Kr e c' w' KX O' hKr cR hl;obtain⟨E',av,h',n',dB,ci,hk⟩:=hl;refine⟨E',av,h',n',dB,⟨ci.bJ,ci.iq,ci.bM,fun E2 h2 hle oN=>.inr ⟨i,bo,ci.z E2 h2 hle oN⟩⟩,?_⟩;cases e with
  |normal=>exact absurd rfl cR
  |exit x=>exact O' _ _ _ _ hk
  |ret=>exact hKr _ _ _ hk
  |goto l=>exact hk.elim
  |panic l=>exact hk.elim
  |outgrown=>exact hk.elim
 intro N;induction N with
 |zero=>
  intro i bo c w hN hd hI;have uy:=hd.il;obtain⟨fs,dX,hB⟩:=hend i bo (by omega) uy hI;obtain⟨h1,he,st,ci⟩:=IB G u7 nM h0 hd (el:=.gone) (.inr rfl) dX (Zf:=fun E h=>(ae (sF a kd md i bo)).le E∧T.get .gone h 11=uC∧i<=a.ks.length∧I i) (fun E h q1 q2=>⟨q1,q2,uy,hI⟩) hB;rw[rounds_succ];refine wp_mono (kG aQ dv cE cl (fun l hl=>by rw[hn] at hl;cases hl) fj kx _ _ h1 12 c w he st ci) ?_
  intro e c' w' hl;cases e with
  |normal=>obtain⟨_,_,_,_,_,_,hk⟩:=hl;cases hk
  |_=>exact out (c:=c) (w:=w) (fun _ _ _ _ h=>h) (fun _ _ _ h=>h) (by intro h;cases h) hl
 |succ N ih=>
  intro i bo c w hN hd hI;have uy:=hd.il;have hi:i<a.ks.length:=by omega
  obtain⟨fs,kn',kr',dX,hA,hnx,hkr⟩:=hstep i bo hi hI;obtain⟨h1,he,st,ci⟩:=IB G u7 nM h0 hd (el:=X9) (.inl ⟨rfl,hi⟩) dX (Zf:=fun E h=>(ae (sF a kd md i bo)).le E∧T.get .gone h 11=uC∧i<=a.ks.length∧I i) (fun E h q1 q2=>⟨q1,q2,uy,hI⟩) hA;rw[rounds_succ];refine wp_mono (kG aQ dv cE cl (fun l hl=>by rw[hn] at hl;cases hl) kn' (fun _=>fj) _ _ h1 12 c w he st ci) ?_
  intro e c' w' hl;cases e with
  |normal=>
   obtain⟨E',av,h',n',dB,qE,hk⟩:=hl;obtain⟨z1,z2,_,_⟩:=qE.z E' h' (Env.le_refl _) fun _ _=>rfl
   obtain⟨q1,q2⟩:=hnx _ _ _ hk;exact ih (i+1) bo c' w' (by omega) (nextF G u7 nM h0 hd hi DG dB qE z1 z2 q1) (q2 E' z1 (aD dB.heap))
  |_=>exact out (c:=c) (w:=w) (KX:=fun _=>fj) (fun _ _ _ _ h=>by cases h) hkr (by intro h;cases h) hl
theorem Ue:HR (ae (ug a kd md)) hF0 12 w0:=by
 refine cX (C:=ug a kd md) rfl (show 12<=12 from by decide) (.dead _ _ fun a ha=>by obtain⟨_,_,rfl⟩:=bU.1 ha;rfl) (fun L hL=>?_) (show([]:List Nat).Nodup by simp)
 have s0:∀V,(aw V).aH<w0.heap.size:=fun V=>by rw[bH];omega
 have hk:=pF G.keys h0;unfold ug at hL;simp only[mcQ,mnQ,or_false] at hL;rcases hL with rfl|rfl|rfl|rfl|rfl|rfl|rfl|rfl|rfl|rfl|rfl<;>first|exact s0 _|assumption
theorem Uf{cd:Code}{J:Vx.S->(Nat->Vx.S)->Vx.S->Vx.S}{fin:AV->Heap->Bool}{Fin:Value->Prop}(hb:Tryz.f68.body=some cd)(hc:aS cd=[cl])(dX:Holds (ae (ug a kd md)) fs)
  (hk:bc (Nat.ble 3 Tryz.f68.ntmps) (bQ fs hF0 fun h=>zj P cF XT dF Tryz.f68.ntmps J cd (nG fin) (fun _=>fj) (nG fin) (gw [.x (.i .u8) (.sy 7),.x (.i .u8) (.sy 8),.ag (oL 5)] fc 0) h 12) false=true)
  (hJ:∀(kn:Vx.S)(kx:Nat->Vx.S)(E:Env)(regs:aI)(h:Heap)(n:Nat)(c:Act)(w:World),J kn kx (nG fin) regs h n=true->@Vx.St JC.qP [] E regs h n Tryz.f68.ntmps c w->jh (fun _=>False) w0 12 (Zf a kd md I) E h w->(Code.loop cl).wp P (@dG JC.qP (fun _=>False) w0 12 (Zf a kd md I) Tryz.f68.ntmps kn kx (nG fin)) c w)
  (KO:∀(E:Env)(h:Heap)(v:AV)(V:Value),Holds E (au h)->Zf a kd md I E h->Rv E v V->fin v h=true->Fin V):
  Calls P 68 #[.int .u8 kd,.int .u8 md,.agg (a.o.cells a.K).toArray] w0 fun e w'=>∃V,e=.returned V∧Below w0.heap.size w0 w'∧Fin V:=by
 letI Jc:JC:=JC.qP
 have aQ:bj P cF:=ZT;have cE:fz P dF:=ep mixed dv cF aQ;obtain⟨hle,hk⟩:=aa hk;obtain⟨h1,he,fw,fk⟩:=bZ hk (Ue G u7 nM h0) dX;have cG:bM hF0=12:=bX _ _;have d7:den (ae (ug a kd md)) (.sy 7)=some (.int .u8 kd):=aj (i:=6) rfl (ax _ _);have d8:den (ae (ug a kd md)) (.sy 8)=some (.int .u8 md):=aj (i:=7) rfl (ax _ _);have ra:aP (ae (ug a kd md)) [.x (.i .u8) (.sy 7),.x (.i .u8) (.sy 8),.ag (oL 5)] (#[.int .u8 kd,.int .u8 md,.agg (a.o.cells a.K).toArray]:Array Value).toList:=
  ad (by rw[Rv];exact⟨d7,_,rfl,u7⟩) (ad (by rw[Rv];exact⟨d8,_,rfl,nM⟩) (ad (by rw[Rv];exact⟨_,rfl,FI G (C:=ug a kd md) rfl rfl rfl⟩) aF))
 have mP:P.funcs[(68:Nat)]? =some Tryz.f68:=Tryz.func68;refine(SD aQ dv cE (ok:=fun _=>False) (F:=12) (Z:=Zf a kd md I) (Fin:=fun V _=>Fin V) mP hb ra (aU hle) fw trivial ⟨dH.refl _ _,fun k hk hf=>?_,fk.bM.trans cG,fun E' h' yL oN=>.inl ⟨yL,?_⟩⟩ (fun lc hl kn kx E regs h n c w hJ' st ci=>?_) he fun E h n w v V hr hj ci rv hf=>KO E h v V (aD hr) (ci.z E h (Env.le_refl _) fun _ _=>rfl) rv hf).mono ?_
 ·obtain⟨x,L,a1,a2,a3,rfl⟩:=hf
  rw[fk.live] at a2;obtain⟨j,b,rfl,g1,g2⟩:=bT (a:=.gone) a2;rw[fL] at g1;have hj:j<11:=by
   rcases gC j 11 with h|h
   ·exact h
   ·rw[List.getElem?_eq_none (by rw[ot];exact h)] at g1;cases g1
  rw[List.getElem?_range hj] at g1;cases g1;cases g2
 ·rw[oN 11 (by decide),fk.same 11 (.inr (.inr (.inl (by rw[cG];decide))))]
  kernel_rfl
 ·rw[hc] at hl
  obtain rfl:lc=cl:=by simpa using hl
  exact hJ kn kx E regs h n c w hJ' st ci
 ·rintro e w' ⟨V,rfl,hbt,hF⟩
  exact⟨V,rfl,{size:=hbt.size,block:=fun k hk=>hbt.same k hk fun h=>h,os:=hbt.os,output:=hbt.output,tape:=hbt.tape},hF⟩
end
theorem Yd{one:Bool}(h:Ua one=true):∃c cl,Tryz.f68.body=some c∧aS c=[cl]∧aS cl=[]∧bc (Nat.ble 3 Tryz.f68.ntmps) (bQ (Lu one) hF0 fun h=>zj P cF XT dF Tryz.f68.ntmps (JA one cl) c (nG (BJ one)) (fun _=>fj) (nG (BJ one)) (gw [.x (.i .u8) (.sy 7),.x (.i .u8) (.sy 8),.ag (oL 5)] fc 0) h 12) false=true:=by
 unfold Ua at h;split at h
 ·rename_i c hc
  split at h
  ·rename_i cl hl
   split at h
   ·rename_i hn;exact⟨c,cl,hc,hl,hn,h⟩
   ·cases h
  ·cases h
 ·cases h
theorem Ye{b:Bool}(h:Iy fs b=true):∃c cl,Tryz.f68.body=some c∧aS c=[cl]∧aS cl=[]∧bc (Nat.ble 3 Tryz.f68.ntmps) (bQ fs hF0 fun h=>zj P cF XT dF Tryz.f68.ntmps (JB fs cl) c (nG (PA b)) (fun _=>fj) (nG (PA b)) (gw [.x (.i .u8) (.sy 7),.x (.i .u8) (.sy 8),.ag (oL 5)] fc 0) h 12) false=true:=by
 unfold Iy at h;split at h
 ·rename_i c hc
  split at h
  ·rename_i cl hl
   split at h
   ·rename_i hn;exact⟨c,cl,hc,hl,hn,h⟩
   ·cases h
  ·cases h
 ·cases h
theorem ND(d:den E e=some (.string s)):den E (.cmp .eql e (.ls 0 0))=some (.bool (s.toList==(str 0 0).toList)):=by
 simp only[den,d,bu,zA,Option.map]
theorem NF(d:den E e=some (.string s)):den E (.len e)=some (.int .i64 s.size):=by simp only[den,d]
theorem DH{k:Ky}(d0:den E (.cD 200 (.sy 6) (.sy 9))=some (.string k.1))(d1:den E (.cD 201 (.sy 6) (.sy 9))=some (.int .i64 k.2)){s:Bool}(h:Holds E (T' s)):BK k:=by
 have a1:=h _ (List.mem_append_left _ (List.mem_cons_self));have a2:=h _ (List.mem_append_left _ (List.mem_cons_of_mem _ List.mem_cons_self));rw[az d1] at a1;rw[az (NF d0)] at a2;have a1:decide (k.2<=-1)=false:=by simpa using a1
 have a2:decide ((k.1.size:Int)<=4096)=true:=by simpa using a2
 have a1:=of_decide_eq_false a1;have a2:=gD a2;refine⟨by omega,a2,?_⟩;cases s with
 |false=>
  have a3:=h (.cmp .leq (.cD 201 (.sy 6) (.sy 9)) (.li .i64 0),true) (List.mem_append_right _ (List.mem_cons_self));rw[az d1] at a3;have a3:decide (k.2<=0)=true:=by simpa using a3
  exact .inl (gD a3)
 |true=>
  have a3:=h (.cmp .leq (.cD 201 (.sy 6) (.sy 9)) (.li .i64 0),false) (List.mem_append_right _ (List.mem_cons_self));have a4:=h (.cmp .eql (.cD 200 (.sy 6) (.sy 9)) (.ls 0 0),true) (List.mem_append_right _ (List.mem_cons_of_mem _ (List.mem_cons_self)));rw[az d1] at a3;rw[ND d0] at a4;have a3:decide (k.2<=0)=false:=by simpa using a3
  have a3:=of_decide_eq_false a3;have a4:(k.1.toList==(str 0 0).toList)=true:=Value.bool.inj (mL a4);exact .inr ⟨by omega,a4⟩
theorem PE{k:Ky}(d0:den E (.cD 200 (.sy 6) (.sy 9))=some (.string k.1))(d1:den E (.cD 201 (.sy 6) (.sy 9))=some (.int .i64 k.2))(h:BK k):∃s,Holds E (T' s):=by
 obtain⟨h1,h2,h3⟩:=h;have base:∀q,Holds E q->Holds E ([(.cmp .leq (.cD 201 (.sy 6) (.sy 9)) (.li .i64 (-1)),false),(.cmp .leq (.len (.cD 200 (.sy 6) (.sy 9))) (.li .i64 4096),true)]++q):=fun q hq=>
  ah ((az d1).trans (by rw[gM (by omega)])) (ah ((az (NF d0)).trans (by rw[eX h2])) hq)
 rcases h3 with h3|⟨h3,h4⟩
 ·exact⟨false,base _ (ah ((az d1).trans (by rw[eX h3])) holds_nil)⟩
 ·exact⟨true,base _ (ah ((az d1).trans (by rw[gM (by omega)])) (ah ((ND d0).trans (by rw[h4])) holds_nil))⟩
theorem IC(h1:C[0]? =some (aw (.int .i64 (aG (jU [a])))))(h6:C[5]? =some (aw (.int .i64 (aG (aA a.ks)))))(hle:(ae C).le E):E 1=ae (kS a) 1∧E 6=ae (kS a) 6:=
 ⟨hle 1 _ (show C[0]? =_ from h1),hle 6 _ (show C[5]? =_ from h6)⟩
theorem ID{one:Bool}(h:Holds (ae (kS a)) (Ln one++F2)):a.ks.length<=1024:=by
 have d6:den (ae (kS a)) (.sy 6)=some (.int .i64 (aG (aA a.ks))):=aj (i:=5) rfl (ax _ _);have dl:den (ae (kS a)) (.fn 20 (.sy 6))=some (.int .i64 a.ks.length):=by rw[bC d6];unfold aA;rw[gp]
 have q:=h (.cmp .leq (.fn 20 (.sy 6)) (.li .i64 1024),true) (List.mem_append_right _ (by unfold F2;simp));rw[az dl] at q;have q:decide ((a.ks.length:Int)<=1024)=true:=by simpa using q
 have:=gD q;omega
theorem wy.fr{one:Bool}(h:wy a one g):Holds (ae (kS a)) (Ln one++F2):=fun p hp=>h p (List.mem_append_right _ hp)
theorem wy.kind{one:Bool}(h:wy a one g):(one=true∧a.o.k=1)∨(one=false∧a.o.k=2):=by
 have d0:den (ae (kS a)) (aE 0)=some (.int .u8 a.o.k):=oC rfl 0 (.int .u8 a.o.k) rfl;cases one with
 |true=>
  have q:=h.fr (.cmp .eql (aE 0) (.li .u8 1),true) (List.mem_append_left _ (List.mem_cons_self));rw[bx d0] at q;have q:decide (a.o.k=1)=true:=by simpa using q
  exact .inl ⟨rfl,gD q⟩
 |false=>
  have q:=h.fr (.cmp .eql (aE 0) (.li .u8 2),true) (List.mem_append_left _ (List.mem_cons_of_mem _ List.mem_cons_self));rw[bx d0] at q;have q:decide (a.o.k=2)=true:=by simpa using q
  exact .inr ⟨rfl,gD q⟩
theorem wy.k8{one:Bool}(h:wy a one g):a.o.v.k<=8:=by
 have c:∀i V,a.o.syms[i]? =some V->den (ae (kS a)) (aE i)=some V:=oC rfl;have q:=h.fr (wv 1,true) (List.mem_append_right _ (by unfold F2;simp));have d:den (ae (kS a)) (wv 1)=some (.bool (gI a.o.v.k a.o.v.x a.o.v.s a.o.v.r)):=jc (c 1 (.int .u8 a.o.v.k) rfl) (c 2 (.float .f64 a.o.v.x) rfl) (c 3 (.string a.o.v.s) rfl) (c 4 (.int .i64 a.o.v.r) rfl);rw[d] at q;have q:gI a.o.v.k a.o.v.x a.o.v.s a.o.v.r=true:=by simpa using q
 unfold gI at q;simp only[Bool.and_eq_true] at q;exact gD q.1.1.1
theorem wy.may{one:Bool}(h:wy a one g):gI a.o.v.k a.o.v.x a.o.v.s a.o.v.r=true:=by
 have c:∀i V,a.o.syms[i]? =some V->den (ae (kS a)) (aE i)=some V:=oC rfl;have q:=h.fr (wv 1,true) (List.mem_append_right _ (by unfold F2;simp));have d:den (ae (kS a)) (wv 1)=some (.bool (gI a.o.v.k a.o.v.x a.o.v.s a.o.v.r)):=jc (c 1 (.int .u8 a.o.v.k) rfl) (c 2 (.float .f64 a.o.v.x) rfl) (c 3 (.string a.o.v.s) rfl) (c 4 (.int .i64 a.o.v.r) rfl);rw[d] at q;exact Value.bool.inj (mL q)
theorem Good.may(h:Good a):gI a.o.v.k a.o.v.x a.o.v.s a.o.v.r=true:=by
 obtain⟨_,one,g,_,h⟩:=h;exact h.may
theorem Good.len(h:Good a):a.ks.length<=1024:=by
 obtain⟨_,one,g,_,h⟩:=h;exact ID h.fr
theorem Good.k8(h:Good a):a.o.v.k<=8:=by
 obtain⟨_,one,g,_,h⟩:=h;exact h.k8
theorem Good.kind(h:Good a):a.o.k=1∨a.o.k=2:=by
 obtain⟨_,one,g,_,h⟩:=h;rcases h.kind with⟨_,h⟩|⟨_,h⟩
 ·exact .inl h
 ·exact .inr h
def uh(kd md:Int):Nat:=if kd=4 then 0 else if kd=3 then 1 else if kd=1 then(if md=13 then 2 else if md=1 then 3 else 4) else 5
def xQ(k:Int):Nat:=if 6<=k then 0 else if k=1 then 1 else 2
theorem Yf(kd md:Int):uh kd md<6:=by unfold uh;split<;>(try split)<;>(try split)<;>(try split)<;>(try split)<;>omega
theorem Yg(k:Int):xQ k<3:=by unfold xQ;split<;>(try split)<;>omega
theorem wF_ok(d7:den E (.sy 7)=some (.int .u8 kd))(d8:den E (.sy 8)=some (.int .u8 md)):Holds E (wF (uh kd md)):=by
 have y:∀{s:Nat}{z c:Int}{q:aB},den E (.sy s)=some (.int .u8 z)->z=c->Holds E q->Holds E ((.cmp .eql (.sy s) (.li .u8 c),true)::q):=fun d h hq=>ah ((bx d).trans (by rw[eX h])) hq
 have n:∀{s:Nat}{z c:Int}{q:aB},den E (.sy s)=some (.int .u8 z)->¬z=c->Holds E q->Holds E ((.cmp .eql (.sy s) (.li .u8 c),false)::q):=fun d h hq=>ah ((bx d).trans (by rw[gM h])) hq
 unfold uh;split
 ·exact y d7 ‹_› holds_nil
 ·split
  ·exact n d7 ‹_› (y d7 ‹_› holds_nil)
  ·split
   ·rename_i h1 h2 h3
    split
    ·exact n d7 h1 (n d7 h2 (y d7 h3 (y d8 ‹_› holds_nil)))
    ·rename_i h4
     split
     ·exact n d7 h1 (n d7 h2 (y d7 h3 (n d8 h4 (y d8 ‹_› holds_nil))))
     ·exact n d7 h1 (n d7 h2 (y d7 h3 (n d8 h4 (n d8 ‹_› holds_nil))))
   ·rename_i h1 h2 h3
    exact n d7 h1 (n d7 h2 (n d7 h3 holds_nil))
theorem vF_ok{k:Int}(d:den E (aE 1)=some (.int .u8 k))(h8:k<=8):Holds E (vF (xQ k)):=by
 unfold xQ;split
 ·exact ah ((az d).trans (by rw[gM (by omega)])) (ah ((az d).trans (by rw[eX h8])) holds_nil)
 ·split
  ·exact ah ((bx d).trans (by rw[eX ‹_›])) (ah ((az d).trans (by rw[eX (by omega)])) holds_nil)
  ·exact ah ((az d).trans (by rw[eX (by omega)])) (ah ((bx d).trans (by rw[gM ‹_›])) holds_nil)
def okW:SE->Bool
 |.cmp .eql (.sy n) (.li _ _)=>n==7||n==8
 |_=>false
theorem Yh(h7:E 7=E' 7)(h8:E 8=E' 8):∀e:SE,okW e=true->den E e=den E' e:=by
 intro e h;unfold okW at h;split at h
 ·simp only[Bool.or_eq_true,beq_iff_eq] at h
  simp only[den];rcases h with rfl|rfl
  ·rw[h7]
  ·rw[h8]
 ·cases h
theorem Yi(one:Bool)(g i v:Nat):∀p∈yW one g i v,Iz p.1=true∨okW p.1=true:=by
 intro p hp;unfold yW at hp;rcases List.mem_append.1 hp with hp|hp
 ·refine .inr ?_
  have:(wF i).all (fun p=>okW p.1)=true:=match i with
   |0=>rfl
   |1=>rfl
   |2=>rfl
   |3=>rfl
   |4=>rfl
   |n+5=>rfl
  exact Aad.1 this p hp
 ·refine .inl ?_
  rcases List.mem_append.1 hp with hp|hp
  ·have:Ub (vF v)=true:=match v with
    |0=>rfl
    |1=>rfl
    |n+2=>rfl
   exact Aad.1 this p hp
  ·exact Aad.1 (ZX one g) p hp
section
variable{w0:World}{a:An}{kd md:Int}(G:PB w0 a)(u7:0<=kd∧kd<=255)(nM:0<=md∧md<=255)(h0:0<w0.heap.size)
theorem FJ(hi:i<=1024):Holds (ae (sF a kd md i bo)) yV:=by
 have d9:den (ae (sF a kd md i bo)) (.sy 9)=some (.int .i64 i):=aj (i:=8) rfl (ax _ _);exact ah ((az d9).trans (by rw[eX (by omega)])) (ah ((az d9).trans (by rw[gM (by omega)])) holds_nil)
theorem NG{k:Ky}(hk:a.ks[i]? =some k):den (ae (sF a kd md i bo)) (.cD 200 (.sy 6) (.sy 9))=some (.string k.1)∧den (ae (sF a kd md i bo)) (.cD 201 (.sy 6) (.sy 9))=some (.int .i64 k.2):=by
 have d6:den (ae (sF a kd md i bo)) (.sy 6)=some (.int .i64 (aG (aA a.ks))):=aj (i:=5) rfl (ax _ _);have d9:den (ae (sF a kd md i bo)) (.sy 9)=some (.int .i64 i):=aj (i:=8) rfl (ax _ _);exact⟨iQ (c:=0) d6 d9 hk rfl (eV _),iQ (c:=1) d6 d9 hk rfl (ax _ _)⟩
theorem ZZ(hi:i<a.ks.length):Holds (ae (sF a kd md i bo)) ZV:=by
 have d6:den (ae (sF a kd md i bo)) (.sy 6)=some (.int .i64 (aG (aA a.ks))):=aj (i:=5) rfl (ax _ _);have d9:den (ae (sF a kd md i bo)) (.sy 9)=some (.int .i64 i):=aj (i:=8) rfl (ax _ _);have dl:den (ae (sF a kd md i bo)) (.fn 20 (.sy 6))=some (.int .i64 a.ks.length):=by rw[bC d6];unfold aA;rw[gp]
 exact ah ((lD d9 dl).trans (by rw[eX hi])) (ah ((gu dl d9).trans (by rw[gM (by omega)])) holds_nil)
theorem Ug(hle:(ae (sF a kd md i bo)).le E):(Holds E ZW↔a.ks.length<=i):=by
 have d6:den (ae (sF a kd md i bo)) (.sy 6)=some (.int .i64 (aG (aA a.ks))):=aj (i:=5) rfl (ax _ _);have d9:den (ae (sF a kd md i bo)) (.sy 9)=some (.int .i64 i):=aj (i:=8) rfl (ax _ _);have dl:den (ae (sF a kd md i bo)) (.fn 20 (.sy 6))=some (.int .i64 a.ks.length):=by rw[bC d6];unfold aA;rw[gp]
 have d:=an hle _ _ (gu dl d9);constructor
 ·intro h
  have q:=h _ List.mem_cons_self;rw[d] at q;have q:decide (a.ks.length<=i)=true:=by simpa using q
  exact gD q
 ·intro h
  exact ah (d.trans (by rw[eX h])) holds_nil
def okI(a:An)(one:Bool)(i:Nat):Prop:=Holds (ae (kS a)) (Ln one++F2)∧∀j,j<i->∀k,a.ks[j]? =some k->BK k
theorem okFr(one:Bool):Ub (Ln one++F2)=true:=by cases one<;>rfl
theorem okG(g:Nat):Ub (gF g)=true:=match g with
 |0=>rfl
 |1=>rfl
 |n+2=>rfl
include G u7 nM h0
theorem NH{one:Bool}(hA:Ua one=true)(xi:Holds (ae (ug a kd md)) (Lu one)):
  Calls P 68 #[.int .u8 kd,.int .u8 md,.agg (a.o.cells a.K).toArray] w0 fun e w'=>∃V,e=.returned V∧Below w0.heap.size w0 w'∧∃b,V=.bool b∧(b=true->Good a):=by
 obtain⟨c,cl,hc,hl,hn,hk⟩:=Yd hA;have fin1:∀{E:Env}{h:Heap},Holds E (au h)->Zf a kd md (okI a one) E h->bc (bc (wx h) (nT (au h) ZW) false) (Yb (au h)) false=true->Good a:=fun {E h} hf hz hq=>by
  obtain⟨q1,q3⟩:=aa hq;obtain⟨q1,q2⟩:=aa q1;rcases hz with⟨_,z⟩|⟨i,bo,hle,_,hi,hI1,hI2⟩
  ·rw[Uc z] at q1;cases q1
  ·have ll:=(Ug hle).1 (iz hf q2)
   obtain⟨e1,e6⟩:=IC (C:=sF a kd md i bo) rfl rfl hle;have mk:∀g,g<3->nT (au h) (gF g)=true->Good a:=fun g hg hh=>
    ⟨fun k hk=>by
     obtain⟨j,hj⟩:=List.getElem?_of_mem hk;have:=(bR.1 hj).1;exact hI2 j (by omega) k hj,one,g,hg,aJ (oB e1 e6 (okG g) (iz hf hh)) hI1⟩
   unfold Yb at q3;rcases aR q3 with⟨q,_⟩|⟨_,q3⟩
   ·exact mk 0 (by decide) q
   ·rcases aR q3 with⟨q,_⟩|⟨_,q⟩
    ·exact mk 1 (by decide) q
    ·exact mk 2 (by decide) q
 refine Uf G u7 nM h0 (I:=okI a one) hc hl xi hk ?_ ?_
 ·intro kn kx E regs h n c w hJ st ci
  have hJ:bc (bc (xP regs h) (nT (au h) (Ln one++F2)) false) (bc (jG cl X9 (ZV++(yV++(Ln one++F2))) (fun regs h _=>bc (qo regs h) (bc (nT (au h) (T' true)) true (nT (au h) (T' false))) false) (fun _=>fj) (nG (BJ one)))
   (jG cl .gone (ZW++(yV++(Ln one++F2))) fj kx (nG (BJ one))) false) false=true:=hJ
  obtain⟨j1,j2⟩:=aa hJ;obtain⟨j1,j3⟩:=aa j1;obtain⟨j4,j5⟩:=aa j2;obtain⟨hle,bo,hd⟩:=Ud G u7 nM h0 st ci j1;obtain⟨e1,e6⟩:=IC (C:=ug a kd md) rfl rfl hle;have HU:Holds (ae (kS a)) (Ln one++F2):=oB e1 e6 (okFr one) (iz (aD st.heap) j3);have DG:=ID HU;have tell:∀i bo,Holds (ae (sF a kd md i bo)) (Ln one++F2):=fun i bo=>oB (show ae (kS a) 1=ae (sF a kd md i bo) 1 from rfl) (show ae (kS a) 6=ae (sF a kd md i bo) 6 from rfl) (okFr one) HU
  refine wp_loop_rounds (a.ks.length-0+1) (ZY G u7 nM h0 (I:=okI a one) hn DG ?_ ?_ _ 0 bo c w rfl hd ⟨HU,fun j hj=>by omega⟩)
  ·intro i bo hi hI
   refine⟨_,_,_,aJ (ZZ hi) (aJ (FJ (by omega)) (tell i bo)),j4,?_,fun _ _ _ h=>h⟩;intro regs h n hq;obtain⟨q1,q2⟩:=aa hq;refine⟨q1,fun E hle hf=>⟨hI.1,fun j hj k hk=>?_⟩⟩;rcases gC j i with Q4|Q4
   ·exact hI.2 j Q4 k hk
   ·obtain rfl:j=i:=by omega
    obtain⟨d0,d1⟩:=NG (kd:=kd) (md:=md) (bo:=bo) hk;have d0:=an hle _ _ d0;have d1:=an hle _ _ d1;rcases aR q2 with⟨q,_⟩|⟨_,q⟩
    ·exact DH d0 d1 (iz hf q)
    ·exact DH d0 d1 (iz hf q)
  ·intro i bo hi BX hI
   exact⟨_,aJ ((Ug (Env.le_refl _)).2 hi) (aJ (FJ (by omega)) (tell i bo)),j5⟩
 ·intro E h v V hf hz rv hq
  unfold BJ at hq;split at hq
  ·rw[Rv] at rv;exact⟨false,rv,fun h=>by cases h⟩
  ·rw[Rv] at rv;exact⟨true,rv,fun _=>fin1 hf hz hq⟩
  ·rw[Rv] at rv
   obtain⟨_,b,rfl⟩:=rv;exact⟨b,rfl,fun _=>fin1 hf hz hq⟩
  ·cases hq
theorem fitYes:Calls P 68 #[.int .u8 kd,.int .u8 md,.agg (a.o.cells a.K).toArray] w0 fun e w'=>∃V,e=.returned V∧Below w0.heap.size w0 w'∧∃b,V=.bool b∧(b=true->Good a):=by
 have d0:den (ae (ug a kd md)) (aE 0)=some (.int .u8 a.o.k):=oC rfl 0 (.int .u8 a.o.k) rfl;by_cases h:a.o.k=1
 ·exact NH G u7 nM h0 fA_t (ah ((bx d0).trans (by rw[eX h])) holds_nil)
 ·exact NH G u7 nM h0 fA_f (ah ((bx d0).trans (by rw[gM h])) holds_nil)
theorem fitNot(hn:¬Good a):Calls P 68 #[.int .u8 kd,.int .u8 md,.agg (a.o.cells a.K).toArray] w0 fun e w'=>e=.returned (.bool false)∧Below w0.heap.size w0 w':=
 (fitYes G u7 nM h0).mono fun e w'⟨V,hV,hb,b,oH,hg⟩=>by
  subst hV;subst oH;cases b with
  |true=>exact absurd (hg rfl) hn
  |false=>exact⟨rfl,hb⟩
theorem Yj{one:Bool}{v:Nat}(hB:Iy (yW one g i v) (nF one i v)=true)(dX:Holds (ae (ug a kd md)) (yW one g i v))(DG:a.ks.length<=1024)(hkm:∀k∈a.ks,BK k):
  Calls P 68 #[.int .u8 kd,.int .u8 md,.agg (a.o.cells a.K).toArray] w0 fun e w'=>∃V,e=.returned V∧Below w0.heap.size w0 w'∧V=.bool (nF one i v):=by
 obtain⟨c,cl,hc,hl,hn,hk⟩:=Ye hB;refine Uf G u7 nM h0 (I:=fun _=>True) hc hl dX hk ?_ ?_
 ·intro kn kx E regs h n c w hJ st ci
  have hJ:bc (xP regs h) (bc (jG cl X9 (T' true++(ZV++(yV++yW one g i v))) (fun regs h _=>qo regs h) (fun _=>fj) fj) (bc (jG cl X9 (T' false++(ZV++(yV++yW one g i v))) (fun regs h _=>qo regs h) (fun _=>fj) fj) (jG cl .gone (ZW++(yV++yW one g i v)) fj kx (nG (PA (nF one i v)))) false) false) false=true:=hJ;obtain⟨j1,hJ⟩:=aa hJ;obtain⟨j2,hJ⟩:=aa hJ;obtain⟨j3,j4⟩:=aa hJ;obtain⟨hle,bo,hd⟩:=Ud G u7 nM h0 st ci j1;have tell:∀j bo,Holds (ae (sF a kd md j bo)) (yW one g i v):=fun j bo p hp=>by
   have q:=dX p hp;have ag:∀e:SE,Iz e=true∨okW e=true->den (ae (ug a kd md)) e=den (ae (sF a kd md j bo)) e:=fun e he=>by
    rcases he with he|he
    ·exact DF (show ae (ug a kd md) 1=ae (sF a kd md j bo) 1 from rfl) (show ae (ug a kd md) 6=ae (sF a kd md j bo) 6 from rfl) e he
    ·exact Yh (show ae (ug a kd md) 7=ae (sF a kd md j bo) 7 from rfl) (show ae (ug a kd md) 8=ae (sF a kd md j bo) 8 from rfl) e he
   rw[←ag p.1 (Yi one g i v p hp)];exact q
  refine wp_loop_rounds (a.ks.length-0+1) (ZY G u7 nM h0 (I:=fun _=>True) hn DG ?_ ?_ _ 0 bo c w rfl hd trivial)
  ·intro j bo hj _
   have hkj:a.ks[j]? =some a.ks[j]:=cN hj;obtain⟨d0,d1⟩:=NG (kd:=kd) (md:=md) (bo:=bo) hkj;obtain⟨s,hs⟩:=PE d0 d1 (hkm _ (List.getElem_mem hj));have hh:Holds (ae (sF a kd md j bo)) (T' s++(ZV++(yV++yW one g i v))):=aJ hs (aJ (ZZ hj) (aJ (FJ (by omega)) (tell j bo)));cases s with
   |true=>exact⟨_,_,_,hh,j2,fun _ _ _ hq=>⟨hq,fun _ _ _=>trivial⟩,fun _ _ _ hq=>by cases hq⟩
   |false=>exact⟨_,_,_,hh,j3,fun _ _ _ hq=>⟨hq,fun _ _ _=>trivial⟩,fun _ _ _ hq=>by cases hq⟩
  ·intro j bo hj oV _
   exact⟨_,aJ ((Ug (Env.le_refl _)).2 hj) (aJ (FJ (by omega)) (tell j bo)),j4⟩
 ·intro E h v' V hf hz rv hq
  unfold PA at hq;split at hq
  ·rw[Rv] at rv
   rename_i c;rw[rv];revert hq;cases c<;>cases nF one i v<;>intro hq<;>first|rfl|cases hq
  ·rename_i e
   rw[Rv] at rv;obtain⟨d,b,rfl⟩:=rv;obtain⟨d1,d2⟩:=aX hf d;revert hq;match hd:cr (au h) e with
   |0=>intro hq;cases hq
   |1=>intro hq;have:nF one i v=true:=hq;rw[this,d1 hd]
   |n+2=>
    intro hq;have:bc (nF one i v) false true=true:=hq;have hb:b=false:=d2 (by omega);rw[hb];revert this;cases nF one i v<;>intro this<;>first|rfl|cases this
  ·cases hq
theorem FK(hg:Good a):Calls P 68 #[.int .u8 kd,.int .u8 md,.agg (a.o.cells a.K).toArray] w0 fun e w'=>e=.returned (.bool (nF (decide (a.o.k=1)) (uh kd md) (xQ a.o.v.k)))∧Below w0.heap.size w0 w':=by
 have d7:den (ae (ug a kd md)) (.sy 7)=some (.int .u8 kd):=aj (i:=6) rfl (ax _ _);have d8:den (ae (ug a kd md)) (.sy 8)=some (.int .u8 md):=aj (i:=7) rfl (ax _ _);have d1:den (ae (ug a kd md)) (aE 1)=some (.int .u8 a.o.v.k):=oC rfl 1 (.int .u8 a.o.v.k) rfl;have hlen:=hg.len;have h8:=hg.k8;obtain⟨hkm,one,g,hg3,hG⟩:=hg;have xi:decide (a.o.k=1)=one:=by
  rcases hG.kind with⟨rfl,h⟩|⟨rfl,h⟩
  ·rw[h];rfl
  ·rw[h];rfl
 rw[xi];have hB:Lv one g=true:=by
  cases one
  ·match g,hg3 with
   |0,_=>exact fB_f0
   |1,_=>exact fB_f1
   |2,_=>exact fB_f2
  ·match g,hg3 with
   |0,_=>exact fB_t0
   |1,_=>exact fB_t1
   |2,_=>exact fB_t2
 have hB2:Iy (yW one g (uh kd md) (xQ a.o.v.k)) (nF one (uh kd md) (xQ a.o.v.k))=true:=
  Aad.1 (Aad.1 hB _ (List.mem_range.2 (Yf kd md))) _ (List.mem_range.2 (Yg a.o.v.k))
 have dX:Holds (ae (ug a kd md)) (yW one g (uh kd md) (xQ a.o.v.k)):=
  aJ (wF_ok d7 d8) (aJ (vF_ok d1 h8) (oB (show ae (kS a) 1=ae (ug a kd md) 1 from rfl) (show ae (kS a) 6=ae (ug a kd md) 6 from rfl) (ZX one g) hG))
 exact(Yj G u7 nM h0 hB2 dX hlen hkm).mono fun e w'⟨V,hV,hb,hV2⟩=>⟨by rw[hV,hV2],hb⟩
end
def Uh(a:An)(kd md:Int):Prop:=Good a∧nF (decide (a.o.k=1)) (uh kd md) (xQ a.o.v.k)=true
theorem Ui(h:Uh a kd md)(ok:a.o.ok)(mS:qT a.ks)(u7:0<=kd∧kd<=255)(nM:0<=md∧md<=255)(w:World)(h0:0<w.heap.size)(hk:ia w a.K a.ks):
  Calls P 68 #[.int .u8 kd,.int .u8 md,.agg (a.o.cells a.K).toArray] w fun e w'=>e=.returned (.bool true)∧Below w.heap.size w w':=by
 have G:PB w a:=⟨ok,hk,by have:=h.1.len;omega,mS⟩;have:=FK G u7 nM h0 h.1;rw[h.2] at this;exact this
theorem Yk(h:¬Uh a kd md)(ok:a.o.ok)(mS:qT a.ks)(fc:(a.ks.length:Int)<=9223372036854775807)(u7:0<=kd∧kd<=255)(nM:0<=md∧md<=255)(w:World)(h0:0<w.heap.size)(hk:ia w a.K a.ks):
  Calls P 68 #[.int .u8 kd,.int .u8 md,.agg (a.o.cells a.K).toArray] w fun e w'=>e=.returned (.bool false)∧Below w.heap.size w w':=by
 have G:PB w a:=⟨ok,hk,fc,mS⟩;by_cases hg:Good a
 ·have:=FK G u7 nM h0 hg
  rw[show nF (decide (a.o.k=1)) (uh kd md) (xQ a.o.v.k)=false by
   cases hw:nF (decide (a.o.k=1)) (uh kd md) (xQ a.o.v.k)
   ·rfl
   ·exact absurd ⟨hg,hw⟩ h] at this
  exact this
 ·exact fitNot G u7 nM h0 hg
theorem Good.fits(h:Good a)(ok:a.o.ok)(mS:qT a.ks):mH a:=fun w K k m h0 hk hkm hm=>by
 have h':Good ⟨a.o,a.ks,K⟩:=h;have G:PB w ⟨a.o,a.ks,K⟩:=⟨ok,.inl hk,by have:=h.len;show(a.ks.length:Int)<=_;omega,mS⟩;have u7:0<=k∧k<=255:=by omega
 have:=FK G u7 hm h0 h';have hw:nF (decide (a.o.k=1)) (uh k m) (xQ a.o.v.k)=true:=by
  have hc:uh k m=4∨uh k m=5:=by
   unfold uh;rcases hkm with rfl|⟨rfl,h1,h2⟩
   ·exact .inr rfl
   ·left;rw[if_neg (by decide),if_neg (by decide),if_pos rfl,if_neg h2,if_neg h1]
  rcases hc with hc|hc<;>rw[hc]<;>cases decide (a.o.k=1)<;>rfl
 have hw:nF (decide ((⟨a.o,a.ks,K⟩:An).o.k=1)) (uh k m) (xQ (⟨a.o,a.ks,K⟩:An).o.v.k)=true:=hw;rw[hw] at this;exact this
end
end Go.Proofs.YtngagklmbbogiaaGreatDoor.Ob
