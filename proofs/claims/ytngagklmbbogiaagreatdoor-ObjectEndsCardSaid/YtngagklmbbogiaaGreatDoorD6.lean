/- Parts of one proof (Ob74 to Ob79). No condition. -/
import Derived.Test.YtngagklmbbogiaaGreatDoorD5
set_option linter.all false
namespace Go.Proofs.YtngagklmbbogiaaGreatDoor.Ob
open Go Go.RowKit Vx
set_option maxRecDepth 100000
noncomputable section
variable{ans v:AV}{row:AV->Heap->Bool}{a:An}{arr:Array Value}{bg ov:Bool}{E E':Env}{g:FuncId}{h h':Heap}{kd md:Int}{R R' Rp:List An}{ks:List Ky}{l:List V4}{ab b ba bp cap cp k mb n ob p q qm r:Nat}{A V:Value}{w w':World}{call:aO}{lf:ct}{o:iB}
def Pu(fb ob:Nat):Value:=.func (.func 49) #[] #[.pointer (some ⟨fb,0,none⟩),.pointer (some ⟨ob,0,none⟩)]
def Ir(ab fb ob:Nat)(R:List An)(k:Nat):Prop:=(∃a∈R,cn a.K k)∨k=2∨k=ab∨k=fb∨k=ob
structure wK(w:World)(mb fb ob ab ba cap:Nat)(g:FuncId)(S:Value)(l:List V4)(R:List An)(A:Value)(kd md:Int)(bg ov:Bool):Prop where
 mc:cQ w mb 120 [Pu fb ob,A,.int .u8 kd,.int .u8 md,.bool bg,.bool ov]
 f:cQ w fb 94 [.func (.func g) #[] #[]]
 o:cQ w ob 22 [S]
 args:E7 w ab S l
 P7:∀v∈l,v.ok
 al:l.length<=64
 abs:ab<w.heap.size
 mh:fq w
 ans:∀(i:Nat)(a:An),R[i]? =some a->a.ok w ba i
 len:R.length<=40
 fits:∀(i:Nat)(a:An),R[i]? =some a->mH a
 row:(R=[]∧A=bO∧ba=mb)∨(A=.slice (some ⟨ba,0,none⟩) R.length cap∧ba≠mb∧R.length<=cap∧∃arr:Array Value,w.heap[ba]? =some (.cells arr 36 (0,0))∧cap*26<=arr.size)
 apart:∀k,Ir ab fb ob R k->k≠mb∧k≠ba
 kk:∀k,((∃a∈R,cn a.K k)∨k=2∨k=ab)->k≠fb∧k≠ob
 nfo:fb≠ob
 XU:∀a∈R,∀b,cn a.K b->b≠ab
 P8:2≠ab
 ZJ:0<=kd∧kd<=255
 ZK:0<=md∧md<=255
theorem wK.ZM{fb:Nat}{S:Value}(M:wK w mb fb ob ab ba cap g S l R A kd md bg ov):mb<w.heap.size:=M.mc.lt
theorem wK.wJ{fb:Nat}{S:Value}(M:wK w mb fb ob ab ba cap g S l R A kd md bg ov):ba<w.heap.size:=by
 rcases M.row with⟨_,_,rfl⟩|⟨_,_,_,arr,h,_⟩
 ·exact M.ZM
 ·exact(cW.1 h).1
theorem wK.klt{fb:Nat}{S:Value}(M:wK w mb fb ob ab ba cap g S l R A kd md bg ov)(h:Ir ab fb ob R k):k<w.heap.size:=by
 rcases h with⟨a,ha,hb⟩|rfl|rfl|rfl|rfl
 ·obtain⟨i,hi⟩:=List.getElem?_of_mem ha
  obtain⟨off,n',c',hK⟩:=hb;rcases(M.ans i a hi).keys with⟨h1,_⟩|⟨b,tX,bz,arr,el,fr,h1,h2,_⟩
  ·rw[hK] at h1;cases h1
  ·rw[hK] at h1;cases h1
   exact(cW.1 h2).1
 ·exact M.mh.lt
 ·exact M.abs
 ·exact M.f.lt
 ·exact M.o.lt
structure Giv(w:World)(mb ba:Nat)(a:An):Prop where
 o:a.o.ok
 keys:ia w a.K a.ks
 fc:(a.ks.length:Int)<=9223372036854775807
 mS:qT a.ks
 apart:∀b,HM a.K b->b≠mb∧b≠ba
def XV(V:Value):List (Nat×Nat):=match V with
 |.bool b=>[(if b then 1 else 0,0),(0,0),(0,0)]
 |.slice none _ _=>[]
 |.slice (some ⟨b,off,none⟩) n c=>[(b,off),(n,c)]
 |V=>[yN V]
theorem Pv(h:jk V):zC (XV V)=V:=by
 rcases h with⟨x,rfl⟩|⟨x,rfl⟩|⟨k,x,rfl⟩
 ·exact gz (lN _)
 ·exact gz (eV _)
 ·exact gz (ax _ _)
theorem XW(b:Bool):zC (XV (.bool b))=.bool b:=by cases b<;>rfl
def xI(a:An):List (List (Nat×Nat)):=(a.o.cells a.K).map XV
def sK(R:List An):List (List (Nat×Nat)):=R.flatMap xI
def sN(mb fb ob ba cap n:Nat)(kd md:Int)(q qm:Nat)(R:List An)(a:An):List aZ:=
 [aw (.int .i64 (aG (jU [a]))),aw (.int .i64 n),⟨fb,0,0⟩,⟨ob,0,0⟩,fP mb a.K,aw (.int .i64 (aG (aA a.ks))),aw (.int .u8 kd),aw (.int .u8 md),⟨mb,0,0⟩,aw (.int .u8 q),aw (.int .u8 qm),
  ⟨mb,0,0⟩,⟨mb,0,0⟩,aw (.int .i64 (aG (sK R))),⟨mb,0,0⟩,⟨mb,0,0⟩,⟨mb,0,0⟩,⟨mb,0,0⟩,⟨mb,0,0⟩,⟨mb,0,0⟩,⟨ba,0,cap⟩]
theorem ia.same{K:Value}{l:List Ky}(h:ia w K l)(hb:∀b,HM K b->w'.heap[b]? =w.heap[b]?):ia w' K l:=by
 rcases h.cases with⟨h1,h2,_⟩|⟨h1,a,h2,_⟩|⟨b,off,cap,arr,el,fr,h1,h2,h3,h4,h5,_⟩
 ·exact .inl (.inl ⟨h1,h2⟩)
 ·exact .inr ⟨h1,a,h2⟩
 ·exact .inl (.inr ⟨b,off,cap,arr,el,fr,h1,by rw[hb b h5];exact h2,h3,h4⟩)
theorem ia.lt{K:Value}{l:List Ky}(h:ia w K l)(hk:HM K k):k<w.heap.size:=by
 obtain⟨tX,n',c',e,hz⟩:=hk;rcases h.cases with⟨h1,h2,_⟩|⟨h1,a,h2,_⟩|⟨b,off,cap,arr,el,fr,h1,h2,h3,h4,h5,_⟩
 ·rw[e] at h1;cases h1
 ·rw[e] at h2;cases h2;exact absurd ⟨rfl,rfl⟩ hz
 ·rw[e] at h1;cases h1
  exact(cW.1 h2).1
theorem pF{K:Value}{l:List Ky}(h:ia w K l)(hs:bp<w.heap.size):(fP bp K).aH<w.heap.size:=by
 rcases h.cases with⟨_,_,h⟩|⟨_,a,_,h⟩|⟨b,off,cap,arr,el,fr,h1,h2,h3,h4,h5,h⟩
 ·rw[h];exact hs
 ·rw[h];exact hs
 ·rw[h];exact(cW.1 h2).1
theorem kK{K:Value}{id S:Nat}(hk:ia w K ks)(hl:(ks.length:Int)<=9223372036854775807)(e:E id=some (fP bp K))(d:den E (.sy S)=some (.int .i64 (aG (aA ks)))):Rv E (I6 id S) K:=by
 unfold I6;rw[Rv];have dl:=bC d;have kz:(aA ks).length=ks.length:=by unfold aA;rw[gp]
 rw[kz] at dl;rcases hk.cases with⟨rfl,rfl,hg⟩|⟨rfl,a,rfl,hg⟩|⟨b,off,cap,arr,el,fr,hK,h2,h3,h4,h5,hg⟩
 ·exact⟨⟨bp,0,0⟩,0,e,dl,by omega,fun _=>rfl,rfl⟩
 ·rw[hg] at e
  exact⟨⟨bp,tQ a,0⟩,0,e,dl,by omega,fun _=>rfl,by rw[if_pos rfl,zB]⟩
 ·rw[hg] at e
  rw[hK];exact⟨⟨b,off,cap+1⟩,ks.length,e,dl,by omega,fun h=>absurd (show cap+1=0 from h) (by omega),by show _=(if cap+1=0 then _ else _);rw[if_neg (by omega)];rfl⟩
structure pG(E:Env)(mb fb ob:Nat)(a:An)(kd md:Int):Prop where
 d1:den E (.sy 1)=some (.int .i64 (aG (jU [a])))
 e3:E 3=some ⟨fb,0,0⟩
 e4:E 4=some ⟨ob,0,0⟩
 e5:E 5=some (fP mb a.K)
 d6:den E (.sy 6)=some (.int .i64 (aG (aA a.ks)))
 d7:den E (.sy 7)=some (.int .u8 kd)
 d8:den E (.sy 8)=some (.int .u8 md)
theorem pG.wide{fb:Nat}(h:pG E mb fb ob a kd md)(hle:E.le E'):pG E' mb fb ob a kd md:=
 ⟨an hle _ _ h.d1,hle _ _ h.e3,hle _ _ h.e4,hle _ _ h.e5,an hle _ _ h.d6,an hle _ _ h.d7,an hle _ _ h.d8⟩
theorem pG.cell{fb:Nat}(h:pG E mb fb ob a kd md):∀i V,a.o.syms[i]? =some V->den E (jv (zi 0) i)=some V:=fun i V hi=>by
 have BX:=(bR.1 hi).1;exact eI h.d1 (m:=0) rfl (by rfl) (by rw[iA BX];exact hi) (gO a.o V (gq hi))
theorem pG.out{fb:Nat}(h:pG E mb fb ob a kd md)(ok:a.o.ok){K:Value}(rk:Rv E (.sz p (.fn 20 (.sy 6))) K):aP E (oL p) (a.o.cells K):=gP ok rk h.cell
theorem Is(p:Nat):F0 (oL p)=true:=by kernel_rfl
theorem oL_23(p:Nat):cV (oL p) 23=.sz p (.fn 20 (.sy 6)):=rfl
theorem pG.ib{fb:Nat}(h:pG E mb fb ob a kd md)(ok:a.o.ok){vs:List Value}(r:aP E (oL p) vs):vs=a.o.cells (vs.getD 23 undef)∧Rv E (.sz p (.fn 20 (.sy 6))) (vs.getD 23 undef):=by
 have EZ:=r.nth 23;rw[oL_23] at EZ;exact⟨aP.exact (Env.le_refl E) _ _ _ (Is p) (h.out ok EZ) r,EZ⟩
section
variable{E0:Env}{w0:World}{mb fb ob ab ba:Nat}{R:List An}{a:An}{kd md:Int}(hT:pG E0 mb fb ob a kd md)(hG:Giv w0 mb ba a)(h0:0<w0.heap.size)
def cZ(ab fb ob:Nat)(R:List An)(a:An)(k:Nat):Prop:=Ir ab fb ob R k∨HM a.K k
include hT hG h0
theorem ZN(hj:bL E0 w0 (cZ ab fb ob R a) E h w):ia w a.K a.ks:=hG.keys.same fun b hb=>(hj.2.2 b (.inr hb)).1
theorem Nv{b:Bool}(rU:∀w:World,0<w.heap.size->ia w a.K a.ks->Calls P 68 #[.int .u8 kd,.int .u8 md,.agg (a.o.cells a.K).toArray] w fun e w'=>e=.returned (.bool b)∧Below w.heap.size w w')(hk:0<=kd∧kd<=255)(hm:0<=md∧md<=255):
  @gL (KJ E0 w0 (cZ ab fb ob R a)) P 68 (XR b):=by
 intro args ARGS E h n w k he ra hr hj;have hj:bL E0 w0 (cZ ab fb ob R a) E h w:=hj;unfold XR at he;split at he<;>try (cases he;done)
 rename_i kA mA l;obtain⟨h1,heF⟩:=aa he;clear he;obtain⟨h1,h2⟩:=aa h1;obtain⟨h2,h3⟩:=aa h2;have h1:=bV h1;have h2:=bV h2;have h3:=bb h3;subst h1 h2 h3;have hw:=ZN hT hG h0 hj;have XX:=hT.wide hj.1;have r0:aP E0 [.x (.i .u8) (.sy 7),.x (.i .u8) (.sy 8),.ag (oL 5)] (#[.int .u8 kd,.int .u8 md,.agg (a.o.cells a.K).toArray]:Array Value).toList:=
  ad (by rw[Rv];exact⟨hT.d7,_,rfl,hk.1,hk.2⟩) (ad (by rw[Rv];exact⟨hT.d8,_,rfl,hm.1,hm.2⟩) (ad (by rw[Rv];exact⟨_,rfl,hT.out hG.o (kK hG.keys hG.fc hT.e5 hT.d6)⟩) aF))
 have hex:F0 [.x (.i .u8) (.sy 7),.x (.i .u8) (.sy 8),.ag (oL 5)]=true:=by kernel_rfl
 have hA:=Array.ext' (aP.exact hj.1 _ _ _ hex r0 ra);rw[hA];refine(rU w (dV h0 hj.2.1) hw).mono ?_;rintro ed w' ⟨rfl,hb⟩;exact .inl ⟨_,rfl,.b b,h,n,E,by rw[Rv],hr.below hb,bk.below hb,heF⟩
theorem It(hl:a.ks.length<=1024):@gL (KJ E0 w0 (cZ ab fb ob R a)) P 69 Ns:=by
 intro args ARGS E h n w k he ra hr hj;have hj:bL E0 w0 (cZ ab fb ob R a) E h w:=hj;unfold Ns at he;split at he<;>try (cases he;done)
 rename_i l;split at he<;>try (cases he;done)
 rename_i p Vq hp;obtain⟨h1,heF⟩:=aa he;clear he;obtain⟨h1,h2⟩:=aa h1;obtain⟨h2,h3⟩:=aa h2;have h1:=bb h1;subst h1;have h2:=aU h2;obtain⟨V,hA,rx⟩:=ra.one;have hA:ARGS=#[V]:=by apply Array.ext';simpa using hA
 subst hA;rw[Rv] at rx;obtain⟨vs,rfl,rl⟩:=rx;have XX:=hT.wide hj.1;obtain⟨qY,rk⟩:=XX.ib hG.o rl;have hk:ia w (vs.getD 23 undef) a.ks:=by
  rcases aR h3 with⟨h4,_⟩|⟨_,h4⟩
  ·have h4:=aN h4
   subst h4;have:=Rv.exact hj.1 _ _ _ (by rfl) (kK hG.keys hG.fc hT.e5 hT.d6) rk;rw[this];exact ZN hT hG h0 hj
  ·obtain⟨h5,h6⟩:=aa h4
   have h5:=aU h5;unfold oJ at h6;split at h6<;>try (cases h6;done)
   rename_i g c t hg;have h6:g=3000001+10*6:=aN h6;obtain rfl:g=3000000+10*6+1:=by omega
   have dU:=hr.obj p;rw[hg] at dU;exact .inl (lB (S:=6) dU (by omega) (by decide) (fun c hc=>by have:=mL (hc.symm.trans XX.d6);injection this) rk).1
 have hs:0<w.heap.size:=dV h0 hj.2.1;rw[T.bh,aC] at heF;rw[qY];refine(twin hG.o hk hl hs).mono ?_;rintro ed w' ⟨hb,⟨K',rfl,lA,HU⟩,jb,E4,WR,WS,O4,KK⟩;obtain⟨L2,q1,q2,q3⟩:=pt lA HU O4 KK hl;have e1:Vx.br E n L2 n=some L2:=by unfold Vx.br;rw[if_pos rfl]
 have hle:E.le (Vx.br E n L2):=eW (hr.fresh n (nrQ _));have hT2:=XX.wide hle;obtain⟨q4,q5⟩:=q3 _ 6 n (by decide) (by omega) e1 hT2.d6;obtain⟨jF,g2⟩:=HR.HW hr hb q1 q2 q4;exact .inl ⟨_,rfl,_,_,n+1,_,by rw[Rv];exact⟨_,rfl,hT2.out hG.o q5⟩,jF,g2,heF⟩
end
theorem TY[JC]{g:FuncId}{C D:Ct}(hC:gL P g C)(hD:gL P g D):gL P g (orK C D):=by
 intro args ARGS E h n w k he ra hr hj;rcases aR he with⟨he,_⟩|⟨_,he⟩
 ·exact hC _ ARGS E h n w k he ra hr hj
 ·exact hD _ ARGS E h n w k he ra hr hj
theorem Lk{K:Value}(h:V∈o.cells K):jk V∨(∃b,V=.bool b)∨V=K:=by
 simp only[iB.cells,V4.cells,List.cons_append,List.nil_append,mcQ,mnQ,or_false] at h
 rcases h with rfl|rfl|rfl|rfl|rfl|rfl|rfl|rfl|rfl|rfl|rfl|rfl|rfl|rfl|rfl|rfl|rfl|rfl|rfl|rfl|rfl|rfl|rfl|rfl|rfl|rfl<;>
  first|exact .inl (ax _ _)|exact .inl (lN _)|exact .inl (eV _)|exact .inr (.inl ⟨_,rfl⟩)|exact .inr (.inr rfl)
theorem TZ{K:Value}(hk:fE w K ks)(h:V∈o.cells K):zC (XV V)=V:=by
 rcases Lk h with h|⟨b,rfl⟩|rfl
 ·exact Pv h
 ·exact XW b
 ·rcases hk with⟨rfl,_⟩|⟨b,off,cap,arr,el,fr,rfl,_⟩
  ·rfl
  ·rfl
theorem uY(a:An):(xI a).length=26:=rfl
theorem xJ:∀R:List An,(sK R).length=26*R.length
 |[]=>rfl
 |a::R=>by
  show(xI a++sK R).length=_;rw[List.length_append,uY,xJ R,List.length_cons];omega
theorem xK{w:World}{ba:Nat}:∀{R:List An}{k i:Nat}{x:An}{c:Nat},(∀(i:Nat)(x:An),R[i]? =some x->x.ok w ba (k+i))->R[i]? =some x->c<26->zC ((sK R).getD (26*i+c) [])=(x.o.cells x.K).getD c undef
 |[],_,_,_,_,_,h,_=>by cases h
 |a::R,k,0,x,c,kQ,h,hc=>by
  cases h
  show zC ((xI a++sK R).getD (26*0+c) [])=_;have hl:=uY a;rw[cB,iA (by omega),show 26*0+c=c by omega];unfold xI;rw[fL];have I9:(a.o.cells a.K).length=26:=rfl;rw[cB,cN (by omega)];exact TZ (kQ 0 a rfl).keys (List.getElem_mem (by omega))
 |a::R,k,i+1,x,c,kQ,h,hc=>by
  show zC ((xI a++sK R).getD (26*(i+1)+c) [])=_;have hl:=uY a;rw[cB,zE (by omega),hl,show 26*(i+1)+c-26=26*i+c by omega,←cB];exact xK (k:=k+1) (fun j y hj=>by have:=kQ (j+1) y hj;rw[show k+(j+1)=k+1+j by omega] at this;exact this) h hc
structure Iu(E:Env)(R:List An):Prop where
 d2:den E (.sy 2)=some (.int .i64 R.length)
 d14:den E (.sy 14)=some (.int .i64 (aG (sK R)))
theorem Iu.wide(h:Iu E R)(hle:E.le E'):Iu E' R:=⟨an hle _ _ h.d2,an hle _ _ h.d14⟩
structure XY(w:World)(E:Env)(h:Heap)(V:Value)(R:List An)(a:An)(r p b cap:Nat)(K:Value)(arr:Array Value):Prop where
 v:V=.slice (some ⟨b,0,none⟩) (R.length+1) cap
 er:∃L,E r=some L∧L.aH=b
 lr:(T.get .gone h r).live=true
 r22:22<=r
 nr:∀c,T.get .gone h r≠.cells 89 BZ c
 hb:w.heap[b]? =some (.cells arr 36 (0,0))
 cp:R.length+1<=cap
 sz:cap*26<=arr.size
 old:∀(i:Nat)(x:An),R[i]? =some x->∀c,c<26->arr.getD (26*i+c) undef=(x.o.cells x.K).getD c undef
 new:∀c,c<26->arr.getD (26*R.length+c) undef=(a.o.cells K).getD c undef
 keys:fE w K a.ks
 kb:∀b,cn K b->∃L,E p=some L∧L.aH=b
 lp:(T.get .gone h p).live=true
 p22:22<=p
 np:∀c,T.get .gone h p≠.cells 89 BZ c
 rp:r≠p
section
variable{E:Env}{mb fb ob:Nat}{a:An}{kd md:Int}(hT:pG E mb fb ob a kd md)(ok:a.o.ok){h:Heap}{n:Nat}{w:World}(hr:HR E h n w)
include hT ok hr
theorem Iv{l:List AV}{off:Nat}(he:Nt l h=true)(rl:∀j x,l[j]? =some x->Rv E x (arr.getD (off+j) undef)):
  ∃p K,l.length=26∧22<=p∧T.get .gone h p≠.gone∧(∃c t,T.get .gone h p=.glob 3000061 c t)∧(∀c,c<26->arr.getD (off+c) undef=(a.o.cells K).getD c undef)∧fE w K a.ks∧∀b,cn K b->∃L,E p=some L∧L.aH=b:=by
 unfold Nt at he;split at he<;>try (cases he;done)
 rename_i p e hp;obtain⟨h1,he⟩:=aa he;obtain⟨h2,he⟩:=aa he;obtain⟨h3,h4⟩:=aa he;have h1:=bb h1;subst h1;have h2:=aU h2;have h3:=aU h3;unfold oJ at h4;split at h4<;>try (cases h4;done)
 rename_i g c t hg;have h4:g=3000001+10*6:=aN h4;obtain rfl:g=3000000+10*6+1:=by omega
 have dU:=hr.obj p;rw[hg] at dU;have l26:(oL p).length=26:=rfl;have rv:=Fq (oL p) 0 (fun j=>arr.getD (off+j) undef) fun j x hj=>by rw[Nat.zero_add];exact rl j x hj
 obtain⟨qY,rk⟩:=hT.ib ok rv;have hk:=(lB (S:=6) dU (by omega) (by decide) (fun c hc=>by have:=mL (hc.symm.trans hT.d6);injection this) rk).1;refine⟨p,_,l26,h3,(fun e=>by rw[hg] at e;cases e),⟨c,t,hg⟩,fun c hc=>?_,hk,fun b hb=>uU (S:=6) dU (by omega) (by decide) rk hb⟩;rw[←qY,l26,cB,fL,List.getElem?_range' hc];simp
theorem Pw(he:DE v h=true)(rv:Rv E v V):∃r p b cap K arr,XY w E h V [] a r p b cap K arr:=by
 unfold DE at he;split at he<;>try (cases he;done)
 rename_i r;obtain⟨h1,he⟩:=aa he;have h1:=aU h1;split at he<;>try (cases he;done)
 rename_i c hc;obtain⟨L,arr,el,eL,hb,cC,dr,dz⟩:=hr.cells hc;have fo:el=36:=dr.2.1 _ rfl;have gi:L.base=0:=dr.2.2 rfl;obtain⟨hz1,WH⟩:=dr.1 (by decide);subst fo;rw[Rv] at rv;obtain⟨L',qM,rfl,hu⟩:=rv;rw[eL] at qM;cases qM;have rl:∀j x,((List.range 26).map fun j=>c.get j)[j]? =some x->Rv E x (arr.getD (0+j) undef):=fun j x hj=>by
  have hj26:j<26:=by have:=(bR.1 hj).1;rw[gp,ot] at this;exact this
  rw[fL,List.getElem?_range hj26] at hj;cases hj
  have:=dz j hj26;rw[gi] at this;exact this
 obtain⟨p,K,_,p22,pg,⟨gc,gt,hg⟩,GN,hk,I4⟩:=Iv hT ok hr he rl;have z:26<=L.room*26:=WH;have sz:L.room*26<=arr.size:=by
  have:L.base+L.room*26<=arr.size:=hz1;rw[gi,Nat.zero_add] at this;exact this
 refine⟨r,p,L.aH,L.room,K,arr,⟨(by rw[gi];rfl),⟨L,eL,rfl⟩,(by rw[hc];rfl),h1,(fun c' e=>by rw[hc] at e;injection e with e;cases e),hb,(by show 0+1<=L.room;omega),sz,(fun i x hx=>by cases hx),(fun c hc=>by show arr.getD (26*0+c) undef=_;rw[show 26*0+c=0+c by omega];exact GN c hc),hk,I4,(by rw[hg];rfl),p22,(fun c' e=>by rw[hg] at e;cases e),(fun e=>by rw[←e,hc] at hg;cases hg)⟩⟩
theorem Ll{w0:World}(hR:Iu E R)(kQ:∀(i:Nat)(x:An),R[i]? =some x->x.ok w0 ba i)(hl:R.length<=39)(he:xD v h=true)(rv:Rv E v V):∃r p b cap K arr,XY w E h V R a r p b cap K arr:=by
 unfold xD at he;split at he<;>try (cases he;done)
 rename_i r e;obtain⟨g1,gR⟩:=aa he;clear he;obtain⟨g2,g3⟩:=aa g1;have h1:=aU g2;have q3:=cq g3;subst q3;split at gR<;>try (cases gR;done)
 rename_i l e2 hc;obtain⟨g4,heO⟩:=aa gR;have q4:=cq g4;subst q4;have im:=hr.obj r;rw[hc] at im;obtain⟨L,arr,N,eL,gi,hb,dN,hNr,cC,c0,dS,qZ,YO,dz⟩:=im;have dR:den E (.cD 4 (.sy 2) (.li .i64 1))=some (.int .i64 (R.length+1:Nat)):=qh hR.d2 (by omega);obtain rfl:N=R.length+1:=by have:=mL (dN.symm.trans dR);injection this with _ this;omega
 have hc0':c0=sK R:=by
  have:=mL (dS.symm.trans hR.d14);injection this with _ this
  exact oZ (by omega)
 subst hc0';have hlen:=xJ R;rw[Rv] at rv;obtain⟨L',N',qM,dN',_,hNr',rfl⟩:=rv;rw[eL] at qM;cases qM;obtain rfl:N'=R.length+1:=by have:=mL (dN'.symm.trans dR);injection this with _ this;omega
 obtain⟨p,K,l26,p22,pg,⟨gc,gt,hg⟩,GN,hk,I4⟩:=Iv hT ok hr (off:=(sK R).length) heO dz;refine⟨r,p,L.aH,L.room,K,arr,⟨(by rw[gi]),⟨L,eL,rfl⟩,(by rw[hc];rfl),h1,(fun c' e=>by rw[hc] at e;cases e),hb,hNr,cC,fun i x hx c XZ=>?_,fun c XZ=>?_,hk,I4,(by rw[hg];rfl),p22,(fun c' e=>by rw[hg] at e;cases e),(fun e=>by rw[←e,hc] at hg;cases hg)⟩⟩
 ·have hi:=(bR.1 hx).1
  rw[YO (26*i+c) (by omega)];exact xK (k:=0) (w:=w0) (ba:=ba) (fun i x hx=>by rw[Nat.zero_add];exact kQ i x hx) hx XZ
 ·rw[←hlen];exact GN c XZ
end
def kR(R R':List An):Prop:=R.map (fun a=>(a.o,a.ks))=R'.map fun a=>(a.o,a.ks)
theorem kR.len(h:kR R R'):R.length=R'.length:=by have:=congrArg List.length h;rwa [gp,gp] at this
theorem kR.at(h:kR R R'){m:Nat}{x:An}(hx:R'[m]? =some x):∃y,R[m]? =some y∧y.o=x.o∧y.ks=x.ks:=by
 have e:(R.map (fun a=>(a.o,a.ks)))[m]? =(R'.map fun a=>(a.o,a.ks))[m]?:=congrArg (fun l=>l[m]?) (show R.map (fun a=>(a.o,a.ks))=R'.map fun a=>(a.o,a.ks) from h);rw[fL,fL,hx] at e;cases hy:R[m]? with
 |none=>rw[hy] at e;cases e
 |some y=>
  rw[hy] at e;simp only[Option.map_some] at e;injection e with e
  injection e with e1 e2
  exact⟨y,rfl,e1,e2⟩
structure X2(w:World)(ab fb ob:Nat)(E:Env)(h:Heap)(V:Value)(R':List An)(gn bz:Nat):Prop where
 ans:∀(i:Nat)(x:An),R'[i]? =some x->x.ok w gn i
 fits:∀(i:Nat)(x:An),R'[i]? =some x->mH x
 len:R'.length<=40
 row:(V=.slice (some ⟨gn,0,none⟩) R'.length bz)∨(R'=[]∧V=bO)
 wJ:gn<w.heap.size
 nab:gn≠ab
 nfb:gn≠fb
 nob:gn≠ob
 XU:∀x∈R',∀b,cn x.K b->b≠ab∧b≠fb∧b≠ob
 live:∀i L c,T.get .gone h i=.cells 89 BZ c->22<=i->E i=some L->gn≠L.aH∧∀x∈R',∀b,cn x.K b->b≠L.aH
section
variable{E0:Env}{w0:World}{mb fb ob ab ba cap:Nat}{g:FuncId}{S:Value}{l:List V4}{R:List An}{A:Value}{a:An}{kd md:Int}{bg ov:Bool}(M:wK w0 mb fb ob ab ba cap g S l R A kd md bg ov)(hT:pG E0 mb fb ob a kd md)(Qc:E0 20=some ⟨mb,0,0⟩)
include M
theorem Iw(hr:HR E h n w)(hj:bL E0 w0 (cZ ab fb ob R a) E h w)(hm:lY h=true)(Qc:E0 20=some ⟨mb,0,0⟩)(hV:V=bO):X2 w ab fb ob E h V [] mb 0:=by
 have k1:=M.apart ab (.inr (.inr (.inl rfl)));have k2:=M.apart fb (.inr (.inr (.inr (.inl rfl))));have k3:=M.apart ob (.inr (.inr (.inr (.inr rfl))));have hl20:(T.get .gone h 20).live=true:=by
  unfold lY at hm;split at hm
  ·rename_i q;rw[q];rfl
  ·cases hm
 refine⟨fun i x hx=>(by cases hx),fun i x hx=>(by cases hx),nzQ _,.inr ⟨rfl,hV⟩,dV M.ZM hj.2.1,k1.1.symm,k2.1.symm,k3.1.symm,fun x hx=>(by cases hx),fun i L c hi h22 eL=>⟨fun e=>?_,fun x hx=>(by cases hx)⟩⟩;have:=hr.inj 20 i ⟨mb,0,0⟩ L hl20 (by rw[hi];rfl) (hj.1 _ _ Qc) eL e;omega
theorem X3{K:Value}(hr:HR E h n w)(hj:bL E0 w0 (cZ ab fb ob R a) E h w)(hl:R.length<=39)(ok:a.o.ok)(ha:a.ks.length<=1024)(mS:qT a.ks)(k8:a.o.v.k<=8)(hf:mH a)
  (q:XY w E h V R a r p b cp K arr):X2 w ab fb ob E h V (R++[⟨a.o,a.ks,K⟩]) b cp:=by
 obtain⟨Lr,eLr,rfl⟩:=q.er;have T3:∀k,cZ ab fb ob R a k->Lr.aH≠k:=fun k hk=>(hj.2.2 k hk).2.2 r Lr q.lr eLr
 have same:∀k,cZ ab fb ob R a k->w.heap[k]? =w0.heap[k]?:=fun k hk=>(hj.2.2 k hk).1
 have hb:=q.hb;have cpz:=q.cp;have sz:=q.sz;have hm26:∀i,i<R.length+1->26*(i+1)<=arr.size:=fun i hi=>by omega
 have get:∀i x,(R++[⟨a.o,a.ks,K⟩])[i]? =some x->(i<R.length∧R[i]? =some x)∨(i=R.length∧x=⟨a.o,a.ks,K⟩):=fun i x hx=>by
  rcases gC i R.length with h|h
  ·rw[iA h] at hx;exact .inl ⟨h,hx⟩
  ·rw[zE h] at hx
   have:i-R.length<1:=(bR.1 hx).1;obtain rfl:i=R.length:=by omega
   rw[Nat.sub_self] at hx;cases hx
   exact .inr ⟨rfl,rfl⟩
 have X4:∀k,cn K k->k≠Lr.aH∧(∀j,cZ ab fb ob R a j->k≠j):=fun k hk=>by
  obtain⟨Lp,ZO,rfl⟩:=q.kb k hk;exact⟨fun e=>q.rp (hr.inj r p Lr Lp q.lr q.lp eLr ZO e.symm),fun j gQ=>(hj.2.2 j gQ).2.2 p Lp q.lp ZO⟩
 refine⟨fun i x hx=>?_,fun i x hx=>?_,by rw[List.length_append];show R.length+1<=40;omega,.inl (by rw[q.v,List.length_append];rfl),(cW.1 hb).1,T3 ab (.inl (.inr (.inr (.inl rfl)))),T3 fb (.inl (.inr (.inr (.inr (.inl rfl))))),T3 ob (.inl (.inr (.inr (.inr (.inr rfl))))),fun x hx=>?_,fun i L c hi h22 eL=>⟨fun e=>?_,fun x hx k hk e=>?_⟩⟩
 ·rcases get i x hx with⟨hi,hx⟩|⟨rfl,rfl⟩
  ·have X:=M.ans i x hx
   have yT:=gq hx;exact⟨X.o,⟨arr,36,(0,0),hb,hm26 i (by omega),q.old i x hx⟩,X.keys.same fun k hk=>same k (.inl (.inl ⟨x,yT,hk⟩)),X.len,fun k hk=>(T3 k (.inl (.inl ⟨x,yT,hk⟩))).symm,X.mS,X.k8⟩
  ·exact⟨ok,⟨arr,36,(0,0),hb,hm26 _ (by omega),q.new⟩,q.keys,ha,fun k hk=>(X4 k hk).1,mS,k8⟩
 ·rcases get i x hx with⟨hi,hx⟩|⟨rfl,rfl⟩
  ·exact M.fits i x hx
  ·exact hf
 ·rcases List.mem_append.1 hx with hx|hx
  ·exact fun k hk=>⟨M.XU x hx k hk,M.kk k (.inl ⟨x,hx,hk⟩)⟩
  ·obtain rfl:x=⟨a.o,a.ks,K⟩:=by simpa using hx
   exact fun k hk=>⟨(X4 k hk).2 ab (.inl (.inr (.inr (.inl rfl)))),(X4 k hk).2 fb (.inl (.inr (.inr (.inr (.inl rfl))))),(X4 k hk).2 ob (.inl (.inr (.inr (.inr (.inr rfl)))))⟩
 ·have:=hr.inj r i Lr L q.lr (by rw[hi];rfl) eLr eL e
  subst this;exact q.nr c hi
 ·rcases List.mem_append.1 hx with hx|hx
  ·exact(hj.2.2 k (.inl (.inl ⟨x,hx,hk⟩))).2.2 i L (by rw[hi];rfl) eL e.symm
  ·obtain rfl:x=⟨a.o,a.ks,K⟩:=by simpa using hx
   obtain⟨Lp,ZO,rfl⟩:=q.kb k hk;have:=hr.inj p i Lp L q.lp (by rw[hi];rfl) ZO eL e;subst this;exact q.np c hi
inductive BG(E0:Env)(Rp:List An)(a:An):qX->ct->Prop
 |wait {q qm:Nat} (dq:den E0 (.sy 10)=some (.int .u8 (q:Nat))) (dm:den E0 (.sy 11)=some (.int .u8 (qm:Nat))) (hq:q<=255) (hm:qm<=255):BG E0 Rp a .wait (.wait q qm)
 |done:BG E0 Rp a .done .done
 |fail {er l x:Nat}:BG E0 Rp a (.fail er l x) (.fail er l x)
 |ans {m:Nat} {x:An} (hx:Rp[m]? =some x) (ho:x.o=a.o) (hk:x.ks=a.ks):BG E0 Rp a .ans (.ans m)
include hT
theorem Nw{cls:qX}(ok:a.o.ok)(ha:a.ks.length<=1024)(Cw:BG E0 Rp a cls lf)
  (qU:∀{E:Env}{h:Heap}{n:Nat}{w:World}{v:AV}{V:Value},HR E h n w->bL E0 w0 (cZ ab fb ob R a) E h w->lY h=true->row v h=true->Rv E v V->∃R' gn bz,X2 w ab fb ob E h V R' gn bz∧kR R' Rp)
  (law:∀{w:World}{bp gn bz:Nat}{R':List An}{V:Value},kR R' Rp->St w bp gn bz ab R' V S l->BF w bp gn ab R' fb ob g S->Calls P 49 #[.pointer (some ⟨bp,0,none⟩),.pointer (some ⟨fb,0,none⟩),.pointer (some ⟨ob,0,none⟩)] w fun e w'=>∃V,e=.returned V∧qS bp w w'∧cU R' w.heap.size bp V w' lf):
  @gL (KJ E0 w0 (cZ ab fb ob R a)) P 49 (runK row cls):=by
 intro args ARGS E h n w k he ra hr hj;have hj:bL E0 w0 (cZ ab fb ob R a) E h w:=hj;have XX:=hT.wide hj.1;unfold runK at he;split at he<;>try (cases he;done)
 rename_i id;split at he<;>try (cases he;done)
 rename_i m89 gB c hc;obtain⟨a1,Bl⟩:=aa he;clear he;obtain⟨a1,a2⟩:=aa a1;obtain⟨b1,b2⟩:=aa a1;obtain⟨a2,a3⟩:=aa a2;obtain⟨c1,c2⟩:=aa a2;obtain⟨c1,c4⟩:=aa c1;obtain⟨c2,c5⟩:=aa c2;obtain⟨c3,b7⟩:=aa a3;rw[kW] at b7;have b1:=aN b1;have b2:=sf b2;have c1:=aU c1;have c4:=aU c4;subst b1 b2;have bD:(T.get .gone h id).live=true:=by rw[hc];rfl
 obtain⟨L,bn,el,eL,hb,cC,dr,dz⟩:=hr.cells hc;have fo:el=124:=dr.2.1 _ rfl;subst fo;have gi:L.base=0:=dr.2.2 rfl;obtain⟨bp,Lb,Lr⟩:=L;have gi:Lb=0:=gi;subst gi;have hb:w.heap[bp]? =some (.cells bn 124 (0,0)):=hb;have cC:0+89<=bn.size:=cC;have hbpw:bp<w.heap.size:=(cW.1 hb).1;have u6:Rv E (c.get 0) (bn.getD 0 undef):=dz 0 (by decide);have pV:Rv E (c.get 1) (bn.getD 1 undef):=dz 1 (by decide);have hM0:bn.getD 1 undef=.int .i64 0:=by
  unfold Xi at c3;split at c3<;>try (cases c3;done)
  rename_i q;rw[q,Rv] at pV;exact pV
 obtain⟨jI,he⟩:=gU Bl;clear Bl;have xi:∀j,j<87->(bn.getD (j+2) undef).oneCell'=true∧(bn.getD (j+2) undef).cells=#[bn.getD (j+2) undef]:=fun j hj=>by
  have oV:Rv E (c.get (j+2)) (bn.getD (0+(j+2)) undef):=dz (j+2) (by omega);rw[Nat.zero_add] at oV;exact bY (cM b7 _ (bU.2 ⟨j+2,List.mem_range'_1.2 ⟨by omega,by omega⟩,rfl⟩)) oV
 have hA:ARGS=#[.pointer (some ⟨bp,0,none⟩),.pointer (some ⟨fb,0,none⟩),.pointer (some ⟨ob,0,none⟩)]:=by
  refine Array.ext' ?_;obtain⟨V1,us,e1,r1,ra2⟩:∃V us,ARGS.toList=V::us∧Rv E (.p id 0) V∧aP E [.p 3 0,.p 4 0] us:=by rw[aP] at ra;obtain⟨V,us,h1,h2,h3⟩:=ra;exact⟨V,us,h1,h2,h3⟩
  obtain⟨V2,V3,e2,r2,r3⟩:=ra2.two;rw[Rv] at r1 r2 r3;obtain⟨L1,f1,rfl⟩:=r1;obtain⟨L2,f2,rfl⟩:=r2;obtain⟨L3,f3,rfl⟩:=r3;rw[eL] at f1;cases f1;rw[XX.e3] at f2;cases f2;rw[XX.e4] at f3;cases f3;rw[e1,e2]
 subst hA;obtain⟨R',gn,bz,q,jm⟩:=qU hr hj c5 c2 u6;have same:∀k,cZ ab fb ob R a k->w.heap[k]? =w0.heap[k]?:=fun k hk=>(hj.2.2 k hk).1
 have T3:∀k,cZ ab fb ob R a k->bp≠k:=fun k hk=>(hj.2.2 k hk).2.2 id _ bD eL
 have ql:=q.live id _ c hc c4 eL;have hsz0:=hj.2.1;have Mabs:=M.abs;have s1:St w bp gn bz ab R' (bn.getD 0 undef) S l:=by
  refine⟨⟨_,bn,hb,by omega,rfl,hM0,xi,fun _ _=>rfl⟩,q.ans,q.len,q.fits,q.row,q.wJ,by omega,ql.1,q.nab,(T3 ab (.inl (.inr (.inr (.inl rfl))))).symm,fun x hx k hk=>⟨ql.2 x hx k hk,(q.XU x hx k hk).1⟩,?_,M.P7,M.al,M.mh.same (same _ (.inl (.inr (.inl rfl)))),(T3 _ (.inl (.inr (.inl rfl)))).symm,M.P8⟩;rcases M.args with h|⟨arr,el,fr,c,h1,h2,h3⟩
  ·exact .inl h
  ·exact .inr ⟨arr,el,fr,c,h1,by rw[same ab (.inl (.inr (.inr (.inl rfl))))];exact h2,h3⟩
 have B:BF w bp gn ab R' fb ob g S:=by
  refine⟨M.f.same (same fb (.inl (.inr (.inr (.inr (.inl rfl)))))),M.o.same (same ob (.inl (.inr (.inr (.inr (.inr rfl)))))),M.nfo,(T3 fb (.inl (.inr (.inr (.inr (.inl rfl)))))).symm,(T3 ob (.inl (.inr (.inr (.inr (.inr rfl)))))).symm,fun k hk=>?_⟩;rcases hk with(rfl|⟨x,hx,hb⟩|rfl)|rfl
  ·exact⟨q.nfb,q.nob⟩
  ·exact⟨(q.XU x hx k hb).2.1,(q.XU x hx k hb).2.2⟩
  ·exact M.kk _ (.inr (.inl rfl))
  ·exact M.kk _ (.inr (.inr rfl))
 refine(law jm s1 B).mono ?_;rintro e w' ⟨V,rfl,fH,kI⟩;have vQ:0<w'.heap.size:=by have:=fH.size;omega
 have BB:∀{ao:AO},ao.live=true->RO E w' id ao->HR E (T.set ao h id) n w'∧bk E h w E (T.set ao h id) w':=fun hl dU=>HR.Bf hr bD hl eL fH.size fH.same dU fH.os fH.output fH.tape jI
 have H9:HR E (T.set .gone h id) n w'∧bk E h w E (T.set .gone h id) w':=HR.drop hr bD eL fH.size fH.same fH.os fH.output fH.tape jI
 suffices To:∃v h' n' E',Rv E' v V∧HR E' h' n' w'∧bk E h w E' h' w'∧k v h' n'=true by
  obtain⟨v,h',n',E',q1,q2,q3,q4⟩:=To;exact .inl ⟨V,rfl,v,h',n',E',q1,q2,q3,q4⟩
 cases Cw with
 | @wait qk qm dq dm hq hm=>
   have dq:=an hj.1 _ _ dq;have dm:=an hj.1 _ _ dm;obtain⟨rfl,arr,g1,g2,g3,g4,g5⟩:=kI;have he:tV ([.no,.no,.x (.i .u8) (.sy 10),.x (.i .u8) (.sy 11)]++di 85) id h (fun h1=>k (.ag jL) h1 n)=true:=he;unfold tV at he;rw[jn,T.bh] at he;have dU:RO E w' id (.cells 89 BZ (fu ([.no,.no,.x (.i .u8) (.sy 10),.x (.i .u8) (.sy 11)]++di 85) ⟨89,fZ⟩ 0)):=by
    refine Fs (l:=[.no,.no,.x (.i .u8) (.sy 10),.x (.i .u8) (.sy 11)]) eL rfl rfl g1 g2 g5 rfl (by show 2<=4;omega) fun j a hj=>?_
    have hj4:j<4:=(bR.1 hj).1;match j,hj4,hj with
    |0,_,hj=>cases hj;simp[Rv]
    |1,_,hj=>cases hj;simp[Rv]
    |2,_,hj=>cases hj;rw[g3,Rv];exact⟨dq,_,rfl,by show(0:Int)<=(qk:Int);omega,by show(qk:Int)<=255;omega⟩
    |3,_,hj=>cases hj;rw[g4,Rv];exact⟨dm,_,rfl,by show(0:Int)<=(qm:Int);omega,by show(qm:Int)<=255;omega⟩
   obtain⟨jF,H8⟩:=BB rfl dU;exact⟨.ag jL,_,n,E,by rw[Rv];exact⟨_,rfl,eZ⟩,jF,H8,he⟩
 |done=>
  obtain⟨o,ho,ho1,rfl⟩:=kI;have he:T.dj .gone h id (fun h1=>aM (Nat.add n 25) fun n1=>k (.ag (.i .u8 1::List.drop 1 (je n .sn))) h1 n1)=true:=he;rw[T.bh,aC] at he;obtain⟨jF,H8⟩:=H9;obtain⟨ZB,g4'⟩:=HR.Sd vQ o.syms jF;rw[nq] at ZB;refine⟨.ag (.i .u8 1::List.drop 1 (je n .sn)),_,n+25,_,?_,ZB,H8.trans g4',he⟩;have r0:aP (Bd E n o.syms) (je n .sn) (o.cells bO):=uT ho (by rw[Rv];rfl) fun i V hi=>tp vQ o.syms jF (fun U hU=>gO o U hU) i V hi
  rw[Rv];refine⟨o.cells bO,rfl,?_⟩;have e0:je n .sn=.x (.i .u8) (.sy n)::List.drop 1 (je n .sn):=rfl;rw[e0,aP] at r0;obtain⟨V0,us,h1,_,h2⟩:=r0;have h3:o.cells bO=.int .u8 o.k::us:=by
   have:(o.cells bO).head? =some V0:=by rw[h1];rfl
   have h4:(o.cells bO).head? =some (.int .u8 o.k):=rfl;rw[h4] at this;cases this
   exact h1
  rw[h3,ho1];exact ad (by rw[Rv]) h2
 | @fail er l x=>
   have hV:V=.agg ((ou er l x).cells bO).toArray:=kI;subst hV;have he:T.dj .gone h id (fun h1=>k (.ag (jw er l x)) h1 n)=true:=he;rw[T.bh] at he;obtain⟨jF,H8⟩:=H9;exact⟨.ag (jw er l x),_,n,E,by rw[Rv];exact⟨_,rfl,xz _ _ _⟩,jF,H8,he⟩
 | @ans m x hx ho qR=>
   obtain⟨a',K',L6,rfl,lA,HU,⟨jb,E4,WR,WS,O4,KK⟩,carr,cel,qZ⟩:=kI;obtain⟨y,hy,hyo,hyk⟩:=jm.at hx;rw[hy] at L6;cases L6;rw[hyk,qR] at lA;rw[hyo,ho];have he:T.dj Tt h id (fun h1=>aM (Nat.succ n) fun n1=>T.dj (.glob 3000061 0 fc) h1 n1 fun h2=>aM (Nat.add n 2) fun n2=>k (.ag (oL n1)) h2 n2)=true:=he;rw[T.bh,aC,T.bh,aC] at he;obtain⟨L2,Oj,oH,Tp⟩:=pt lA HU O4 KK ha;have cod:jk (Value.int .i64 (aG (aA a.ks))):=ax _ _;have e1:Vx.br (df E n (.int .i64 (aG (aA a.ks)))) (n+1) L2 (n+1)=some L2:=by unfold Vx.br;rw[if_pos rfl]
   have dU:RO E w' id Tt:=⟨⟨bp,0,Lr⟩,carr,cel,eL,qZ,nzQ _,nV.DS _ _ _ _,fun j hj=>absurd hj (Nat.not_lt_zero _)⟩;have lenE:E.le (Vx.br (df E n (.int .i64 (aG (aA a.ks)))) (n+1) L2):=by
    refine Env.le_trans (B:=df E n (.int .i64 (aG (aA a.ks)))) ?_ (eW (by unfold df;rw[if_neg (by omega)];exact hr.fresh (n+1) (by omega)));exact eW (hr.fresh n (nrQ _))
   obtain⟨q3,q4⟩:=Tp _ 6 (n+1) (by decide) (by omega) e1 (an lenE _ _ XX.d6);obtain⟨jF,g2⟩:=HR.tv hr bD rfl eL fH dU jI (V:=.int .i64 (aG (aA a.ks))) Oj oH (a:=.glob (3000000+10*6+1) 0 fc) q3;exact⟨_,_,n+2,_,by rw[Rv];exact⟨_,rfl,(XX.wide lenE).out ok q4⟩,jF,g2,he⟩
end
structure Ja(V:Value)(ws:List Value)(e:Int):Prop where
 v:V=.tuple #[.agg ws.toArray,.int .i64 e]
 len:ws.length=87
 one:∀U∈ws,One U
theorem BH{e:Int}{k:List AV->Bool}(he:Ip v e k=true)(rv:Rv E v V):∃l ws,k l=true∧aP E l ws∧Ja V ws e:=by
 unfold Ip at he;split at he<;>try (cases he;done)
 rename_i l x;obtain⟨h1,hk⟩:=aa he;obtain⟨h1,h2⟩:=aa h1;obtain⟨h2,h3⟩:=aa h2;have h1:=bV h1;have h2:=aN h2;subst h1;rw[Rv] at rv;obtain⟨vs,rfl,rl⟩:=rv;obtain⟨V1,V2,e2,r1,r2⟩:=rl.two;subst e2;rw[Rv] at r1;rw[Rv] at r2;obtain⟨ws,rfl,P5⟩:=r1;subst r2;have hl:=P5.length;refine⟨l,ws,hk,P5,⟨rfl,by omega,fun U hU=>?_⟩⟩;obtain⟨j,hj⟩:=List.getElem?_of_mem hU;have y8:=(bR.1 hj).1;have r:=P5.nth j;have hx:l[j]? =some (cV l j):=by
  have:j<l.length:=by omega
  rw[ff,cB,cN this];rfl
 have e:ws.getD j undef=U:=by rw[cB,hj];rfl
 rw[e] at r;exact bY (cM h3 _ (gq hx)) r
theorem qn{fb:Nat}:pG (ae (sN mb fb ob ba cap n kd md q qm R a)) mb fb ob a kd md:=
 ⟨aj (i:=0) rfl (ax _ _),rfl,rfl,rfl,aj (i:=5) rfl (ax _ _),aj (i:=6) rfl (ax _ _),aj (i:=7) rfl (ax _ _)⟩
theorem Ix{ml:List AV}{b:AO}{i:Nat}(hb:((List.range 19).map (fun _=>AO.gone)++[Nu ml,.gone])[i]? =some b)(hl:b.live=true):i=19:=by
 have hi:i<21:=(bR.1 hb).1;rcases gC i 19 with h|h
 ·exfalso
  rw[iA (by rw[gp,ot];exact h),fL,List.getElem?_range h] at hb;cases hb;cases hl
 ·have h2:i=19∨i=20:=by omega
  rcases h2 with rfl|rfl
  ·rfl
  ·cases hb;cases hl
section
variable{w:World}{mb fb ob ab ba cap:Nat}{g:FuncId}{S:Value}{l:List V4}{R:List An}{A:Value}{kd md:Int}{bg ov:Bool}(M:wK w mb fb ob ab ba cap g S l R A kd md bg ov){a:An}(G:Giv w mb ba a)
include M G
theorem ZP:∀L∈sN mb fb ob ba cap R.length kd md q qm R a,L.aH<w.heap.size:=by
 intro L hL;have hm:=M.ZM;have hb:=M.wJ;have hf:=M.f.lt;have ho:=M.o.lt;have s0:∀V,(aw V).aH<w.heap.size:=fun V=>by rw[bH];omega
 have hk:(fP mb a.K).aH<w.heap.size:=pF G.keys hm;unfold sN at hL;simp only[mcQ,mnQ,or_false] at hL;rcases hL with rfl|rfl|rfl|rfl|rfl|rfl|rfl|rfl|rfl|rfl|rfl|rfl|rfl|rfl|rfl|rfl|rfl|rfl|rfl|rfl|rfl<;>first|exact s0 _|assumption
theorem Nx(hl:∀i L,(T.get .gone h i).live=true->ae (sN mb fb ob ba cap R.length kd md q qm R a) i=some L->L.aH=mb∨L.aH=ba):bL (ae (sN mb fb ob ba cap R.length kd md q qm R a)) w (cZ ab fb ob R a) (ae (sN mb fb ob ba cap R.length kd md q qm R a)) h w:=by
 refine⟨Env.le_refl _,nrQ _,fun k hk=>⟨rfl,?_,fun i L h1 h2 e=>?_⟩⟩
 ·rcases hk with hk|hk
  ·exact M.klt hk
  ·exact G.keys.lt hk
 ·have cR:k≠mb∧k≠ba:=by
   rcases hk with hk|hk
   ·exact M.apart k hk
   ·exact G.apart k hk
  rcases hl i L h1 h2 with h|h
  ·exact cR.1 (e.symm.trans h)
  ·exact cR.2 (e.symm.trans h)
theorem Ny(rA:Rv (ae (sN mb fb ob ba cap R.length kd md q qm R a)) ans A):aP (ae (sN mb fb ob ba cap R.length kd md q qm R a)) (jz ans kN mN bg ov) [Pu fb ob,A,.int .u8 kd,.int .u8 md,.bool bg,.bool ov]:=by
 have t:=qn (mb:=mb) (fb:=fb) (ob:=ob) (ba:=ba) (cap:=cap) (n:=R.length) (q:=q) (qm:=qm) (kd:=kd) (md:=md) (R:=R) (a:=a);refine ad ?_ (ad rA (ad ?_ (ad ?_ (ad (by rw[Rv]) (ad (by rw[Rv]) aF)))))
 ·rw[Rv]
  exact⟨[],[.pointer (some ⟨fb,0,none⟩),.pointer (some ⟨ob,0,none⟩)],rfl,aF,ad (by rw[Rv];exact⟨⟨fb,0,0⟩,rfl,rfl⟩) (ad (by rw[Rv];exact⟨⟨ob,0,0⟩,rfl,rfl⟩) aF)⟩
 ·unfold kN;rw[Rv];exact⟨t.d7,_,rfl,M.ZJ⟩
 ·unfold mN;rw[Rv];exact⟨t.d8,_,rfl,M.ZK⟩
theorem argN:aP (ae (sN mb fb ob ba cap R.length kd md q qm R a)) [.p 20 0,.ag (oL 5)] (#[.pointer (some ⟨mb,0,none⟩),.agg (a.o.cells a.K).toArray]:Array Value).toList:=by
 have t:=qn (mb:=mb) (fb:=fb) (ob:=ob) (ba:=ba) (cap:=cap) (n:=R.length) (q:=q) (qm:=qm) (kd:=kd) (md:=md) (R:=R) (a:=a);exact ad (by rw[Rv];exact⟨⟨mb,0,0⟩,rfl,rfl⟩) (ad (by rw[Rv];exact⟨_,rfl,t.out G.o (kK G.keys G.fc t.e5 t.d6)⟩) aF)
theorem ZQ:(R=[]∧A=bO∧ba=mb∧Rv (ae (sN mb fb ob ba cap R.length kd md q qm R a)) .sn A)∨(ba≠mb∧Rv (ae (sN mb fb ob ba cap R.length kd md q qm R a)) (.sr 21 (.sy 2)) A):=by
 have d2:den (ae (sN mb fb ob ba cap R.length kd md q qm R a)) (.sy 2)=some (.int .i64 R.length):=aj (i:=1) rfl (ax _ _);have hl:=M.len;rcases M.row with⟨h1,h2,h3⟩|⟨h1,h2,h3,_⟩
 ·exact .inl ⟨h1,h2,h3,by rw[h2,Rv];rfl⟩
 ·refine .inr ⟨h2,?_⟩
  rw[h1,Rv];exact⟨⟨ba,0,cap⟩,R.length,rfl,d2,by omega,h3,rfl⟩
theorem T4(hl:R.length<=39):Holds (ae (sN mb fb ob ba cap R.length kd md q qm R a)) fSt:=by
 have d2:den (ae (sN mb fb ob ba cap R.length kd md q qm R a)) (.sy 2)=some (.int .i64 R.length):=aj (i:=1) rfl (ax _ _);exact ah ((az d2).trans (by rw[eX (by omega)])) (ah ((az d2).trans (by rw[gM (by omega)])) holds_nil)
theorem xL(aQ:@bj (KJ (ae (sN mb fb ob ba cap R.length kd md 0 0 R a)) w (cZ ab fb ob R a)) P call)(hl:R.length<=39)(rA:Rv (ae (sN mb fb ob ba cap R.length kd md 0 0 R a)) ans A)
  (hk:bQ fSt (YP (jz ans kN mN bg ov)) (fun h=>call 28 [.p 20 0,.ag (oL 5)] h 22 fun v h' _=>zo v h')=true):
  Calls P 28 #[.pointer (some ⟨mb,0,none⟩),.agg (a.o.cells a.K).toArray] w fun e w'=>∃V ws,e=.returned V∧Ja V ws 160∧Below w.heap.size w w':=by
 have hr:HR (ae (sN mb fb ob ba cap R.length kd md 0 0 R a)) (YP (jz ans kN mN bg ov)) 22 w:=by
  refine cX (C:=sN mb fb ob ba cap R.length kd md 0 0 R a) rfl (show 22<=22 from by decide) (.append (.dead _ _ fun a ha=>by obtain⟨_,_,rfl⟩:=bU.1 ha;rfl) ⟨?_,trivial,trivial⟩) (ZP M G) (show[mb].Nodup by simp)
  exact M.mc.ro rfl (Ny M G rA) rfl
 have live:∀i L,(T.get .gone (YP (jz ans kN mN bg ov)) i).live=true->ae (sN mb fb ob ba cap R.length kd md 0 0 R a) i=some L->L.aH=mb∨L.aH=ba:=fun i L h1 h2=>by
  obtain⟨j,b,rfl,g1,g2⟩:=bT (a:=.gone) h1;obtain rfl:=Ix g1 g2;have h2:(sN mb fb ob ba cap R.length kd md 0 0 R a)[19]? =some L:=h2;cases h2;exact .inl rfl
 have cG:bM (YP (jz ans kN mN bg ov))=22:=bX _ _;have qa:∀k,¬fp (ae (sN mb fb ob ba cap R.length kd md 0 0 R a)) (YP (jz ans kN mN bg ov)) k:=by
  rintro k ⟨i,L,a1,a2,a3,rfl⟩;rw[cG] at a1;obtain⟨j,b,rfl,g1,g2⟩:=bT (a:=.gone) a2;have:=Ix g1 g2;omega
 have hj:=Nx M G (q:=0) (qm:=0) live;refine(@jK (KJ (ae (sN mb fb ob ba cap R.length kd md 0 0 R a)) w (cZ ab fb ob R a)) P call aQ _ _ _ _ fSt 28 _ _ zo hk hr (fun h' fk=>bL.fk hj fk) (T4 M G hl) (argN M G) (fun v h=>rfl)).mono ?_;rintro e w' ⟨V,v,h',n',E',rfl,rv,cO,gQ,gs,xg,hk⟩;obtain⟨l,ws,_,_,hw⟩:=BH hk rv;exact⟨V,ws,rfl,hw,{size:=gs.size,block:=fun k hk=>gs.fr k hk (qa k),os:=gs.os,output:=gs.output,tape:=gs.tape}⟩
theorem T5(hl:R.length<=39)(ZR:bg=true)(h:(ov=true∧A=bO)∨(ov=false∧∀w:World,0<w.heap.size->ia w a.K a.ks->Calls P 68 #[.int .u8 kd,.int .u8 md,.agg (a.o.cells a.K).toArray] w fun e w'=>e=.returned (.bool false)∧Below w.heap.size w w')):
  Calls P 28 #[.pointer (some ⟨mb,0,none⟩),.agg (a.o.cells a.K).toArray] w fun e w'=>∃V ws,e=.returned V∧Ja V ws 160∧Below w.heap.size w w':=by
 have h0:0<w.heap.size:=by have:=M.ZM;omega
 have t:=qn (mb:=mb) (fb:=fb) (ob:=ob) (ba:=ba) (cap:=cap) (n:=R.length) (q:=0) (qm:=0) (kd:=kd) (md:=md) (R:=R) (a:=a);rcases h with⟨h1,h2⟩|⟨h1,rU⟩
 ·exact xL M G (@eH (KJ (ae (sN mb fb ob ba cap R.length kd md 0 0 R a)) w (cZ ab fb ob R a)) _ (@Si (KJ (ae (sN mb fb ob ba cap R.length kd md 0 0 R a)) w (cZ ab fb ob R a))) 40) hl (ans:=.sn) (by rw[h2,Rv];rfl) (by rw[ZR,h1];exact s_b)
 ·have za:@fg (KJ (ae (sN mb fb ob ba cap R.length kd md 0 0 R a)) w (cZ ab fb ob R a)) P SNf:=fun g C hC=>by
   unfold SNf at hC;split at hC
   ·cases hC;exact Nv t G h0 rU M.ZJ M.ZK
   ·cases hC
  rcases ZQ M G (q:=0) (qm:=0) with⟨_,_,_,rA⟩|⟨_,rA⟩
  ·exact xL M G (@eH (KJ (ae (sN mb fb ob ba cap R.length kd md 0 0 R a)) w (cZ ab fb ob R a)) _ za 40) hl rA (by rw[ZR,h1];exact s_a)
  ·exact xL M G (@eH (KJ (ae (sN mb fb ob ba cap R.length kd md 0 0 R a)) w (cZ ab fb ob R a)) _ za 40) hl rA (by rw[ZR,h1];exact s_c)
end
theorem FE(h:kR R R'):∀T:Tr,ev R T=ev R' T:=by
 have at_:∀m:Nat,(R[m]? =none∧R'[m]? =none)∨∃x y:An,R[m]? =some x∧R'[m]? =some y∧x.o=y.o∧x.ks=y.ks:=fun m=>by
  cases hy:R'[m]? with
  |none=>
   refine .inl ⟨?_,rfl⟩;have:=List.getElem?_eq_none_iff.1 hy;exact List.getElem?_eq_none (by rw[h.len];exact this)
  |some y=>
   obtain⟨x,hx,h1,h2⟩:=h.at hy;exact .inr ⟨x,y,hx,rfl,h1,h2⟩
 intro T;induction T with
 |ite i m le c t f At YM=>
  show(match R[m]? with|some a=>bif gG le (a.u8 i) c then ev R t else ev R f|none=>ct.bad)=(match R'[m]? with|some a=>bif gG le (a.u8 i) c then ev R' t else ev R' f|none=>ct.bad);rcases at_ m with⟨h1,h2⟩|⟨x,y,h1,h2,h3,h4⟩
  ·rw[h1,h2]
  ·rw[h1,h2]
   dsimp only;have:x.u8 i=y.u8 i:=by unfold An.u8;rw[h3]
   rw[this,At,YM]
 |more m i t f At YM=>
  show(match R[m]? with|some a=>bif decide (i<a.ks.length) then ev R t else ev R f|none=>ct.bad)=(match R'[m]? with|some a=>bif decide (i<a.ks.length) then ev R' t else ev R' f|none=>ct.bad);rcases at_ m with⟨h1,h2⟩|⟨x,y,h1,h2,h3,h4⟩
  ·rw[h1,h2]
  ·rw[h1,h2]
   dsimp only;rw[h4,At,YM]
 |sym m i t f At YM=>
  show(match R[m]? with|some a=>bif a.nN i then ev R t else ev R f|none=>ct.bad)=(match R'[m]? with|some a=>bif a.nN i then ev R' t else ev R' f|none=>ct.bad);rcases at_ m with⟨h1,h2⟩|⟨x,y,h1,h2,h3,h4⟩
  ·rw[h1,h2]
  ·rw[h1,h2]
   dsimp only;have:x.nN i=y.nN i:=by unfold An.nN;rw[h4]
   rw[this,At,YM]
 |ask k md m t At=>
  show(match R[m]? with|some a=>bif decide (a.o.k=1) then ev R t else .ans m|none=>ct.wait k md)=(match R'[m]? with|some a=>bif decide (a.o.k=1) then ev R' t else .ans m|none=>ct.wait k md);rcases at_ m with⟨h1,h2⟩|⟨x,y,h1,h2,h3,h4⟩
  ·rw[h1,h2]
  ·rw[h1,h2]
   dsimp only;rw[h3,At]
 |done=>rfl
 |fail er l x=>rfl
 |go d=>rfl
def Vt:List AV:=Co (jv (zi 0)) .sn
theorem T6:F0 (List.take 23 Vt)=true:=by kernel_rfl
structure FF(w:World)(mb ab fb ob:Nat)(R:List An)(E:Env)(h:Heap)(V:Value)(R':List An)(gn bz:Nat):Prop where
 s:X2 w ab fb ob E h V R' gn bz
 row:(R'=[]∧V=bO∧gn=mb)∨(V=.slice (some ⟨gn,0,none⟩) R'.length bz∧gn≠mb∧R'.length<=bz∧∃arr:Array Value,w.heap[gn]? =some (.cells arr 36 (0,0))∧bz*26<=arr.size)
 km:∀x∈R',∀b,cn x.K b->b≠mb
 nt:2≠gn
 at_:gn=mb∨∃r L,22<=r∧(T.get .gone h r).live=true∧E r=some L∧L.aH=gn
 kq:∀x∈R',∀b,cn x.K b->(∃y∈R,cn y.K b)∨∃p L,22<=p∧(T.get .gone h p).live=true∧E p=some L∧L.aH=b
section
variable{w0:World}{mb fb ob ab ba cap:Nat}{g:FuncId}{S:Value}{l:List V4}{R:List An}{A:Value}{a:An}{kd md:Int}{bg ov:Bool}(M:wK w0 mb fb ob ab ba cap g S l R A kd md bg ov){E0:Env}(Qc:E0 20=some ⟨mb,0,0⟩)
include M Qc
theorem live20(hm:lY h=true):(T.get .gone h 20).live=true:=by
 unfold lY at hm;split at hm
 ·rename_i q;rw[q];rfl
 ·cases hm
theorem Nz(hr:HR E h n w)(hj:bL E0 w0 (cZ ab fb ob R a) E h w)(hm:lY h=true)(he:Iq v h=true)(rv:Rv E v V):∃R' gn bz,FF w mb ab fb ob R E h V R' gn bz∧kR R' []:=by
 have hV:V=bO:=by
  unfold Iq Lj isNo at he;split at he<;>try (cases he;done)
  rw[Rv] at rv;exact rv
 refine⟨[],mb,0,⟨Iw M hr hj hm Qc hV,.inl ⟨rfl,hV,rfl⟩,fun x hx=>(by cases hx),fun e=>(M.apart 2 (.inr (.inl rfl))).1 e,.inl rfl,fun x hx=>(by cases hx)⟩,rfl⟩
theorem NA{K:Value}(hr:HR E h n w)(hj:bL E0 w0 (cZ ab fb ob R a) E h w)(hm:lY h=true)(hl:R.length<=39)(ok:a.o.ok)(ha:a.ks.length<=1024)(mS:qT a.ks)(k8:a.o.v.k<=8)(hf:mH a)
  (q:XY w E h V R a r p b cp K arr):∃R' gn bz,FF w mb ab fb ob R E h V R' gn bz∧kR R' (R++[a]):=by
 have s:=X3 M hr hj hl ok ha mS k8 hf q;have l20:=live20 M Qc hm;obtain⟨Lr,eLr,rfl⟩:=q.er;have r22:=q.r22;have p22:=q.p22;have nb:Lr.aH≠mb:=fun e=>by
  have:=hr.inj r 20 Lr ⟨mb,0,0⟩ q.lr l20 eLr (hj.1 _ _ Qc) e;omega
 refine⟨R++[⟨a.o,a.ks,K⟩],Lr.aH,cp,⟨s,.inr ⟨by rw[q.v,List.length_append];rfl,nb,by rw[List.length_append];exact q.cp,arr,q.hb,q.sz⟩,fun x hx k hk=>?_,fun e=>(hj.2.2 2 (.inl (.inr (.inl rfl)))).2.2 r Lr q.lr eLr e.symm,.inr ⟨r,Lr,r22,q.lr,eLr,rfl⟩,fun x hx k hk=>?_⟩,?_⟩
 ·rcases List.mem_append.1 hx with hx|hx
  ·exact(M.apart k (.inl ⟨x,hx,hk⟩)).1
  ·obtain rfl:x=⟨a.o,a.ks,K⟩:=by simpa using hx
   obtain⟨Lp,ZO,rfl⟩:=q.kb k hk;intro e;have:=hr.inj p 20 Lp ⟨mb,0,0⟩ q.lp l20 ZO (hj.1 _ _ Qc) e;omega
 ·rcases List.mem_append.1 hx with hx|hx
  ·exact .inl ⟨x,hx,hk⟩
  ·obtain rfl:x=⟨a.o,a.ks,K⟩:=by simpa using hx
   obtain⟨Lp,ZO,rfl⟩:=q.kb k hk;exact .inr ⟨p,Lp,p22,q.lp,ZO,rfl⟩
 ·unfold kR
  rw[List.map_append,List.map_append];rfl
end
structure Px(mb ba:Nat)(w w':World):Prop where
 size:w.heap.size<=w'.heap.size
 same:∀k,k<w.heap.size->k≠mb->k≠ba->w'.heap[k]? =w.heap[k]?
 os:w'.os=w.os
 output:w'.output=w.output
 tape:w'.tape=w.tape
def EndC(lf:ct)(o:iB)(ws:List Value):Prop:=match lf with
 |.done=>ws.getD 61 undef=.int .u8 1
 |.fail er l x=>∀c,c<26->ws.getD (61+c) undef=((ou er l x).cells bO).getD c undef
 |.ans _=>∀c,c<23->ws.getD (61+c) undef=(o.cells bO).getD c undef
 |_=>False
def NB(w w':World)(mb fb ob ab ba:Nat)(g:FuncId)(S:Value)(l:List V4)(kd md:Int)(Ro Rp:List An)(o:iB)(V:Value)(lf:ct):Prop:=(match lf with
 |.wait q qm=>∃ws R' A' gn bz,Ja V ws 0∧ws.getD 0 undef=.int .u8 q∧ws.getD 1 undef=.int .u8 qm∧kR R' Rp∧wK w' mb fb ob ab gn bz g S l R' A' q qm true false∧(gn=mb∨gn=ba∨w.heap.size<=gn)∧∀x∈R',∀b,cn x.K b->(∃y∈Ro,cn y.K b)∨b=mb∨b=ba∨w.heap.size<=b
 |lf=>∃ws,Ja V ws 0∧ws.getD 0 undef=.int .u8 7∧EndC lf o ws∧wK w' mb fb ob ab mb 0 g S l [] bO kd md true true)∧Px mb ba w w'
section
variable{w:World}{mb fb ob ab ba cap:Nat}{g:FuncId}{S:Value}{l:List V4}{R:List An}{A:Value}{kd md:Int}{bg ov:Bool}(M:wK w mb fb ob ab ba cap g S l R A kd md bg ov){a:An}(G:Giv w mb ba a)
include M G
theorem BI{n':Nat}(hle:(ae (sN mb fb ob ba cap R.length kd md q qm R a)).le E')(cO:HR E' h' n' w'){k1 k2:AV}{b1 b2:Bool}{K1 K2:Value}{c:Cs}(hc:T.get .gone h' 20=.cells 6 ⟨0,some 120,true⟩ c)
  (hm:xE ((List.range 6).map fun j=>c.get j) (jz ans k1 k2 b1 b2)=true) (r1:∀V,Rv E' k1 V->V=K1) (r2:∀V,Rv E' k2 V->V=K2):∃A',Rv E' ans A'∧cQ w' mb 120 [Pu fb ob,A',K1,K2,.bool b1,.bool b2]:=by
 obtain⟨L,arr,el,eL,hb,cC,dr,dz⟩:=cO.cells hc;have fo:el=120:=dr.2.1 _ rfl;subst fo;have Qc:E' 20=some ⟨mb,0,0⟩:=hle 20 _ rfl;rw[Qc] at eL;cases eL;have e:=xG hm;have at_:∀j x,(jz ans k1 k2 b1 b2)[j]? =some x->j<6->Rv E' x (arr.getD j undef):=fun j x hx hj=>by
  rw[←e,fL,List.getElem?_range hj] at hx;cases hx
  have:=dz j hj;have h0:(0:Nat)+j=j:=Nat.zero_add j;have this:Rv E' (c.get j) (arr.getD (0+j) undef):=this;rw[h0] at this;exact this
 have a0:=at_ 0 _ rfl (by decide);have a1:=at_ 1 _ rfl (by decide);have a2:=at_ 2 _ rfl (by decide);have a3:=at_ 3 _ rfl (by decide);have a4:=at_ 4 _ rfl (by decide);have a5:=at_ 5 _ rfl (by decide);have c0:arr.getD 0 undef=Pu fb ob:=by
  rw[Rv] at a0;obtain⟨vs,us,hv,q1,q2⟩:=a0;rw[aP] at q1;subst q1;obtain⟨V2,V3,e2,p2,p3⟩:=q2.two;rw[Rv] at p2;rw[Rv] at p3;obtain⟨L2,f2,rfl⟩:=p2;obtain⟨L3,f3,rfl⟩:=p3;rw[show E' 3=some ⟨fb,0,0⟩ from hle 3 _ rfl] at f2;cases f2;rw[show E' 4=some ⟨ob,0,0⟩ from hle 4 _ rfl] at f3;cases f3;rw[hv,e2];rfl
 rw[Rv] at a4;rw[Rv] at a5;refine⟨_,a1,arr,hb,by have:0+6<=arr.size:=cC;show 6<=_;omega,fun j hj=>?_⟩;have hj:j<6:=hj;match j,hj with
 |0,_=>exact c0
 |1,_=>rfl
 |2,_=>exact r1 _ a2
 |3,_=>exact r2 _ a3
 |4,_=>exact a4
 |5,_=>exact a5
theorem wK.next{A':Value}{gn bz:Nat}(hj:bL (ae (sN mb fb ob ba cap R.length kd md q qm R a)) w (cZ ab fb ob R a) E' h' w'){yA yB:Int}{zp:Bool}(hb:cQ w' mb 120 [Pu fb ob,A',.int .u8 yA,.int .u8 yB,.bool true,.bool zp])
  (rf:FF w' mb ab fb ob R E' h' A' R' gn bz) (h1:0<=yA∧yA<=255) (h2:0<=yB∧yB<=255):wK w' mb fb ob ab gn bz g S l R' A' yA yB true zp:=by
 have same:∀k,Ir ab fb ob R k->w'.heap[k]? =w.heap[k]?:=fun k hk=>(hj.2.2 k (.inl hk)).1
 have s:=rf.s;have cC:=hj.2.1;have Mabs:=M.abs;refine {mc:=hb,f:=M.f.same (same fb (.inr (.inr (.inr (.inl rfl))))),o:=M.o.same (same ob (.inr (.inr (.inr (.inr rfl))))),args:=?_,P7:=M.P7,al:=M.al,abs:=by omega,mh:=M.mh.same (same _ (.inr (.inl rfl))),ans:=s.ans,len:=s.len,fits:=s.fits,row:=?_,apart:=fun k hk=>?_,kk:=fun k hk=>?_,nfo:=M.nfo,XU:=fun x hx k hk=>(s.XU x hx k hk).1,P8:=M.P8,ZJ:=h1,ZK:=h2}
 ·rcases M.args with h|⟨arr,el,fr,c,h1,h2,h3⟩
  ·exact .inl h
  ·exact .inr ⟨arr,el,fr,c,h1,by rw[same ab (.inr (.inr (.inl rfl)))];exact h2,h3⟩
 ·rcases rf.row with h|⟨h1,h2,h3,h4⟩
  ·exact .inl h
  ·exact .inr ⟨h1,h2,h3,h4⟩
 ·rcases hk with⟨x,hx,hk⟩|rfl|rfl|rfl|rfl
  ·obtain⟨i,hi⟩:=List.getElem?_of_mem hx
   exact⟨rf.km x hx k hk,(s.ans i x hi).aH k hk⟩
  ·exact⟨(M.apart _ (.inr (.inl rfl))).1,rf.nt⟩
  ·exact⟨(M.apart _ (.inr (.inr (.inl rfl)))).1,s.nab.symm⟩
  ·exact⟨(M.apart _ (.inr (.inr (.inr (.inl rfl))))).1,s.nfb.symm⟩
  ·exact⟨(M.apart _ (.inr (.inr (.inr (.inr rfl))))).1,s.nob.symm⟩
 ·rcases hk with⟨x,hx,hk⟩|hk|hk
  ·exact(s.XU x hx k hk).2
  ·exact M.kk k (.inr (.inl hk))
  ·exact M.kk k (.inr (.inr hk))
theorem FH{rowA:AO}{cls:qX}(aQ:@bj (KJ (ae (sN mb fb ob ba cap R.length kd md q qm R a)) w (cZ ab fb ob R a)) P call)
  (Cw:BG (ae (sN mb fb ob ba cap R.length kd md q qm R a)) Rp a cls lf) (rA:Rv (ae (sN mb fb ob ba cap R.length kd md q qm R a)) ans A) (rr:RO (ae (sN mb fb ob ba cap R.length kd md q qm R a)) w 21 rowA) (oU:rowA.live=true->ba≠mb)
  (dX:Holds (ae (sN mb fb ob ba cap R.length kd md q qm R a)) (fsN cls))
  (qU:∀{E:Env}{h:Heap}{n:Nat}{w1:World}{v:AV}{V:Value},HR E h n w1->bL (ae (sN mb fb ob ba cap R.length kd md q qm R a)) w (cZ ab fb ob R a) E h w1->lY h=true->row v h=true->Rv E v V->∃R' gn bz,FF w1 mb ab fb ob R E h V R' gn bz∧kR R' Rp)
  (hk:bQ (fsN cls) (hN (jz ans kN mN bg ov) rowA) (fun h=>call 28 [.p 20 0,.ag (oL 5)] h 22 fun v h' _=>TX row cls v h')=true):
  Calls P 28 #[.pointer (some ⟨mb,0,none⟩),.agg (a.o.cells a.K).toArray] w fun e w'=>∃V,e=.returned V∧NB w w' mb fb ob ab ba g S l kd md R Rp a.o V lf:=by
 have t:=qn (mb:=mb) (fb:=fb) (ob:=ob) (ba:=ba) (cap:=cap) (n:=R.length) (q:=q) (qm:=qm) (kd:=kd) (md:=md) (R:=R) (a:=a);have lv:∀(b:AO)(i:Nat),((List.range 19).map (fun _=>AO.gone)++[Nu (jz ans kN mN bg ov),rowA])[i]? =some b->b.live=true->i=19∨(i=20∧rowA.live=true):=by
  intro b i hb hl;have hi:i<21:=(bR.1 hb).1;rcases gC i 19 with h|h
  ·exfalso
   rw[iA (by rw[gp,ot];exact h),fL,List.getElem?_range h] at hb;cases hb;cases hl
  ·have h2:i=19∨i=20:=by omega
   rcases h2 with rfl|rfl
   ·exact .inl rfl
   ·cases hb;exact .inr ⟨rfl,hl⟩
 have hr:HR (ae (sN mb fb ob ba cap R.length kd md q qm R a)) (hN (jz ans kN mN bg ov) rowA) 22 w:=by
  refine cX (C:=sN mb fb ob ba cap R.length kd md q qm R a) rfl (show 20<=22 from by decide) (.append (.dead _ _ fun a ha=>by obtain⟨_,_,rfl⟩:=bU.1 ha;rfl) ⟨?_,rr,trivial⟩) (ZP M G) ?_
  ·exact M.mc.ro rfl (Ny M G rA) rfl
  ·show(mb::(if rowA.live then[ba] else[])).Nodup
   cases hl:rowA.live with
   |false=>show[mb].Nodup;simp
   |true=>show[mb,ba].Nodup;have:=(oU hl).symm;simp[this]
 have live:∀i L,(T.get .gone (hN (jz ans kN mN bg ov) rowA) i).live=true->ae (sN mb fb ob ba cap R.length kd md q qm R a) i=some L->L.aH=mb∨L.aH=ba:=fun i L h1 h2=>by
  obtain⟨j,b,rfl,g1,g2⟩:=bT (a:=.gone) h1;have h2:(sN mb fb ob ba cap R.length kd md q qm R a)[j]? =some L:=h2;rcases lv b j g1 g2 with rfl|⟨rfl,_⟩
  ·cases h2;exact .inl rfl
  ·cases h2;exact .inr rfl
 have cG:bM (hN (jz ans kN mN bg ov) rowA)=20:=bX _ _;have qa:∀k,fp (ae (sN mb fb ob ba cap R.length kd md q qm R a)) (hN (jz ans kN mN bg ov) rowA) k->k=mb∨k=ba:=by
  rintro k ⟨i,L,a1,a2,a3,rfl⟩;exact live i L a2 a3
 have hj:=Nx M G (q:=q) (qm:=qm) live;refine(@jK (KJ (ae (sN mb fb ob ba cap R.length kd md q qm R a)) w (cZ ab fb ob R a)) P call aQ _ _ _ _ (fsN cls) 28 _ _ (TX row cls) hk hr (fun h' fk=>bL.fk hj fk) dX (argN M G) (fun v h=>by cases cls<;>rfl)).mono ?_;rintro e w' ⟨V,v,h',n',E',rfl,rv,cO,gQ,gs,xg,hk⟩;have gQ:bL (ae (sN mb fb ob ba cap R.length kd md q qm R a)) w (cZ ab fb ob R a) E' h' w':=gQ;have hle:=gQ.1;have tE:=t.wide hle;have hbm:Px mb ba w w':=⟨gs.size,fun k hk h1 h2=>gs.fr k hk fun hf=>by rcases qa k hf with h|h<;>contradiction,gs.os,gs.output,gs.tape⟩;have ZS:bM h'=20:=gs.bM.trans cG;refine⟨V,rfl,?_⟩;have atE:∀{k:AV->List AV->Bool},FD h' k=true->∃c,T.get .gone h' 20=.cells 6 ⟨0,some 120,true⟩ c∧k (c.get 1) ((List.range 6).map fun j=>c.get j)=true:=fun {k} hm=>by
  unfold FD at hm;split at hm<;>try (cases hm;done)
  rename_i c hc;exact⟨c,hc,hm⟩
 have xEq:∀{s:Nat}{z:Int}{V:Value},den E' (.sy s)=some (.int .u8 z)->Rv E' (.x (.i .u8) (.sy s)) V->V=.int .u8 z:=fun {s z V} d r=>by
  rw[Rv,d] at r;exact(mL r.1).symm
 have ended:∀{yp:List AV->Bool},xH yp v h'=true->∃l0 ws,Ja V ws 0∧aP E' l0 ws∧ws.getD 0 undef=.int .u8 7∧yp (List.drop 61 l0)=true∧wK w' mb fb ob ab mb 0 g S l [] bO kd md true true:=fun {yp} hf=>by
  unfold xH at hf;obtain⟨l0,ws,hf,rl,hw⟩:=BH hf rv;obtain⟨h1,hm⟩:=aa hf;obtain⟨h1,h2⟩:=aa h1;obtain⟨c,hc,hm⟩:=atE hm;have r0:=rl.nth 0;rw[bV h1,Rv] at r0;obtain⟨A',rA',hb⟩:=BI M G hle cO hc hm (fun V r=>xEq tE.d7 r) (fun V r=>xEq tE.d8 r);have P0:A'=bO:=by rw[Rv] at rA';exact rA'
  have hml:lY h'=true:=by unfold lY;rw[hc];rfl
  have rf:=Nz M (E0:=ae (sN mb fb ob ba cap R.length kd md q qm R a)) (a:=a) rfl cO gQ hml (v:=.sn) (V:=A') rfl (by rw[Rv];exact P0);have rf2:FF w' mb ab fb ob R E' h' A' [] mb 0:=⟨Iw M cO gQ hml rfl P0,.inl ⟨rfl,P0,rfl⟩,fun x hx=>(by cases hx),fun e=>(M.apart 2 (.inr (.inl rfl))).1 e,.inl rfl,fun x hx=>(by cases hx)⟩;have:=wK.next M G gQ hb rf2 M.ZJ M.ZK;rw[P0] at this;exact⟨l0,ws,hw,rl,r0,h2,this⟩
 have dropAt:∀{l0:List AV}{ws:List Value},aP E' l0 ws->∀c,Rv E' (cV (List.drop 61 l0) c) (ws.getD (61+c) undef):=fun {l0 ws} rl c=>by
  rw[sY];exact rl.nth (61+c)
 cases Cw with
 | @wait qk qm' dq dm hq hm=>
   have hk:finWait row v h'=true:=hk;unfold finWait at hk;obtain⟨l0,ws,hk,rl,hw⟩:=BH hk rv;obtain⟨h1,hk⟩:=aa hk;obtain⟨h1,h2⟩:=aa h1;obtain⟨c,hc,hk⟩:=atE hk;obtain⟨h3,h4⟩:=aa hk;have dq:=an hle _ _ dq;have dm:=an hle _ _ dm;have r0:=rl.nth 0;have r1:=rl.nth 1;rw[bV h1] at r0;rw[bV h2] at r1;obtain⟨A',rA',hb⟩:=BI M G hle cO hc h4 (fun V r=>xEq dq r) (fun V r=>xEq dm r);have hml:lY h'=true:=by unfold lY;rw[hc];rfl
   obtain⟨R',gn,bz,rf,jm⟩:=qU cO gQ hml h3 rA';refine⟨⟨ws,R',A',gn,bz,hw,xEq dq r0,xEq dm r1,jm,wK.next M G gQ hb rf ⟨by omega,by omega⟩ ⟨by omega,by omega⟩,?_,fun x hx k hk=>?_⟩,hbm⟩
   ·rcases rf.at_ with h|⟨r,L,r22,lr,eL,hL⟩
    ·exact .inl h
    ·rcases gC gn w.heap.size with cL|ll
     ·have:=qa gn (gs.CE gn cL ⟨r,L,by rw[ZS];omega,lr,eL,hL⟩)
      rcases this with h|h
      ·exact .inl h
      ·exact .inr (.inl h)
     ·exact .inr (.inr ll)
   ·rcases rf.kq x hx k hk with h|⟨r,L,r22,lr,eL,hL⟩
    ·exact .inl h
    ·rcases gC k w.heap.size with cL|ll
     ·have:=qa k (gs.CE k cL ⟨r,L,by rw[ZS];omega,lr,eL,hL⟩)
      rcases this with h|h
      ·exact .inr (.inl h)
      ·exact .inr (.inr (.inl h))
     ·exact .inr (.inr (.inr ll))
 |done=>
  have hk:xH (XS .done) v h'=true:=hk;obtain⟨l0,ws,hw,rl,h7,hc,hM⟩:=ended hk;refine⟨⟨ws,hw,h7,?_,hM⟩,hbm⟩;have r:=dropAt rl 0;have hc:cY (cV (List.drop 61 l0) 0) (.i .u8 1)=true:=hc;rw[bV hc,Rv] at r;exact r
 | @fail er m x=>
   have hk:xH (XS (.fail er m x)) v h'=true:=hk;obtain⟨l0,ws,hw,rl,h7,hc,hM⟩:=ended hk;refine⟨⟨ws,hw,h7,fun c XZ=>?_,hM⟩,hbm⟩;have hc:cH (List.drop 61 l0) (jw er m x)=true:=hc;have rr:aP E' (jw er m x) (List.drop 61 ws):=by
    rw[←bb hc];exact rl.drop 61
   rw[←pw rr];rw[cB,cB,List.getElem?_drop]
 | @ans m x hx ho qR=>
   have hk:xH (XS .ans) v h'=true:=hk;obtain⟨l0,ws,hw,rl,h7,hc,hM⟩:=ended hk;refine⟨⟨ws,hw,h7,fun c T7=>?_,hM⟩,hbm⟩;have hc:cH (List.take 23 (List.drop 61 l0)) (List.take 23 (oL 0))=true:=hc;have rr:aP E' (List.take 23 Vt) (List.take 23 (List.drop 61 ws)):=by
    have e:List.take 23 (List.drop 61 l0)=List.take 23 Vt:=bb hc;rw[←e];exact(rl.drop 61).take 23
   have r2:aP E' (List.take 23 Vt) (List.take 23 (a.o.cells bO)):=aP.take 23 (gP G.o (by rw[Rv];rfl) tE.cell);have e2:=aP.exact (Env.le_refl E') _ _ _ T6 r2 rr;have e3:(List.take 23 (List.drop 61 ws)).getD c undef=(List.take 23 (a.o.cells bO)).getD c undef:=by rw[e2]
   rw[cB,cB,List.getElem?_take_of_lt T7,List.getElem?_take_of_lt T7,List.getElem?_drop] at e3;rw[cB,cB];exact e3
end
inductive xN:qX->Prop
 |w:xN .wait
 |d:xN .done
 |f1:xN (.fail 1 4 1701869940)
 |f2:xN (.fail 2 8 8750038247350955892)
 |f3:xN (.fail 2 7 32760367581326953)
 |a:xN .ans
theorem xN.n0{cls:qX}(h:xN cls):nx0 cls=true:=by
 cases h
 ·exact x0_w
 ·exact x0_d
 ·exact x0_f1
 ·exact x0_f2
 ·exact x0_f3
 ·exact x0_a
theorem xN.n1{cls:qX}(h:xN cls):nx1 cls=true:=by
 cases h
 ·exact x1_w
 ·exact x1_d
 ·exact x1_f1
 ·exact x1_f2
 ·exact x1_f3
 ·exact x1_a
theorem xN.n2{cls:qX}(h:xN cls):nx2 cls=true:=by
 cases h
 ·exact x2_w
 ·exact x2_d
 ·exact x2_f1
 ·exact x2_f2
 ·exact x2_f3
 ·exact x2_a
theorem T8{fb:Nat}(h:LfOK Rp lf)(hx:∀(m:Nat)(x:An),Rp[m]? =some x->x.o.k≠1->x.o=a.o∧x.ks=a.ks):
  ∃q qm cls,BG (ae (sN mb fb ob ba cap n kd md q qm R a)) Rp a cls lf∧xN cls∧(cls=.ans->∃(m:Nat)(x:An),Rp[m]? =some x∧x.o.k≠1∧x.o=a.o):=by
 have t10:∀q qm:Nat,den (ae (sN mb fb ob ba cap n kd md q qm R a)) (.sy 10)=some (.int .u8 (q:Nat)):=fun q qm=>aj (i:=9) rfl (ax _ _)
 have t11:∀q qm:Nat,den (ae (sN mb fb ob ba cap n kd md q qm R a)) (.sy 11)=some (.int .u8 (qm:Nat)):=fun q qm=>aj (i:=10) rfl (ax _ _)
 rcases h with⟨k,m,hk,hm,rfl⟩|rfl|rfl|rfl|rfl|⟨m,x,rfl,hm,hk⟩
 ·exact⟨k,m,.wait,.wait (t10 k m) (t11 k m) hk hm,.w,fun h=>by cases h⟩
 ·exact⟨0,0,.done,.done,.d,fun h=>by cases h⟩
 ·exact⟨0,0,_,.fail,.f1,fun h=>by cases h⟩
 ·exact⟨0,0,_,.fail,.f2,fun h=>by cases h⟩
 ·exact⟨0,0,_,.fail,.f3,fun h=>by cases h⟩
 ·obtain⟨h1,h2⟩:=hx m x hm hk
  exact⟨0,0,.ans,.ans hm h1 h2,.a,fun _=>⟨m,x,hm,hk,h1⟩⟩
section
variable{w:World}{mb fb ob ab ba cap:Nat}{g:FuncId}{S:Value}{l:List V4}{R:List An}{A:Value}{kd md:Int}{bg ov:Bool}(M:wK w mb fb ob ab ba cap g S l R A kd md bg ov){a:An}(G:Giv w mb ba a)
include M G
theorem T9{cls:qX}(hl:R.length<=39)(ha:a.ks.length<=1024)(h0:cls=.ans->a.o.k≠0):Holds (ae (sN mb fb ob ba cap R.length kd md q qm R a)) (fsN cls):=by
 have t:=qn (mb:=mb) (fb:=fb) (ob:=ob) (ba:=ba) (cap:=cap) (n:=R.length) (q:=q) (qm:=qm) (kd:=kd) (md:=md) (R:=R) (a:=a);have dl:den (ae (sN mb fb ob ba cap R.length kd md q qm R a)) (.fn 20 (.sy 6))=some (.int .i64 a.ks.length):=by
  rw[bC t.d6];unfold aA;rw[gp]
 have hx:Holds (ae (sN mb fb ob ba cap R.length kd md q qm R a)) fNx:=by
  refine aJ (a:=fSt) (T4 M G hl) (ah ((az dl).trans (by rw[eX (by omega)])) holds_nil)
 cases cls with
 |ans=>
  refine aJ (ah ((bx (k:=.u8) (c:=0) (t.cell 0 (.int .u8 a.o.k) rfl)).trans ?_) holds_nil) hx;rw[gM (h0 rfl)]
 |_=>exact hx
theorem X5(cR:ba≠mb):RO (ae (sN mb fb ob ba cap R.length kd md q qm R a)) w 21 (.blob 36 26 14 [] (.sy 2)):=by
 have d2:den (ae (sN mb fb ob ba cap R.length kd md q qm R a)) (.sy 2)=some (.int .i64 R.length):=aj (i:=1) rfl (ax _ _);have d14:den (ae (sN mb fb ob ba cap R.length kd md q qm R a)) (.sy 14)=some (.int .i64 (aG (sK R))):=aj (i:=13) rfl (ax _ _);rcases M.row with⟨_,_,h⟩|⟨h1,h2,h3,arr,h4,h5⟩
 ·exact absurd h cR
 ·have hlen:=xJ R
  refine⟨⟨ba,0,cap⟩,arr,R.length,rfl,rfl,h4,d2,h3,h5,sK R,d14,by rw[hlen];rfl,fun j hj=>?_,fun j x hx=>by cases hx⟩;have hi:j/26<R.length:=by omega
  have hx:R[j/26]? =some R[j/26]:=cN hi;obtain⟨arr',el,fr,g1,g2,g3⟩:=(M.ans _ _ hx).at_;have g1:w.heap[ba]? =some (.cells arr' el fr):=g1;rw[h4] at g1;cases g1;have hc:j%26<26:=Nat.mod_lt _ (by decide);have e:=xK (k:=0) (w:=w) (ba:=ba) (fun i x hx=>by rw[Nat.zero_add];exact M.ans i x hx) hx hc;rw[show 26*(j/26)+j%26=j by omega] at e;rw[e,←g3 _ hc,show 26*(j/26)+j%26=j by omega]
theorem Py{ok:Nat->Nat->Bool}(kQ:∀k md,ok k md=true->k<=255∧md<=255){T:Tr}(hg:cf ok (fun _ _=>False) 0 T)(ha:a.ks.length<=1024)(ZR:bg=false)(X7:ov=false)(hR:R=[])(hA:A=bO)(ux:ba=mb)
  (law:∀{w:World}{bp ba cap ab fb ob:Nat}{R:List An}{A S:Value},St w bp ba cap ab R A S l->BF w bp ba ab R fb ob g S->Calls P 49 #[.pointer (some ⟨bp,0,none⟩),.pointer (some ⟨fb,0,none⟩),.pointer (some ⟨ob,0,none⟩)] w fun e w'=>∃V,e=.returned V∧qS bp w w'∧cU R w.heap.size bp V w' (ev R T)):
  Calls P 28 #[.pointer (some ⟨mb,0,none⟩),.agg (a.o.cells a.K).toArray] w fun e w'=>∃V,e=.returned V∧NB w w' mb fb ob ab ba g S l kd md R [] a.o V (ev [] T):=by
 have dh:=Nh kQ hg [];obtain⟨q,qm,cls,Cw,hck,X8⟩:=T8 (mb:=mb) (fb:=fb) (ob:=ob) (ba:=ba) (cap:=cap) (n:=R.length) (kd:=kd) (md:=md) (R:=R) (a:=a) dh (fun m x hx=>by cases hx);have h0:0<w.heap.size:=by have:=M.ZM;omega
 have t:=qn (mb:=mb) (fb:=fb) (ob:=ob) (ba:=ba) (cap:=cap) (n:=R.length) (q:=q) (qm:=qm) (kd:=kd) (md:=md) (R:=R) (a:=a);have hna:cls≠.ans:=fun e=>by obtain⟨m,x,hx,_⟩:=X8 e;cases hx
 have qU:∀{E:Env}{h:Heap}{n:Nat}{w1:World}{v:AV}{V:Value},HR E h n w1->bL (ae (sN mb fb ob ba cap R.length kd md q qm R a)) w (cZ ab fb ob R a) E h w1->lY h=true->Iq v h=true->Rv E v V->∃R' gn bz,FF w1 mb ab fb ob R E h V R' gn bz∧kR R' []:=
  fun hr hj hm he rv=>Nz M (E0:=ae (sN mb fb ob ba cap R.length kd md q qm R a)) (a:=a) rfl hr hj hm he rv
 have za:@fg (KJ (ae (sN mb fb ob ba cap R.length kd md q qm R a)) w (cZ ab fb ob R a)) P (SN0 cls):=fun x C hC=>by
  unfold SN0 at hC;split at hC
  ·cases hC;exact @po (KJ (ae (sN mb fb ob ba cap R.length kd md q qm R a)) w (cZ ab fb ob R a)) _ _ Bh
  ·cases hC;exact @TY (KJ (ae (sN mb fb ob ba cap R.length kd md q qm R a)) w (cZ ab fb ob R a)) _ _ _ (It t G h0 ha) (@ja (KJ (ae (sN mb fb ob ba cap R.length kd md q qm R a)) w (cZ ab fb ob R a)) _ _ (@iL (KJ (ae (sN mb fb ob ba cap R.length kd md q qm R a)) w (cZ ab fb ob R a))) _)
  ·cases hC
   exact Nw M t G.o ha Cw (fun hr hj hm he rv=>by obtain⟨R',gn,bz,rf,hs⟩:=qU hr hj hm he rv;exact⟨R',gn,bz,rf.s,hs⟩) (fun hs s B=>by have:=law s B;rw[FE hs T] at this;exact this)
  ·cases hC
 refine FH M G (@eH (KJ (ae (sN mb fb ob ba cap R.length kd md q qm R a)) w (cZ ab fb ob R a)) _ za 40) Cw (row:=Iq) (rowA:=.gone) (ans:=.sn) (by rw[hA,Rv];rfl) trivial (fun h=>by cases h) (T9 M G (by rw[hR];exact nzQ _) ha (fun h=>absurd h hna)) qU (by rw[ZR,X7];exact hck.n0)
theorem Pz{ok:Nat->Nat->Bool}(kQ:∀k md,ok k md=true->k<=255∧md<=255){T:Tr}(hg:cf ok (fun _ _=>False) 0 T)(hl:R.length<=39)(ha:a.ks.length<=1024)(mS:qT a.ks)(k8:a.o.v.k<=8)(hf:mH a)(hk0:a.o.k≠0)(ZR:bg=true)(X7:ov=false)(qA:∀x∈R,x.o.k=1)
  (rU:∀w:World,0<w.heap.size->ia w a.K a.ks->Calls P 68 #[.int .u8 kd,.int .u8 md,.agg (a.o.cells a.K).toArray] w fun e w'=>e=.returned (.bool true)∧Below w.heap.size w w')
  (law:∀{w:World}{bp ba cap ab fb ob:Nat}{R:List An}{A S:Value},St w bp ba cap ab R A S l->BF w bp ba ab R fb ob g S->Calls P 49 #[.pointer (some ⟨bp,0,none⟩),.pointer (some ⟨fb,0,none⟩),.pointer (some ⟨ob,0,none⟩)] w fun e w'=>∃V,e=.returned V∧qS bp w w'∧cU R w.heap.size bp V w' (ev R T)):
  Calls P 28 #[.pointer (some ⟨mb,0,none⟩),.agg (a.o.cells a.K).toArray] w fun e w'=>∃V,e=.returned V∧NB w w' mb fb ob ab ba g S l kd md R (R++[a]) a.o V (ev (R++[a]) T):=by
 have dh:=Nh kQ hg (R++[a]);obtain⟨q,qm,cls,Cw,hck,X8⟩:=T8 (mb:=mb) (fb:=fb) (ob:=ob) (ba:=ba) (cap:=cap) (n:=R.length) (kd:=kd) (md:=md) (R:=R) (a:=a) dh (fun m x hx hk=>by
  rcases List.mem_append.1 (gq hx) with h|h
  ·exact absurd (qA x h) hk
  ·obtain rfl:x=a:=by simpa using h
   exact⟨rfl,rfl⟩)
 have h0:0<w.heap.size:=by have:=M.ZM;omega
 have t:=qn (mb:=mb) (fb:=fb) (ob:=ob) (ba:=ba) (cap:=cap) (n:=R.length) (q:=q) (qm:=qm) (kd:=kd) (md:=md) (R:=R) (a:=a);have tR:Iu (ae (sN mb fb ob ba cap R.length kd md q qm R a)) R:=⟨aj (i:=1) rfl (ax _ _),aj (i:=13) rfl (ax _ _)⟩;have spec:∀{row:AV->Heap->Bool},(∀{E:Env}{h:Heap}{n:Nat}{w1:World}{v:AV}{V:Value},HR E h n w1->bL (ae (sN mb fb ob ba cap R.length kd md q qm R a)) w (cZ ab fb ob R a) E h w1->lY h=true->row v h=true->Rv E v V->∃R' gn bz,FF w1 mb ab fb ob R E h V R' gn bz∧kR R' (R++[a]))->
   @fg (KJ (ae (sN mb fb ob ba cap R.length kd md q qm R a)) w (cZ ab fb ob R a)) P (SN true row cls):=fun {row} qU x C hC=>by
  unfold SN at hC;split at hC
  ·cases hC;exact @po (KJ (ae (sN mb fb ob ba cap R.length kd md q qm R a)) w (cZ ab fb ob R a)) _ _ Bh
  ·cases hC;exact Nv t G h0 rU M.ZJ M.ZK
  ·cases hC;exact @TY (KJ (ae (sN mb fb ob ba cap R.length kd md q qm R a)) w (cZ ab fb ob R a)) _ _ _ (It t G h0 ha) (@ja (KJ (ae (sN mb fb ob ba cap R.length kd md q qm R a)) w (cZ ab fb ob R a)) _ _ (@iL (KJ (ae (sN mb fb ob ba cap R.length kd md q qm R a)) w (cZ ab fb ob R a))) _)
  ·cases hC
   exact Nw M t G.o ha Cw (fun hr hj hm he rv=>by obtain⟨R',gn,bz,rf,hs⟩:=qU hr hj hm he rv;exact⟨R',gn,bz,rf.s,hs⟩) (fun hs s B=>by have:=law s B;rw[FE hs T] at this;exact this)
  ·cases hC
 have dX:=T9 M G (q:=q) (qm:=qm) (cls:=cls) hl ha fun _=>hk0
 rcases ZQ M G (q:=q) (qm:=qm) with⟨hR,hA,hb,rA⟩|⟨cR,rA⟩
 ·have qU:∀{E:Env}{h:Heap}{n:Nat}{w1:World}{v:AV}{V:Value},HR E h n w1->bL (ae (sN mb fb ob ba cap R.length kd md q qm R a)) w (cZ ab fb ob R a) E h w1->lY h=true->DE v h=true->Rv E v V->∃R' gn bz,FF w1 mb ab fb ob R E h V R' gn bz∧kR R' (R++[a]):=
   fun hr hj hm he rv=>by
    obtain⟨r,p,b,cp,K,arr,rp⟩:=Pw (t.wide hj.1) G.o hr he rv;have rp2:=rp;rw[←hR] at rp2;exact NA M (E0:=ae (sN mb fb ob ba cap R.length kd md q qm R a)) rfl hr hj hm hl G.o ha mS k8 hf rp2
  exact FH M G (@eH (KJ (ae (sN mb fb ob ba cap R.length kd md q qm R a)) w (cZ ab fb ob R a)) _ (spec qU) 40) Cw (row:=DE) (rowA:=.gone) (ans:=.sn) rA trivial (fun h=>by cases h) dX qU (by rw[ZR,X7];exact hck.n1)
 ·have qU:∀{E:Env}{h:Heap}{n:Nat}{w1:World}{v:AV}{V:Value},HR E h n w1->bL (ae (sN mb fb ob ba cap R.length kd md q qm R a)) w (cZ ab fb ob R a) E h w1->lY h=true->xD v h=true->Rv E v V->∃R' gn bz,FF w1 mb ab fb ob R E h V R' gn bz∧kR R' (R++[a]):=
   fun hr hj hm he rv=>by
    obtain⟨r,p,b,cp,K,arr,rp⟩:=Ll (t.wide hj.1) G.o hr (tR.wide hj.1) M.ans hl he rv;exact NA M (E0:=ae (sN mb fb ob ba cap R.length kd md q qm R a)) rfl hr hj hm hl G.o ha mS k8 hf rp
  exact FH M G (@eH (KJ (ae (sN mb fb ob ba cap R.length kd md q qm R a)) w (cZ ab fb ob R a)) _ (spec qU) 40) Cw (row:=xD) (rowA:=.blob 36 26 14 [] (.sy 2)) (ans:=.sr 21 (.sy 2)) rA (X5 M G cR) (fun _=>cR) dX qU (by rw[ZR,X7];exact hck.n2)
end
end
end Go.Proofs.YtngagklmbbogiaaGreatDoor.Ob
