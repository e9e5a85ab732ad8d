/- Parts of one proof (Ob55 to Ob60). No condition. -/
import Derived.Test.YtngagklmbbogiaaGreatDoorD3
set_option linter.all false
namespace Go.Proofs.YtngagklmbbogiaaGreatDoor.Ob
open Go Go.RowKit Vx
set_option maxRecDepth 100000
noncomputable section
variable{el:AO}{x:AV}{k:AV->Bool}{a:Act}{E E' E0:Env}{h h':Heap}{R:List An}{vs:List Value}{b2 b3 bP ba c cap cw i nt nx:Nat}{t:TypeId}{v:V4}{V:Value}{w w' w0:World}
def Xy(v:AV):Bool:=match v with
 |.ag l=>(match l with
  |[a,b]=>bc (Bm 2 a) (match b with
   |.i .i64 (.ofNat 0)=>true
   |_=>false) false
  |_=>false)
 |_=>false
def numR:Bool:=bQ [] (dY [] 5) (fun h=>cT 227 [.x (.i .i64) (.sy 5)] h 6 (fun v _ _=>Xy v))
theorem numX:numR=true:=by kernel_rfl
theorem numV(n:Int)(hn: -9223372036854775808<=n∧n<=9223372036854775807)(w:World)(ht:fq w):Calls P 227 #[.int .i64 n] w fun e w'=>(∃V,e=.returned V∧∃s:ByteArray,V=.agg #[.string s,.int .i64 0]∧(s.size:Int)<=9223372036854775807)∧Below w.heap.size w w':=by
 refine(runT ht (Vs:=[.int .i64 n]) (args:=[.x (.i .i64) (.sy 5)]) (ARGS:=#[.int .i64 n]) (g:=227) (fin:=Xy) (ad (jJ (s:=.i .i64) 0 rfl (ax _ _) ⟨_,rfl,hn⟩) aF) numX (fun v=>rfl)).mono ?_;rintro e w' ⟨⟨V,v,E',rfl,rv,hk⟩,hb⟩;refine⟨⟨_,rfl,?_⟩,hb⟩;have h:Xy v=true:=hk;unfold Xy at h;split at h<;>try (cases h;done)
 rename_i l;split at h<;>try (cases h;done)
 rename_i a b;obtain⟨h1,h2⟩:=aa h;split at h2<;>try (cases h2;done)
 rw[Rv] at rv;obtain⟨vs,rfl,rl⟩:=rv;simp only[aP] at rl;obtain⟨A,_,rfl,ra,B,_,rfl,rb,rfl⟩:=rl;obtain⟨s,rfl,hz⟩:=tw (t:=2) h1 ra;rw[Rv] at rb;subst rb;exact⟨s,rfl,hz⟩
def numC:Ct:=fun args h n k=>match args with
 |[v]=>bc (Bm 3 v) (aM (Nat.succ n) fun m=>k (.ag [.x .s (.sy n),.i .i64 0]) h m) false
 |_=>false
def Fz(x:AV):List AV:=[.i .u8 2,.i .u8 6,.f .f64 0,.s 0 0,.i .i64 2,.b true,x,.i .u8 0,.f .f64 0,.s 0 0,.i .i64 0,.i .u8 0,.f .f64 0,.s 0 0,.i .i64 0,.s 0 0,.b false,.b false]
def Le(X:Value):List Value:=[.int .u8 2,.int .u8 6,.float .f64 0,.string (str 0 0),.int .i64 2,.bool true,X,.int .u8 0,.float .f64 0,.string (str 0 0),.int .i64 0,.int .u8 0,.float .f64 0,.string (str 0 0),.int .i64 0,.string (str 0 0),.bool false,.bool false]
def isObj(l:List AV)(k:AV->Bool):Bool:=bc (cH (List.take 6 l) (List.take 6 (Fz .no))) (bc (cH (List.drop 7 l) (List.drop 7 (Fz .no))) (k (cV l 6)) false) false
def Nk(i:Nat)(h:Heap)(k:AV->Bool):Bool:=match T.get .gone h i with
 |.cells n ⟨_,some 43,true⟩ c=>bc (Nat.ble 18 n) (Gl c 18 0 fun l=>isObj l k) false
 |_=>false
def FA(i:Nat)(h:Heap):Bool:=match T.get .gone h i with
 |.cells n ⟨_,some 43,true⟩ c=>Nat.ble 18 n
 |_=>false
def Nl(q:Nat)(h:Heap):Bool:=match T.get .gone h q with
 |.cells _ ⟨18,some 52,true⟩ _=>Nat.ble 12 q
 |_=>false
def Xz(first:Bool)(v:AV)(h:Heap):Bool:=match v with
 |.sr q e=>bc first false (bc (eE e (.cD 4 (.sy 9) (.li .i64 1))) (Nl q h) false)
 |.so q 0 1 0=>bc first (Nl q h) false
 |_=>false
def elemV:AO:=.glob 4100304 4 (gw [.x (.i .u8) (.sy 5),.x .f (.sy 6),.x .s (.sy 7),.x (.i .i64) (.sy 8)] fc 0)
def Vr:Heap:=jq ((List.range 11).map fun _=>AO.gone) 12
def boxA:AO:=.cells 18 ⟨0,some 43,true⟩ (fu (Fz (.sr 13 (.sy 9))) ⟨18,fZ⟩ 0)
def hA1(el:AO):Heap:=jq ([.gone,.gone,.gone,el,.gone,.gone,.gone,.gone,.gone,.gone,.gone,boxA,.cells 0 ⟨18,some 52,true⟩ (fu [] ⟨18,fZ⟩ 0),.cells 18 ⟨0,some 43,true⟩ (fu (List.replicate 18 .no) ⟨18,fZ⟩ 0)]) 12
def fA0:aB:=[(.cmp .leq (.sy 2) (.li .i64 1024),true),(.cmp .leq (.sy 2) (.li .i64 (-1)),false)]
def fA1:aB:=[(.cmp .leq (.sy 3) (.li .i64 1024),true),(.cmp .leq (.sy 3) (.li .i64 (-1)),false),(.cmp .leq (.sy 9) (.li .i64 1025),true),(.cmp .leq (.sy 9) (.li .i64 (-1)),false)]
def fAA:aB:=[(.cmp .lss (.sy 3) (.sy 2),true),(.cmp .leq (.sy 2) (.sy 3),false)]
def fAB:aB:=[(.cmp .leq (.sy 2) (.sy 3),true)]
def rsA:List (Nat×AV):=[(2,.p 14 0),(3,.p 12 0),(20,.sz 1 (.sy 2)),(21,.x (.i .i64) (.sy 2)),(22,.x (.i .i64) (.sy 3))]
def Ic:List (Nat×AV):=[(2,.p 12 0),(3,.p 14 0),(20,.sz 1 (.sy 2)),(21,.x (.i .i64) (.sy 2)),(22,.i .i64 0)]
def Lg:List (Nat×AV):=[(2,.p 14 0),(3,.p 12 0),(20,.sz 1 (.sy 2)),(21,.x (.i .i64) (.sy 2)),(22,.x (.i .i64) (.cD 4 (.sy 3) (.li .i64 1)))]
def SA:fV:=fun g=>match g with
 |227=>some numC
 |g=>S0 g
def cA:aO:=run SA 40
def Ie:jS:=fD P XT cA
def Ig(regs:aI)(h:Heap):Bool:=bc (bc (fi Lg regs) (FA 14 h) false) (Nk 12 h fun v=>Xz false v h) false
def Lh(regs:aI)(h:Heap):Bool:=bc (bc (fi Ic regs) (FA 12 h) false) (Nk 14 h fun v=>Xz true v h) false
def Ih(v:AV)(h:Heap):Bool:=match v with
 |.ag l=>isObj l fun x=>(match x with
  |.sr _ _=>true
  |_=>false)
 |_=>false
def FB(fn:Func)(cl:Code)(el:AO)(fs:aB)(kn:S)(kx:Nat->S)(kr:S):Bool:=bQ (fs++(fA1++fA0)) (hA1 el) fun h=>zj P cA XT Ie fn.ntmps (fun _ _ _=>fj) cl kn kx kr (gd rsA) h 15
def J1a(fn:Func)(cl:Code):S->(Nat->S)->S->S:=fun kn kx kr regs h aq=>
 bc (Lh regs h) (bc (FB fn cl elemV fAA (fun regs h _=>Ig regs h) (fun _=>fj) kr) (FB fn cl .gone fAB fj kx kr) false) false
def arT(fn:Func):Bool:=match fn.body with
 |some c=>(match aS c with
  |[cl]=>bc (Nat.ble 1 fn.ntmps) (bQ fA0 Vr fun h=>zj P cA XT Ie fn.ntmps (J1a fn cl) c (nB P fn Ih) (fun _=>fj) (nB P fn Ih) (gw [.sz 1 (.sy 2)] fc 0) h 12) false
  |_=>false)
 |none=>false
theorem arX:arT Tryz.f263=true:=by kernel_rfl
theorem XA(ht:fq w0):@gL (KT w0) P 227 numC:=by
 intro args ARGS E h n w k he ra hr hj;have gQ:bL (fun _=>none) w0 (· =2) E h w:=hj;have hw:w.heap[2]? =w0.heap[2]?:=(gQ.2.2 _ rfl).1;unfold numC at he;split at he<;>try (cases he;done)
 obtain⟨h1,he⟩:=aa he;rw[aC] at he;obtain⟨V,hA,rx⟩:=ra.one;have hA:ARGS=#[V]:=by apply Array.ext';simpa using hA
 subst hA;obtain⟨m,rfl,hm⟩:=tw (t:=3) h1 rx;refine(numV m hm w (ht.same hw)).mono ?_;rintro e w' ⟨⟨_,rfl,s,rfl,hz⟩,hb⟩;have vQ:0<w'.heap.size:=by have:=hb.size;have:=gQ.2.1;have:=ht.lt;omega
 refine .inl ⟨_,rfl,_,h,n+1,df E n (.string s),?_,(hr.below hb).add _ vQ,(bk.below hb).trans ((hr.below hb).ju _),he⟩;exact vX (ad (by rw[Rv];exact⟨den_add (eV _),_,rfl,hz⟩) (ad (by rw[Rv]) aF))
theorem SA_ok(ht:fq w0):@fg (KT w0) P SA:=by
 letI J:JC:=KT w0
 intro g C hC;unfold SA at hC;split at hC
 ·cases hC;exact XA ht
 ·exact Si _ C hC
theorem ZF(ht:fq w0):@bj (KT w0) P cA:=@eH (KT w0) _ (SA_ok ht) 40
theorem XC(r:aP E (Fz x) vs):∃X,Rv E x X∧vs=Le X:=by
 simp only[Fz,aP] at r;obtain⟨v0,_,rfl,r0,v1,_,rfl,r1,v2,_,rfl,r2,v3,_,rfl,r3,v4,_,rfl,r4,v5,_,rfl,r5,v6,_,rfl,r6,v7,_,rfl,r7,v8,_,rfl,r8,v9,_,rfl,r9,v10,_,rfl,O0,v11,_,rfl,r11,v12,_,rfl,r12,v13,_,rfl,r13,v14,_,rfl,r14,v15,_,rfl,r15,v16,_,rfl,r16,v17,_,rfl,r17,rfl⟩:=r;rw[Rv] at r0;subst r0;rw[Rv] at r1;subst r1;rw[Rv] at r2;subst r2;rw[Rv] at r3;subst r3;rw[Rv] at r4;subst r4;rw[Rv] at r5;subst r5;rw[Rv] at r7;subst r7;rw[Rv] at r8;subst r8;rw[Rv] at r9;subst r9;rw[Rv] at O0;subst O0;rw[Rv] at r11;subst r11;rw[Rv] at r12;subst r12;rw[Rv] at r13;subst r13;rw[Rv] at r14;subst r14;rw[Rv] at r15;subst r15;rw[Rv] at r16;subst r16;rw[Rv] at r17;subst r17;exact⟨v6,r6,rfl⟩
theorem Nn{X:Value}(r:Rv E x X):aP E (Fz x) (Le X):=
 ad (by rw[Rv]<;>rfl) (ad (by rw[Rv]<;>rfl) (ad (by rw[Rv]<;>rfl) (ad (by rw[Rv]<;>rfl) (ad (by rw[Rv]<;>rfl) (ad (by rw[Rv]<;>rfl) (ad r (ad (by rw[Rv]<;>rfl) (ad (by rw[Rv]<;>rfl) (ad (by rw[Rv]<;>rfl) (ad (by rw[Rv]<;>rfl) (ad (by rw[Rv]<;>rfl) (ad (by rw[Rv]<;>rfl) (ad (by rw[Rv]<;>rfl) (ad (by rw[Rv]<;>rfl) (ad (by rw[Rv]<;>rfl) (ad (by rw[Rv]<;>rfl) (ad (by rw[Rv]<;>rfl) aF)))))))))))))))))
theorem Ii{l:List AV}(h:isObj l k=true)(r:aP E l vs):∃x X,k x=true∧Rv E x X∧vs=Le X:=by
 obtain⟨h1,h⟩:=aa h;obtain⟨h2,h3⟩:=aa h;have e1:=bb h1;have e2:=bb h2;have e3:List.drop 7 l=(List.drop 6 l).tail:=by rw[List.tail_drop]
 cases hd:List.drop 6 l with
 |nil=>rw[hd] at e3;rw[e3] at e2;cases e2
 |cons x t=>
  have ht:t=List.drop 7 (Fz .no):=by rw[←e2,e3,hd];rfl
  have hl:l=Fz x:=by rw[←List.take_append_drop 6 l,e1,hd,ht];rfl
  subst hl;obtain⟨X,a1,a2⟩:=XC r;exact⟨x,X,h3,a1,a2⟩
theorem Ij(hr:HR E h nx w)(he:Nk i h k=true):∃L x X,E i=some L∧L.base=0∧(∃n s c,T.get .gone h i=.cells n ⟨s,some 43,true⟩ c)∧k x=true∧Rv E x X∧cQ w L.aH 43 (Le X):=by
 unfold Nk at he;split at he<;>try (cases he;done)
 rename_i n s c hc;obtain⟨h1,he⟩:=aa he;have h1:=aU h1;rw[kW] at he;have dU:=hr.obj i;rw[hc] at dU;obtain⟨L,arr,el,eL,hb,cC,dr,dz⟩:=dU;have fo:=dr.2.1 _ rfl;subst fo;have gi:L.base=0:=dr.2.2 rfl;have r2:=py 18 0 (fun j=>c.get j) (arr:=arr) (E:=E) fun j hj=>by rw[Nat.zero_add];have:=dz j (by omega);rw[gi,Nat.zero_add] at this;exact this
 obtain⟨x,X,k1,rX,e⟩:=Ii he r2;refine⟨L,x,X,eL,gi,⟨n,s,c,hc⟩,k1,rX,arr,hb,by show 18<=arr.size;omega,fun j hj=>?_⟩;have hj:j<18:=hj;rw[←e,cB,fL,List.getElem?_range' hj];simp
theorem DA(hr:HR E h nx w)(he:FA i h=true):∃L arr,E i=some L∧L.base=0∧(∃n s c,T.get .gone h i=.cells n ⟨s,some 43,true⟩ c)∧w.heap[L.aH]? =some (.cells arr 43 (0,0))∧18<=arr.size:=by
 unfold FA at he;split at he<;>try (cases he;done)
 rename_i n s c hc;have h1:=aU he;have dU:=hr.obj i;rw[hc] at dU;obtain⟨L,arr,el,eL,hb,cC,dr,dz⟩:=dU;have fo:=dr.2.1 _ rfl;subst fo;exact⟨L,arr,eL,dr.2.2 rfl,⟨n,s,c,hc⟩,hb,by omega⟩
theorem Ik{q:Nat}{L:aZ}(hr:HR E h nx w)(he:Nl q h=true)(eL:E q=some L):L.base=0∧12<=q∧(∃n s c,T.get .gone h q=.cells n ⟨s,some 52,true⟩ c)∧∃arr,w.heap[L.aH]? =some (.cells arr 52 (0,0))∧18*L.room<=arr.size:=by
 unfold Nl at he;split at he<;>try (cases he;done)
 rename_i n c hc;have h1:=aU he;have dU:=hr.obj q;rw[hc] at dU;obtain⟨L',arr,el,qM,hb,cC,dr,dz⟩:=dU;rw[eL] at qM;cases qM;have fo:=dr.2.1 _ rfl;subst fo;have gi:L.base=0:=dr.2.2 rfl;have:=(dr.1 (by show(18:Nat)≠0;omega)).1;have:L.base+L.room*18<=arr.size:=this;exact⟨gi,h1,⟨n,18,c,hc⟩,arr,hb,by omega⟩
theorem No{first:Bool}{v:AV}{N0:Nat}(hr:HR E h nx w)(he:Xz first v h=true)(rv:Rv E v V)(h9:first=false->den E (.sy 9)=some (.int .i64 N0))(hN:N0<=2000)(h1:first=true->N0=0):
  ∃q L,12<=q∧(∃n s c,T.get .gone h q=.cells n ⟨s,some 52,true⟩ c)∧E q=some L∧V=.slice (some ⟨L.aH,0,none⟩) ((N0+1:Nat)) L.room∧N0+1<=L.room∧∃arr,w.heap[L.aH]? =some (.cells arr 52 (0,0))∧18*L.room<=arr.size:=by
 unfold Xz at he;split at he<;>try (cases he;done)
 ·rename_i q e
  rcases aR he with⟨_,he⟩|⟨hf,he⟩
  ·cases he
  obtain⟨g1,g2⟩:=aa he;have g1:=cq g1;subst g1;rw[Rv] at rv;obtain⟨L,n,eL,dn,_,hn,rfl⟩:=rv;obtain⟨b0,O7,hc,arr,hb,cC⟩:=Ik hr g2 eL;have d9:=h9 hf;have d2:den E (.cD 4 (.sy 9) (.li .i64 1))=some (.int .i64 (N0+1:Nat)):=by
   simp only[den] at d9;simp only[den,d9,js];rw[if_pos (by omega)];rfl
  rw[d2] at dn;obtain rfl:n=N0+1:=by injection dn with dn;injection dn with _ dn;omega
  exact⟨q,L,O7,hc,eL,by rw[b0],hn,arr,hb,cC⟩
 ·rename_i q
  obtain⟨hf,g2⟩:=aa he;rw[Rv] at rv;obtain⟨L,eL,rfl,hn⟩:=rv;obtain⟨b0,O7,hc,arr,hb,cC⟩:=Ik hr g2 eL;have:=h1 hf;subst this;exact⟨q,L,O7,hc,eL,by rw[b0];rfl,by omega,arr,hb,cC⟩
structure wu(w0:World)(V:Value)(c nt b2 b3 bP cw i:Nat)(a:Act)(w:World):Prop where
 r2:a.tmps.getD 2 undef=.pointer (some ⟨b2,0,none⟩)
 r3:a.tmps.getD 3 undef=.pointer (some ⟨b3,0,none⟩)
 Vp:a.tmps.getD 20 undef=V
 r21:a.tmps.getD 21 undef=.int .i64 c
 r22:a.tmps.getD 22 undef=.int .i64 i
 size:a.tmps.size=nt
 defers:a.defers=[]
 bJ:dH (fun _=>False) w0 w
 xr:cQ w b3 43 (Le (.slice (some ⟨bP,0,none⟩) ((i+1:Nat)) cw))
 nD:∃arr,w.heap[b2]? =some (.cells arr 43 (0,0))∧18<=arr.size
 pr:∃arr,w.heap[bP]? =some (.cells arr 52 (0,0))∧18*cw<=arr.size
 wQ:i+1<=cw
 re:w0.heap.size<=b2
 lo3:w0.heap.size<=b3
 loP:w0.heap.size<=bP
 ne23:b2≠b3
 ne2P:b2≠bP
 ne3P:b3≠bP
 il:i<=c
def oy(V:Value):aZ:=match V with
 |.slice (some ⟨b,_,_⟩) _ cap=>⟨b,0,cap+1⟩
 |_=>⟨0,0,0⟩
def sV(V:Value)(c:Nat):List aZ:=[oy V,aw (.int .i64 c)]
def sA0(V:Value)(c:Nat):List aZ:=sV V c++(List.range 9).map fun _=>⟨0,0,0⟩
def qj(V:Value)(c i:Nat)(v:V4)(b2 b3 bP cw:Nat):List aZ:=sV V c++[aw (.int .i64 i),⟨(oy V).aH,i*4,0⟩,aw (.int .u8 v.k),aw (.float .f64 v.x),aw (.string v.s),aw (.int .i64 v.r),aw (.int .i64 (i+1:Nat)),⟨0,0,0⟩,⟨0,0,0⟩,⟨b3,0,0⟩,⟨bP,0,cw⟩,⟨b2,0,0⟩]
theorem TP(V:Value)(c:Nat)(T:List aZ):(ae (sV V c)).le (ae (sV V c++T)):=by
 intro x L h;cases x with
 |zero=>cases h
 |succ x=>
  show(sV V c++T)[x]? =some L;have h:(sV V c)[x]? =some L:=h;rw[iA (bR.1 h).1];exact h
theorem FC(hv:BE w V c)(hc:c<=1024)(e1:E 1=some (oy V))(d2:den E (.sy 2)=some (.int .i64 c)):Rv E (.sz 1 (.sy 2)) V:=by
 rw[Rv];rcases hv with⟨rfl,rfl⟩|⟨b,cap,arr,rfl,h2,h3⟩
 ·exact⟨⟨0,0,0⟩,0,e1,d2,by omega,fun _=>rfl,rfl⟩
 ·exact⟨⟨b,0,cap+1⟩,c,e1,d2,by omega,fun h=>absurd (show cap+1=0 from h) (by omega),by show _=(if cap+1=0 then _ else _);rw[if_neg (by omega)];rfl⟩
theorem XD(hv:BE w V c)(hi:i<c):∃(b cap:Nat)(arr:Array Value)(v:V4),V=.slice (some ⟨b,0,none⟩) c cap∧w.heap[b]? =some (.cells arr 31 (0,0))∧4*c<=arr.size∧v.ok∧∀j,j<4->arr.getD (4*i+j) undef=v.cells.getD j undef:=by
 rcases hv with⟨_,rfl⟩|⟨b,cap,arr,rfl,h2,h3,h4,h5⟩
 ·omega
 ·have k0:=s8 (p:=0) (j':=0) (by omega) (h5 (4*i+0) (by omega))
  have k1:=s8 (p:=0) (j':=1) (by omega) (h5 (4*i+1) (by omega));have k2:=s8 (p:=0) (j':=2) (by omega) (h5 (4*i+2) (by omega));have k3:=s8 (p:=0) (j':=3) (by omega) (h5 (4*i+3) (by omega));obtain⟨n,e0,n1,n2⟩:=(show ∃n,arr.getD (4*i+0) undef=.int .u8 n∧0<=n∧n<=255 from k0);obtain⟨x,e1,x1⟩:=(show ∃x,arr.getD (4*i+1) undef=.float .f64 x∧x<18446744073709551616 from k1);obtain⟨t,e2,t1⟩:=(show ∃s:ByteArray,arr.getD (4*i+2) undef=.string s∧(s.size:Int)<=9223372036854775807 from k2);obtain⟨r,e3,r1,r2⟩:=(show ∃n,arr.getD (4*i+3) undef=.int .i64 n∧-9223372036854775808<=n∧n<=9223372036854775807 from k3);refine⟨b,cap,arr,⟨n,x,t,r⟩,rfl,h2,by omega,⟨⟨n1,n2⟩,x1,t1,⟨r1,r2⟩⟩,fun j hj=>?_⟩;match j,hj with
  |0,_=>exact e0
  |1,_=>exact e1
  |2,_=>exact e2
  |3,_=>exact e3
theorem TQ{E:Env}:∀(n:Nat)(vs:List Value),vs.length=n->aP E (List.replicate n .no) vs
 |0,vs,h=>by rw[List.length_eq_zero_iff.1 h];exact aF
 |n+1,[],h=>by cases h
 |n+1,v::vs,h=>ad (by simp[Rv]) (TQ n vs (by simpa using h))
def okB(b2 b3 bP k:Nat):Prop:=k=b2∨k=b3∨k=bP
theorem Il{j:Nat}{b:AO}(h:([AO.gone,.gone,.gone,el,.gone,.gone,.gone,.gone,.gone,.gone,.gone,boxA,.cells 0 ⟨18,some 52,true⟩ (fu [] ⟨18,fZ⟩ 0),.cells 18 ⟨0,some 43,true⟩ (fu (List.replicate 18 .no) ⟨18,fZ⟩ 0)]:List AO)[j]? =some b)(hl:b.live=true):j=3∨j=11∨j=12∨j=13:=by
 have hj:j<14:=(bR.1 h).1;match j,hj,h with
 |0,_,h=>cases h;cases hl
 |1,_,h=>cases h;cases hl
 |2,_,h=>cases h;cases hl
 |3,_,_=>exact .inl rfl
 |4,_,h=>cases h;cases hl
 |5,_,h=>cases h;cases hl
 |6,_,h=>cases h;cases hl
 |7,_,h=>cases h;cases hl
 |8,_,h=>cases h;cases hl
 |9,_,h=>cases h;cases hl
 |10,_,h=>cases h;cases hl
 |11,_,_=>exact .inr (.inl rfl)
 |12,_,_=>exact .inr (.inr (.inl rfl))
 |13,_,_=>exact .inr (.inr (.inr rfl))
section
variable{w0:World}{V:Value}{c:Nat}(hv:BE w0 V c)(hc:c<=1024)(h0:fq w0∧∀b,cn V b->b≠2)
include hv hc h0
theorem TR:(oy V).aH<w0.heap.size:=by
 rcases hv with⟨rfl,_⟩|⟨b,cap,arr,rfl,h2,_⟩
 ·show 0<w0.heap.size;have:=h0.1.lt;omega
 ·exact(cW.1 h2).1
def ElA(w0:World)(V:Value)(c i:Nat)(v:V4)(el:AO):Prop:=(el=elemV∧i<c∧v.ok∧∃(b cap:Nat)(arr:Array Value),V=.slice (some ⟨b,0,none⟩) c cap∧w0.heap[b]? =some (.cells arr 31 (0,0))∧4*c<=arr.size∧∀j,j<4->arr.getD (4*i+j) undef=v.cells.getD j undef)∨el=.gone
theorem TU(hd:wu w0 V c nt b2 b3 bP cw i a w)(fo:ElA w0 V c i v el):
  HR (ae (qj V c i v b2 b3 bP cw)) (hA1 el) 15 w:=by
 have e1:ae (qj V c i v b2 b3 bP cw) 1=some (oy V):=rfl;have e4:ae (qj V c i v b2 b3 bP cw) 4=some ⟨(oy V).aH,i*4,0⟩:=rfl;have e12:ae (qj V c i v b2 b3 bP cw) 12=some ⟨b3,0,0⟩:=rfl;have e13:ae (qj V c i v b2 b3 bP cw) 13=some ⟨bP,0,cw⟩:=rfl;have Np:ae (qj V c i v b2 b3 bP cw) 14=some ⟨b2,0,0⟩:=rfl;have d3:den (ae (qj V c i v b2 b3 bP cw)) (.sy 3)=some (.int .i64 i):=aj (i:=2) rfl (ax _ _);have d9:den (ae (qj V c i v b2 b3 bP cw)) (.sy 9)=some (.int .i64 (i+1:Nat)):=aj (i:=8) rfl (ax _ _);have cC:=hd.bJ.size;have hvb:=TR hv hc h0;have uy:=hd.il;have rP:Rv (ae (qj V c i v b2 b3 bP cw)) (.sr 13 (.sy 9)) (.slice (some ⟨bP,0,none⟩) ((i+1:Nat)) cw):=by
  rw[Rv];exact⟨⟨bP,0,cw⟩,i+1,e13,d9,by omega,hd.wQ,rfl⟩
 have rel:RO (ae (qj V c i v b2 b3 bP cw)) w 4 el:=by
  rcases fo with⟨rfl,hi,vok,b,cap,arr,rfl,hb,hs,hcell⟩|rfl
  ·have pO:w.heap[b]? =some (.cells arr 31 (0,0)):=by rw[hd.bJ.same b hvb (fun h=>h)];exact hb
   refine⟨⟨b,i*4,0⟩,arr,31,(0,0),e4,fun h=>absurd h (by decide),pO,by show i*4+4<=_;omega,fun j hj=>?_,⟨fun h=>absurd h.2.1 (by decide),fun h=>absurd h.2.1 (by decide),fun _=>⟨⟨b,0,cap+1⟩,i,e1,d3,rfl,(Nat.zero_add _).symm⟩⟩⟩;refine jf (g:=fun j=>arr.getD (i*4+j) undef) _ _ _ (fun q x hx=>?_) (fun q=>by rw[nw];simp[Rv]) j
   have q4:q<4:=(bR.1 hx).1;have hq:arr.getD (i*4+(0+q)) undef=v.cells.getD q undef:=by rw[show i*4+(0+q)=4*i+q by omega];exact hcell q q4
   show Rv _ x (arr.getD (i*4+(0+q)) undef);rw[hq];match q,q4,hx with
   |0,_,hx=>cases hx;rw[Rv];exact⟨aj (i:=4) rfl (ax _ _),_,rfl,vok.k⟩
   |1,_,hx=>cases hx;rw[Rv];exact⟨aj (i:=5) rfl (lN _),_,rfl,vok.x⟩
   |2,_,hx=>cases hx;rw[Rv];exact⟨aj (i:=6) rfl (eV _),_,rfl,vok.s⟩
   |3,_,hx=>cases hx;rw[Rv];exact⟨aj (i:=7) rfl (ax _ _),_,rfl,vok.r⟩
  ·trivial
 obtain⟨bn,hp,Ck⟩:=hd.pr;obtain⟨Gv,h2,h2s⟩:=hd.nD;have rpr:RO (ae (qj V c i v b2 b3 bP cw)) w 13 (.cells 0 ⟨18,some 52,true⟩ (fu [] ⟨18,fZ⟩ 0)):=
  ⟨⟨bP,0,cw⟩,bn,52,e13,hp,nzQ _,⟨fun _=>⟨by show 0+cw*18<=bn.size;omega,nzQ _⟩,fun t ht=>by cases ht;rfl,fun _=>rfl⟩,fun j hj=>absurd hj (Nat.not_lt_zero _)⟩
 have b2box:cQ w b2 43 ((List.range 18).map fun j=>Gv.getD j undef):=⟨Gv,h2,by simpa using h2s,fun j hj=>by
  have hj:j<18:=by simpa using hj
  rw[cB,fL,List.getElem?_range hj];rfl⟩
 have l3:=hd.lo3;have l2:=hd.re;have lP:=hd.loP;have n23:=hd.ne23;have n2P:=hd.ne2P;have n3P:=hd.ne3P;have hin3:b3<w.heap.size:=by obtain⟨_,h,_⟩:=hd.xr;exact(cW.1 h).1
 have hinP:bP<w.heap.size:=(cW.1 hp).1;have hin2:b2<w.heap.size:=(cW.1 h2).1
 refine cX (C:=qj V c i v b2 b3 bP cw) rfl (show 12<=15 from by decide)
  ⟨trivial,trivial,trivial,rel,trivial,trivial,trivial,trivial,trivial,trivial,trivial,hd.xr.ro e12 (Nn rP) rfl,rpr,b2box.ro Np (TQ 18 _ (by simp)) rfl,trivial⟩ (fun L hL=>?_) ?_
 ·have ltab:=h0.1.lt
  have s0:∀V,(aw V).aH<w.heap.size:=fun V=>by rw[bH];omega
  have z0:0<w.heap.size:=by omega
  have hvb2:(oy V).aH<w.heap.size:=by omega
  unfold qj sV at hL;simp only[List.mem_append,mcQ,mnQ,or_false] at hL;rcases hL with(rfl|rfl)|rfl|rfl|rfl|rfl|rfl|rfl|rfl|rfl|rfl|rfl|rfl|rfl<;>first|exact s0 _|assumption
 ·rcases fo with⟨rfl,_⟩|rfl
  ·show[(oy V).aH,b3,bP,b2].Nodup
   have g1:(oy V).aH≠b3:=by omega
   have g2:(oy V).aH≠bP:=by omega
   have g3:(oy V).aH≠b2:=by omega
   simp;grind
  ·show[b3,bP,b2].Nodup
   simp;grind
theorem Im(hd:wu w0 V c nt b2 b3 bP cw i a w){fs:aB}(fo:ElA w0 V c i v el)
  (dX:Holds (ae (qj V c i v b2 b3 bP cw)) fs) {k:Heap->Bool} (hk:bQ (fs++(fA1++fA0)) (hA1 el) k=true):
  ∃h1,k h1=true∧@Vx.St (KT w0) [] (ae (qj V c i v b2 b3 bP cw)) (gd rsA) h1 15 nt a w∧
   jh (okB b2 b3 bP) w 12 (fun E h=>(ae (qj V c i v b2 b3 bP cw)).le E) (ae (qj V c i v b2 b3 bP cw)) h1 w:=by
 have hr:=TU hv hc h0 hd fo;have e1:ae (qj V c i v b2 b3 bP cw) 1=some (oy V):=rfl;have d2:den (ae (qj V c i v b2 b3 bP cw)) (.sy 2)=some (.int .i64 c):=aj (i:=1) rfl (ax _ _);have d3:den (ae (qj V c i v b2 b3 bP cw)) (.sy 3)=some (.int .i64 i):=aj (i:=2) rfl (ax _ _);have d9:den (ae (qj V c i v b2 b3 bP cw)) (.sy 9)=some (.int .i64 (i+1:Nat)):=aj (i:=8) rfl (ax _ _);have uy:=hd.il;have hf:Holds (ae (qj V c i v b2 b3 bP cw)) (fs++(fA1++fA0)):=by
  refine aJ dX (aJ ?_ ?_)
  ·exact ah ((az d3).trans (by rw[eX (by omega)])) (ah ((az d3).trans (by rw[gM (by omega)])) (ah ((az d9).trans (by rw[eX (by omega)])) (ah ((az d9).trans (by rw[gM (by omega)])) holds_nil)))
  ·exact ah ((az d2).trans (by rw[eX (by omega)])) (ah ((az d2).trans (by rw[gM (by omega)])) holds_nil)
 obtain⟨h1,he,fw,fk⟩:=bZ hk hr hf;have cG:bM (hA1 el)=12:=bX _ _;have cC:=hd.bJ.size;refine⟨h1,he,@Vx.St.mk (KT w0) _ _ _ _ _ _ _ _ (fun t=>?_) hd.size hd.defers fw ?_,⟨dH.refl _ _,fun k hk Cn=>?_,fk.bM.trans cG,fun E' h' hle oN=>hle⟩⟩
 ·rcases iK rsA t with g|⟨x,hx,g⟩
  ·rw[g];simp[Rv]
  ·rw[g]
   simp only[rsA,mcQ,mnQ,or_false,Prod.mk.injEq] at hx;rcases hx with⟨rfl,rfl⟩|⟨rfl,rfl⟩|⟨rfl,rfl⟩|⟨rfl,rfl⟩|⟨rfl,rfl⟩
   ·rw[hd.r2,Rv];exact⟨⟨b2,0,0⟩,rfl,rfl⟩
   ·rw[hd.r3,Rv];exact⟨⟨b3,0,0⟩,rfl,rfl⟩
   ·rw[hd.Vp];exact FC hv hc e1 d2
   ·rw[hd.r21,Rv];exact⟨d2,_,rfl,by show(-9223372036854775808:Int)<=(c:Int);omega,by show(c:Int)<=9223372036854775807;omega⟩
   ·rw[hd.r22,Rv];exact⟨d3,_,rfl,by show(-9223372036854775808:Int)<=(i:Int);omega,by show(i:Int)<=9223372036854775807;omega⟩
 ·refine bL.fk (h:=hA1 el) ⟨fun _ _ h=>(by cases h),cC,fun k hk=>?_⟩ fk
  subst hk;refine⟨hd.bJ.same _ h0.1.lt fun h=>h,h0.1.lt,fun x M hl hM e=>?_⟩;obtain⟨j,b,rfl,g1,g2⟩:=bT (a:=.gone) hl;have hM:(qj V c i v b2 b3 bP cw)[j]? =some M:=hM;have l3:=hd.lo3;have l2:=hd.re;have lP:=hd.loP;have ltab:=h0.1.lt;rcases Il g1 g2 with rfl|rfl|rfl|rfl
  ·cases hM
   rcases fo with⟨_,_,_,b',cap,arr,rfl,_⟩|rfl
   ·exact h0.2 b' ⟨0,c,cap,rfl⟩ e
   ·cases g1;cases g2
  ·cases hM;have e:b3=2:=e;omega
  ·cases hM;have e:bP=2:=e;omega
  ·cases hM;have e:b2=2:=e;omega
 ·obtain⟨x,M,a1,a2,a3,rfl⟩:=Cn
  rw[fk.bM,cG] at a1;rw[fk.live] at a2;obtain⟨j,b,rfl,g1,g2⟩:=bT (a:=.gone) a2;have hM:(qj V c i v b2 b3 bP cw)[j]? =some M:=a3;rcases Il g1 g2 with rfl|rfl|rfl|rfl
  ·omega
  ·cases hM;exact .inr (.inl rfl)
  ·cases hM;exact .inr (.inr rfl)
  ·cases hM;exact .inl rfl
theorem Io(hd:wu w0 V c nt b2 b3 bP cw i a w)(hb:dH (okB b2 b3 bP) w w'):dH (fun _=>False) w0 w':=by
 have l3:=hd.lo3;have l2:=hd.re;have lP:=hd.loP;exact⟨Nat.le_trans hd.bJ.size hb.size,fun k hk _=>(hb.same k (dV hk hd.bJ.size) (by intro h;rcases h with h|h|h<;>omega)).trans (hd.bJ.same k hk fun h=>h),hb.os.trans hd.bJ.os,hb.output.trans hd.bJ.output,hb.tape.trans hd.bJ.tape⟩
theorem XE(hd:wu w0 V c nt b2 b3 bP cw i a w)
  (ci:jh (okB b2 b3 bP) w 12 (fun E h=>(ae (qj V c i v b2 b3 bP cw)).le E) E' h' w'):jh (fun _=>False) w0 12 (fun E _=>(ae (sV V c)).le E) E' h' w':=by
 have l3:=hd.lo3;have l2:=hd.re;have lP:=hd.loP;exact⟨Io hv hc h0 hd ci.bJ,fun k hk hf=>by rcases ci.iq k (dV hk hd.bJ.size) hf with h|h|h<;>omega,ci.bM,fun E2 h2 hle oN=>Env.le_trans (TP V c _) (ci.z E2 h2 hle oN)⟩
theorem ZG{x y:Nat}{u:TypeId}(htu:t≠u)(h1:∃n s c,T.get .gone h x=.cells n ⟨s,some t,true⟩ c)(h2:∃n s c,T.get .gone h y=.cells n ⟨s,some u,true⟩ c):x≠y:=by
 rintro rfl;obtain⟨_,_,_,e1⟩:=h1;obtain⟨_,_,_,e2⟩:=h2;rw[e1] at e2;injection e2 with _ e2
 injection e2 with _ e2
 injection e2 with e2
 exact htu e2
theorem uB{x:Nat}(h1:∃n s c,T.get .gone h x=.cells n ⟨s,some t,true⟩ c):(T.get .gone h x).live=true:=by
 obtain⟨_,_,_,e1⟩:=h1;rw[e1];rfl
theorem Pt[JC](hd:wu w0 V c nt b2 b3 bP cw i a w)(hi:i<c){av:aI}{n':Nat}{a':Act}{Z:Env->Heap->Prop}
  (st:Vx.St [] E' av h' n' nt a' w') (ci:jh (okB b2 b3 bP) w 12 Z E' h' w') (hle:(ae (qj V c i v b2 b3 bP cw)).le E') (hk:Ig av h'=true):∃bP' TV,wu w0 V c nt b2 b3 bP' TV (i+1) a' w':=by
 have e1:ae (qj V c i v b2 b3 bP cw) 1=some (oy V):=rfl;have d2:den (ae (qj V c i v b2 b3 bP cw)) (.sy 2)=some (.int .i64 c):=aj (i:=1) rfl (ax _ _);have d3:den (ae (qj V c i v b2 b3 bP cw)) (.sy 3)=some (.int .i64 i):=aj (i:=2) rfl (ax _ _);have d9:den (ae (qj V c i v b2 b3 bP cw)) (.sy 9)=some (.int .i64 (i+1:Nat)):=aj (i:=8) rfl (ax _ _);have hr:=st.heap;unfold Ig at hk;obtain⟨k1,k3⟩:=aa hk;obtain⟨k1,k2⟩:=aa k1;obtain⟨L3,x,X,Tb,hb3,c3,kx,rX,xr⟩:=Ij hr k3;obtain⟨L2,Gv,Cp,oH,c2',TL,hs2⟩:=DA hr k2;have q3:L3=⟨b3,0,0⟩:=by have:=hle 12 _ rfl;rw[Tb] at this;exact mL this
 have q2:L2=⟨b2,0,0⟩:=by have:=hle 14 _ rfl;rw[Cp] at this;exact mL this
 subst q3 q2;obtain⟨q,LP,O7,cP,eP,rfl,CT,bn,hpp,Ck⟩:=No (N0:=i+1) hr kx rX (fun _=>an hle _ _ d9) (by omega) (fun h=>by cases h);have l3:=hd.lo3;have l2:=hd.re;have lP:=hd.loP;have cC:=hd.bJ.size;have oz:∀t x X0,(t,x)∈Lg->pZ x=true->Rv (ae (qj V c i v b2 b3 bP cw)) x X0->a'.tmps.getD t undef=X0:=fun t x X0 hm hex r0=>by
  have r:=st.regs t;rw[cK k1 t x hm] at r;exact Rv.exact hle _ _ _ hex r0 r
 have nP:∀y b,(∃n s c,T.get .gone h' y=.cells n ⟨s,some 43,true⟩ c)->E' y=some ⟨b,0,0⟩->b≠LP.aH:=fun y b hy ey e=>
  ZG hv hc h0 (show(43:Nat)≠52 by decide) hy cP (hr.inj y q ⟨b,0,0⟩ LP (uB hv hc h0 hy) (uB hv hc h0 cP) ey eP e)
 refine⟨LP.aH,LP.room,⟨oz 2 (.p 14 0) _ (by simp[Lg]) rfl (by rw[Rv];exact⟨⟨b2,0,0⟩,rfl,rfl⟩),oz 3 (.p 12 0) _ (by simp[Lg]) rfl (by rw[Rv];exact⟨⟨b3,0,0⟩,rfl,rfl⟩),oz 20 (.sz 1 (.sy 2)) _ (by simp[Lg]) rfl (FC hv hc e1 d2),
  oz 21 (.x (.i .i64) (.sy 2)) _ (by simp[Lg]) rfl (by rw[Rv];exact⟨d2,_,rfl,by show(-9223372036854775808:Int)<=(c:Int);omega,by show(c:Int)<=9223372036854775807;omega⟩),
  oz 22 (.x (.i .i64) (.cD 4 (.sy 3) (.li .i64 1))) _ (by simp[Lg]) rfl ?_,st.size,st.defers,Io hv hc h0 hd ci.bJ,xr,⟨Gv,TL,hs2⟩,⟨bn,hpp,Ck⟩,CT,l2,l3,?_,hd.ne23,nP 14 b2 c2' Cp,nP 12 b3 c3 Tb,hi⟩⟩
 ·have:den (ae (qj V c i v b2 b3 bP cw)) (.cD 4 (.sy 3) (.li .i64 1))=some (.int .i64 (i+1:Nat)):=by
   simp only[den] at d3;simp only[den,d3,js];rw[if_pos (by omega)];rfl
  rw[Rv];exact⟨this,_,rfl,by show(-9223372036854775808:Int)<=((i+1:Nat):Int);omega,by show((i+1:Nat):Int)<=9223372036854775807;omega⟩
 ·rcases gC LP.aH w.heap.size with cL|ll
  ·rcases ci.iq LP.aH cL ⟨q,LP,by rw[ci.bM];exact O7,uB hv hc h0 cP,eP,rfl⟩ with h|h|h<;>omega
  ·omega
theorem Li[JC]{regs:aI}(st:Vx.St [] E regs h nx nt a w)(ci:jh (fun _=>False) w0 12 (fun E _=>(ae (sV V c)).le E) E h w)(hk:Lh regs h=true):∃b2 b3 bP cw,wu w0 V c nt b2 b3 bP cw 0 a w:=by
 have hle:=ci.z E h (Env.le_refl _) fun _ _=>rfl
 have e1:ae (sV V c) 1=some (oy V):=rfl;have d2:den (ae (sV V c)) (.sy 2)=some (.int .i64 c):=aj (i:=1) rfl (ax _ _);have hr:=st.heap;unfold Lh at hk;obtain⟨k1,k3⟩:=aa hk;obtain⟨k1,k2⟩:=aa k1;obtain⟨L3,x,X,Tb,hb3,c3,kx,rX,xr⟩:=Ij hr k3;obtain⟨L2,Gv,Cp,oH,c2',TL,hs2⟩:=DA hr k2;obtain⟨q,LP,O7,cP,eP,rfl,CT,bn,hpp,Ck⟩:=No (N0:=0) hr kx rX (fun h=>by cases h) (by omega) (fun _=>rfl);have lo:∀{y:Nat}{M:aZ},12<=y->(T.get .gone h y).live=true->E y=some M->w0.heap.size<=M.aH:=fun {y M} hy hl hM=>by
  rcases gC M.aH w0.heap.size with cL|ll
  ·exact(ci.iq M.aH cL ⟨y,M,by rw[ci.bM];exact hy,hl,hM,rfl⟩).elim
  ·exact ll
 have oz:∀t x X0,(t,x)∈Ic->pZ x=true->Rv (ae (sV V c)) x X0->a.tmps.getD t undef=X0:=fun t x X0 hm hex r0=>by
  have r:=st.regs t;rw[cK k1 t x hm] at r;exact Rv.exact hle _ _ _ hex r0 r
 have ptr:∀t y M,(t,AV.p y 0)∈Ic->E y=some M->M.base=0->a.tmps.getD t undef=.pointer (some ⟨M.aH,0,none⟩):=fun t y M hm eM hb=>by
  have r:=st.regs t;rw[cK k1 t _ hm,Rv] at r;obtain⟨M',eM',r⟩:=r;rw[eM] at eM';cases eM';rw[r,hb]
 have nP:∀y M,(∃n s c,T.get .gone h y=.cells n ⟨s,some 43,true⟩ c)->E y=some M->M.aH≠LP.aH:=fun y M hy ey e=>
  ZG hv hc h0 (show(43:Nat)≠52 by decide) hy cP (hr.inj y q M LP (uB hv hc h0 hy) (uB hv hc h0 cP) ey eP e)
 refine⟨L2.aH,L3.aH,LP.aH,LP.room,⟨ptr 2 12 L2 (by simp[Ic]) Cp oH,ptr 3 14 L3 (by simp[Ic]) Tb hb3,oz 20 (.sz 1 (.sy 2)) _ (by simp[Ic]) rfl (FC hv hc e1 d2),
  oz 21 (.x (.i .i64) (.sy 2)) _ (by simp[Ic]) rfl (by rw[Rv];exact⟨d2,_,rfl,by show(-9223372036854775808:Int)<=(c:Int);omega,by show(c:Int)<=9223372036854775807;omega⟩),
  oz 22 (.i .i64 0) _ (by simp[Ic]) rfl (by rw[Rv];rfl),st.size,st.defers,ci.bJ,xr,⟨Gv,TL,hs2⟩,⟨bn,hpp,Ck⟩,CT,lo (by decide) (uB hv hc h0 c2') Cp,lo (by decide) (uB hv hc h0 c3) Tb,lo O7 (uB hv hc h0 cP) eP,
  fun e=>absurd (hr.inj 12 14 L2 L3 (uB hv hc h0 c2') (uB hv hc h0 c3) Cp Tb e) (by decide),nP 12 L2 c2' Cp,nP 14 L3 c3 Tb,nzQ _⟩⟩
theorem loopA{fn:Func}{cl:Code}{kn kr:Vx.S}{kx:Nat->Vx.S}(hn:aS cl=[])(hA:FB fn cl elemV fAA (fun regs h _=>Ig regs h) (fun _=>fj) kr=true)(hB:FB fn cl .gone fAB fj kx kr=true):
  ∀(N i bP cw:Nat)(a:Act)(w:World),c-i=N->wu w0 V c fn.ntmps b2 b3 bP cw i a w->
   Code.rounds P cl (@dG (KT w0) (fun _=>False) w0 12 (fun E _=>(ae (sV V c)).le E) fn.ntmps kn kx kr) (N+1) a w:=by
 letI J:JC:=KT w0
 have aQ:bj P cA:=ZF h0.1;have cE:fz P Ie:=ep mixed dv cA aQ;have d2:∀(i:Nat)(v:V4)(bP cw:Nat),den (ae (qj V c i v b2 b3 bP cw)) (.sy 2)=some (.int .i64 c):=fun i v bP cw=>aj (i:=1) rfl (ax _ _)
 have d3:∀(i:Nat)(v:V4)(bP cw:Nat),den (ae (qj V c i v b2 b3 bP cw)) (.sy 3)=some (.int .i64 i):=fun i v bP cw=>aj (i:=2) rfl (ax _ _)
 have Ff:∀(i:Nat)(v:V4)(bP cw:Nat),den (ae (qj V c i v b2 b3 bP cw)) (.cmp .leq (.sy 2) (.sy 3))=some (.bool (decide (c<=i))):=fun i v bP cw=>by
  have q:den (ae (qj V c i v b2 b3 bP cw)) (.cmp .leq (.sy 2) (.sy 3))=(bu .leq (.int .i64 c) (.int .i64 i)).map Value.bool:=by
   have a:=d2 i v bP cw;have b:=d3 i v bP cw;simp only[den] at a b;simp only[den,a,b]
  rw[q];show some (Value.bool (decide ((c:Int)<=(i:Int))))=_;rw[show decide ((c:Int)<=(i:Int))=decide (c<=i) from decide_eq_decide.2 Int.ofNat_le]
 have ltD:∀(i:Nat)(v:V4)(bP cw:Nat),den (ae (qj V c i v b2 b3 bP cw)) (.cmp .lss (.sy 3) (.sy 2))=some (.bool (decide (i<c))):=fun i v bP cw=>by
  have q:den (ae (qj V c i v b2 b3 bP cw)) (.cmp .lss (.sy 3) (.sy 2))=(bu .lss (.int .i64 i) (.int .i64 c)).map Value.bool:=by
   have a:=d2 i v bP cw;have b:=d3 i v bP cw;simp only[den] at a b;simp only[den,a,b]
  rw[q];show some (Value.bool (decide ((i:Int)<(c:Int))))=_;rw[show decide ((i:Int)<(c:Int))=decide (i<c) from decide_eq_decide.2 Int.ofNat_lt]
 have out:∀{i bP cw:Nat}{v:V4}{a:Act}{w:World}{Kn:Vx.S}{e:Exit}{a':Act}{w':World},wu w0 V c fn.ntmps b2 b3 bP cw i a w->∀{KX:Nat->Vx.S},(∀x regs h n,KX x regs h n=true->kx x regs h n=true)->e≠.normal->
   dG (okB b2 b3 bP) w 12 (fun E h=>(ae (qj V c i v b2 b3 bP cw)).le E) fn.ntmps Kn KX kr e a' w'->dG (fun _=>False) w0 12 (fun E _=>(ae (sV V c)).le E) fn.ntmps kn kx kr e a' w':=by
  intro i bP cw v a w Kn e a' w' hd KX O' cR hl;obtain⟨E',av,h',n',dB,ci,hk⟩:=hl;refine⟨E',av,h',n',dB,XE hv hc h0 hd ci,?_⟩;cases e with
  |normal=>exact absurd rfl cR
  |exit x=>exact O' _ _ _ _ hk
  |ret=>exact hk
  |goto l=>exact hk.elim
  |panic l=>exact hk.elim
  |outgrown=>exact hk.elim
 intro N;induction N with
 |zero=>
  intro i bP cw a w hN hd;have uy:=hd.il;have hi:c<=i:=by omega
  obtain⟨h1,he,st,ci⟩:=Im hv hc h0 hd (v:=z4) (el:=.gone) (fs:=fAB) (.inr rfl) (ah ((Ff i z4 bP cw).trans (by rw[eX hi])) holds_nil) hB;rw[rounds_succ];refine wp_mono (kG aQ dv cE cl (fun l hl=>by rw[hn] at hl;cases hl) fj kx _ _ h1 15 a w he st ci) ?_
  intro e a' w' hl;cases e with
  |normal=>obtain⟨_,_,_,_,_,_,hk⟩:=hl;cases hk
  |_=>exact out hd (fun _ _ _ _ h=>h) (by intro h;cases h) hl
 |succ N ih=>
  intro i bP cw a w hN hd;have hi:i<c:=by omega
  obtain⟨b,cap,arr,v,g1,g2,g3,g4,g5⟩:=XD hv hi;obtain⟨h1,he,st,ci⟩:=Im hv hc h0 hd (v:=v) (el:=elemV) (fs:=fAA) (.inl ⟨rfl,hi,g4,b,cap,arr,g1,g2,g3,g5⟩) (ah ((ltD i v bP cw).trans (by rw[eX hi])) (ah ((Ff i v bP cw).trans (by rw[gM (by omega)])) holds_nil)) hA;rw[rounds_succ];refine wp_mono (kG aQ dv cE cl (fun l hl=>by rw[hn] at hl;cases hl) (fun regs h _=>Ig regs h) (fun _=>fj) _ _ h1 15 a w he st ci) ?_
  intro e a' w' hl;cases e with
  |normal=>
   obtain⟨E',av,h',n',dB,qE,hk⟩:=hl;obtain⟨bP',TV,qw⟩:=Pt hv hc h0 hd hi dB qE (qE.z E' h' (Env.le_refl _) fun _ _=>rfl) hk;exact ih (i+1) bP' TV a' w' (by omega) qw
  |_=>exact out hd (KX:=fun _=>fj) (fun _ _ _ _ h=>by cases h) (by intro h;cases h) hl
end
theorem b263:qg Tryz.f263.body=true:=by kernel_rfl
theorem arLaw(hv:BE w0 V c)(hc:c<=1024)(h0:fq w0∧∀b,cn V b->b≠2):
  Calls P 263 #[V] w0 fun e w'=>∃X,e=.returned X∧dH (fun _=>False) w0 w'∧∃b off n cap:Nat,X=.agg (Le (.slice (some ⟨b,off,none⟩) n cap)).toArray∧b<w'.heap.size∧n<=9223372036854775807:=by
 letI J:JC:=KT w0
 obtain⟨cd,cl,hb,qZ,hn⟩:=lu b263;have aQ:bj P cA:=ZF h0.1;have cE:fz P Ie:=ep mixed dv cA aQ;have hvb:=TR hv hc h0;have ltab:=h0.1.lt;have low:(ae (sV V c)).le (ae (sA0 V c)):=TP V c _;have d2:den (ae (sA0 V c)) (.sy 2)=some (.int .i64 c):=aj (i:=1) rfl (ax _ _);have bD:∀x,(T.get .gone Vr x).live=true->False:=fun x hl=>by
  obtain⟨j,b,rfl,g1,g2⟩:=bT (a:=.gone) hl;obtain⟨_,_,rfl⟩:=bU.1 (gq g1);cases g2
 have Ci:HR (ae (sA0 V c)) Vr 12 w0:=by
  refine cX (C:=sA0 V c) rfl (show 12<=12 from by decide) (.dead _ _ fun a ha=>by obtain⟨_,_,rfl⟩:=bU.1 ha;rfl) (fun L hL=>?_) ?_
  ·have z0:0<w0.heap.size:=by omega
   have s0:∀V,(aw V).aH<w0.heap.size:=fun V=>by rw[bH];omega
   unfold sA0 sV at hL;simp only[List.mem_append,mcQ,bU,mnQ,or_false] at hL;rcases hL with(rfl|rfl)|⟨_,_,rfl⟩<;>first|exact s0 _|assumption
  ·show([]:List Nat).Nodup
   simp
 have hk:=arX;unfold arT at hk;rw[hb] at hk;dsimp only at hk;rw[qZ] at hk;have hk:bc (Nat.ble 1 Tryz.f263.ntmps) (bQ fA0 Vr fun h=>zj P cA XT Ie Tryz.f263.ntmps (J1a Tryz.f263 cl) cd (nB P Tryz.f263 Ih) (fun _=>fj) (nB P Tryz.f263 Ih) (gw [.sz 1 (.sy 2)] fc 0) h 12) false=true:=hk;obtain⟨hle,hk⟩:=aa hk;obtain⟨h1,he,fw,fk⟩:=bZ hk Ci (ah ((az d2).trans (by rw[eX (by omega)])) (ah ((az d2).trans (by rw[gM (by omega)])) holds_nil));have cG:bM Vr=12:=bX _ _;have AI:bL (fun _=>none) w0 (· =2) (ae (sA0 V c)) Vr w0:=⟨fun _ _ h=>(by cases h),nrQ _,fun k hk=>by subst hk;exact⟨rfl,ltab,fun x M hl _ _=>bD x hl⟩⟩
 refine(SD aQ dv cE (ok:=fun _=>False) (F:=12) (Z:=fun E _=>(ae (sV V c)).le E) (Fin:=fun X w'=>∃b off n cap:Nat,X=.agg (Le (.slice (some ⟨b,off,none⟩) n cap)).toArray∧b<w'.heap.size∧n<=9223372036854775807)
  (show P.funcs[(263:Nat)]? =some Tryz.f263 from Tryz.func263) hb (args:=[.sz 1 (.sy 2)]) (E:=ae (sA0 V c)) (ad (FC hv hc rfl d2) aF) (aU hle) fw (bL.fk AI fk)
  ⟨dH.refl _ _,fun k hk hf=>?_,fk.bM.trans cG,fun E' h' yL oN=>Env.le_trans low yL⟩ (fun lc hl kn kx E regs h aq a w hJ st ci=>?_) he fun E h n' w' v X cO gQ ci rv hf=>?_)
 ·obtain⟨x,M,a1,a2,a3,rfl⟩:=hf
  rw[fk.live] at a2;exact bD x a2
 ·rw[qZ] at hl
  obtain rfl:lc=cl:=by simpa using hl
  unfold J1a at hJ;obtain⟨j1,hJ⟩:=aa hJ;obtain⟨hA,hB⟩:=aa hJ;obtain⟨b2,b3,bP,cw,hd⟩:=Li hv hc h0 st ci j1;refine wp_loop_rounds (c-0+1) ?_;exact loopA hv hc h0 hn hA hB _ 0 bP cw a w rfl hd
 ·unfold Ih at hf
  split at hf<;>try (cases hf;done)
  rename_i l;rw[Rv] at rv;obtain⟨vs,rfl,rl⟩:=rv;obtain⟨x,X6,k1,r6,rfl⟩:=Ii hf rl;split at k1<;>try (cases k1;done)
  rename_i id e;rw[Rv] at r6;obtain⟨L,n,eL,dn,I2,hn2,rfl⟩:=r6;exact⟨L.aH,L.base,n,L.room,rfl,cO.kT _ _ eL,I2⟩
def XF(h:Heap)(n:Nat)(k:AV->Heap->Nat->Bool):Bool:=aM (Nat.add n 2) fun m=>aM (Nat.succ n) fun n1=>k (.ag (Fz (.sz n (.sy n1)))) h m
def arrC:Ct:=fun args h n k=>match args with
 |[v]=>(match v with
  |.sn=>XF h n k
  |.sr id e=>(match T.get .gone h id with
   |.rows t e'=>bc (bc (Nat.beq t 31) (eE e e') false) (bc (jo e 1024 (au h)) (XF h n k) false) false
   |_=>false)
  |_=>false)
 |_=>false
theorem XG(X:Ctx E0 w0 ba cap R):@gL (KJ E0 w0 (cg ba R)) P 263 arrC:=by
 intro args ARGS E h n w k he ra hr hj;have gQ:bL E0 w0 (cg ba R) E h w:=hj;have htab:fq w:=X.mh.same (gQ.2.2 _ (.inr (.inr rfl))).1;have out:∀{V:Value}{c:Nat},BE w V c->c<=1024->(∀b,cn V b->b≠2)->XF h n k=true->ARGS=#[V]->Calls P 263 ARGS w fun e w'=>(∃V,e=.returned V∧∃v h' n' E',Rv E' v V∧HR E' h' n' w'∧bk E h w E' h' w'∧k v h' n'=true):=fun {V c} hv hc hb he hA=>by
  subst hA;unfold XF at he;rw[aC,aC] at he;refine(arLaw hv hc ⟨htab,hb⟩).mono ?_;rintro e w' ⟨_,rfl,fH,b,off,q,cp,rfl,cL,hq⟩;have GO:Below w.heap.size w w':=⟨fH.os,fH.tape,fH.output,fH.size,fun k hk=>fH.same k hk fun h=>h⟩;have vQ:0<w'.heap.size:=by omega
  obtain⟨g1,g2⟩:=HR.place (hr.below GO) (L:=⟨b,off,cp+1⟩) cL;have g3:=g1.add (.int .i64 q) vQ;have g4:=g1.ju (.int .i64 q);refine⟨_,rfl,_,h,n+2,df (Vx.br E n ⟨b,off,cp+1⟩) (n+1) (.int .i64 q),?_,g3,(bk.below GO).trans (g2.trans g4),he⟩;refine vX (Nn ?_);rw[Rv];refine⟨⟨b,off,cp+1⟩,q,?_,den_add (ax _ _),by omega,fun h=>absurd (show cp+1=0 from h) (by omega),by show _=(if cp+1=0 then _ else _);rw[if_neg (by omega)];rfl⟩;unfold df;rw[if_neg (by omega)];unfold Vx.br;rw[if_pos rfl]
 unfold arrC at he;split at he<;>try (cases he;done)
 rename_i v;obtain⟨V,hA,rx⟩:=ra.one;have hA:ARGS=#[V]:=by apply Array.ext';simpa using hA
 split at he<;>try (cases he;done)
 ·rw[Rv] at rx
  subst rx;refine(out (c:=0) (.inl ⟨rfl,rfl⟩) (by omega) (fun b hb=>by obtain⟨_,_,_,hb⟩:=hb;cases hb) he hA).mono ?_;rintro e w' ⟨V,h1,h2⟩;exact .inl ⟨V,h1,h2⟩
 ·rename_i id e
  split at he<;>try (cases he;done)
  rename_i t e' hg;obtain⟨h1,Bl⟩:=aa he;obtain⟨h1,h2⟩:=aa h1;obtain⟨h3,P6⟩:=aa Bl;have h1:=aN h1;have h2:=cq h2;subst h1 h2;rw[Rv] at rx;obtain⟨L,c,eL,dc,_,hcL,rfl⟩:=rx;have im:=hr.obj id;rw[hg] at im;obtain⟨L',arr,c',qM,gi,hb,dc',_,cC,CU⟩:=im;obtain rfl:L=L':=mL (eL.symm.trans qM);obtain rfl:c=c':=by rw[dc] at dc';injection dc' with q;injection q with _ q;omega
  have hc:=gy (aD hr) e dc h3;refine(out (c:=c) (.inr ⟨L.aH,L.room,arr,by rw[gi],hb,by omega,hcL,CU⟩) (by omega) (fun b oH=>?_) P6 hA).mono ?_
  ·obtain⟨_,_,_,oH⟩:=oH
   cases oH
   exact(gQ.2.2 _ (.inr (.inr rfl))).2.2 id L (by rw[hg];rfl) eL
  ·rintro e w' ⟨V,h1,h2⟩
   exact .inl ⟨V,h1,h2⟩
def S6:fV:=fun g=>match g with
 |263=>some arrC
 |g=>S2 g
def c6:aO:=run S6 40
theorem S6_ok(X:Ctx E0 w0 ba cap R):@fg (KJ E0 w0 (cg ba R)) P S6:=by
 intro g C hC;unfold S6 at hC;split at hC
 ·cases hC;exact XG X
 ·exact Dk X _ C hC
theorem DB(X:Ctx E0 w0 ba cap R):@bj (KJ E0 w0 (cg ba R)) P c6:=@eH (KJ E0 w0 (cg ba R)) _ (S6_ok X) 40
def T1f:Tr:=.fail 1 4 1701869940
def DC(L:Lq):Lq:={L with T1:=T1f}
theorem b216:qg Tryz.f216.body=true:=by kernel_rfl
theorem b100:qg Tryz.f100.body=true:=by kernel_rfl
theorem q216a:eh c6 (kJ true) Tryz.f216 [.b true] 1 (oA 0)=true:=by kernel_rfl
theorem q216b:eh c6 (kJ false) Tryz.f216 [.b false] 1 (oA 0)=true:=by kernel_rfl
theorem q216c:eh c6 (DC (kJ true)) Tryz.f216 [.b true] 0 (pA 0)=true:=by kernel_rfl
theorem q216d:eh c6 (DC (kJ false)) Tryz.f216 [.b false] 0 (pA 0)=true:=by kernel_rfl
theorem q100a:eh c6 sJ Tryz.f100 [] 1 (oA 0)=true:=by kernel_rfl
theorem q100b:eh c6 (DC sJ) Tryz.f100 [] 0 (pA 0)=true:=by kernel_rfl
theorem Nq(f:Bool):(24,Rq.keys)∈(kJ f).rg:=by show(24,Rq.keys)∈[(1,Rq.lit f),(2,.bc),(4,.bo),(6,.La),(24,.keys),(25,.len),(26,.idx)];simp
theorem Nr(f:Bool):∀p∈(kJ f).rg,p.2.TC=true->p.1=(kJ f).lr:=fun p hp hL=>by
 have hp:p∈[(1,Rq.lit f),(2,.bc),(4,.bo),(6,.La),(24,.keys),(25,.len),(26,.idx)]:=hp;simp only[mcQ,mnQ,or_false] at hp;rcases hp with rfl|rfl|rfl|rfl|rfl|rfl|rfl<;>first|(cases hL;done)|rfl
theorem ZH:(23,Rq.keys)∈sJ.rg:=by show(23,Rq.keys)∈[(1,Rq.bc),(2,.bo),(4,.La),(23,.keys),(24,.len),(25,.idx)];simp
theorem ZI:∀p∈sJ.rg,p.2.TC=true->p.1=sJ.lr:=fun p hp hL=>by
 have hp:p∈[(1,Rq.bc),(2,.bo),(4,.La),(23,.keys),(24,.len),(25,.idx)]:=hp;simp only[mcQ,mnQ,or_false] at hp;rcases hp with rfl|rfl|rfl|rfl|rfl|rfl<;>first|(cases hL;done)|rfl
theorem gN1(f:Bool):cf ud (fun j x=>j=x/2) 0 (kJ f).TS:=by cases f<;>rfl
theorem gN2(f:Bool):cf ud (fun j x=>j=x/2) 0 (kJ f).TN:=by cases f<;>rfl
theorem gT1:cf ud (fun j d=>j=1) 0 T1q:=⟨rfl,rfl,rfl⟩
theorem gT1f:cf ud (fun j d=>j=1) 0 T1f:=by show kB 1 4 1701869940=true;rfl
theorem TW(f:Bool):wi 216 (.bool f) ud:=fun l h8=>by
 obtain⟨c,cl,hb,hc,hn⟩:=lu b216;have mP:P.funcs[(216:Nat)]? =some Tryz.f216:=Tryz.func216;rcases ig 5 (l.getD 0 z4).k with h|h
 ·cases f
  ·exact Ps (fun X=>DB X) (EX:=[.bool false]) mP hb hc hn (Nq false) (Nr false) (fun {E}=>ad (by rw[Rv]) aF) q216b rfl gT1 (gN1 false) (gN2 false) (fJ (by omega)) (by decide) (ic h8 (by decide) h)
  ·exact Ps (fun X=>DB X) (EX:=[.bool true]) mP hb hc hn (Nq true) (Nr true) (fun {E}=>ad (by rw[Rv]) aF) q216a rfl gT1 (gN1 true) (gN2 true) (fJ (by omega)) (by decide) (ic h8 (by decide) h)
 ·cases f
  ·exact Ps (fun X=>DB X) (L:=DC (kJ false)) (EX:=[.bool false]) mP hb hc hn (Nq false) (Nr false) (fun {E}=>ad (by rw[Rv]) aF) q216d rfl gT1f (gN1 false) (gN2 false) (nzQ _) (by decide) (kC (by decide) h)
  ·exact Ps (fun X=>DB X) (L:=DC (kJ true)) (EX:=[.bool true]) mP hb hc hn (Nq true) (Nr true) (fun {E}=>ad (by rw[Rv]) aF) q216c rfl gT1f (gN1 true) (gN2 true) (nzQ _) (by decide) (kC (by decide) h)
theorem run100:iN 100 ud:=fun l h8=>by
 obtain⟨c,cl,hb,hc,hn⟩:=lu b100;have mP:P.funcs[(100:Nat)]? =some Tryz.f100:=Tryz.func100;have gS:cf ud (fun j x=>j=x/2) 0 sJ.TS:=rfl;have gN:cf ud (fun j x=>j=x/2) 0 sJ.TN:=⟨rfl,rfl,by decide,⟨by decide,rfl,rfl⟩,rfl⟩;rcases ig 5 (l.getD 0 z4).k with h|h
 ·exact Ps (fun X=>DB X) (EX:=[]) mP hb hc hn ZH ZI (fun {E}=>aF) q100a rfl gT1 gS gN (fJ (by omega)) (by decide) (ic h8 (by decide) h)
 ·exact Ps (fun X=>DB X) (L:=DC sJ) (EX:=[]) mP hb hc hn ZH ZI (fun {E}=>aF) q100b rfl gT1f gS gN (nzQ _) (by decide) (kC (by decide) h)
theorem w93:K8 93 216 false=true:=by kernel_rfl
theorem w94:K8 94 216 true=true:=by kernel_rfl
theorem run93:iN 93 ud:=Pj mn (TW false) w93
theorem run94:iN 94 ud:=Pj mn (TW true) w94
end
end Go.Proofs.YtngagklmbbogiaaGreatDoor.Ob
