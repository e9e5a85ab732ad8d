/- Parts of one proof (Ob70 to Ob73). No condition. -/
import Derived.Test.YtngagklmbbogiaaGreatDoorD4
set_option linter.all false
namespace Go.Proofs.YtngagklmbbogiaaGreatDoor.Ob
open Go Go.RowKit Vx
set_option maxRecDepth 100000
noncomputable section
variable{g:FuncId}{m:Nat}{ok:Nat->Nat->Bool}
def boxF(g:FuncId):AO:=.cells 1 ⟨0,some 94,true⟩ (fu [.fn (.func g) [] []] ⟨1,fZ⟩ 0)
def boxS(m:Nat):AO:=.cells 1 ⟨0,some 22,true⟩ (fu [gA m] ⟨1,fZ⟩ 0)
def B0(R:List An)(A:Value)(ba cap ab bp n c:Nat)(l:List V4)(fb ob:Nat)(lf:ct):List aZ:=sB R A ba cap ab bp n c l++
 [aw (.int .i64 (tK lf:Nat)),aw (.int .i64 (tM lf:Nat)),aw (.int .u8 (tW lf:Nat)),aw (.int .u8 (tD lf:Nat)),⟨fb,0,0⟩,⟨ob,0,0⟩,⟨bp,0,0⟩,⟨bp,0,0⟩,⟨bp,0,0⟩,⟨bp,0,0⟩]
def h49(g:FuncId)(m:Nat):Heap:=jq ((List.range 24).map (fun _=>AO.gone)++[boxF g,boxS m,.gone,.gone,.gone,MZ]) 30
def XH(m:Nat):List AV->Bool:=fun args=>match args with
 |[.ag l]=>cH l [.p 30 0,gA m]
 |_=>false
theorem XI(args:List AV)(h:XH m args=true):args=[.ag [.p 30 0,gA m]]:=by
 unfold XH at h;split at h<;>try (cases h;done)
 rw[bb h]
def w49T(g:FuncId)(m:Nat):Bool:=bQ [] (h49 g m) fun h=>Vx.run (SW g (XH m)) 40 49 [.p 30 0,.p 25 0,.p 26 0] h 31 fun v h' _=>qC v fun _=>H' v h'
theorem cQ.lt'{w:World}{b t:Nat}{ib:List Value}(h:cQ w b t ib):b<w.heap.size:=by obtain⟨_,h,_⟩:=h;exact(cW.1 h).1
structure BF(w:World)(bp ba ab:Nat)(R:List An)(fb ob:Nat)(g:FuncId)(S:Value):Prop where
 f:cQ w fb 94 [.func (.func g) #[] #[]]
 o:cQ w ob 22 [S]
 O8:fb≠ob
 WZ:fb≠bp
 KM:ob≠bp
 apart:∀k,qF ba ab R k->k≠fb∧k≠ob
section
variable{w:World}{bp ba cap ab:Nat}{R:List An}{A S:Value}{l:List V4}(s:St w bp ba cap ab R A S l)
include s
theorem St.low49(n c fb ob:Nat)(lf:ct):(ae (sB R A ba cap ab bp n c l)).le (ae (B0 R A ba cap ab bp n c l fb ob lf)):=Bx
theorem St.wrap49{fb ob:Nat}(B:BF w bp ba ab R fb ob g S)(kQ:∀k md,ok k md=true->k<=255∧md<=255){T:Tr}(hg:cf ok (fun _ _=>False) 0 T){n c:Nat}(hm5:m<5)(jg:Rv (ae (sB R A ba cap ab bp n c l)) (gA m) S)
  (law:∀{w:World},St w bp ba cap ab R A S l->Calls P g #[.agg #[.pointer (some ⟨bp,0,none⟩),S]] w fun e w'=>∃V,e=.returned V∧qS bp w w'∧cU R w.heap.size bp V w' (ev R T)) (hk:w49T g m=true):
  Calls P 49 #[.pointer (some ⟨bp,0,none⟩),.pointer (some ⟨fb,0,none⟩),.pointer (some ⟨ob,0,none⟩)] w fun e w'=>∃V,e=.returned V∧qS bp w w'∧cU R w.heap.size bp V w' (ev R T):=by
 have zh:=s.Bq;have low:=s.low49 n c fb ob (ev R T);have jX:ae (B0 R A ba cap ab bp n c l fb ob (ev R T)) 30=some ⟨bp,0,0⟩:=rfl;have XB:=s.yU n c;have X:Ctx (ae (B0 R A ba cap ab bp n c l fb ob (ev R T))) w ba cap R:=by
  refine⟨s.ans,s.len,s.fits,an low _ _ XB.rows,an low _ _ XB.many,?_,s.mh⟩;rcases XB.place with h|⟨h,b,h2⟩
  ·exact .inl (low _ _ h)
  ·exact .inr ⟨h,b,low _ _ h2⟩
 have rA:=(s.Fe n c).mono low;have TT:Ts (ae (B0 R A ba cap ab bp n c l fb ob (ev R T))) (ev R T):=⟨aj (i:=20) rfl (ax _ _),aj (i:=21) rfl (ax _ _),aj (i:=22) rfl (ax _ _),aj (i:=23) rfl (ax _ _)⟩;have dh:=Nh kQ hg R;have r0:aP (ae (B0 R A ba cap ab bp n c l fb ob (ev R T))) [.ag [.p 30 0,gA m]] (#[.agg #[.pointer (some ⟨bp,0,none⟩),S]]:Array Value).toList:=
  ad (by rw[Rv];exact⟨[.pointer (some ⟨bp,0,none⟩),S],rfl,ad (by rw[Rv];exact⟨⟨bp,0,0⟩,jX,rfl⟩) (ad (jg.mono low) aF)⟩) aF
 have hex:F0 [.ag [.p 30 0,gA m]]=true:=by
  show bc (bc (pZ (.p 30 0)) (bc (pZ (gA m)) true false) false) true false=true;rw[Bu m hm5];rfl
 obtain⟨want,bn,yP,Ck,wY,yQ,Bj,_⟩:=s.pl;have nv:aP (ae (B0 R A ba cap ab bp n c l fb ob (ev R T))) ([Ob.pq,.i .i64 0]++di 87) (A::.int .i64 0::(List.range 87).map fun j=>bn.getD (j+2) undef):=
  ad rA (ad (by rw[Rv]) (fX 87 _ (by rw[gp,ot]) fun V hV=>by
   obtain⟨j,hj,rfl⟩:=bU.1 hV;exact Bj j (List.mem_range.1 hj)))
 have e25:ae (B0 R A ba cap ab bp n c l fb ob (ev R T)) 25=some ⟨fb,0,0⟩:=rfl;have xj:ae (B0 R A ba cap ab bp n c l fb ob (ev R T)) 26=some ⟨ob,0,0⟩:=rfl;have lv:∀(b:AO)(i:Nat),((List.range 24).map (fun _=>AO.gone)++[boxF g,boxS m,.gone,.gone,.gone,MZ])[i]? =some b->b.live=true->i=24∨i=25∨i=29:=by
  intro b i hb hl;have hi:i<30:=(bR.1 hb).1;rcases gC i 24 with h|h
  ·exfalso
   rw[iA (by rw[gp,ot];exact h),fL,List.getElem?_range h] at hb;cases hb;cases hl
  ·have h6:i=24∨i=25∨i=26∨i=27∨i=28∨i=29:=by omega
   rcases h6 with rfl|rfl|rfl|rfl|rfl|rfl
   ·exact .inl rfl
   ·exact .inr (.inl rfl)
   ·cases hb;cases hl
   ·cases hb;cases hl
   ·cases hb;cases hl
   ·exact .inr (.inr rfl)
 have hr:HR (ae (B0 R A ba cap ab bp n c l fb ob (ev R T))) (h49 g m) 31 w:=by
  refine cX (C:=B0 R A ba cap ab bp n c l fb ob (ev R T)) rfl (show 30<=31 from by decide) (.append (.dead _ _ fun a ha=>by obtain⟨_,_,rfl⟩:=bU.1 ha;rfl) ⟨?_,?_,trivial,trivial,trivial,?_,trivial⟩) (fun L hL=>?_) (by
   show[fb,ob,bp].Nodup;have n1:=B.O8;have n2:=B.WZ;have n3:=B.KM;simp;grind)
  ·exact B.f.ro e25 (ad (by rw[Rv];exact⟨[],[],rfl,aF,aF⟩) aF) rfl
  ·exact B.o.ro xj (ad (jg.mono low) aF) rfl
  ·refine⟨⟨bp,0,0⟩,bn,124,jX,yP,by show 0+89<=_;omega,nV.gJ _ _ _ _ _,fun j hj=>?_⟩
   have:=ef 89 _ _ nv j hj;rw[show(0:Nat)+j=j by omega];have e:(A::Value.int .i64 0::(List.range 87).map fun j=>bn.getD (j+2) undef).getD j undef=bn.getD j undef:=by
    match j,hj with
    |0,_=>exact wY.symm
    |1,_=>exact yQ.symm
    |j+2,hj=>exact eQ bn 87 j (by omega)
   rw[←e];exact this
  ·have s0:∀V,(aw V).aH<w.heap.size:=fun V=>by rw[bH];omega
   have ux:=s.wJ;have yR:=s.abs;unfold B0 sB at hL;have hfb:=B.f.lt';have im:=B.o.lt';simp only[List.mem_append,bU] at hL;rcases hL with(hL|⟨_,_,rfl⟩)|hL
   ·simp only[mcQ,mnQ,or_false] at hL
    rcases hL with rfl|rfl|rfl|rfl|rfl|rfl|rfl|rfl<;>first|exact s0 _|assumption|(split<;>exact ux)
   ·exact s0 _
   ·simp only[mcQ,mnQ,or_false] at hL
    rcases hL with rfl|rfl|rfl|rfl|rfl|rfl|rfl|rfl|rfl|rfl<;>first|exact s0 _|assumption
 have cG:bM (h49 g m)=30:=bX _ _;have hj:bL (ae (B0 R A ba cap ab bp n c l fb ob (ev R T))) w (qF ba ab R) (ae (B0 R A ba cap ab bp n c l fb ob (ev R T))) (h49 g m) w:=by
  refine⟨Env.le_refl _,nrQ _,fun k hk=>⟨rfl,?_,fun i L hl hL e=>?_⟩⟩
  ·rcases hk with(rfl|⟨a,ha,off,n',c',hK⟩|rfl)|rfl
   ·exact s.wJ
   ·obtain⟨i,hi⟩:=List.getElem?_of_mem ha
    rcases(s.ans i a hi).keys with⟨h1,_⟩|⟨b,tX,bz,arr,el,fr,h1,h2,_⟩
    ·rw[hK] at h1;cases h1
    ·rw[hK] at h1;cases h1
     exact(cW.1 h2).1
   ·exact s.mh.lt
   ·exact s.abs
  ·have hkA:k≠fb∧k≠ob∧k≠bp:=by
    rcases hk with(rfl|⟨a,ha,hb⟩|rfl)|rfl
    ·exact⟨fun e=>(B.apart _ (.inl (.inl rfl))).1 e,fun e=>(B.apart _ (.inl (.inl rfl))).2 e,s.O8⟩
    ·exact⟨fun e=>(B.apart _ (.inl (.inr (.inl ⟨a,ha,hb⟩)))).1 e,fun e=>(B.apart _ (.inl (.inr (.inl ⟨a,ha,hb⟩)))).2 e,(s.kb a ha k hb).1⟩
    ·exact⟨fun e=>(B.apart _ (.inl (.inr (.inr rfl)))).1 e,fun e=>(B.apart _ (.inl (.inr (.inr rfl)))).2 e,s.SB⟩
    ·exact⟨fun e=>(B.apart _ (.inr rfl)).1 e,fun e=>(B.apart _ (.inr rfl)).2 e,s.KM⟩
   obtain⟨j,b,rfl,h1,h2⟩:=bT (a:=.gone) hl;rcases lv b j h1 h2 with rfl|rfl|rfl
   ·have:ae (B0 R A ba cap ab bp n c l fb ob (ev R T)) 25=some L:=hL
    rw[e25] at this;cases this;exact hkA.1 e.symm
   ·have:ae (B0 R A ba cap ab bp n c l fb ob (ev R T)) 26=some L:=hL
    rw[xj] at this;cases this;exact hkA.2.1 e.symm
   ·have:ae (B0 R A ba cap ab bp n c l fb ob (ev R T)) 30=some L:=hL
    rw[jX] at this;cases this;exact hkA.2.2 e.symm
 have qa:∀k,fp (ae (B0 R A ba cap ab bp n c l fb ob (ev R T))) (h49 g m) k->k=bp:=by
  rintro k ⟨i,L,a1,a2,a3,rfl⟩;rw[cG] at a1;obtain⟨j,b,rfl,h1,h2⟩:=bT (a:=.gone) a2;rcases lv b j h1 h2 with rfl|rfl|rfl
  ·exact absurd a1 (by decide)
  ·exact absurd a1 (by decide)
  ·have:ae (B0 R A ba cap ab bp n c l fb ob (ev R T)) 30=some L:=a3
   rw[jX] at this;cases this;rfl
 have za:@fg (KJ (ae (B0 R A ba cap ab bp n c l fb ob (ev R T))) w (qF ba ab R)) P (SW g (XH m)):=fun x C hC=>by
  unfold SW at hC;cases hx:Nat.beq x g with
  |true=>
   rw[hx] at hC;cases hC
   obtain rfl:=aN hx;exact Dv s X jX rA dh TT law fun args hc E VS hle r=>by
    rw[XI args hc] at r;exact Array.ext' (aP.exact hle _ _ _ hex r0 r)
  |false=>rw[hx] at hC;cases hC
 have ra:aP (ae (B0 R A ba cap ab bp n c l fb ob (ev R T))) [.p 30 0,.p 25 0,.p 26 0] (#[.pointer (some ⟨bp,0,none⟩),.pointer (some ⟨fb,0,none⟩),.pointer (some ⟨ob,0,none⟩)]:Array Value).toList:=
  ad (by rw[Rv];exact⟨⟨bp,0,0⟩,jX,rfl⟩) (ad (by rw[Rv];exact⟨⟨fb,0,0⟩,e25,rfl⟩) (ad (by rw[Rv];exact⟨⟨ob,0,0⟩,xj,rfl⟩) aF))
 refine(@jK (KJ (ae (B0 R A ba cap ab bp n c l fb ob (ev R T))) w (qF ba ab R)) P _ (@eH (KJ (ae (B0 R A ba cap ab bp n c l fb ob (ev R T))) w (qF ba ab R)) _ za 40) _ _ _ _ [] 49 _ _ (fun v h'=>qC v fun _=>H' v h') hk hr (fun h' fk=>bL.fk hj fk) holds_nil ra (fun v h=>rfl)).mono ?_;rintro e w' ⟨V,v,h',n',E',rfl,rv,cO,gQ,gs,xg,hk⟩;have sq:H' v h'=true:=by
  unfold qC at hk;split at hk
  ·exact hk
  ·cases hk
 have ci:jh (· =bp) w 30 (fun _ _=>True) E' h' w':=jh.goes (w:=w) ⟨dH.refl _ _,fun k _ hk=>qa k hk,cG,fun _ _ _ _=>trivial⟩ gs;have eF:=gs.ext _ _ jX;refine⟨V,rfl,ci.bJ.one,?_⟩;have lI:∀lf,dZ 30 v h' lf=true->cU R w.heap.size bp V w' lf:=fun lf h=>pz X gQ.1 cO ci eF rv h
 obtain⟨dk,dm,dw,dd⟩:=TT;have dk:=an gQ.1 _ _ dk;have dm:=an gQ.1 _ _ dm;have dw:=an gQ.1 _ _ dw;have dd:=an gQ.1 _ _ dd;generalize ev R T=lf at *;have fk:∀c:Nat,den E' (tI c)=some (.bool (decide (((tK lf:Nat):Int)=c))):=fun c=>bx (k:=.i64) (c:=(c:Int)) dk
 have kx:∀{c:Nat}{a b:Bool},pick (tJ (au h') c) a b=true->(tK lf=c∧a=true)∨(tK lf≠c∧b=true):=fun {c a b} h=>by
  rcases iu h with⟨h1,h2⟩|⟨h1,h2⟩
  ·exact .inl ⟨by have:=gD ((aX xg (fk c)).1 h1);omega,h2⟩
  ·exact .inr ⟨by have:=of_decide_eq_false ((aX xg (fk c)).2 h1);omega,h2⟩
 unfold H' at sq;rcases kx sq with⟨q0,fS⟩|⟨q0,fS⟩
 ·rcases dh with⟨q,md,hq,nM,rfl⟩|rfl|rfl|rfl|rfl|⟨m,a,rfl,_,_⟩<;>first|(exfalso;revert q0;decide)|(exfalso;exact absurd q0 (by show ¬(5:Nat)=0;omega))|skip
  unfold qC at fS;split at fS<;>try (cases fS;done)
  rename_i l0;obtain⟨h1,h2⟩:=aa fS;rw[Rv] at rv;obtain⟨vs,rfl,rl⟩:=rv;rw[bb h1] at rl;refine⟨by rw[show zO.cells bO=vs from(tq rl).symm],?_⟩;unfold plWS at h2;split at h2<;>try (cases h2;done)
  rename_i c hc;obtain⟨b2,h2⟩:=aa h2;obtain⟨b3,b4⟩:=aa h2;have fG:=cO.obj 30;rw[hc] at fG;obtain⟨L,arr,el,eL,hb,cC,dr,dz⟩:=fG;rw[eF] at eL;cases eL;have fo:=dr.2.1 _ rfl;subst fo;have xw:∀{v:AV}{s q:Nat}{V:Value},Ph v s=true->den E' (.sy s)=some (.int .u8 (q:Nat))->Rv E' v V->V=.int .u8 q:=fun {v s q V} h d r=>by
   unfold Ph at h;split at h<;>try (cases h;done)
   obtain rfl:=aN h;rw[Rv] at r;have:=r.1;rw[d] at this;exact(mL this).symm
  have BY:=xw b2 dw (dz 2 (by decide));have xh:=xw b3 dd (dz 3 (by decide));rw[Nat.zero_add] at BY xh;refine⟨arr,hb,by have:0+89<=arr.size:=cC;omega,BY,xh,fun j hj=>?_⟩;have oV:=dz (j+2) (by omega);rw[Nat.zero_add] at oV;have dh:leaf (c.get (j+2))=true:=cM b4 _ (bU.2 ⟨j,List.mem_range.2 hj,rfl⟩);exact bY dh oV
 rcases kx fS with⟨q1,fS⟩|⟨q1,fS⟩
 ·rcases dh with⟨q,md,hq,nM,rfl⟩|rfl|rfl|rfl|rfl|⟨m,a,rfl,_,_⟩<;>first|(exfalso;exact q0 rfl)|(exfalso;revert q1;decide)|(exfalso;exact absurd q1 (by show ¬(5:Nat)=1;omega))|skip
  exact lI _ fS
 rcases kx fS with⟨q2,fS⟩|⟨q2,fS⟩
 ·rcases dh with⟨q,md,hq,nM,rfl⟩|rfl|rfl|rfl|rfl|⟨m,a,rfl,_,_⟩<;>first|(exfalso;exact q0 rfl)|(exfalso;exact q1 rfl)|(exfalso;revert q2;decide)|(exfalso;exact absurd q2 (by show ¬(5:Nat)=2;omega))|skip
  exact lI _ fS
 rcases kx fS with⟨q3,fS⟩|⟨q3,fS⟩
 ·rcases dh with⟨q,md,hq,nM,rfl⟩|rfl|rfl|rfl|rfl|⟨m,a,rfl,_,_⟩<;>first|(exfalso;exact q0 rfl)|(exfalso;exact q1 rfl)|(exfalso;exact q2 rfl)|(exfalso;revert q3;decide)|(exfalso;exact absurd q3 (by show ¬(5:Nat)=3;omega))|skip
  exact lI _ fS
 rcases kx fS with⟨q4,fS⟩|⟨q4,fS⟩
 ·rcases dh with⟨q,md,hq,nM,rfl⟩|rfl|rfl|rfl|rfl|⟨m,a,rfl,_,_⟩<;>first|(exfalso;exact q0 rfl)|(exfalso;exact q1 rfl)|(exfalso;exact q2 rfl)|(exfalso;exact q3 rfl)|(exfalso;revert q4;decide)|(exfalso;exact absurd q4 (by show ¬(5:Nat)=4;omega))|skip
  exact lI _ fS
 ·rcases dh with⟨q,md,hq,nM,rfl⟩|rfl|rfl|rfl|rfl|⟨m,a,rfl,ha,_⟩<;>first|(exfalso;exact q0 rfl)|(exfalso;exact q1 rfl)|(exfalso;exact q2 rfl)|(exfalso;exact q3 rfl)|(exfalso;exact q4 rfl)|skip
  have hR:=s.len;have hm:=(bR.1 ha).1;exact eY X gQ.1 cO ci eF (fY (p:=22) (d:=m) dm (by omega)) rv fS
end
def dy(g:FuncId)(ok:Nat->Nat->Bool):Prop:=∀l:List V4,(∀v∈l,v.may=true)->∃T,cf ok (fun _ _=>False) 0 T∧∀{w:World}{bp ba cap ab fb ob:Nat}{R:List An}{A S:Value},St w bp ba cap ab R A S l->BF w bp ba ab R fb ob g S->
 Calls P 49 #[.pointer (some ⟨bp,0,none⟩),.pointer (some ⟨fb,0,none⟩),.pointer (some ⟨ob,0,none⟩)] w fun e w'=>∃V,e=.returned V∧qS bp w w'∧cU R w.heap.size bp V w' (ev R T)
def lX(g:FuncId):Bool:=(List.range 5).all fun m=>w49T g m
theorem my(kQ:∀k md,ok k md=true->k<=255∧md<=255)(h:zn g ok)(hk:lX g=true):dy g ok:=fun l hm=>by
 obtain⟨T,hg,hT⟩:=h l hm;refine⟨T,hg,fun {w bp ba cap ab fb ob R A S} s B=>?_⟩;obtain⟨m,n,c,m5,ho,hh,jg,nQ,iR⟩:=s.Ds (k:=0) (q:=[]) (nzQ _) (by decide) ox;exact St.wrap49 s B kQ hg m5 jg (fun s=>hT s) (Aad.1 hk m (List.mem_range.2 m5))
theorem iN.may(h:iN g ok):zn g ok:=fun l hm=>h l fun v hv=>ZD (hm v hv)
theorem w49_88:lX 88=true:=by kernel_rfl
theorem w49_89:lX 89=true:=by kernel_rfl
theorem w49_90:lX 90=true:=by kernel_rfl
theorem w49_91:lX 91=true:=by kernel_rfl
theorem w49_92:lX 92=true:=by kernel_rfl
theorem w49_93:lX 93=true:=by kernel_rfl
theorem w49_94:lX 94=true:=by kernel_rfl
theorem w49_95:lX 95=true:=by kernel_rfl
theorem w49_96:lX 96=true:=by kernel_rfl
theorem w49_97:lX 97=true:=by kernel_rfl
theorem w49_98:lX 98=true:=by kernel_rfl
theorem w49_99:lX 99=true:=by kernel_rfl
theorem XJ:lX 100=true:=by kernel_rfl
theorem XK:lX 101=true:=by kernel_rfl
theorem XL:lX 102=true:=by kernel_rfl
theorem XM:lX 103=true:=by kernel_rfl
theorem l49_88:dy 88 nR:=my oP run88.may w49_88
theorem l49_89:dy 89 nR:=my oP run89.may w49_89
theorem l49_90:dy 90 nR:=my oP run90 w49_90
theorem l49_91:dy 91 nR:=my oP run91.may w49_91
theorem l49_92:dy 92 nR:=my oP run92 w49_92
theorem l49_93:dy 93 ud:=my mn run93.may w49_93
theorem l49_94:dy 94 ud:=my mn run94.may w49_94
theorem l49_95:dy 95 ud:=my mn run95.may w49_95
theorem l49_96:dy 96 ud:=my mn run96.may w49_96
theorem l49_97:dy 97 ud:=my mn run97.may w49_97
theorem l49_98:dy 98 ud:=my mn run98.may w49_98
theorem l49_99:dy 99 ud:=my mn run99.may w49_99
theorem XN:dy 100 ud:=my mn run100.may XJ
theorem XO:dy 101 nR:=my oP run101.may XK
theorem XP:dy 102 nR:=my oP run102.may XL
theorem XQ:dy 103 nR:=my oP run103.may XM
def oL(p:Nat):List AV:=Co (jv (zi 0)) (.sz p (.fn 20 (.sy 6)))
def XR(b:Bool):Ct:=fun args h n k=>match args with
 |[kd,md,.ag l]=>bc (bc (cY kd (.x (.i .u8) (.sy 7))) (bc (cY md (.x (.i .u8) (.sy 8))) (cH l (oL 5)) false) false) (k (.b b) h n) false
 |_=>false
def Ns:Ct:=fun args h n k=>match args with
 |[.ag l]=>(match cV l 23 with
  |.sz p _=>bc (bc (cH l (oL p)) (bc (Nat.ble n 2999999) (bc (Nat.beq p 5) true (bc (Nat.ble p 2999999) (oJ p 6 h) false)) false) false) (T.dj (.glob 3000061 0 fc) h n fun h1=>aM (Nat.succ n) fun n1=>k (.ag (oL n)) h1 n1) false
  |_=>false)
 |_=>false
def orK(C D:Ct):Ct:=fun args h n k=>bc (C args h n k) true (D args h n k)
inductive qX where
 |wait|done|fail (er l x:Nat)|ans
def isNo(v:AV):Bool:=match v with
 |.sn=>true
 |_=>false
def Lj:AV->Heap->Bool:=fun v _=>isNo v
def Nt(l:List AV)(h:Heap):Bool:=match cV l 23 with
 |.sz p _=>bc (cH l (oL p)) (bc (Nat.ble p 2999999) (bc (Nat.ble 22 p) (oJ p 6 h) false) false) false
 |_=>false
def DE(v:AV)(h:Heap):Bool:=match v with
 |.so r 0 1 0=>bc (Nat.ble 22 r) (match T.get .gone h r with
  |.cells 26 ⟨26,some 36,true⟩ c=>Nt ((List.range 26).map fun j=>c.get j) h
  |_=>false) false
 |_=>false
def xD(v:AV)(h:Heap):Bool:=match v with
 |.sr r e=>bc (bc (Nat.ble 22 r) (eE e (.cD 4 (.sy 2) (.li .i64 1))) false) (match T.get .gone h r with
  |.blob 36 26 14 l e2=>bc (eE e2 (.cD 4 (.sy 2) (.li .i64 1))) (Nt l h) false
  |_=>false) false
 |_=>false
def runE(cls:qX)(id n:Nat)(h:Heap)(k:AV->Heap->Nat->Bool):Bool:=match cls with
 |.wait=>tV ([.no,.no,.x (.i .u8) (.sy 10),.x (.i .u8) (.sy 11)]++di 85) id h fun h1=>k (.ag jL) h1 n
 |.done=>T.dj .gone h id fun h1=>aM (Nat.add n 25) fun n1=>k (.ag (.i .u8 1::List.drop 1 (je n .sn))) h1 n1
 |.fail er l x=>T.dj .gone h id fun h1=>k (.ag (jw er l x)) h1 n
 |.ans=>T.dj Tt h id fun h1=>aM (Nat.succ n) fun n1=>T.dj (.glob 3000061 0 fc) h1 n1 fun h2=>aM (Nat.add n 2) fun n2=>k (.ag (oL n1)) h2 n2
def lY(h:Heap):Bool:=match T.get .gone h 20 with
 |.cells 6 _ _=>true
 |_=>false
def runK(row:AV->Heap->Bool)(cls:qX):Ct:=fun args h n k=>match args with
 |[.p id 0,.p 3 0,.p 4 0]=>(match T.get .gone h id with
  |.cells m gB c=>bc (bc (bc (Nat.beq m 89) (Da gB BZ) false) (bc (bc (bc (Nat.ble n 2999990) (Nat.ble 22 id) false) (bc (row (c.get 0) h) (lY h) false) false) (bc (Xi (c.get 1)) (Gl c 87 2 fun l=>cj l) false) false) false) (jO h id (runE cls id n h k)) false
  |_=>false)
 |_=>false
def SN(b:Bool)(row:AV->Heap->Bool)(cls:qX):fV:=fun g=>match g with
 |180=>some uS
 |68=>some (XR b)
 |69=>some (orK Ns (vY c0 69))
 |49=>some (runK row cls)
 |_=>none
def SN0(cls:qX):fV:=fun g=>match g with
 |180=>some uS
 |69=>some (orK Ns (vY c0 69))
 |49=>some (runK Lj cls)
 |_=>none
def jz(ans kd md:AV)(begun over:Bool):List AV:=[.fn (.func 49) [] [.p 3 0,.p 4 0],ans,kd,md,.b begun,.b over]
def Nu(l:List AV):AO:=.cells 6 ⟨0,some 120,true⟩ (fu l ⟨6,fZ⟩ 0)
def hN(l:List AV)(row:AO):Heap:=jq ((List.range 19).map (fun _=>AO.gone)++[Nu l,row]) 20
def fNx:aB:=[(.cmp .leq (.sy 2) (.li .i64 39),true),(.cmp .leq (.sy 2) (.li .i64 (-1)),false),(.cmp .leq (.fn 20 (.sy 6)) (.li .i64 1024),true)]
def fSt:aB:=[(.cmp .leq (.sy 2) (.li .i64 39),true),(.cmp .leq (.sy 2) (.li .i64 (-1)),false)]
def fAns:aB:=[(.cmp .eql (jv (zi 0) 0) (.li .u8 0),false)]
def kN:AV:=.x (.i .u8) (.sy 7)
def mN:AV:=.x (.i .u8) (.sy 8)
def nxT(S:fV)(l:List AV)(row:AO)(fs:aB)(fin:AV->Heap->Bool):Bool:=bQ fs (hN l row) fun h=>Vx.run S 40 28 [.p 20 0,.ag (oL 5)] h 22 fun v h' _=>fin v h'
def xE(a:List AV):List AV->Bool:=List.rec (motive:=fun _=>List AV->Bool) (fun b=>List.rec (motive:=fun _=>Bool) true (fun _ _ _=>false) b) (fun v _ ih b=>List.rec (motive:=fun _=>Bool) false (fun u us _=>bc (cY v u) (ih us) false) b) a
theorem xG:∀{a b:List AV},xE a b=true->a=b
 |[],[],_=>rfl
 |[],_::_,h=>by cases h
 |_::_,[],h=>by cases h
 |v::a,u::b,h=>by
  have h:bc (cY v u) (xE a b) false=true:=h;obtain⟨h1,h2⟩:=aa h;rw[bV h1,xG h2]
def Ip(v:AV)(e:Int)(k:List AV->Bool):Bool:=match v with
 |.tu [.ag l,x]=>bc (bc (cY x (.i .i64 e)) (bc (Nat.beq (List.length l) 87) (cj l) false) false) (k l) false
 |_=>false
def FD(h:Heap)(k:AV->List AV->Bool):Bool:=match T.get .gone h 20 with
 |.cells 6 ⟨0,some 120,true⟩ c=>k (c.get 1) ((List.range 6).map fun j=>c.get j)
 |_=>false
def finWait(row:AV->Heap->Bool)(v:AV)(h:Heap):Bool:=Ip v 0 fun l=>bc (bc (cY (cV l 0) (.x (.i .u8) (.sy 10))) (cY (cV l 1) (.x (.i .u8) (.sy 11))) false)
 (FD h fun a m=>bc (row a h) (xE m (jz a (.x (.i .u8) (.sy 10)) (.x (.i .u8) (.sy 11)) true false)) false) false
def xH(yp:List AV->Bool)(v:AV)(h:Heap):Bool:=Ip v 0 fun l=>bc (bc (cY (cV l 0) (.i .u8 7)) (yp (List.drop 61 l)) false)
 (FD h fun a m=>xE m (jz .sn kN mN true true)) false
def XS(cls:qX)(l:List AV):Bool:=match cls with
 |.done=>cY (cV l 0) (.i .u8 1)
 |.fail er m x=>cH l (jw er m x)
 |.ans=>cH (List.take 23 l) (List.take 23 (oL 0))
 |.wait=>false
def zo(v:AV)(h:Heap):Bool:=Ip v 160 fun _=>true
def Iq:AV->Heap->Bool:=Lj
def TX(row:AV->Heap->Bool)(cls:qX):AV->Heap->Bool:=match cls with
 |.wait=>finWait row
 |c=>xH (XS c)
def fsN(cls:qX):aB:=match cls with
 |.ans=>fAns++fNx
 |_=>fNx
def nx0(cls:qX):Bool:=nxT (SN0 cls) (jz .sn kN mN false false) .gone (fsN cls) (TX Iq cls)
def nx1(cls:qX):Bool:=nxT (SN true DE cls) (jz .sn kN mN true false) .gone (fsN cls) (TX DE cls)
def nx2(cls:qX):Bool:=nxT (SN true xD cls) (jz (.sr 21 (.sy 2)) kN mN true false) (.blob 36 26 14 [] (.sy 2)) (fsN cls) (TX xD cls)
def YP(l:List AV):Heap:=jq ((List.range 19).map (fun _=>AO.gone)++[Nu l,.gone]) 22
def SNf:fV:=fun g=>match g with
 |68=>some (XR false)
 |_=>none
def stT(ans:AV):Bool:=bQ fSt (YP (jz ans kN mN true false)) fun h=>Vx.run SNf 40 28 [.p 20 0,.ag (oL 5)] h 22 fun v h' _=>zo v h'
def stO:Bool:=bQ fSt (YP (jz .sn kN mN true true)) fun h=>Vx.run S0 40 28 [.p 20 0,.ag (oL 5)] h 22 fun v h' _=>zo v h'
theorem x0_w:nx0 .wait=true:=by kernel_rfl
theorem x1_w:nx1 .wait=true:=by kernel_rfl
theorem x2_w:nx2 .wait=true:=by kernel_rfl
theorem x0_d:nx0 .done=true:=by kernel_rfl
theorem x1_d:nx1 .done=true:=by kernel_rfl
theorem x2_d:nx2 .done=true:=by kernel_rfl
theorem x0_f1:nx0 (.fail 1 4 1701869940)=true:=by kernel_rfl
theorem x1_f1:nx1 (.fail 1 4 1701869940)=true:=by kernel_rfl
theorem x2_f1:nx2 (.fail 1 4 1701869940)=true:=by kernel_rfl
theorem x0_f2:nx0 (.fail 2 8 8750038247350955892)=true:=by kernel_rfl
theorem x1_f2:nx1 (.fail 2 8 8750038247350955892)=true:=by kernel_rfl
theorem x2_f2:nx2 (.fail 2 8 8750038247350955892)=true:=by kernel_rfl
theorem x0_f3:nx0 (.fail 2 7 32760367581326953)=true:=by kernel_rfl
theorem x1_f3:nx1 (.fail 2 7 32760367581326953)=true:=by kernel_rfl
theorem x2_f3:nx2 (.fail 2 7 32760367581326953)=true:=by kernel_rfl
theorem x0_a:nx0 .ans=true:=by kernel_rfl
theorem x1_a:nx1 .ans=true:=by kernel_rfl
theorem x2_a:nx2 .ans=true:=by kernel_rfl
theorem s_a:stT .sn=true:=by kernel_rfl
theorem s_b:stO=true:=by kernel_rfl
theorem s_c:stT (.sr 21 (.sy 2))=true:=by kernel_rfl
end
end Go.Proofs.YtngagklmbbogiaaGreatDoor.Ob
