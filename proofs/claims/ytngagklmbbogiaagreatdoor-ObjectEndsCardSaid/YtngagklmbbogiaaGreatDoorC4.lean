/- defineProperty: a start where Describe's leaves are told by symbols. No condition. -/
import Derived.Test.YtngagklmbbogiaaGreatDoorC2
set_option linter.all false
namespace Go.Proofs.YtngagklmbbogiaaGreatDoor.Ob
open Go Go.RowKit Vx
set_option maxRecDepth 100000
noncomputable section
variable{ao:AO}
def kD(R:List An)(d:Nat):Value:=.int .i64 (Tj (ev R (later d TD)):Nat)
def mD(R:List An)(d:Nat):Value:=.int .i64 (lcM d (ev R (later d TD)):Nat)
def sD(R:List An)(A:Value)(ba cap ab bp n c:Nat)(l:List V4):List aZ:=sB R A ba cap ab bp n c l++
 ([aw (kD R 0),aw (mD R 0),aw (kD R 1),aw (mD R 1),aw (kD R 2),aw (mD R 2),aw (kD R 3),aw (mD R 3),aw (kD R 4),aw (mD R 4),aw (kD R 5),aw (mD R 5)]++((List.range 7).map (fun _=>⟨bp,0,0⟩)++[⟨bp,0,0⟩]))
def hD(ao:AO):Heap:=jq ([.gone,.gone,.gone,.gone,.gone,ao]++((List.range 33).map (fun _=>AO.gone)++[MZ])) 40
def T3d:Tr:=.ask 1 6 0 (.ite 5 0 false 1 .done te)
def kIs(fs:aB)(d c:Nat):Nat:=cr fs (.cmp .eql (kE d) (.li .i64 (.ofNat c)))
def stD(d:Nat)(v:AV)(h:Heap):Bool:=bc (Nat.ble d 5) (pick (kIs (au h) d 0) (dZ 40 v h (.wait 1 7)) (pick (kIs (au h) d 1) (dZ 40 v h (.wait 1 8)) (pick (kIs (au h) d 2) (dQ (Nat.add 22 (Nat.mul 2 d)) 40 v h (.ans 0))
 (pick (kIs (au h) d 3) (dZ 40 v h (.fail 1 4 1701869940)) (jr (Nat.add 22 (Nat.mul 2 d)) (au h) (dQ (Nat.add 22 (Nat.mul 2 d)) 40 v h) T3d))))) false
def Xn(v:AV)(h:Heap)(T1:Tr):Bool:=qb (au h) (fun lf=>match lf with
 |.go d=>stD d v h
 |lf=>dZ 40 v h lf) T1
def T90(T1:Tr):Tr:=dM (fun d=>dM (fun q=>later (d+q) T3d) (later d TD)) T1
def rD(cc:aO)(g:FuncId)(args:List AV)(ao:AO)(fs:aB)(T1:Tr):Bool:=bQ fs (hD ao) fun h=>cc g args h 41 fun v h' _=>qC v fun _=>Xn v h' T1
section
variable{w:World}{bp ba cap ab:Nat}{R:List An}{A S:Value}{l:List V4}(s:St w bp ba cap ab R A S l)
include s
theorem St.lowD(n c:Nat):(ae (sB R A ba cap ab bp n c l)).le (ae (sD R A ba cap ab bp n c l)):=by
 intro x L h;cases x with
 |zero=>cases h
 |succ x=>
  show(sD R A ba cap ab bp n c l)[x]? =some L;have h:(sB R A ba cap ab bp n c l)[x]? =some L:=h;unfold sD;rw[iA (bR.1 h).1];exact h
theorem St.tellD(n c:Nat):Ng (ae (sD R A ba cap ab bp n c l)) R:=by
 intro d hd;have key:∀d,d<=5->(sD R A ba cap ab bp n c l)[20+2*d]? =some (aw (kD R d))∧(sD R A ba cap ab bp n c l)[21+2*d]? =some (aw (mD R d)):=fun d hd=>by
  match d,hd with
  |0,_=>exact⟨rfl,rfl⟩
  |1,_=>exact⟨rfl,rfl⟩
  |2,_=>exact⟨rfl,rfl⟩
  |3,_=>exact⟨rfl,rfl⟩
  |4,_=>exact⟨rfl,rfl⟩
  |5,_=>exact⟨rfl,rfl⟩
 obtain⟨k1,k2⟩:=key d hd;refine⟨?_,?_⟩
 ·show den _ (.sy (21+2*d))=_
  rw[show 21+2*d=(20+2*d)+1 by omega];exact aj k1 (ax _ _)
 ·show den _ (.sy (22+2*d))=_
  rw[show 22+2*d=(21+2*d)+1 by omega];exact aj k2 (ax _ _)
theorem St.beginD(n c:Nat)(nQ:RO (ae (sD R A ba cap ab bp n c l)) w 6 ao)(oU:ao=.gone∨ao.live=true):
  HR (ae (sD R A ba cap ab bp n c l)) (hD ao) 41 w∧bL (ae (sD R A ba cap ab bp n c l)) w (cg ba R) (ae (sD R A ba cap ab bp n c l)) (hD ao) w∧(∀k,fp (ae (sD R A ba cap ab bp n c l)) (hD ao) k->k=bp)∧bM (hD ao)=40:=by
 have zh:=s.Bq;obtain⟨want,bn,yP,Ck,wY,yQ,Bj,_⟩:=s.pl;have e40:ae (sD R A ba cap ab bp n c l) 40=some ⟨bp,0,0⟩:=rfl;have e6:ae (sD R A ba cap ab bp n c l) 6=some ⟨ab,0,0⟩:=rfl;have nv:aP (ae (sD R A ba cap ab bp n c l)) ([Ob.pq,.i .i64 0]++di 87) (A::.int .i64 0::(List.range 87).map fun j=>bn.getD (j+2) undef):=
  ad ((s.Fe n c).mono (s.lowD n c)) (ad (by rw[Rv]) (fX 87 _ (by rw[gp,ot]) fun V hV=>by
   obtain⟨j,hj,rfl⟩:=bU.1 hV;exact Bj j (List.mem_range.1 hj)))
 have lv:∀(b:AO)(i:Nat),([AO.gone,.gone,.gone,.gone,.gone,ao]++((List.range 33).map (fun _=>AO.gone)++[MZ]))[i]? =some b->b.live=true->(i=5∧ao.live=true)∨i=39:=by
  intro b i hb hl;have hi:i<40:=(bR.1 hb).1;rcases gC i 6 with h6|h6
  ·rw[iA h6] at hb
   match i,h6,hb with
   |0,_,hb=>cases hb;cases hl
   |1,_,hb=>cases hb;cases hl
   |2,_,hb=>cases hb;cases hl
   |3,_,hb=>cases hb;cases hl
   |4,_,hb=>cases hb;cases hl
   |5,_,hb=>cases hb;exact .inl ⟨rfl,hl⟩
  ·rw[zE h6] at hb
   have hb:((List.range 33).map (fun _=>AO.gone)++[MZ])[i-6]? =some b:=hb;rcases gC (i-6) 33 with h|h
   ·exfalso
    rw[iA (by rw[gp,ot];exact h),fL,List.getElem?_range h] at hb;cases hb;cases hl
   ·exact .inr (by omega)
 have hr:HR (ae (sD R A ba cap ab bp n c l)) (hD ao) 41 w:=by
  refine cX (C:=sD R A ba cap ab bp n c l) rfl (show 40<=41 from by decide) (.append (l:=[AO.gone,.gone,.gone,.gone,.gone,ao]) ⟨trivial,trivial,trivial,trivial,trivial,nQ,trivial⟩ (.append (.dead _ _ fun a ha=>by obtain⟨_,_,rfl⟩:=bU.1 ha;rfl) ⟨?_,trivial⟩)) (fun L hL=>?_) ?_
  ·refine⟨⟨bp,0,0⟩,bn,124,e40,yP,by show 0+89<=_;omega,nV.gJ _ _ _ _ _,fun j hj=>?_⟩
   have:=ef 89 _ _ nv j hj;rw[show(0:Nat)+j=j by omega];have e:(A::Value.int .i64 0::(List.range 87).map fun j=>bn.getD (j+2) undef).getD j undef=bn.getD j undef:=by
    match j,hj with
    |0,_=>exact wY.symm
    |1,_=>exact yQ.symm
    |j+2,hj=>exact eQ bn 87 j (by omega)
   rw[←e];exact this
  ·have s0:∀V,(aw V).aH<w.heap.size:=fun V=>by rw[bH];omega
   have ux:=s.wJ;have yR:=s.abs;unfold sD sB at hL;simp only[List.mem_append,bU] at hL;rcases hL with(hL|⟨_,_,rfl⟩)|hL|⟨_,_,rfl⟩|hL
   ·simp only[mcQ,mnQ,or_false] at hL
    rcases hL with rfl|rfl|rfl|rfl|rfl|rfl|rfl|rfl<;>first|exact s0 _|assumption|(split<;>exact ux)
   ·exact s0 _
   ·simp only[mcQ,mnQ,or_false] at hL
    rcases hL with rfl|rfl|rfl|rfl|rfl|rfl|rfl|rfl|rfl|rfl|rfl|rfl<;>exact s0 _
   ·exact zh
   ·simp only[mcQ,mnQ,or_false] at hL
    subst hL;exact zh
  ·have cR:=s.KM
   rcases oU with rfl|oU
   ·show[bp].Nodup
    simp
   ·show(if ao.live then ab::[bp] else[bp]).Nodup
    rw[if_pos oU];simp[cR]
 have cG:bM (hD ao)=40:=bX _ _;have hj:bL (ae (sD R A ba cap ab bp n c l)) w (cg ba R) (ae (sD R A ba cap ab bp n c l)) (hD ao) w:=by
  refine⟨Env.le_refl _,nrQ _,fun k hk=>⟨rfl,?_,fun i L hl hL e=>?_⟩⟩
  ·rcases hk with rfl|⟨a,ha,off,n',c',hK⟩|rfl
   ·exact s.wJ
   ·obtain⟨i,hi⟩:=List.getElem?_of_mem ha
    rcases(s.ans i a hi).keys with⟨h1,_⟩|⟨b,tX,bz,arr,el,fr,h1,h2,_⟩
    ·rw[hK] at h1;cases h1
    ·rw[hK] at h1;cases h1
     exact(cW.1 h2).1
   ·exact s.mh.lt
  ·obtain⟨j,b,rfl,h1,h2⟩:=bT (a:=.gone) hl
   rcases lv b j h1 h2 with⟨rfl,_⟩|rfl
   ·have:ae (sD R A ba cap ab bp n c l) 6=some L:=hL
    rw[e6] at this;cases this;rcases hk with rfl|⟨a,ha,hb⟩|rfl
    ·exact s.WZ e.symm
    ·exact(s.kb a ha k hb).2 e.symm
    ·exact s.P8 e.symm
   ·have:ae (sD R A ba cap ab bp n c l) 40=some L:=hL
    rw[e40] at this;cases this;rcases hk with rfl|⟨a,ha,hb⟩|rfl
    ·exact s.O8 e.symm
    ·exact(s.kb a ha k hb).1 e.symm
    ·exact s.SB e.symm
 have qa:∀k,fp (ae (sD R A ba cap ab bp n c l)) (hD ao) k->k=bp:=by
  rintro k ⟨i,L,a1,a2,a3,rfl⟩;rw[cG] at a1;obtain⟨j,b,rfl,h1,h2⟩:=bT (a:=.gone) a2;rcases lv b j h1 h2 with⟨rfl,_⟩|rfl
  ·exact absurd a1 (by decide)
  ·have:ae (sD R A ba cap ab bp n c l) 40=some L:=a3
   rw[e40] at this;cases this;rfl
 exact⟨hr,hj,qa,cG⟩
theorem St.ctxD(n c:Nat):Ctx (ae (sD R A ba cap ab bp n c l)) w ba cap R:=by
 have X:=s.yU n c;have low:=s.lowD n c;refine⟨s.ans,s.len,s.fits,an low _ _ X.rows,an low _ _ X.many,?_,s.mh⟩;rcases X.place with h|⟨h,b,h2⟩
 ·exact .inl (low _ _ h)
 ·exact .inr ⟨h,b,low _ _ h2⟩
theorem St.goD{cc:aO}(Nd:∀{E0:Env},Ctx E0 w ba cap R->Ng E0 R->@bj (KJ E0 w (cg ba R)) P cc)(n c:Nat){g:FuncId}{args:List AV}{ARGS:Array Value}{fs:aB}{T1:Tr}(hk:rD cc g args ao fs T1=true)(hf:Holds (ae (sD R A ba cap ab bp n c l)) fs)
  (ra:aP (ae (sD R A ba cap ab bp n c l)) args ARGS.toList) (nQ:RO (ae (sD R A ba cap ab bp n c l)) w 6 ao) (oU:ao=.gone∨ao.live=true):
  Calls P g ARGS w fun e w'=>∃V,e=.returned V∧qS bp w w'∧cU R w.heap.size bp V w' (ev R (T90 T1)):=by
 obtain⟨hr,hj,qa,cG⟩:=s.beginD n c nQ oU;have X:=s.ctxD n c;have TT:=s.tellD n c;have e40:ae (sD R A ba cap ab bp n c l) 40=some ⟨bp,0,0⟩:=rfl;refine(@jK (KJ (ae (sD R A ba cap ab bp n c l)) w (cg ba R)) P cc (Nd X TT) _ _ _ _ fs g _ _ (fun v h'=>qC v fun _=>Xn v h' T1) hk hr (fun h' fk=>bL.fk hj fk) hf ra (fun v h=>rfl)).mono ?_;rintro e w' ⟨V,v,h',n',E',rfl,rv,cO,gQ,gs,xg,hk⟩;have sq:Xn v h' T1=true:=by
  unfold qC at hk;split at hk
  ·exact hk
  ·cases hk
 have ci:jh (· =bp) w 40 (fun _ _=>True) E' h' w':=jh.goes (w:=w) ⟨dH.refl _ _,fun k _ hk=>qa k hk,cG,fun _ _ _ _=>trivial⟩ gs;have eF:=gs.ext _ _ e40;refine⟨V,rfl,ci.bJ.one,?_⟩;have lI:∀lf,dZ 40 v h' lf=true->cU R w.heap.size bp V w' lf:=fun lf h=>pz X gQ.1 cO ci eF rv h
 unfold Xn at sq;have dh:=lC X gQ.1 xg sq;have eT:ev R (T90 T1)=match ev R T1 with
  |.go d=>ev R (dM (fun q=>later (d+q) T3d) (later d TD))
  |lf=>lf:=eJ T1
 rw[eT];cases hL1:ev R T1 with
 |go d=>
  rw[hL1] at dh;have dh:stD d v h'=true:=dh;unfold stD at dh;obtain⟨hd5,dh⟩:=aa dh;have hd5:=aU hd5;obtain⟨dk,dm⟩:=TT d hd5;have dk:=an gQ.1 _ _ dk;have dm:=an gQ.1 _ _ dm;show cU R w.heap.size bp V w' (ev R (dM (fun q=>later (d+q) T3d) (later d TD)));rw[eJ];have vi:=Zx R d;have sH:=Tm (vi.imp (fun z=>z) fun⟨m,a,h1,_⟩=>⟨m,h1⟩);generalize ev R (later d TD)=lf at *;have fk:∀c:Nat,den E' (.cmp .eql (kE d) (.li .i64 (.ofNat c)))=some (.bool (decide (((Tj lf:Nat):Int)=c))):=fun c=>bx (k:=.i64) (c:=(c:Int)) dk
  have kx:∀{c:Nat}{a b:Bool},pick (kIs (au h') d c) a b=true->(Tj lf=c∧a=true)∨(Tj lf≠c∧b=true):=fun {c a b} h=>by
   rcases iu h with⟨h1,h2⟩|⟨h1,h2⟩
   ·exact .inl ⟨by have:=gD ((aX xg (fk c)).1 h1);omega,h2⟩
   ·exact .inr ⟨by have:=of_decide_eq_false ((aX xg (fk c)).2 h1);omega,h2⟩
  have hp:∀N:Nat,den E' (mE d)=some (.int .i64 (N:Nat))->N<=1000->∀m,m<100->den E' (ji (Nat.add 22 (Nat.mul 2 d)) m)=some (.int .i64 (N+m:Nat)):=fun N h hN=>fY h hN
  rcases kx dh with⟨q0,dh⟩|⟨q0,dh⟩
  ·rcases sH with⟨g0,rfl⟩|⟨g0,rfl⟩|⟨g0,m,rfl⟩|⟨g0,rfl⟩|⟨g0,q,hq,rfl⟩<;>first|(exfalso;omega)|skip
   exact lI _ dh
  rcases kx dh with⟨q1,dh⟩|⟨q1,dh⟩
  ·rcases sH with⟨g0,rfl⟩|⟨g0,rfl⟩|⟨g0,m,rfl⟩|⟨g0,rfl⟩|⟨g0,q,hq,rfl⟩<;>first|(exfalso;omega)|skip
   exact lI _ dh
  rcases kx dh with⟨q2,dh⟩|⟨q2,dh⟩
  ·rcases sH with⟨g0,rfl⟩|⟨g0,rfl⟩|⟨g0,m,rfl⟩|⟨g0,rfl⟩|⟨g0,q,hq,rfl⟩<;>first|(exfalso;omega)|skip
   have hm:m<R.length:=by
    rcases vi with hl|⟨m',a',h1,h2,h3⟩
    ·rcases hl with hl|hl|hl|⟨_,_,hl⟩<;>cases hl
    ·cases h1;exact(bR.1 h2).1
   have hR:=s.len;exact eY X gQ.1 cO ci eF (hp m dm (by omega)) rv dh
  rcases kx dh with⟨q3,dh⟩|⟨q3,dh⟩
  ·rcases sH with⟨g0,rfl⟩|⟨g0,rfl⟩|⟨g0,m,rfl⟩|⟨g0,rfl⟩|⟨g0,q,hq,rfl⟩<;>first|(exfalso;omega)|skip
   exact lI _ dh
  ·rcases sH with⟨g0,rfl⟩|⟨g0,rfl⟩|⟨g0,m,rfl⟩|⟨g0,rfl⟩|⟨g0,q,hq,rfl⟩<;>first|(exfalso;omega)|skip
   have hp:=hp (d+q) dm (by omega);obtain⟨lf,h1,h2⟩:=jj X gQ.1 hp xg dh;show cU R w.heap.size bp V w' (ev R (later (d+q) T3d));rw[h2];exact eY X gQ.1 cO ci eF hp rv h1
 |wait k md=>rw[hL1] at dh;exact lI _ dh
 |done=>rw[hL1] at dh;exact lI _ dh
 |fail er l x=>rw[hL1] at dh;exact lI _ dh
 |ans m=>rw[hL1] at dh;exact lI _ dh
 |bad=>rw[hL1] at dh;cases dh
end
def S5:fV:=fun g=>match g with
 |211=>some Tk
 |g=>S4 g
def c5:aO:=run S5 40
theorem c5_ok{E0:Env}{w0:World}{ba cap:Nat}{R:List An}(X:Ctx E0 w0 ba cap R)(hT:Ng E0 R):@bj (KJ E0 w0 (cg ba R)) P c5:=by
 refine @eH (KJ E0 w0 (cg ba R)) _ (fun g C hC=>?_) 40
 unfold S5 at hC;split at hC
 ·cases hC;exact Tn X hT
 ·exact ZC X _ C hC
def Xo(g:FuncId)(m:Nat)(q:List (Nat×Nat×Bool))(fm:aB)(T1:Tr):Bool:=rD c5 g [.ag [.p 40 0,gA m]] (ij m) (fF m++(kF q++f2)++fm) T1
def e90(i:Nat):Bool:=Xo 90 3 (oA 0++oA 1++oA 2) (qG 1++(iy 4 (uf .go)).getD i []) (uf .go)
end
end Go.Proofs.YtngagklmbbogiaaGreatDoor.Ob
