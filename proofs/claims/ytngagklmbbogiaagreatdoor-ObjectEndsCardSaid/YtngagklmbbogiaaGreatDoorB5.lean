/- Parts of one proof (Ob30 to Ob31). No condition. -/
import Derived.Test.YtngagklmbbogiaaGreatDoorB3
import Derived.WalkLawsBesides
import Derived.Handy
set_option linter.all false
namespace Go.Proofs.YtngagklmbbogiaaGreatDoor.Ob
open Go Go.RowKit Vx
set_option maxRecDepth 100000
noncomputable section
variable{E0:Env}{R:List An}{ba cap:Nat}{w0:World}
structure Zw(w:World)(bp ba cap:Nat)(R:List An)(A:Value)(d:Nat):Prop where
 pl:∃want,dE w bp A (.int .i64 d) want
 ans:∀(i:Nat)(a:An),R[i]? =some a->a.ok w ba i
 len:R.length<=40
 fits:∀(i:Nat)(a:An),R[i]? =some a->mH a
 row:(A=.slice (some ⟨ba,0,none⟩) R.length cap)∨(R=[]∧A=bO)
 wJ:ba<w.heap.size
 O8:ba≠bp
 kb:∀a∈R,∀b,cn a.K b->b≠bp
 dl:d<=50
 mh:fq w
 SB:2≠bp
def sM(R:List An)(A:Value)(ba cap bp:Nat)(l:List V4)(d:Nat):List aZ:=sB R A ba cap bp bp 0 0 l++
 [⟨bp,0,0⟩,⟨bp,0,0⟩,⟨bp,0,0⟩,⟨bp,0,0⟩,aw (.int .i64 d),⟨bp,0,0⟩,⟨bp,0,0⟩,⟨bp,0,0⟩,⟨bp,0,0⟩,⟨bp,0,0⟩]
def hM:Heap:=jq ((List.range 29).map (fun _=>AO.gone)++[E8]) 30
def fM:aB:=[(.cmp .leq (.sy 25) (.li .i64 50),true),(.cmp .leq (.sy 25) (.li .i64 (-1)),false)]++f2
def H6(h:Heap):Bool:=match T.get .gone h 30 with
 |.cells 89 ⟨0,some 124,true⟩ _=>true
 |_=>false
def Nc(h:Heap):Bool:=match T.get .gone h 31 with
 |.cells _ _ _=>true
 |_=>false
def Tf(v:AV)(h:Heap):ct->Bool
 |.go q=>bc (Nat.ble q 40) (bc (dQ 25 30 v h .done) (iP h fun v=>cY v (.x (.i .i64) (ji 25 q))) false) false
 |lf=>dQ 25 30 v h lf
def mT(cc:aO)(g:FuncId)(args:List AV)(fs:aB)(T:Tr):Bool:=bQ (fs++fM) hM fun h=>cc g args h 31 fun v h' _=>qC v fun _=>bc (H6 h') (bc (Nc h') (jr 25 (au h') (Tf v h') T) false) false
def Tg(R:List An)(s0 bp:Nat)(A:Value)(d:Nat)(V:Value)(w':World):ct->Prop
 |.go q=>(∃o:iB,o.ok∧o.k=1∧V=.agg (o.cells bO).toArray)∧∃want,dE w' bp A (.int .i64 (d+q:Nat)) want
 |lf=>cU R s0 bp V w' lf
def PlB(w:World)(bp:Nat):Prop:=∃arr:Array Value,w.heap[bp]? =some (.cells arr 124 (0,0))∧89<=arr.size
section
variable{w:World}{bp ba cap d:Nat}{R:List An}{A:Value}(s:Zw w bp ba cap R A d)
include s
theorem Zw.Bq:bp<w.heap.size:=by obtain⟨_,_,h,_⟩:=s.pl;exact(cW.1 h).1
theorem Zw.ctx(l:List V4):Ctx (ae (sB R A ba cap bp bp 0 0 l)) w ba cap R:=by
 refine⟨s.ans,s.len,s.fits,aj (i:=0) rfl (ax _ _),aj (i:=1) rfl (ax _ _),?_,s.mh⟩;rcases s.row with rfl|⟨h,rfl⟩
 ·exact .inl rfl
 ·exact .inr ⟨h,ba,rfl⟩
theorem Zw.pq(l:List V4):Rv (ae (sB R A ba cap bp bp 0 0 l)) Ob.pq A:=by
 unfold Ob.pq;rw[Rv];have d:den (ae (sB R A ba cap bp bp 0 0 l)) (.sy 2)=some (.int .i64 R.length):=aj (i:=1) rfl (ax _ _);have hl:=s.len;rcases s.row with rfl|⟨rfl,rfl⟩
 ·exact⟨⟨ba,0,cap+1⟩,R.length,rfl,d,by omega,fun h=>absurd (show cap+1=0 from h) (by omega),by show _=(if cap+1=0 then _ else _);rw[if_neg (by omega)];rfl⟩
 ·exact⟨⟨ba,0,0⟩,0,rfl,d,by omega,fun _=>rfl,rfl⟩
theorem Zw.low(l:List V4):(ae (sB R A ba cap bp bp 0 0 l)).le (ae (sM R A ba cap bp l d)):=by
 intro x L h;cases x with
 |zero=>cases h
 |succ x=>
  show(sM R A ba cap bp l d)[x]? =some L;have h:(sB R A ba cap bp bp 0 0 l)[x]? =some L:=h;unfold sM;rw[iA (bR.1 h).1];exact h
theorem Zw.go(l:List V4){cc:aO}(Nd:∀{E0:Env},Ctx E0 w ba cap R->@bj (KJ E0 w (cg ba R)) P cc){g:FuncId}{args:List AV}{ARGS:Array Value}{fs:aB}{T:Tr}(hk:mT cc g args fs T=true)(dX:Holds (ae (sM R A ba cap bp l d)) fs)(ra:aP (ae (sM R A ba cap bp l d)) args ARGS.toList):
  Calls P g ARGS w fun e w'=>∃V,e=.returned V∧qS bp w w'∧PlB w' bp∧Junk w.heap.size w'∧Tg R w.heap.size bp A d V w' (ev R (later d T)):=by
 have zh:=s.Bq;have ux:=s.wJ;have low:=s.low l;have X:=s.ctx l;obtain⟨want,bn,yP,Ck,wY,yQ,Bj,_⟩:=s.pl;have jX:ae (sM R A ba cap bp l d) 30=some ⟨bp,0,0⟩:=rfl;have d25:den (ae (sM R A ba cap bp l d)) (.sy 25)=some (.int .i64 d):=aj (i:=24) rfl (ax _ _);have d2:den (ae (sM R A ba cap bp l d)) (.sy 2)=some (.int .i64 R.length):=aj (i:=1) rfl (ax _ _);have Qp:=s.dl;have hR:=s.len;have nv:aP (ae (sM R A ba cap bp l d)) ([Ob.pq,.x (.i .i64) (.sy 25)]++di 87) (A::.int .i64 d::(List.range 87).map fun j=>bn.getD (j+2) undef):=
  ad ((s.pq l).mono low) (ad (by rw[Rv];exact⟨d25,_,rfl,by show(-9223372036854775808:Int)<=d;omega,by show(d:Int)<=9223372036854775807;omega⟩) (fX 87 _ (by rw[gp,ot]) fun V hV=>by
   obtain⟨j,hj,rfl⟩:=bU.1 hV;exact Bj j (List.mem_range.1 hj)))
 have lv:∀(b:AO)(i:Nat),((List.range 29).map (fun _=>AO.gone)++[E8])[i]? =some b->b.live=true->i=29:=by
  intro b i hb hl;have hi:i<30:=(bR.1 hb).1;rcases gC i 29 with h|h
  ·exfalso
   rw[iA (by rw[gp,ot];exact h),fL,List.getElem?_range h] at hb;cases hb;cases hl
  ·omega
 have hr:HR (ae (sM R A ba cap bp l d)) hM 31 w:=by
  refine cX (C:=sM R A ba cap bp l d) rfl (show 30<=31 from by decide) (.append (.dead _ _ fun a ha=>by obtain⟨_,_,rfl⟩:=bU.1 ha;rfl) ⟨?_,trivial⟩) (fun L hL=>?_) (show[bp].Nodup by simp)
  ·refine⟨⟨bp,0,0⟩,bn,124,jX,yP,by show 0+89<=_;omega,nV.gJ _ _ _ _ _,fun j hj=>?_⟩
   have:=ef 89 _ _ nv j hj;rw[show(0:Nat)+j=j by omega];have e:(A::Value.int .i64 d::(List.range 87).map fun j=>bn.getD (j+2) undef).getD j undef=bn.getD j undef:=by
    match j,hj with
    |0,_=>exact wY.symm
    |1,_=>exact yQ.symm
    |j+2,hj=>exact eQ bn 87 j (by omega)
   rw[←e];exact this
  ·have s0:∀V,(aw V).aH<w.heap.size:=fun V=>by rw[bH];omega
   unfold sM sB at hL;simp only[List.mem_append,bU] at hL;rcases hL with(hL|⟨_,_,rfl⟩)|hL
   ·simp only[mcQ,mnQ,or_false] at hL
    rcases hL with rfl|rfl|rfl|rfl|rfl|rfl|rfl|rfl<;>first|exact s0 _|assumption|(split<;>exact ux)
   ·exact s0 _
   ·simp only[mcQ,mnQ,or_false] at hL
    rcases hL with rfl|rfl|rfl|rfl|rfl|rfl|rfl|rfl|rfl|rfl<;>first|exact s0 _|assumption
 have cG:bM hM=30:=bX _ _;have hj:bL (ae (sB R A ba cap bp bp 0 0 l)) w (cg ba R) (ae (sM R A ba cap bp l d)) hM w:=by
  refine⟨low,nrQ _,fun k hk=>⟨rfl,?_,fun i L hl hL e=>?_⟩⟩
  ·rcases hk with rfl|⟨a,ha,off,n',c',hK⟩|rfl
   ·exact s.wJ
   ·obtain⟨i,hi⟩:=List.getElem?_of_mem ha
    rcases(s.ans i a hi).keys with⟨h1,_⟩|⟨b,tX,bz,arr,el,fr,h1,h2,_⟩
    ·rw[hK] at h1;cases h1
    ·rw[hK] at h1;cases h1
     exact(cW.1 h2).1
   ·exact s.mh.lt
  ·obtain⟨j,b,rfl,h1,h2⟩:=bT (a:=.gone) hl
   obtain rfl:=lv b j h1 h2;have:ae (sM R A ba cap bp l d) 30=some L:=hL;rw[jX] at this;cases this;rcases hk with rfl|⟨a,ha,hb⟩|rfl
   ·exact s.O8 e.symm
   ·exact s.kb a ha k hb e.symm
   ·exact s.SB e.symm
 have qa:∀k,fp (ae (sM R A ba cap bp l d)) hM k->k=bp:=by
  rintro k ⟨i,L,a1,a2,a3,rfl⟩;obtain⟨j,b,rfl,h1,h2⟩:=bT (a:=.gone) a2;obtain rfl:=lv b j h1 h2;have:ae (sM R A ba cap bp l d) 30=some L:=a3;rw[jX] at this;cases this;rfl
 have hf:Holds (ae (sM R A ba cap bp l d)) (fs++fM):=aJ dX (aJ (ah ((az d25).trans (by rw[eX (by omega)])) (ah ((az d25).trans (by rw[gM (by omega)])) holds_nil)) (ah ((az d2).trans (by rw[eX (by omega)])) holds_nil));refine(@jK (KJ (ae (sB R A ba cap bp bp 0 0 l)) w (cg ba R)) P cc (Nd X) _ _ _ _ (fs++fM) g _ _ (fun v h'=>qC v fun _=>bc (H6 h') (bc (Nc h') (jr 25 (au h') (Tf v h') T) false) false) hk hr (fun h' fk=>bL.fk hj fk) hf ra (fun v h=>rfl)).mono ?_;rintro e w' ⟨V,v,h',n',E',rfl,rv,cO,gQ,gs,xg,hk⟩;have sq:bc (H6 h') (bc (Nc h') (jr 25 (au h') (Tf v h') T) false) false=true:=by
  unfold qC at hk;split at hk
  ·exact hk
  ·cases hk
 obtain⟨k1,k2⟩:=aa sq;obtain⟨k2,k3⟩:=aa k2;have eF:=gs.ext _ _ jX;have hlv30:(Vx.T.get .gone h' 30).live=true:=by
  unfold H6 at k1;split at k1
  ·rename_i q;rw[q];rfl
  ·cases k1
 have hp:∀m,m<100->den E' (ji 25 m)=some (.int .i64 (d+m:Nat)):=fY (an gs.ext _ _ d25) (by omega);have ci:jh (· =bp) w 30 (fun _ _=>True) E' h' w':=jh.goes (w:=w) ⟨dH.refl _ _,fun k _ hk=>qa k hk,cG,fun _ _ _ _=>trivial⟩ gs;refine⟨V,rfl,ci.bJ.one,?_,?_,?_⟩
 ·unfold H6 at k1
  split at k1<;>try (cases k1;done)
  rename_i c hc;have fG:=cO.obj 30;rw[hc] at fG;obtain⟨L,arr,el,eL,hb,cC,dr,dz⟩:=fG;rw[eF] at eL;cases eL;have fo:=dr.2.1 _ rfl;subst fo;exact⟨arr,hb,by have:0+89<=arr.size:=cC;omega⟩
 ·unfold Nc at k2
  split at k2<;>try (cases k2;done)
  rename_i n0 gB c hc;have fG:=cO.obj 31;rw[hc] at fG;obtain⟨L,arr,el,eL,hb,_⟩:=fG;refine⟨L.aH,arr,el,_,?_,hb⟩;rcases gC L.aH w.heap.size with cL|ll
  ·exfalso
   have:=ci.iq L.aH cL ⟨31,L,by rw[ci.bM];decide,by rw[hc];rfl,eL,rfl⟩;have:=cO.inj 31 30 L ⟨bp,0,0⟩ (by rw[hc];rfl) hlv30 eL eF this;omega
  ·exact ll
 ·obtain⟨lf,dh,rj⟩:=jj X (Env.le_trans low gs.ext) hp xg k3
  rw[rj];have Th:=Env.le_trans low gs.ext;cases lf with
  |go q=>
   obtain⟨h0,dh⟩:=aa dh;obtain⟨h1,h2⟩:=aa dh;have h0:=aU h0;have hd:=eY X Th cO ci eF hp rv h1;obtain⟨v2,V2,hv,rv2,Bi,Cu⟩:=ik cO gs.ext h2 eF ((s.pq l).mono low);have hV:V2=.int .i64 (d+q:Nat):=by
    rw[bV hv,Rv,hp q (by omega)] at rv2;have:=rv2.1;injection this with this;exact this.symm
   subst hV;exact⟨hd,Bi,Cu⟩
  |wait k md=>exact eY X Th cO ci eF hp rv (show dQ 25 30 v h' (.wait k md)=true from dh)
  |done=>exact eY X Th cO ci eF hp rv (show dQ 25 30 v h' (.done)=true from dh)
  |fail er l x=>exact eY X Th cO ci eF hp rv (show dQ 25 30 v h' (.fail er l x)=true from dh)
  |ans m=>exact eY X Th cO ci eF hp rv (show dQ 25 30 v h' (.ans m)=true from dh)
  |bad=>cases dh
end
def iw(p:Nat):Nat->Tr->List aB
 |0,_=>[[]]
 |n+1,.ask _ _ m t=>[(px p m,false)]::[(px p m,true),(HZ p 0 m false 1,false)]::(iw p n t).map (fun fs=>(px p m,true)::(HZ p 0 m false 1,true)::fs)
 |n+1,.ite i m le c t f=>(iw p n t).map (fun fs=>(HZ p i m le c,true)::fs)++(iw p n f).map (fun fs=>(HZ p i m le c,false)::fs)
 |_+1,_=>[[]]
theorem tB(p n q md m:Nat)(t:Tr):iw p (n+1) (.ask q md m t)=[(px p m,false)]::[(px p m,true),(HZ p 0 m false 1,false)]::(iw p n t).map (fun fs=>(px p m,true)::(HZ p 0 m false 1,true)::fs):=by simp only[iw]
theorem Du(p n i m:Nat)(le:Bool)(c:Nat)(t f:Tr):iw p (n+1) (.ite i m le c t f)=(iw p n t).map (fun fs=>(HZ p i m le c,true)::fs)++(iw p n f).map (fun fs=>(HZ p i m le c,false)::fs):=by simp only[iw]
def I8:Tr->Prop
 |.ite i _ _ _ t f=>WX i=true∧I8 t∧I8 f
 |.more _ _ t f=>I8 t∧I8 f
 |.sym _ _ t f=>I8 t∧I8 f
 |.ask _ _ _ t=>I8 t
 |_=>True
section
variable{E0 E:Env}{w0:World}{ba cap:Nat}{R:List An}(X:Ctx E0 w0 ba cap R)
include X
theorem wk(hle:E0.le E){p d:Nat}(hp:∀m,m<100->den E (ji p m)=some (.int .i64 (d+m:Nat))){ok:Nat->Nat->Bool}{G:Nat->Nat->Prop}:∀(n:Nat)(T:Tr)(j:Nat),cf ok G j T->I8 T->j+n<=99->d+j<=R.length->∃fs∈iw p n T,Holds E fs
 |0,_,_,_,_,_,_=>⟨[],by simp[iw],holds_nil⟩
 |n+1,.ask q md m t,j,hg,hu,hn,hj=>by
  obtain⟨rfl,_,h3⟩:=hg;have d1:=kH X hle (hp m (by omega));by_cases hm:d+m<R.length
  ·have d2:=zk X hle (hp m (by omega)) (i:=0) rfl (cN hm) false 1
   cases hb:gG false ((R[d+m]).u8 0) 1<;>rw[hb] at d2
   ·have hh:Holds E [(px p m,true),(HZ p 0 m false 1,false)]:=ah (d1.trans (by rw[eX hm])) (ah d2 holds_nil)
    exact⟨_,by rw[tB];exact List.mem_cons_of_mem _ List.mem_cons_self,hh⟩
   ·obtain⟨fs,h4,h5⟩:=wk hle hp n t (m+1) h3 hu (by omega) (by omega)
    have hh:Holds E ((px p m,true)::(HZ p 0 m false 1,true)::fs):=ah (d1.trans (by rw[eX hm])) (ah d2 h5);exact⟨_,by rw[tB];exact List.mem_cons_of_mem _ (List.mem_cons_of_mem _ (bU.2 ⟨fs,h4,rfl⟩)),hh⟩
  ·have hh:Holds E [(px p m,false)]:=ah (d1.trans (by rw[gM hm])) holds_nil
   exact⟨_,by rw[tB];exact List.mem_cons_self,hh⟩
 |n+1,.ite i m le c t f,j,hg,hu,hn,hj=>by
  obtain⟨h1,h2,h3⟩:=hg;have hm:d+m<R.length:=by omega
  have d2:=zk X hle (hp m (by omega)) hu.1 (cN hm) le c;cases hb:gG le ((R[d+m]).u8 i) c<;>rw[hb] at d2
  ·obtain⟨fs,h4,h5⟩:=wk hle hp n f j h3 hu.2.2 (by omega) hj
   have hh:Holds E ((HZ p i m le c,false)::fs):=ah d2 h5;exact⟨_,by rw[Du];exact List.mem_append_right _ (bU.2 ⟨fs,h4,rfl⟩),hh⟩
  ·obtain⟨fs,h4,h5⟩:=wk hle hp n t j h2 hu.2.1 (by omega) hj
   have hh:Holds E ((HZ p i m le c,true)::fs):=ah d2 h5;exact⟨_,by rw[Du];exact List.mem_append_left _ (bU.2 ⟨fs,h4,rfl⟩),hh⟩
 |n+1,.more _ _ _ _,_,_,_,_,_=>⟨[],by simp[iw],holds_nil⟩
 |n+1,.sym _ _ _ _,_,_,_,_,_=>⟨[],by simp[iw],holds_nil⟩
 |n+1,.done,_,_,_,_,_=>⟨[],by simp[iw],holds_nil⟩
 |n+1,.fail _ _ _,_,_,_,_,_=>⟨[],by simp[iw],holds_nil⟩
 |n+1,.go _,_,_,_,_,_=>⟨[],by simp[iw],holds_nil⟩
theorem Ti(hle:E0.le E){p d:Nat}(hp:∀m,m<100->den E (ji p m)=some (.int .i64 (d+m:Nat))){ok:Nat->Nat->Bool}{G:Nat->Nat->Prop}{n q md:Nat}{t:Tr}(hg:cf ok G 0 (.ask q md 0 t))(hu:I8 t)(hn:n<90):∃fs∈iw p (n+1) (.ask q md 0 t),Holds E fs:=by
 by_cases hd:d<=R.length
 ·exact wk X hle hp (n+1) _ 0 hg hu (by omega) hd
 ·have hh:Holds E [(px p 0,false)]:=ah ((kH X hle (hp 0 (by omega))).trans (by rw[gM (by omega)])) holds_nil
  exact⟨_,by rw[tB];exact List.mem_cons_self,hh⟩
end
theorem truth0:bQ [] (dY [] 1) (fun h=>c0 110 [.ag (vS 1)] h 5 (fun v _ _=>Bm 4 v))=true:=by kernel_rfl
theorem truthV(v:V4)(hv:v.ok)(w:World)(hs:0<w.heap.size):Calls P 110 #[.agg v.cells.toArray] w fun e w'=>(∃b,e=.returned (.bool b))∧Below w.heap.size w w':=by
 have ra:aP (ew [] 1 v.cells) [.ag (vS 1)] (#[.agg v.cells.toArray]:Array Value).toList:=by
  have hr:aP (ew [] 1 v.cells) (vS 1) v.cells:=iM hv fun i V hi=>iZ i hi (Bp v V (gq hi))
  exact ad (by rw[Rv];exact⟨v.cells,rfl,hr⟩) aF
 refine(zf (fin:=fun v _=>Bm 4 v) iL rfl rfl (gp _) (show 1+v.cells.length=5 from rfl) (fun L hL=>by obtain⟨V,_,rfl⟩:=bU.1 hL;exact bH V) holds_nil ra (fun v h=>rfl) truth0 w hs (fun p hp=>by cases hp)).mono ?_;rintro e w' ⟨V,v,h',E',n',rfl,rv,cO,hle,hk,hb⟩;obtain⟨b,rfl⟩:=tw (t:=4) hk rv;exact⟨⟨b,rfl⟩,hb⟩
theorem ty4{vs:List Value}(h:TyL [0,1,2,3] vs):∃v:V4,v.ok∧vs=v.cells:=by
 obtain⟨x0,q0,rfl,a0,t0⟩:=aW h;obtain⟨x1,q1,rfl,a1,t1⟩:=aW t0;obtain⟨x2,q2,rfl,a2,t2⟩:=aW t1;obtain⟨x3,q3,rfl,a3,t3⟩:=aW t2;have e:q3=[]:=by cases q3 with|nil=>rfl|cons _ _=>cases t3
 subst e;obtain⟨n0,rfl,b0⟩:=a0;obtain⟨n1,rfl,b1⟩:=a1;obtain⟨n2,rfl,b2⟩:=a2;obtain⟨n3,rfl,b3⟩:=a3;exact⟨⟨n0,n1,n2,n3⟩,⟨b0,b1,b2,b3⟩,rfl⟩
def K5:Ct:=fun args h n k=>match args with
 |[.ag l]=>bc (Bn [0,1,2,3] l) (aM (Nat.succ n) fun m=>k (bS n) h m) false
 |_=>false
theorem Pe(X:Ctx E0 w0 ba cap R):@gL (KJ E0 w0 (cg ba R)) P 110 K5:=by
 intro args ARGS E h n w k he ra hr hj;have gQ:bL E0 w0 (cg ba R) E h w:=hj;have hs:0<w.heap.size:=by have:=(gQ.2.2 ba (.inl rfl)).2.1;have:=gQ.2.1;omega
 unfold K5 at he;split at he<;>try (cases he;done)
 rename_i l;obtain⟨h1,he⟩:=aa he;obtain⟨V,hA,rx⟩:=ra.one;have hA:ARGS=#[V]:=by apply Array.ext';simpa using hA
 subst hA;rw[Rv] at rx;obtain⟨vs,rfl,rl⟩:=rx;obtain⟨v,hv,rfl⟩:=ty4 (lQ h1 rl);refine(truthV v hv w hs).mono ?_;rintro e w' ⟨⟨b,rfl⟩,hb⟩;rw[aC] at he;have vQ:0<w'.heap.size:=by have:=hb.size;omega
 exact .inl ⟨_,rfl,bS n,h,n+1,df E n (bI b),EY (den_add (ax _ _)),(hr.below hb).add _ vQ,(bk.below hb).trans ((hr.below hb).ju _),he⟩
def S3:fV:=fun g=>match g with
 |110=>some K5
 |g=>S2 g
def c3:aO:=run S3 40
theorem c3_ok(X:Ctx E0 w0 ba cap R):@bj (KJ E0 w0 (cg ba R)) P c3:=by
 refine @eH (KJ E0 w0 (cg ba R)) _ (fun g C hC=>?_) 40
 unfold S3 at hC;split at hC
 ·cases hC;exact Pe X
 ·exact Dk X _ C hC
def uG(p:Nat)(d a:Bool):List Nat->Tr
 |[]=>bif d&&a then te else .go p
 |i::l=>.ask 1 7 p (.ite 5 p false 1
   (.ask 1 8 (p+1) (bif Nat.ble 2 i&&Nat.ble i 3
    then .ite 1 (p+1) false 0 (uG (p+2) d true l) (.ite 1 (p+1) false 7 (uG (p+2) d true l) (.ite 1 (p+1) false 8 (uG (p+2) d true l) te))
    else uG (p+2) (d||Nat.ble i 1) a l))
   (uG (p+1) d a l))
def TD:Tr:=uG 0 false false [4,5,0,1,2,3]
theorem lV:∀(l:List Nat)(p:Nat)(d a:Bool),cf nR (fun j d=>j=d) p (uG p d a l)
 |[],p,d,a=>by
  show cf nR _ p (bif d&&a then te else .go p);cases d&&a
  ·exact rfl
  ·exact rfl
 |i::l,p,d,a=>by
  refine⟨rfl,rfl,by omega,⟨rfl,rfl,?_⟩,lV l (p+1) d a⟩;cases Nat.ble 2 i&&Nat.ble i 3
  ·exact lV l (p+2) _ a
  ·exact⟨by omega,lV l (p+2) d true,by omega,lV l (p+2) d true,by omega,lV l (p+2) d true,rfl⟩
def dW(i:Nat):Bool:=mT c3 211 [.p 30 0,.ag (vS 9)] ((iw 25 6 TD).getD i []) TD
theorem tG:∀(l:List Nat)(p:Nat)(d a:Bool),I8 (uG p d a l)
 |[],p,d,a=>by
  show I8 (bif d&&a then te else .go p);cases d&&a<;>trivial
 |i::l,p,d,a=>by
  refine⟨rfl,?_,tG l (p+1) d a⟩;show I8 (bif Nat.ble 2 i&&Nat.ble i 3 then _ else _);cases Nat.ble 2 i&&Nat.ble i 3
  ·exact tG l (p+2) _ a
  ·exact⟨rfl,tG l (p+2) d true,rfl,tG l (p+2) d true,rfl,tG l (p+2) d true,trivial⟩
theorem waysN:Nat.beq (iw 25 6 TD).length 23=true:=by kernel_rfl
end
end Go.Proofs.YtngagklmbbogiaaGreatDoor.Ob
