/- Parts of one proof (Ob24 to Ob29). No condition. -/
import Derived.Test.YtngagklmbbogiaaGreatDoorB2
set_option linter.all false
namespace Go.Proofs.YtngagklmbbogiaaGreatDoor.Ob
open Go Go.RowKit Vx
set_option maxRecDepth 100000
noncomputable section
variable{c cl:Code}{E E':Env}{fn:Func}{g:FuncId}{h:Heap}{i k m n nx r:Nat}{T0:Tr}{V:Value}{w:World}
theorem eB{t:Nat}{l:List AV}{ib:List Value}(hr:HR E' h nx w)(hle:E.le E')(he:dA i n t l h=true)(hex:F0 l=true)(rl:aP E l ib):∃L,E' i=some L∧L.base=0∧(T.get .gone h i).live=true∧cQ w L.aH t ib:=by
 unfold dA at he;split at he<;>try (cases he;done)
 rename_i n' t' c hc;obtain⟨h1,he⟩:=aa he;obtain⟨h2,h3⟩:=aa he;have h1:=aN h1;have h2:=aN h2;subst h1 h2;have dU:=hr.obj i;rw[hc] at dU;obtain⟨L,arr,el,eL,hb,cC,dr,dz⟩:=dU;have fo:=dr.2.1 _ rfl;subst fo;have gi:L.base=0:=dr.2.2 rfl;have r2:=py n 0 (fun j=>c.get j) (arr:=arr) (E:=E') fun j hj=>by rw[Nat.zero_add];have:=dz j hj;rw[gi,Nat.zero_add] at this;exact this
 rw[←List.range_eq_range',bb h3] at r2;have e:=aP.exact hle _ _ _ hex rl r2;refine⟨L,eL,gi,by rw[hc];rfl,arr,hb,?_,fun j hj=>?_⟩
 ·rw[←e,gp,ot];have:L.base+n<=arr.size:=cC;omega
 ·have hn:j<n:=by rw[←e,gp,ot] at hj;exact hj
  rw[←e,cB,fL,List.getElem?_range hn];rfl
section
variable{w0:World}{bp ba cap ab:Nat}{R:List An}{A S:Value}{l:List V4}(s:St w0 bp ba cap ab R A S l)
include s
theorem Pa[JC]{L:Lp}{nt c:Nat}{regs:aI}{a:Act}(I7:T0=dM (fun _=>Tl L.am L.T2 1025 0 (L.am+1)) L.T1)(hr:(r,Rg.keys)∈L.rg)
  (st:Vx.St [] E regs h nx nt a w) (ci:jh (· =bp) w0 30 (Zl R A ba cap ab bp n c l L T0 m) E h w) (jg:Rv (ae (sB R A ba cap ab bp n c l)) (gA m) S) (Bt:pZ (gA m)=true) (hi:Fa L h=true) (hk:KP L m regs h=true):
  ∃b1 b2 b4 K ks,yr w0 bp A S (l.getD 0 z4) L nt b1 b2 b4 K ks 0 (L.am+1) a w∧W4 R L T0 ks 0 (L.am+1):=by
 unfold Fa at hi;obtain⟨i0,hi⟩:=aa hi;obtain⟨i1,hi⟩:=aa hi;obtain⟨i2,i3⟩:=aa hi;obtain⟨g1,i1⟩:=aa i1;obtain⟨g2,i1⟩:=aa i1;obtain⟨g4,gk⟩:=aa i1;have g1:=aU g1;have g2:=aU g2;have g4:=aU g4;have gk:=aU gk;obtain⟨u1,u2⟩:=aa i2;have u1:=aU u1;have u2:=aU u2;obtain⟨O7,q14,q24,qk1,qk2,qk4⟩:L.b1≠L.b2∧L.b1≠L.rt∧L.b2≠L.rt∧L.ue≠L.b1∧L.ue≠L.b2∧L.ue≠L.rt:=by
  rcases aR i3 with⟨_,i3⟩|⟨i3,_⟩
  ·cases i3
  have f:∀{x y:Nat}{b:Bool},bc (Nat.beq x y) true b=false->x≠y∧b=false:=fun {x y b} hh=>by
   cases e:Nat.beq x y with
   |true=>rw[e] at hh;cases hh
   |false=>rw[e] at hh;exact⟨Nat.ne_of_beq_eq_false e,hh⟩
  obtain⟨a1,i3⟩:=f i3;obtain⟨a2,i3⟩:=f i3;obtain⟨a3,i3⟩:=f i3;obtain⟨a4,i3⟩:=f i3;obtain⟨a5,i3⟩:=f i3;exact⟨a1,a2,a3,a4,a5,Nat.ne_of_beq_eq_false i3⟩
 have qW:(ae (sC R A ba cap ab bp n c l)).le E:=by
  rcases ci.z E h (Env.le_refl _) (fun _ _=>rfl) with⟨z,_⟩|⟨_,_,_,_,_,_,_,_,z,_⟩
  ·exact z
  ·rw[z] at i0;cases i0
 have hle:=Env.le_trans (oK s n c) qW;have jX:E 30=some ⟨bp,0,0⟩:=qW 30 _ rfl;have X:=s.yU n c;have uz:=aD st.heap;unfold KP at hk;obtain⟨k1,hk⟩:=aa hk;obtain⟨k2,hk⟩:=aa hk;obtain⟨k3,hk⟩:=aa hk;obtain⟨k4,hk⟩:=aa hk;obtain⟨k4,k5⟩:=aa k4;obtain⟨k6,hk⟩:=aa hk;obtain⟨k7,hk⟩:=aa hk;obtain⟨k8,k9⟩:=aa hk;have Cr:(l.getD 0 z4).ok:=by
  rw[cB];cases hj:l[0]? with
  |none=>exact ow
  |some v=>exact s.P7 v (gq hj)
 have rC:aP (ae (sC R A ba cap ab bp n c l)) [.p 30 0,gA m] [.pointer (some ⟨bp,0,none⟩),S]:=ad (by rw[Rv];exact⟨⟨bp,0,0⟩,rfl,rfl⟩) (ad (jg.mono (oK s n c)) aF);have rV:aP (ae (sC R A ba cap ab bp n c l)) (vS 9) (l.getD 0 z4).cells:=iM Cr fun i V hi=>by have:=s.cell n c (j:=0) (by decide) hi;rw[show 9+4*0+i=9+i by omega] at this;exact this
 obtain⟨L1,KQ,z1,v1,x1⟩:=eB st.heap qW k2 (by show bc (pZ (.p 30 0)) (F0 [gA m]) false=true;show bc true (bc (pZ (gA m)) true false) false=true;rw[Bt];rfl) rC;obtain⟨L2,Cp,z2,v2,x2⟩:=eB st.heap qW k3 (by rfl) rV;obtain⟨L4,KR,z4',v4,x4⟩:=eB st.heap qW k4 (by rfl) (eZ (E:=ae (sC R A ba cap ab bp n c l)));obtain⟨v,V,hv,rv,want,Cu⟩:=ik st.heap hle k6 jX (s.Fe n c);have hV:V=.int .i64 (L.am+1:Nat):=by
  rw[bV hv,Rv] at rv;exact rv
 subst hV;have wg:(T.get .gone h 30).live=true:=by
  unfold iP at k6;split at k6
  ·rename_i q;rw[q];rfl
  ·cases k6
 have KS:∀{x:Nat}{M:aZ},31<=x->(T.get .gone h x).live=true->E x=some M->w0.heap.size<=M.aH:=fun {x M} hx hl hM=>by
  rcases gC M.aH w0.heap.size with cL|ll
  ·exfalso
   have:=ci.iq M.aH cL ⟨x,M,by rw[ci.bM];omega,hl,hM,rfl⟩;have:=st.heap.inj x 30 M ⟨bp,0,0⟩ hl wg hM jX this;omega
  ·exact ll
 have cR:∀{x y:Nat}{M N:aZ},x≠y->(T.get .gone h x).live=true->(T.get .gone h y).live=true->E x=some M->E y=some N->M.aH≠N.aH:=fun {x y M N} hxy h1 h2 e1 e2 e=>hxy (st.heap.inj x y M N h1 h2 e1 e2 e)
 have hm:L.am<R.length:=gD ((aX uz (tz X hle L.am)).1 (aN k8));have hR:=cN hm;have X1:=X.at_ L.am _ hR;have rK:=st.regs r;rw[cK k1 r _ (bU.2 ⟨_,hr,rfl⟩)] at rK;have rK:Rv E (.sz L.ue (.fn 20 (.sy L.ks))) (a.tmps.getD r undef):=rK;unfold oJ at k5;split at k5<;>try (cases k5;done)
 rename_i g cc tt hg;have k5:g=3000001+10*L.ks:=aN k5;obtain rfl:g=3000000+10*L.ks+1:=by omega
 have SK:(T.get .gone h L.ue).live=true:=by rw[hg];rfl
 have dU:=st.heap.obj L.ue;rw[hg] at dU;have hS:∀cx,den E (.sy L.ks)=some (.int .i64 cx)->cx=(aG (aA R[L.am].ks):Nat):=fun cx hc=>by
  have d26:den E (.cD 226 (.sy 1) (zi L.am))=some (.int .i64 (aG (aA R[L.am].ks))):=eI (i:=26) (an hle _ _ X.rows) rfl hR rfl (ax _ _);have d0:den E (.cmp .eql (.sy L.ks) (.cD 226 (.sy 1) (zi L.am)))=some (.bool (decide (cx=(aG (aA R[L.am].ks):Nat)))):=by
   have d2:den E (.cmp .eql (.sy L.ks) (.cD 226 (.sy 1) (zi L.am)))=(bu .eql (.int .i64 cx) (.int .i64 (aG (aA R[L.am].ks)))).map Value.bool:=by
    show(match den E (.sy L.ks),den E (.cD 226 (.sy 1) (zi L.am)) with|some X,some Y=>(bu .eql X Y).map Value.bool|_,_=>none)=_;rw[hc,d26]
   rw[d2];by_cases hh:cx=((aG (aA R[L.am].ks):Nat):Int)<;>simp[bu,jY,hh]
  exact gD ((aX uz d0).1 (aN k7))
 obtain⟨yS,dS⟩:=lB dU (by omega) u2 hS rK;have dl:=bC dS;have kz:(aA R[L.am].ks).length=R[L.am].ks.length:=by unfold aA;rw[gp]
 rw[kz] at dl;have l40:=s.len;have lK:∀b,cn (a.tmps.getD r undef) b->∃M,E L.ue=some M∧M.aH=b:=fun b hb=>uU dU (by omega) u2 rK hb
 refine⟨L1.aH,L2.aH,L4.aH,a.tmps.getD r undef,R[L.am].ks,⟨fun p hp=>?_,st.size,st.defers,ci.bJ.one,x1,x2,x4,yS,X1.len,X1.mS,⟨want,Cu⟩,KS g1 v1 KQ,KS g2 v2 Cp,KS g4 v4 KR,fun b hb=>?_,cR O7 v1 v2 KQ Cp,cR q14 v1 v4 KQ KR,cR q24 v2 v4 Cp KR,fun b hb=>?_,nzQ _,by omega⟩,?_,_,hR,rfl⟩
 ·have rr:=st.regs p.1
  rw[cK k1 p.1 (p.2.pV L) (bU.2 ⟨p,hp,rfl⟩)] at rr;cases Cv:p.2 with
  |lit b=>rw[Cv] at rr;have rr:Rv E (.b b) _:=rr;rw[Rv] at rr;exact rr
  |bc=>rw[Cv] at rr;have rr:Rv E (.p L.b1 0) _:=rr;rw[Rv] at rr;obtain⟨M,eM,rr⟩:=rr;rw[KQ] at eM;cases eM;rw[rr,z1];rfl
  |bo=>rw[Cv] at rr;have rr:Rv E (.p L.rt 0) _:=rr;rw[Rv] at rr;obtain⟨M,eM,rr⟩:=rr;rw[KR] at eM;cases eM;rw[rr,z4'];rfl
  |bv=>rw[Cv] at rr;have rr:Rv E (.p L.b2 0) _:=rr;rw[Rv] at rr;obtain⟨M,eM,rr⟩:=rr;rw[Cp] at eM;cases eM;rw[rr,z2];rfl
  |keys=>rw[Cv] at rr;have rr:Rv E (.sz L.ue (.fn 20 (.sy L.ks))) _:=rr;exact Rv.exact (Env.le_refl E) _ _ _ (by rfl) rK rr
  |len=>
   rw[Cv] at rr;have rr:Rv E (xk L.ks) _:=rr;unfold xk at rr;rw[Rv,dl] at rr;have:=rr.1;injection this with this;exact this.symm
  |idx=>rw[Cv] at rr;have rr:Rv E (.i .i64 0) _:=rr;rw[Rv] at rr;exact rr
 ·obtain⟨M,eM,rfl⟩:=lK b hb
  exact KS gk SK eM
 ·obtain⟨M,eM,rfl⟩:=lK b hb
  exact⟨cR qk1 SK v1 eM KQ,cR qk2 SK v2 eM Cp,cR qk4 SK v4 eM KR⟩
 ·have rj:=lC X hle uz k9
  rw[I7,eJ];cases he:ev R L.T1 with
  |go q=>rfl
  |_=>rw[he] at rj;cases rj
end
theorem pz{E0:Env}{h':Heap}{n':Nat}{w' w0 w1:World}{ba cap bp F:Nat}{R:List An}(X:Ctx E0 w0 ba cap R)(hle:E0.le E')(cO:HR E' h' n' w'){Z:Env->Heap->Prop}(gs:jh (· =bp) w1 F Z E' h' w')
  (eF:E' F=some ⟨bp,0,0⟩) {v:AV} (rv:Rv E' v V) {lf:ct} (he:dZ F v h' lf=true):cU R w1.heap.size bp V w' lf:=by
 have ag:∀{k:List AV->Bool},qC v k=true->∃l vs,v=.ag l∧V=.agg vs∧aP E' l vs.toList∧k l=true:=fun {k} hk=>by
  unfold qC at hk;split at hk<;>try (cases hk;done)
  rename_i l;rw[Rv] at rv;obtain⟨vs,rfl,rl⟩:=rv;exact⟨l,_,rfl,rfl,by simpa using rl,hk⟩
 cases lf with
 |wait q md=>
  obtain⟨l,vs,rfl,rfl,rl,hk⟩:=ag he;obtain⟨h1,h2⟩:=aa hk;rw[bb h1] at rl;refine⟨by rw[show zO.cells bO=vs.toList from(tq rl).symm],?_⟩;unfold plW at h2;split at h2<;>try (cases h2;done)
  rename_i c hc;obtain⟨b2,h2⟩:=aa h2;obtain⟨b3,b4⟩:=aa h2;have fG:=cO.obj F;rw[hc] at fG;obtain⟨L,arr,el,eL,hb,cC,dr,dz⟩:=fG;rw[eF] at eL;cases eL
  have fo:=dr.2.1 _ rfl;subst fo;have BY:=qc b2 (dz 2 (by decide));have xh:=qc b3 (dz 3 (by decide));rw[Nat.zero_add] at BY xh;refine⟨arr,hb,by have:0+89<=arr.size:=cC;omega,BY,xh,fun j hj=>?_⟩;have oV:=dz (j+2) (by omega);rw[Nat.zero_add] at oV;have dh:leaf (c.get (j+2))=true:=cM b4 _ (bU.2 ⟨j,List.mem_range.2 hj,rfl⟩);exact bY dh oV
 |done=>
  obtain⟨l,vs,rfl,rfl,rl,hk⟩:=ag he;obtain⟨h1,h2⟩:=aa hk;obtain⟨h2,h3⟩:=aa h2;obtain⟨o,ok,ho⟩:=Bo (lQ h1 rl);have a0:=qc h2 (rl.nth 0);have a23:=E6 h3 (rl.nth 23);refine⟨o,ok,?_,?_⟩
  ·rw[ho] at a0
   have a0:Value.int .u8 o.k=.int .u8 1:=a0;injection a0
  ·rw[a23] at ho
   rw[←ho]
 |fail er l x=>
  obtain⟨m,vs,rfl,rfl,rl,hk⟩:=ag he;rw[bb hk] at rl;show Value.agg vs=_;rw[←pw rl]
 |ans m=>
  obtain⟨l,vs,rfl,rfl,rl,hk⟩:=ag he;obtain⟨e,id,S,m',a,hx,hR,de,qY,rk,_,hS⟩:=sv X hle hk (aD cO) rl (fun e h=>wc rl e h);obtain⟨h1,hy⟩:=aa hx;clear hx;have:=cq h1;subst this;obtain rfl:m=m':=by
   have de:some (Value.int .i64 (m:Int))=some (.int .i64 m'):=de;injection de with de;injection de with _ de;omega
  split at hy<;>try (cases hy;done)
  rename_i g c t hg;obtain⟨h2,h3⟩:=aa hy;obtain⟨b1,b2⟩:=aa h2;obtain⟨b2,b3⟩:=aa b2;obtain⟨b4,b5⟩:=aa h3;have b1:g=3000001+10*S:=aN b1;have b2:=aU b2;have b3:=aU b3;have b4:F+1<=id:=aU b4;obtain rfl:g=3000000+10*S+1:=by omega
  have dU:=cO.obj id;rw[hg] at dU;obtain⟨yS,_⟩:=lB dU (by omega) b3 hS rk;have ll:∀L:aZ,E' id=some L->w1.heap.size<=L.aH:=fun L eL=>by
   rcases gC L.aH w1.heap.size with cL|ll
   ·exfalso
    have bD:(T.get .gone h' id).live=true:=by rw[hg];rfl
    have:=gs.iq L.aH cL ⟨id,L,by rw[gs.bM];omega,bD,eL,rfl⟩;unfold sE at b5;split at b5<;>try (cases b5;done)
    rename_i cc hc;have:=cO.inj id F L ⟨bp,0,0⟩ bD (by rw[hc];rfl) eL eF this;omega
   ·exact ll
  refine⟨a,_,hR,by rw[←qY],yS,fun b hb=>?_,?_,?_⟩
  ·obtain⟨L,eL,rfl⟩:=uU dU (by omega) b3 rk hb
   exact ll L eL
  ·obtain⟨L,arr,el,fr,eL,_,hb,_⟩:=dU
   exact⟨L.aH,arr,el,fr,ll L eL,hb⟩
  ·unfold sE at b5
   split at b5<;>try (cases b5;done)
   rename_i cc hc;have fG:=cO.obj F;rw[hc] at fG;obtain⟨L,arr,el,eL,hb,_⟩:=fG;rw[eF] at eL;cases eL;exact⟨arr,el,hb⟩
 |go x=>cases he
 |bad=>cases he
section
variable{w:World}{bp ba cap ab:Nat}{R:List An}{A S:Value}{l:List V4}(s:St w bp ba cap ab R A S l)
include s
theorem St.begin(n c:Nat){ao:AO}(nQ:RO (ae (sC R A ba cap ab bp n c l)) w 6 ao)(oU:ao=.gone∨ao.live=true):
  HR (ae (sC R A ba cap ab bp n c l)) (hS ao) 31 w∧bL (ae (sB R A ba cap ab bp n c l)) w (cg ba R) (ae (sC R A ba cap ab bp n c l)) (hS ao) w∧(∀k,fp (ae (sC R A ba cap ab bp n c l)) (hS ao) k->k=bp)∧bM (hS ao)=30:=by
 have zh:=s.Bq;obtain⟨want,bn,yP,Ck,wY,yQ,Bj,_⟩:=s.pl;have jX:ae (sC R A ba cap ab bp n c l) 30=some ⟨bp,0,0⟩:=rfl;have e6:ae (sC R A ba cap ab bp n c l) 6=some ⟨ab,0,0⟩:=rfl;have nv:aP (ae (sC R A ba cap ab bp n c l)) ([Ob.pq,.i .i64 0]++di 87) (A::.int .i64 0::(List.range 87).map fun j=>bn.getD (j+2) undef):=
  ad (s.pq n c) (ad (by rw[Rv]) (fX 87 _ (by rw[gp,ot]) fun V hV=>by
   obtain⟨j,hj,rfl⟩:=bU.1 hV;exact Bj j (List.mem_range.1 hj)))
 have wg:∀(b:AO)(i:Nat),([AO.gone,.gone,.gone,.gone,.gone,ao]++(List.range 23).map (fun _=>AO.gone)++[MZ])[i]? =some b->b.live=true->(i=5∧ao.live=true)∨i=29:=by
  intro b i hb hl;have hi:i<30:=(bR.1 hb).1;by_cases h5:i=5
  ·subst h5;cases hb;exact .inl ⟨rfl,hl⟩
  by_cases SC:i=29
  ·exact .inr SC
  have:b=.gone:=by
   have:i∈(List.range 30).filter fun i=>i !=5&&i !=29:=by simp[List.mem_filter];omega
   have pM:∀i∈(List.range 30).filter fun i=>i !=5&&i !=29,([AO.gone,.gone,.gone,.gone,.gone,ao]++(List.range 23).map (fun _=>AO.gone)++[MZ])[i]? =some .gone:=by
    intro i hi;have hi:i∈[0,1,2,3,4,6,7,8,9,10,11,12,13,14,15,16,17,18,19,20,21,22,23,24,25,26,27,28]:=hi;simp only[mcQ,mnQ,or_false] at hi;rcases hi with rfl|rfl|rfl|rfl|rfl|rfl|rfl|rfl|rfl|rfl|rfl|rfl|rfl|rfl|rfl|rfl|rfl|rfl|rfl|rfl|rfl|rfl|rfl|rfl|rfl|rfl|rfl|rfl<;>rfl
   have:=pM i this;rw[hb] at this;cases this;rfl
  subst this;cases hl
 have hr:HR (ae (sC R A ba cap ab bp n c l)) (hS ao) 31 w:=by
  refine cX (C:=sC R A ba cap ab bp n c l) rfl (show 30<=31 from by decide) (.append (.append (l:=[AO.gone,.gone,.gone,.gone,.gone,ao]) ⟨trivial,trivial,trivial,trivial,trivial,nQ,trivial⟩ (.dead _ _ fun a ha=>by obtain⟨_,_,rfl⟩:=bU.1 ha;rfl)) ⟨?_,trivial⟩) (fun L hL=>?_) ?_
  ·refine⟨⟨bp,0,0⟩,bn,124,jX,yP,by show 0+89<=_;omega,nV.gJ _ _ _ _ _,fun j hj=>?_⟩
   have:=ef 89 _ _ nv j hj;rw[show(0:Nat)+j=j by omega];have e:(A::Value.int .i64 0::(List.range 87).map fun j=>bn.getD (j+2) undef).getD j undef=bn.getD j undef:=by
    match j,hj with
    |0,_=>exact wY.symm
    |1,_=>exact yQ.symm
    |j+2,hj=>exact eQ bn 87 j (by omega)
   rw[←e];exact this
  ·have s0:∀V,(aw V).aH<w.heap.size:=fun V=>by rw[bH];omega
   have ux:=s.wJ;have yR:=s.abs;unfold sC at hL;simp only[List.mem_append,bU] at hL;rcases hL with((hL|⟨_,_,rfl⟩)|⟨_,_,rfl⟩)|hL
   ·simp only[mcQ,mnQ,or_false] at hL
    rcases hL with rfl|rfl|rfl|rfl|rfl|rfl|rfl|rfl<;>first|exact s0 _|assumption|(split<;>exact ux)
   ·exact s0 _
   ·exact zh
   ·simp only[mcQ,mnQ,or_false] at hL
    subst hL;exact zh
  ·have cR:=s.KM
   rcases oU with rfl|oU
   ·show[bp].Nodup
    simp
   ·show(if ao.live then ab::[bp] else[bp]).Nodup
    rw[if_pos oU];simp[cR]
 have cG:bM (hS ao)=30:=bX _ _;have hj:bL (ae (sB R A ba cap ab bp n c l)) w (cg ba R) (ae (sC R A ba cap ab bp n c l)) (hS ao) w:=by
  refine⟨oK s n c,nrQ _,fun k hk=>⟨rfl,?_,fun i L hl hL e=>?_⟩⟩
  ·rcases hk with rfl|⟨a,ha,off,n',c',hK⟩|rfl
   ·exact s.wJ
   ·obtain⟨i,hi⟩:=List.getElem?_of_mem ha
    rcases(s.ans i a hi).keys with⟨h1,_⟩|⟨b,tX,bz,arr,el,fr,h1,h2,_⟩
    ·rw[hK] at h1;cases h1
    ·rw[hK] at h1;cases h1
     exact(cW.1 h2).1
   ·exact s.mh.lt
  ·obtain⟨j,b,rfl,h1,h2⟩:=bT (a:=.gone) hl
   rcases wg b j h1 h2 with⟨rfl,_⟩|rfl
   ·have:ae (sC R A ba cap ab bp n c l) 6=some L:=hL
    rw[e6] at this;cases this;rcases hk with rfl|⟨a,ha,hb⟩|rfl
    ·exact s.WZ e.symm
    ·exact(s.kb a ha k hb).2 e.symm
    ·exact s.P8 e.symm
   ·have:ae (sC R A ba cap ab bp n c l) 30=some L:=hL
    rw[jX] at this;cases this;rcases hk with rfl|⟨a,ha,hb⟩|rfl
    ·exact s.O8 e.symm
    ·exact(s.kb a ha k hb).1 e.symm
    ·exact s.SB e.symm
 have qa:∀k,fp (ae (sC R A ba cap ab bp n c l)) (hS ao) k->k=bp:=by
  rintro k ⟨i,L,a1,a2,a3,rfl⟩;rw[cG] at a1;obtain⟨j,b,rfl,h1,h2⟩:=bT (a:=.gone) a2;rcases wg b j h1 h2 with⟨rfl,_⟩|rfl
  ·exact absurd a1 (by decide)
  ·have:ae (sC R A ba cap ab bp n c l) 30=some L:=a3
   rw[jX] at this;cases this;rfl
 exact⟨hr,hj,qa,cG⟩
end
theorem M3(ao:AO):T.get .gone (hS ao) 21=.gone:=by kernel_rfl
section
variable{w0:World}{bp ba cap ab:Nat}{R:List An}{A S:Value}{l:List V4}(s:St w0 bp ba cap ab R A S l)
include s
theorem lpLaw{L:Lp}{cc:Nat}{q:List (Nat×Nat×Bool)}{args:List AV}{ARGS:Array Value}(mP:P.funcs[g]? =some fn)(hb:fn.body=some c)(hc:aS c=[cl])(hn:aS cl=[])
  (I7:T0=dM (fun _=>Tl L.am L.T2 1025 0 (L.am+1)) L.T1) (hr:(r,Rg.keys)∈L.rg) (hk:lpT L fn args m q=true) (Bt:pZ (gA m)=true) (nQ:RO (ae (sB R A ba cap ab bp n cc l)) w0 6 (ij m)) (iR:ij m=.gone∨(ij m).live=true)
  (jg:Rv (ae (sB R A ba cap ab bp n cc l)) (gA m) S) (hq:Holds (ae (sB R A ba cap ab bp n cc l)) (fF m++(kF q++f2))) (ra:aP (ae (sC R A ba cap ab bp n cc l)) args ARGS.toList):
  Calls P g ARGS w0 fun e w'=>∃V,e=.returned V∧dH (· =bp) w0 w'∧cU R w0.heap.size bp V w' (ev R T0):=by
 letI J:JC:=KJ (ae (sB R A ba cap ab bp n cc l)) w0 (cg ba R)
 have X:=s.yU n cc;have aQ:bj P c2:=yq X;have cE:fz P qD:=ep mixed dv c2 aQ;have low:=oK s n cc;obtain⟨Ci,AI,qa,cG⟩:=s.begin n cc (nQ.wide low) iR;have hk:bc (Nat.ble (List.length args) fn.ntmps) (bQ (fF m++(kF q++f2)) (hS (ij m)) fun h=>zj P c2 XT qD fn.ntmps (J1 L fn cl m q) c (nB P fn (SG L)) (fun _=>fj) (nB P fn (SG L)) (gw args fc 0) h 31) false=true:=by
  unfold lpT at hk;rw[hb] at hk;dsimp only at hk;rw[hc] at hk;exact hk
 obtain⟨hle,hk⟩:=aa hk;obtain⟨h1,he,fw,fk⟩:=bZ hk Ci fun p hp=>an low _ _ (hq p hp)
 refine SD aQ dv cE (ok:=(· =bp)) (F:=30) (Z:=Zl R A ba cap ab bp n cc l L T0 m) mP hb ra (aU hle) fw (bL.fk AI fk) ⟨dH.refl _ _,fun k hk hf=>qa k (fk.goes.CE (w:=w0) k hk hf),fk.bM.trans cG,fun E' h' yL oN=>.inl ⟨yL,?_⟩⟩ (fun lc hl kn kx E regs h aq a w hJ st ci=>?_) he fun E h n' w' v V cO gQ ci rv hf=>?_
 ·rw[oN 21 (by decide),fk.same 21 (.inr (.inr (.inl (by rw[cG];decide))))]
  exact M3 _
 ·rw[hc] at hl
  obtain rfl:lc=cl:=by simpa using hl
  unfold J1 at hJ;obtain⟨j1,hJ⟩:=aa hJ;obtain⟨j1,j2⟩:=aa j1;obtain⟨hA,hB⟩:=aa hJ;obtain⟨b1,b2,b4,K,ks,hd,hR⟩:=Pa s I7 hr st ci jg Bt j1 j2;refine wp_loop_rounds (ks.length-0+1) ?_;exact SJ s hn nQ iR jg hq hA hB _ 0 (L.am+1) a w rfl hd hR
 ·have uz:=aD cO
  unfold SG at hf;have na:(match T.get .gone h 21 with
   |.gone=>qb (au h) (dZ 30 v h) L.T1
   |_=>pick (cr (au h) Dr) (dQ 25 30 v h .done) (jr 25 (au h) (dQ 25 30 v h) L.T2))=true:=by
   unfold qC at hf;split at hf
   ·exact hf
   ·cases hf
  rcases ci.z E h (Env.le_refl _) (fun _ _=>rfl) with⟨z,hg⟩|⟨b1,b2,b4,K,ks,i,d,z,hg,hR,uy,kz,hd62⟩
  ·rw[hg] at na
   have na:qb (au h) (dZ 30 v h) L.T1=true:=na;have dh:=lC X (Env.le_trans low z) uz na;have:=pz X (Env.le_trans low z) cO ci (z 30 _ rfl) rv dh;have e:ev R T0=ev R L.T1:=by
    rw[I7,eJ];cases he:ev R L.T1 with
    |go q=>rw[he] at dh;cases dh
    |_=>rfl
   rw[e];exact this
  ·rw[hg] at na
   have na:pick (cr (au h) Dr) (dQ 25 30 v h .done) (jr 25 (au h) (dQ 25 30 v h) L.T2)=true:=na;have lowR:=Fc s n cc b1 b2 b4 K ks i d;have jW:=Env.le_trans lowR z;have d23:den E (.sy 23)=some (.int .i64 i):=an z _ _ (aj (i:=22) rfl (ax _ _));have d25:den E (.sy 25)=some (.int .i64 d):=an z _ _ (aj (i:=24) rfl (ax _ _));have d27:den E (.sy 27)=some (.int .i64 (aG (aA ks))):=an z _ _ (aj (i:=26) rfl (ax _ _));have dl:den E (.fn 20 (.sy 27))=some (.int .i64 ks.length):=by rw[bC d27];unfold aA;rw[gp]
   have Ff:den E Dr=some (.bool (decide (ks.length<=i))):=by
    have d2:den E Dr=(bu .leq (.int .i64 ks.length) (.int .i64 i)).map Value.bool:=by
     show(match den _ (.fn 20 (.sy 27)),den _ (.sy 23) with|some X,some Y=>(bu .leq X Y).map Value.bool|_,_=>none)=_;rw[dl,d23]
    rw[d2];show some (Value.bool (decide ((ks.length:Int)<=(i:Int))))=_;rw[show decide ((ks.length:Int)<=(i:Int))=decide (ks.length<=i) from decide_eq_decide.2 Int.ofNat_le]
   have hp:∀m,m<100->den E (ji 25 m)=some (.int .i64 (d+m:Nat)):=fY d25 (by omega);rcases iu na with⟨h4,h5⟩|⟨h4,h5⟩
   ·have hi:=gD ((aX uz Ff).1 h4)
    rw[hR.end_ hi (by omega)];exact eY X jW cO ci (z 30 _ rfl) hp rv h5
   ·have hi:i<ks.length:=by have:=of_decide_eq_false ((aX uz Ff).2 h4);omega
    obtain⟨lf,dh,rj⟩:=jj X jW hp uz h5;have:=eY X jW cO ci (z 30 _ rfl) hp rv dh;rw[hR.at hi kz,rj];cases lf with
    |go q=>cases dh
    |_=>exact this
end
section
variable{w:World}{bp ba cap ab:Nat}{R:List An}{A S:Value}{l:List V4}(s:St w bp ba cap ab R A S l)
include s
theorem St.yu(n c:Nat){j:Nat}(hj:j<3)(hi:(l.getD j z4).cells[i]? =some V):den (ae (sB R A ba cap ab bp n c l)) (.sy (9+4*j+i))=some V:=by
 have ok:=Bp _ V (gq hi);have yG:i<4:=(bR.1 hi).1;have e:(sB R A ba cap ab bp n c l)[8+4*j+i]? =some (aw V):=by
  match j,hj,i,yG,hi with
  |0,_,0,_,hi=>cases hi;rfl
  |0,_,1,_,hi=>cases hi;rfl
  |0,_,2,_,hi=>cases hi;rfl
  |0,_,3,_,hi=>cases hi;rfl
  |1,_,0,_,hi=>cases hi;rfl
  |1,_,1,_,hi=>cases hi;rfl
  |1,_,2,_,hi=>cases hi;rfl
  |1,_,3,_,hi=>cases hi;rfl
  |2,_,0,_,hi=>cases hi;rfl
  |2,_,1,_,hi=>cases hi;rfl
  |2,_,2,_,hi=>cases hi;rfl
  |2,_,3,_,hi=>cases hi;rfl
 rw[show 9+4*j+i=(8+4*j+i)+1 by omega];exact aj e ok
theorem St.SM(n c:Nat){q:List (Nat×Nat×Bool)}(hq:Cq l q):Holds (ae (sB R A ba cap ab bp n c l)) (kF q):=by
 intro p hp;obtain⟨x,hx,rfl⟩:=bU.1 hp;obtain⟨h1,h2⟩:=hq x hx;have d:=s.yu n c (i:=0) (V:=.int .u8 (l.getD x.1 z4).k) h1 rfl;show den _ (.cmp .leq (.sy (9+4*x.1)) (.li .u8 (x.2.1:Int)))=some (.bool x.2.2);rw[show 9+4*x.1=9+4*x.1+0 by omega,az d,h2]
theorem St.Zj(n c:Nat)(hl:l.length<=64)(m:Nat)(hm:m<=3)(hml:m<=l.length):∀i a,(List.take (4*m) (vS 9++vS 13++vS 17))[i]? =some a->∃V,(l.getD (i/4) z4).cells[i%4]? =some V∧Rv (ae (sB R A ba cap ab bp n c l)) a V∧i/4<m:=by
 intro i a h;have hi:i<4*m:=by
  have:=(bR.1 h).1;rw[List.length_take] at this;omega
 rw[List.getElem?_take_of_lt hi] at h;have r3:aP (ae (sB R A ba cap ab bp n c l)) (vS 9++vS 13++vS 17) ((l.getD 0 z4).cells++(l.getD 1 z4).cells++(l.getD 2 z4).cells):=by
  have ok:∀j,(l.getD j z4).ok:=fun j=>by
   rw[cB];cases hj:l[j]? with
   |none=>exact ow
   |some v=>exact s.P7 v (gq hj)
  exact aY (aY (iM (ok 0) fun i V hi=>by have:=s.yu n c (j:=0) (by decide) hi;rw[show 9+4*0+i=9+i by omega] at this;exact this)
   (iM (ok 1) fun i V hi=>by have:=s.yu n c (j:=1) (by decide) hi;rw[show 9+4*1+i=13+i by omega] at this;exact this))
   (iM (ok 2) fun i V hi=>by have:=s.yu n c (j:=2) (by decide) hi;rw[show 9+4*2+i=17+i by omega] at this;exact this)
 obtain⟨V,h1,h2⟩:=xf r3 i a h;refine⟨V,?_,h2,by omega⟩;have h12:i<12:=by omega
 match i,h12,h1 with
 |0,_,h1=>exact h1
 |1,_,h1=>exact h1
 |2,_,h1=>exact h1
 |3,_,h1=>exact h1
 |4,_,h1=>exact h1
 |5,_,h1=>exact h1
 |6,_,h1=>exact h1
 |7,_,h1=>exact h1
 |8,_,h1=>exact h1
 |9,_,h1=>exact h1
 |10,_,h1=>exact h1
 |11,_,h1=>exact h1
theorem St.SO(n c:Nat):Holds (ae (sB R A ba cap ab bp n c l)) f2:=by
 have d:den (ae (sB R A ba cap ab bp n c l)) (.sy 2)=some (.int .i64 R.length):=aj (i:=1) rfl (ax _ _);have hl:=s.len;exact ah ((az d).trans (by rw[eX (by omega)])) holds_nil
theorem St.Ds{q:List (Nat×Nat×Bool)}(kz:k<=l.length)(P9:k<=3)(hq:Cq l q):∃m n c,m<5∧Vn k m=true∧Holds (ae (sB R A ba cap ab bp n c l)) (fF m++(kF q++f2))∧Rv (ae (sB R A ba cap ab bp n c l)) (gA m) S∧RO (ae (sB R A ba cap ab bp n c l)) w 6 (ij m)∧(ij m=.gone∨(ij m).live=true):=by
 rcases s.args with⟨rfl,rfl⟩|⟨arr,el,fr,c,rfl,hb,cC,hc,P'⟩
 ·have hk0:k=0:=by simpa using kz
  subst hk0;exact⟨4,0,0,by decide,rfl,aJ holds_nil (aJ (s.SM 0 0 hq) (s.SO 0 0)),by show Rv _ .sn bO;rw[Rv];rfl,trivial,.inl rfl⟩
 ·have hm:∃m,m<=3∧m<=l.length∧(m<3->m=l.length)∧(3<=m->3<=l.length)∧k<=m:=by
   rcases gC l.length 3 with h3|h3
   ·exact⟨l.length,by omega,by omega,fun _=>rfl,fun h=>by omega,kz⟩
   ·exact⟨3,by omega,by omega,fun h=>by omega,fun _=>h3,P9⟩
  obtain⟨m,m3,ml,mm,mg,mk⟩:=hm;have al:=s.al;have dl:den (ae (sB R A ba cap ab bp l.length c l)) (.sy 7)=some (.int .i64 l.length):=aj (i:=6) rfl (ax _ _);have dc:den (ae (sB R A ba cap ab bp l.length c l)) (.sy 8)=some (.int .i64 c):=aj (i:=7) rfl (ax _ _);have ho:Vn k m=true:=by
   unfold Vn;split
   ·omega
   ·exact Nat.ble_eq_true_of_le mk
  have e1:gA m=slN m:=by unfold gA;split<;>first|omega|rfl
  have e2:ij m=aoN m:=by unfold ij;split<;>first|omega|rfl
  have e3:fF m=fN m:=by unfold fF;split<;>first|omega|rfl
  refine⟨m,l.length,c,by omega,ho,?_⟩;rw[e1,e2,e3];refine⟨?_,?_,?_,.inr rfl⟩
  ·refine aJ ?_ (aJ (s.SM _ _ hq) (s.SO _ _))
   match m,m3,mm,mg with
   |0,_,mm,_=>exact ah ((az dl).trans (by rw[eX (by have:=mm (by decide);omega)])) holds_nil
   |1,_,mm,_=>exact ah ((az dl).trans (by rw[eX (by have:=mm (by decide);omega)])) (ah ((az dl).trans (by rw[gM (by have:=mm (by decide);omega)])) holds_nil)
   |2,_,mm,_=>exact ah ((az dl).trans (by rw[eX (by have:=mm (by decide);omega)])) (ah ((az dl).trans (by rw[gM (by have:=mm (by decide);omega)])) holds_nil)
   |3,_,_,mg=>exact ah ((az dl).trans (by rw[gM (by have:=mg (by decide);omega)])) holds_nil
  ·unfold slN
   rw[Rv];exact⟨⟨ab,0,0⟩,l.length,c,rfl,dl,dc,ml,by omega,rfl⟩
  ·have hv:=s.Zj l.length c al m m3 ml
   refine⟨⟨ab,0,0⟩,arr,el,fr,rfl,fun h=>absurd h (by decide),hb,by show 0+4*m<=_;omega,fun j hj=>?_,qL.vb (by decide)⟩;refine jf (g:=fun j=>arr.getD (0+j) undef) _ _ _ (fun i a hi=>?_) (fun i=>by rw[nw];simp[Rv]) j
   obtain⟨V,h1,h2,h3⟩:=hv i a hi;have cL:i/4<l.length:=by omega
   have e:arr.getD (0+(0+i)) undef=V:=by
    have hg:l[i/4]? =some (l.getD (i/4) z4):=by rw[cB,cN cL];rfl
    have:=hc (i/4) _ hg (i%4) (by omega);rw[show 4*(i/4)+i%4=0+(0+i) by omega] at this;rw[this,cB,h1];rfl
   rw[e];exact h2
end
theorem M4{ok:Nat->Nat->Bool}{am:Nat}{T2:Tr}(h:cf ok (fun j x=>j=x) 0 T2):∀(n i d:Nat),am<d->cf ok (fun _ _=>False) d (Tl am T2 n i d)
 |0,_,_,_=>trivial
 |n+1,i,d,hd=>⟨hd,dP (later d T2) d (by have:=fI d T2 0 h;rw[Nat.add_zero] at this;exact this) fun j x hj=>by
   have hj:j=d+x:=hj;subst hj;exact M4 h n (i+1) (d+x) (by omega),trivial⟩
def wi(g:FuncId)(x:Value)(ok:Nat->Nat->Bool):Prop:=∀l:List V4,(∀v∈l,v.k<=8)->∃T,cf ok (fun _ _=>False) 0 T∧∀{w:World}{bp ba cap ab:Nat}{R:List An}{A S:Value},St w bp ba cap ab R A S l->
 Calls P g #[.agg #[.pointer (some ⟨bp,0,none⟩),S],x] w fun e w'=>∃V,e=.returned V∧qS bp w w'∧cU R w.heap.size bp V w' (ev R T)
def Fg(L:Lp)(fn:Func)(f:Bool)(k:Nat)(q:List (Nat×Nat×Bool)):Bool:=(List.range 5).all fun m=>bc (Vn k m) (lpT L fn [.ag [.p 30 0,gA m],.b f] m q) true
theorem Bu:∀m,m<5->pZ (gA m)=true
 |0,_=>rfl
 |1,_=>rfl
 |2,_=>rfl
 |3,_=>rfl
 |4,_=>rfl
theorem H0{L:Lp}{f:Bool}{ok:Nat->Nat->Bool}{l:List V4}{q:List (Nat×Nat×Bool)}(mP:P.funcs[g]? =some fn)(hb:fn.body=some c)(hc:aS c=[cl])(hn:aS cl=[])
  (hr:(r,Rg.keys)∈L.rg) (h:Fg L fn f k q=true) (g1:cf ok (fun j d=>j=L.am+1) 0 L.T1) (g2:cf ok (fun j x=>j=x) 0 L.T2) (kz:k<=l.length) (P9:k<=3) (hq:Cq l q):
  ∃T,cf ok (fun _ _=>False) 0 T∧∀{w:World}{bp ba cap ab:Nat}{R:List An}{A S:Value},St w bp ba cap ab R A S l->
   Calls P g #[.agg #[.pointer (some ⟨bp,0,none⟩),S],.bool f] w fun e w'=>∃V,e=.returned V∧qS bp w w'∧cU R w.heap.size bp V w' (ev R T):=by
 refine⟨dM (fun _=>Tl L.am L.T2 1025 0 (L.am+1)) L.T1,dP L.T1 0 g1 fun j d hj=>?_,fun {w bp ba cap ab R A S} s=>?_⟩
 ·have hj:j=L.am+1:=hj
  subst hj;exact M4 g2 1025 0 (L.am+1) (by omega)
 ·obtain⟨m,n,cc,m5,ho,hh,jg,nQ,iR⟩:=s.Ds kz P9 hq
  have hm:=Aad.1 h m (List.mem_range.2 m5);rw[ho] at hm;have hm:lpT L fn [.ag [.p 30 0,gA m],.b f] m q=true:=hm;have ra:aP (ae (sC R A ba cap ab bp n cc l)) [.ag [.p 30 0,gA m],.b f] (#[.agg #[.pointer (some ⟨bp,0,none⟩),S],.bool f]:Array Value).toList:=
   ad (by rw[Rv];exact⟨[.pointer (some ⟨bp,0,none⟩),S],rfl,ad (by rw[Rv];exact⟨⟨bp,0,0⟩,rfl,rfl⟩) (ad (jg.mono (oK s n cc)) aF)⟩) (ad (by rw[Rv]) aF)
  refine(lpLaw s mP hb hc hn rfl hr hm (Bu m m5) nQ iR jg hh ra).mono ?_;rintro e w' ⟨V,rfl,h1,h2⟩;exact⟨V,rfl,h1.one,h2⟩
def qg(b:Option Code):Bool:=match b with
 |some c=>(match aS c with
  |[cl]=>(match aS cl with
   |[]=>true
   |_=>false)
  |_=>false)
 |none=>false
theorem lu{b:Option Code}(h:qg b=true):∃c cl,b=some c∧aS c=[cl]∧aS cl=[]:=by
 unfold qg at h;split at h
 ·rename_i c
  split at h
  ·rename_i cl hc
   split at h
   ·rename_i hn;exact⟨c,cl,rfl,hc,hn⟩
   ·cases h
  ·cases h
 ·cases h
def Fh(f:Bool):Lp:={zm f with T1:=.done}
theorem b217:qg Tryz.f217.body=true:=by kernel_rfl
theorem c217a:Fg (zm true) Tryz.f217 true 1 (oA 0)=true:=by kernel_rfl
theorem c217b:Fg (zm false) Tryz.f217 false 1 (oA 0)=true:=by kernel_rfl
theorem c217c:Fg (Fh true) Tryz.f217 true 0 (pA 0)=true:=by kernel_rfl
theorem c217d:Fg (Fh false) Tryz.f217 false 0 (pA 0)=true:=by kernel_rfl
theorem SQ(f:Bool):wi 217 (.bool f) ud:=fun l h8=>by
 obtain⟨c,cl,hb,hc,hn⟩:=lu b217;have mP:P.funcs[(217:Nat)]? =some Tryz.f217:=Tryz.func217;have hr:∀f,(41,Rg.keys)∈(zm f).rg:=fun f=>by show(41,Rg.keys)∈[(1,Rg.lit f),(2,.bc),(4,.bo),(5,.bv),(41,.keys),(42,.len),(43,.idx)];simp
 rcases ig 5 (l.getD 0 z4).k with h|h
 ·cases f
  ·exact H0 mP hb hc hn (hr false) c217b ⟨rfl,rfl,by decide,trivial,rfl,rfl,rfl⟩ ⟨rfl,rfl,by decide,⟨by decide,trivial,rfl⟩,rfl⟩ (fJ (by omega)) (by decide) (ic h8 (by decide) h)
  ·exact H0 mP hb hc hn (hr true) c217a ⟨rfl,rfl,by decide,trivial,rfl,rfl,rfl⟩ ⟨rfl,rfl,by decide,⟨by decide,trivial,⟨by decide,trivial,rfl⟩⟩,rfl⟩ (fJ (by omega)) (by decide) (ic h8 (by decide) h)
 ·cases f
  ·exact H0 (L:=Fh false) mP hb hc hn (hr false) c217d trivial ⟨rfl,rfl,by decide,⟨by decide,trivial,rfl⟩,rfl⟩ (nzQ _) (by decide) (kC (by decide) h)
  ·exact H0 (L:=Fh true) mP hb hc hn (hr true) c217c trivial ⟨rfl,rfl,by decide,⟨by decide,trivial,⟨by decide,trivial,rfl⟩⟩,rfl⟩ (nzQ _) (by decide) (kC (by decide) h)
def H2(f:Bool):Lp where
 rg:=[(1,.lit f),(2,.bc),(4,.bo),(5,.bv),(38,.keys),(39,.len),(40,.idx)]
 b1:=31
 b2:=35
 rt:=32
 ue:=55
 ks:=54
 am:=1
 T1:=.ask 1 4 0 (.ite 5 0 false 1 (.ask 1 11 1 (.go 0)) te)
 T2:=bif f then .ask 1 5 0 (.ite 6 0 false 1 (.ask 1 6 1 (.ite 5 1 false 1 (.go 2) te)) (.go 1)) else .ask 1 6 0 (.ite 5 0 false 1 (.go 1) te)
def Fi(f:Bool):Lp:={H2 f with T1:=.done}
theorem b213:qg Tryz.f213.body=true:=by kernel_rfl
theorem c213b:Fg (H2 false) Tryz.f213 false 1 (oA 0)=true:=by kernel_rfl
theorem c213d:Fg (Fi false) Tryz.f213 false 0 (pA 0)=true:=by kernel_rfl
theorem run213:wi 213 (.bool false) nR:=fun l h8=>by
 obtain⟨c,cl,hb,hc,hn⟩:=lu b213;have mP:P.funcs[(213:Nat)]? =some Tryz.f213:=Tryz.func213;have hr:∀f,(38,Rg.keys)∈(H2 f).rg:=fun f=>by show(38,Rg.keys)∈[(1,Rg.lit f),(2,.bc),(4,.bo),(5,.bv),(38,.keys),(39,.len),(40,.idx)];simp
 rcases ig 5 (l.getD 0 z4).k with h|h
 ·exact H0 mP hb hc hn (hr false) c213b ⟨rfl,rfl,by decide,⟨rfl,rfl,rfl⟩,rfl⟩ ⟨rfl,rfl,by decide,rfl,rfl⟩ (fJ (by omega)) (by decide) (ic h8 (by decide) h)
 ·exact H0 (L:=Fi false) mP hb hc hn (hr false) c213d trivial ⟨rfl,rfl,by decide,rfl,rfl⟩ (nzQ _) (by decide) (kC (by decide) h)
theorem c213a:Fg (H2 true) Tryz.f213 true 1 (oA 0)=true:=by kernel_rfl
theorem c213c:Fg (Fi true) Tryz.f213 true 0 (pA 0)=true:=by kernel_rfl
theorem W5:wi 213 (.bool true) nR:=fun l h8=>by
 obtain⟨c,cl,hb,hc,hn⟩:=lu b213;have mP:P.funcs[(213:Nat)]? =some Tryz.f213:=Tryz.func213;have hr:∀f,(38,Rg.keys)∈(H2 f).rg:=fun f=>by show(38,Rg.keys)∈[(1,Rg.lit f),(2,.bc),(4,.bo),(5,.bv),(38,.keys),(39,.len),(40,.idx)];simp
 rcases ig 5 (l.getD 0 z4).k with h|h
 ·exact H0 mP hb hc hn (hr true) c213a ⟨rfl,rfl,by decide,⟨rfl,rfl,rfl⟩,rfl⟩ ⟨rfl,rfl,by decide,⟨rfl,rfl,by decide,rfl,rfl⟩,rfl⟩ (fJ (by omega)) (by decide) (ic h8 (by decide) h)
 ·exact H0 (L:=Fi true) mP hb hc hn (hr true) c213c trivial ⟨rfl,rfl,by decide,⟨rfl,rfl,by decide,rfl,rfl⟩,rfl⟩ (nzQ _) (by decide) (kC (by decide) h)
end
end Go.Proofs.YtngagklmbbogiaaGreatDoor.Ob
