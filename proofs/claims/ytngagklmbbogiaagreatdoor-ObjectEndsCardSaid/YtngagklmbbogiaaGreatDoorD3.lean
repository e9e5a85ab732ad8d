/- Parts of one proof (Ob42 to Ob54). No condition. -/
import Derived.Test.YtngagklmbbogiaaGreatDoorC3
import Derived.Test.YtngagklmbbogiaaGreatDoorC5
import Derived.Test.YtngagklmbbogiaaGreatDoorC6
import Derived.Test.YtngagklmbbogiaaGreatDoorD1
import Derived.Test.YtngagklmbbogiaaGreatDoorD2
import Derived.Test.YtngagklmbbogiaaGreatDoorC7
import Derived.Test.YtngagklmbbogiaaGreatDoorD0
set_option linter.all false
namespace Go.Proofs.YtngagklmbbogiaaGreatDoor.Ob
open Go Go.RowKit Vx
set_option maxRecDepth 100000
noncomputable section
variable{el:AO}{a:Act}{cl:Code}{E E':Env}{fn:Func}{g:FuncId}{h':Heap}{R:List An}{ks:List Ky}{l:List V4}{b1 b4 c cc d i m n n' nt r:Nat}{ok:Nat->Nat->Bool}{T0 T1:Tr}{V:Value}{w w':World}{Dz:aO}
theorem may8(hm:∀v∈l,v.may=true):∀v∈l,v.k<=8:=fun v hv=>ZD (hm v hv)
theorem run92:zn 92 nR:=fun l hm=>by
 have h8:=may8 hm;rcases ig 5 (l.getD 0 z4).k with h0|h0
 ·rcases ig 5 (l.getD 1 z4).k with h1|h1
  ·exact Pn Dw (all2 c92b2 c92b3) (pC (by kernel_rfl)) (fJ (by omega)) (by decide) (iv (ic h8 (by decide) h0) (ic h8 (by decide) h1)) fun s n c=>s.Ft n c (by decide) (xA hm 1)
  ·exact Pn Dw c92a (pC (by kernel_rfl)) (fJ (by omega)) (by decide) (iv (ic h8 (by decide) h0) (kC (by decide) h1)) fun s n c=>s.Ft n c (by decide) (xA hm 1)
 ·exact Pn Dw c92c (pC (by kernel_rfl)) (nzQ _) (by decide) (kC (by decide) h0) fun s n c=>holds_nil
theorem TB(h:cf nR (fun j d=>j=d) 0 T1):cf nR (fun _ _=>False) 0 (T90 T1):=dP T1 0 h fun j d hj=>by
 have hj:j=d:=hj;subst hj;refine dP (later j TD) j (by have:=fI j TD 0 (lV [4,5,0,1,2,3] 0 false false);rw[Nat.add_zero] at this;exact this) fun j2 q hq=>?_
 have hq:j2=j+q:=hq;subst hq;exact⟨rfl,rfl,by show j+q+0<j+q+0+1;omega,trivial,rfl⟩
theorem lawD{q:List (Nat×Nat×Bool)}(hg:cf nR (fun j d=>j=d) 0 T1)(h3:3<=l.length)(hq:Cq l q)(hm:(l.getD 1 z4).may=true){W:List aB}(h:∀fs∈W,Xo 90 3 q (qG 1++fs) T1=true)
  (hW:∀{w:World}{bp ba cap ab:Nat}{R:List An}{A S:Value},St w bp ba cap ab R A S l->∀n c,∃fs∈W,Holds (ae (sD R A ba cap ab bp n c l)) fs):
  ∃T,cf nR (fun _ _=>False) 0 T∧∀{w:World}{bp ba cap ab:Nat}{R:List An}{A S:Value},St w bp ba cap ab R A S l->
   Calls P 90 #[.agg #[.pointer (some ⟨bp,0,none⟩),S]] w fun e w'=>∃V,e=.returned V∧qS bp w w'∧cU R w.heap.size bp V w' (ev R T):=by
 refine⟨T90 T1,TB hg,fun {w bp ba cap ab R A S} s=>?_⟩;obtain⟨m,n,c,m5,ho,hh,jg,nQ,iR⟩:=s.Ds h3 (by decide) hq;have hm3:m=3:=by
  match m,m5,ho with
  |0,_,ho=>cases ho
  |1,_,ho=>cases ho
  |2,_,ho=>cases ho
  |3,_,_=>rfl
  |4,_,ho=>cases ho
 subst hm3;have low:=s.lowD n c;obtain⟨fs,h1,h2⟩:=hW s n c;have Fu:Holds (ae (sB R A ba cap ab bp n c l)) (qG 1):=by
  refine ah ?_ holds_nil;have d0:=s.yu n c (j:=1) (i:=0) (V:=.int .u8 (l.getD 1 z4).k) (by decide) rfl;have d1:=s.yu n c (j:=1) (i:=1) (V:=.float .f64 (l.getD 1 z4).x) (by decide) rfl;have d2:=s.yu n c (j:=1) (i:=2) (V:=.string (l.getD 1 z4).s) (by decide) rfl;have d3:=s.yu n c (j:=1) (i:=3) (V:=.int .i64 (l.getD 1 z4).r) (by decide) rfl;have:=jc (E:=ae (sB R A ba cap ab bp n c l)) (a:=.sy 13) (b:=.sy 14) (c:=.sy 15) (d:=.sy 16) d0 d1 d2 d3;rw[show gI (l.getD 1 z4).k (l.getD 1 z4).x (l.getD 1 z4).s (l.getD 1 z4).r=true from hm] at this;exact this
 have hk:=h fs h1;have ra:aP (ae (sD R A ba cap ab bp n c l)) [.ag [.p 40 0,gA 3]] (#[.agg #[.pointer (some ⟨bp,0,none⟩),S]]:Array Value).toList:=
  ad (by rw[Rv];exact⟨[.pointer (some ⟨bp,0,none⟩),S],rfl,ad (by rw[Rv];exact⟨⟨bp,0,0⟩,rfl,rfl⟩) (ad (jg.mono low) aF)⟩) aF
 exact s.goD (fun X TT=>c5_ok X TT) n c hk (aJ (fun p hp=>an low _ _ (hh p hp)) (aJ (fun p hp=>an low _ _ (Fu p hp)) h2)) ra (nQ.wide low) iR
theorem pE(k:Nat->Tr)(hk:∀d,I8 (k d)):∀n p,I8 (xB k p n)
 |0,_=>trivial
 |n+1,p=>⟨rfl,⟨rfl,hk _,pE k hk n (p+2)⟩,rfl,⟨rfl,hk _,pE k hk n (p+2)⟩,pE k hk n (p+1)⟩
theorem Xp:I8 (uf .go):=⟨rfl,pE .go (fun _=>trivial) 2 1,rfl,pE .go (fun _=>trivial) 2 1,rfl,⟨rfl,trivial,trivial⟩,rfl,⟨rfl,trivial,trivial⟩,trivial⟩
theorem e90N:Nat.beq (iy 4 (uf .go)).length 11=true:=by kernel_rfl
theorem e90all(fs:aB)(h:fs∈iy 4 (uf .go)):Xo 90 3 (oA 0++oA 1++oA 2) (qG 1++fs) (uf .go)=true:=by
 obtain⟨i,hi,rfl⟩:=List.getElem_of_mem h;have hn:(iy 4 (uf .go)).length=11:=aN e90N;have e:(iy 4 (uf .go))[i]=(iy 4 (uf .go)).getD i []:=by rw[cB,cN hi];rfl
 rw[e];show e90 i=true;rw[hn] at hi;by_cases h1:i∈[0,1,2,3,4]
 ·exact Aad.1 e90a i h1
 by_cases h2:i=5
 ·subst h2;exact e90b
 by_cases h3:i∈[6,7]
 ·exact Aad.1 e90c i h3
 ·refine Aad.1 e90d i ?_
  simp only[mcQ,mnQ,or_false,not_or] at h1 h3⊢;omega
theorem run90:zn 90 nR:=fun l hm=>by
 have h8:=may8 hm;rcases ig 5 (l.getD 0 z4).k with h0|h0
 ·rcases ig 5 (l.getD 2 z4).k with h2|h2
  ·have h3:=fJ (l:=l) (j:=2) (by omega)
   rcases ig 5 (l.getD 1 z4).k with h1|h1
   ·refine lawD (T1:=uf .go) (jy (g:=Nat.beq) (fun j d h=>aN h) _ 0 (by kernel_rfl)) h3 (iv (iv (ic h8 (by decide) h0) (ic h8 (by decide) h1)) (ic h8 (by decide) h2)) (xA hm 1) (W:=iy 4 (uf .go)) e90all fun s n c=>?_
    exact wq (s.ctxD n c) (Env.le_refl _) 4 (uf .go) 0 (jy (ok:=nR) (g:=Nat.beq) (G:=fun j d=>j=d) (fun j d h=>aN h) _ 0 (by kernel_rfl)) Xp (nzQ _)
   ·exact lawD (T1:=.go 0) rfl h3 (iv (iv (ic h8 (by decide) h0) (kC (by decide) h1)) (ic h8 (by decide) h2)) (xA hm 1) (W:=[[]]) (fun fs h=>by
     obtain rfl:=List.mem_singleton.1 h;rw[List.append_nil];exact c90d) fun s n c=>⟨[],List.mem_singleton.2 rfl,holds_nil⟩
  ·rcases ig 5 (l.getD 1 z4).k with h1|h1
   ·exact Pn Dw (all2 c90b2 c90b3) (pC (by kernel_rfl)) (fJ (by omega)) (by decide) (iv (iv (ic h8 (by decide) h0) (ic h8 (by decide) h1)) (kC (by decide) h2)) fun s n c=>s.Ft n c (by decide) (xA hm 1)
   ·exact Pn Dw c90a (pC (by kernel_rfl)) (fJ (by omega)) (by decide) (iv (iv (ic h8 (by decide) h0) (kC (by decide) h1)) (kC (by decide) h2)) fun s n c=>s.Ft n c (by decide) (xA hm 1)
 ·exact Pn Dw c90c (pC (by kernel_rfl)) (nzQ _) (by decide) (kC (by decide) h0) fun s n c=>holds_nil
inductive Rq where
 |lit (b:Bool)
 |bc|bo|La|keys|len|idx
structure Lq where
 rg:List (Nat×Rq)
 b1:Nat
 rt:Nat
 ue:Nat
 ks:Nat
 T1:Tr
 TS:Tr
 TN:Tr
def Rq.pV(L:Lq):Rq->AV
 |.lit b=>.b b
 |.bc=>.p L.b1 0
 |.bo=>.p L.rt 0
 |.La=>.sn
 |.keys=>I6 L.ue L.ks
 |.len=>xk L.ks
 |.idx=>.i .i64 0
def lsV(nil:Bool):AV:=bif nil then .sn else .sr 32 (.sy 28)
def Rq.BY(nil:Bool):Rq->AV
 |.lit b=>.b b
 |.bc=>.p 21 0
 |.bo=>.p 31 0
 |.La=>lsV nil
 |.keys=>I6 26 27
 |.len=>xk 27
 |.idx=>.x (.i .i64) (.sy 23)
def Rq.xh:Rq->AV
 |.lit b=>.b b
 |.bc=>.p 21 0
 |.bo=>.p 31 0
 |.La=>.no
 |.keys=>I6 26 27
 |.len=>xk 27
 |.idx=>.x (.i .i64) (.cD 4 (.sy 23) (.li .i64 1))
def Rq.TC:Rq->Bool
 |.La=>true
 |_=>false
def Lq.rs1(L:Lq):List (Nat×AV):=L.rg.map fun p=>(p.1,p.2.pV L)
def Lq.rs(L:Lq)(nil:Bool):List (Nat×AV):=L.rg.map fun p=>(p.1,p.2.BY nil)
def Lq.rs2(L:Lq):List (Nat×AV):=(L.rg.filter fun p=> !p.2.TC).map fun p=>(p.1,p.2.xh)
def Lq.lr(L:Lq):Nat:=((L.rg.filter fun p=>p.2.TC).map fun p=>p.1).headD 0
def Xq(nil:Bool):AO:=bif nil then .gone else .rows 31 (.sy 28)
def Fv(nil:Bool):AO:=bif nil then .gone else .facts []
def hQ(m:Nat)(el:AO)(nil:Bool):Heap:=jq ([.gone,.gone,.gone,.gone,.gone,ij m]++((List.range 14).map (fun _=>AO.gone)++[lS m,Fv nil,.gone,el,.gone,.gone,.gone,.gone,.gone,E8,E9,Xq nil])) 30
def fQ:aB:=[(.cmp .leq (.sy 25) (.li .i64 42),true),(.cmp .leq (.sy 25) (.li .i64 (-1)),false),(.cmp .leq (.sy 23) (.li .i64 1024),true),(.cmp .leq (.sy 23) (.li .i64 (-1)),false),(.cmp .leq (.fn 20 (.sy 27)) (.li .i64 1024),true),(.cmp .leq (.sy 28) (.li .i64 1024),true),(.cmp .leq (.sy 28) (.li .i64 (-1)),false)]
def TE(b:Bool):aB:=[(.cmp .leq (.cD 201 (.sy 27) (.sy 23)) (.li .i64 0),!b),(.cmp .leq (.cD 201 (.sy 27) (.sy 23)) (.li .i64 9223372036854775807),true)]
def TF(nil:Bool)(v:AV)(k:Nat->Bool)(h:Heap):Bool:=match v with
 |.sn=>bc nil (k 0) false
 |.sr id e=>bc nil false (match T.get .gone h id with
  |.rows 31 e'=>bc (Nat.ble 32 id) (bc (eE e e') (bc (eE e (.sy 28)) (k 0) (bc (eE e (.cD 4 (.sy 28) (.li .i64 1))) (k 1) false)) false) false
  |_=>false)
 |.so id 0 1 0=>bc nil (match T.get .gone h id with
  |.cells n ⟨4,some 31,true⟩ c=>bc (bc (Nat.ble 32 id) (Nat.ble 4 n) false) (Gl c 4 0 fun l=>bc (Mf l) (k 1) false) false
  |_=>false) false
 |_=>false
def Dy(L:Lq)(nil:Bool)(T2:Tr)(regs:aI)(h:Heap):Bool:=
 bc (bc (fi L.rs2 regs) (dA 31 26 36 jL h) false) (jr 25 (au h) (fun lf=>match lf with
  |.go n=>TF nil (T.get .no regs L.lr) (fun a=>bc (Nat.beq (Nat.mod n 2) a) (bc (Nat.ble n 3) (bc (bc (Nat.ble n 1) true (Nat.beq (cr (au h) (px 25 0)) 1)) (iP h fun v=>cY v (.x (.i .i64) (ji 25 (Nat.div n 2)))) false) false) false) h
  |_=>false) T2) false
def T3q(d c:Nat):Tr:=bif Nat.ble c 1023 then .ask 4 0 d .done else .fail 2 8 8750038247350955892
def Xr(nil:Bool)(v:AV)(h:Heap):Bool:=bif nil then jr 25 (au h) (dQ 25 30 v h) (.ask 4 0 0 .done) else
 pick (cr (au h) (.cmp .leq (.sy 28) (.li .i64 1023))) (jr 25 (au h) (dQ 25 30 v h) (.ask 4 0 0 .done)) (dQ 25 30 v h (.fail 2 8 8750038247350955892))
def B7:SE:=.cmp .leq (.cD 201 (.sy 27) (.sy 23)) (.li .i64 0)
def BC(h:Heap):Bool:=match T.get .gone h 22 with
 |.gone=>true
 |_=>false
def TG(L:Lq)(v:AV)(h:Heap):Bool:=qC v fun _=>match T.get .gone h 21 with
 |.gone=>qb (au h) (dZ 30 v h) L.T1
 |_=>pick (cr (au h) Dr) (Xr (BC h) v h) (pick (cr (au h) B7) (jr 25 (au h) (dQ 25 30 v h) L.TN) (jr 25 (au h) (dQ 25 30 v h) L.TS))
def Ia(cc:aO):jS:=fD P XT cc
def Fw(cc:aO)(L:Lq)(fn:Func)(cl:Code)(m:Nat)(q:List (Nat×Nat×Bool))(nil:Bool)(el:AO)(fs:aB)(kn:S)(kx:Nat->S)(kr:S):Bool:=
 bQ (fs++(fQ++(fF m++(kF q++f2)))) (hQ m el nil) fun h=>zj P cc XT (Ia cc) fn.ntmps (fun _ _ _=>fj) cl kn kx kr (gd (L.rs nil)) h 33
def TH(L:Lq)(m:Nat)(regs:aI)(h:Heap):Bool:=
 bc (fi L.rs1 regs) (bc (dA L.b1 2 102 [.p 30 0,gA m] h) (bc (bc (dA L.rt 26 36 jL h) (oJ L.ue L.ks h) false) (bc (iP h fun v=>cY v (.i .i64 1))
  (bc (Nat.beq (cr (au h) (.cmp .eql (.sy L.ks) (.cD 226 (.sy 1) (zi 0)))) 1) (bc (Nat.beq (cr (au h) (sw 0)) 1) (qb (au h) (isGo 0) L.T1) false) false) false) false) false) false
def BD(L:Lq)(h:Heap):Bool:=
 bc (match T.get .gone h 21 with
  |.gone=>true
  |_=>false) (bc (bc (Nat.ble 31 L.b1) (bc (Nat.ble 31 L.rt) (Nat.ble 31 L.ue) false) false) (bc (bc (Nat.ble L.ue 2999999) (Nat.ble L.ks 99998) false)
   (bc (bc (Nat.beq L.b1 L.rt) true (bc (Nat.beq L.ue L.b1) true (Nat.beq L.ue L.rt))) false true) false) false) false
def Fx(cc:aO)(L:Lq)(fn:Func)(cl:Code)(m:Nat)(q:List (Nat×Nat×Bool))(nil:Bool)(kx:Nat->S)(kr:S):Bool:=
 bc (bc (Fw cc L fn cl m q nil mw (fA++TE true) (fun regs h _=>Dy L nil L.TS regs h) (fun _=>fj) kr) (Fw cc L fn cl m q nil mw (fA++TE false) (fun regs h _=>Dy L nil L.TN regs h) (fun _=>fj) kr) false) (Fw cc L fn cl m q nil .gone fB fj kx kr) false
def J1q(cc:aO)(L:Lq)(fn:Func)(cl:Code)(m:Nat)(q:List (Nat×Nat×Bool)):S->(Nat->S)->S->S:=fun kn kx kr regs h aq=>
 bc (bc (BD L h) (TH L m regs h) false) (bc (Fx cc L fn cl m q true kx kr) (Fx cc L fn cl m q false kx kr) false) false
def lqT(cc:aO)(L:Lq)(fn:Func)(args:List AV)(m:Nat)(q:List (Nat×Nat×Bool)):Bool:=match fn.body with
 |some c=>(match aS c with
  |[cl]=>bc (Nat.ble (List.length args) fn.ntmps) (bQ (fF m++(kF q++f2)) (hS (ij m)) fun h=>zj P cc XT (Ia cc) fn.ntmps (J1q cc L fn cl m q) c (nB P fn (TG L)) (fun _=>fj) (nB P fn (TG L)) (gw args fc 0) h 31) false
  |_=>false)
 |none=>false
def Tq(L:Lq):Nat->Nat->Nat->Nat->Tr
 |0,_,_,_=>.done
 |n+1,i,d,c=>.more 0 i (.sym 0 i (dM (fun x=>Tq L n (i+1) (d+x/2) (c+x%2)) (later d L.TS)) (dM (fun x=>Tq L n (i+1) (d+x/2) (c+x%2)) (later d L.TN))) (T3q d c)
def T1q:Tr:=.ask 1 11 0 (.go 0)
def kJ(f:Bool):Lq where
 rg:=[(1,.lit f),(2,.bc),(4,.bo),(6,.La),(24,.keys),(25,.len),(26,.idx)]
 b1:=31
 rt:=32
 ue:=45
 ks:=44
 T1:=T1q
 TS:=bif f then .go 1 else .go 0
 TN:=bif f then .go 0 else .go 1
def sJ:Lq where
 rg:=[(1,.bc),(2,.bo),(4,.La),(23,.keys),(24,.len),(25,.idx)]
 b1:=31
 rt:=32
 ue:=45
 ks:=44
 T1:=T1q
 TS:=.go 0
 TN:=.ask 1 5 0 (.ite 6 0 false 1 (.ite 21 0 false 1 (.go 3) (.go 2)) (.go 2))
def BE(w:World)(V:Value)(c:Nat):Prop:=(V=bO∧c=0)∨∃(b cap:Nat)(arr:Array Value),V=.slice (some ⟨b,0,none⟩) c cap∧w.heap[b]? =some (.cells arr 31 (0,0))∧4*cap<=arr.size∧c<=cap∧∀j,j<4*c->kTy 0 j (arr.getD j undef)
def eu(V:Value):Bool:=match V with
 |.slice none _ _=>true
 |_=>false
def Lc(bp:Nat)(V:Value):aZ:=match V with
 |.slice (some ⟨b,_,_⟩) _ cap=>⟨b,0,cap⟩
 |_=>⟨bp,0,0⟩
def Rq.val(b1 b4:Nat)(K V:Value)(n i:Nat):Rq->Value
 |.lit b=>.bool b
 |.bc=>.pointer (some ⟨b1,0,none⟩)
 |.bo=>.pointer (some ⟨b4,0,none⟩)
 |.La=>V
 |.keys=>K
 |.len=>.int .i64 n
 |.idx=>.int .i64 i
structure yz(w0:World)(bp:Nat)(A S:Value)(L:Lq)(nt b1 b4:Nat)(K V:Value)(ks:List Ky)(i d c:Nat)(a:Act)(w:World):Prop where
 regs:∀p∈L.rg,a.tmps.getD p.1 undef=p.2.val b1 b4 K V ks.length i
 size:a.tmps.size=nt
 defers:a.defers=[]
 bJ:qS bp w0 w
 lq:cQ w b1 102 [.pointer (some ⟨bp,0,none⟩),S]
 sG:cQ w b4 36 (zO.cells bO)
 keys:fE w K ks
 mj:ks.length<=1024
 mS:qT ks
 pl:∃want,dE w bp A (.int .i64 d) want
 ls:BE w V c
 qe:w0.heap.size<=b1
 oW:w0.heap.size<=b4
 qf:∀b,cn K b->w0.heap.size<=b
 lol:∀b,cn V b->w0.heap.size<=b
 nS:b1≠b4
 Qa:∀b,cn K b->b≠b1∧b≠b4
 nel:∀b,cn V b->b≠b1∧b≠b4∧∀b',cn K b'->b≠b'
 il:i<=ks.length
 dl:d<=41
 cl:c<=i
def sQ(R:List An)(A:Value)(ba cap ab bp n cc:Nat)(l:List V4)(b1 b4:Nat)(K V:Value)(ks:List Ky)(i d c:Nat):List aZ:=sB R A ba cap ab bp n cc l++
 [⟨b1,0,0⟩,⟨bp,0,0⟩,aw (.int .i64 i),⟨(aT bp K).aH,(aT bp K).base+i*2,0⟩,aw (.int .i64 d),aT bp K,aw (.int .i64 (aG (aA ks))),aw (.int .i64 c),⟨bp,0,0⟩,⟨bp,0,0⟩,⟨b4,0,0⟩,Lc bp V]
section
variable{w0:World}{bp ba cap ab:Nat}{R:List An}{A S:Value}{l:List V4}(s:St w0 bp ba cap ab R A S l)
include s
theorem Ni(n cc b1 b4:Nat)(K V:Value)(ks:List Ky)(i d c:Nat):(ae (sB R A ba cap ab bp n cc l)).le (ae (sQ R A ba cap ab bp n cc l b1 b4 K V ks i d c)):=by
 intro x L h;cases x with
 |zero=>cases h
 |succ x=>
  show(sQ R A ba cap ab bp n cc l b1 b4 K V ks i d c)[x]? =some L;have h:(sB R A ba cap ab bp n cc l)[x]? =some L:=h;unfold sQ;rw[iA (bR.1 h).1];exact h
theorem TI{L:Lq}{K:Value}(hd:yz w0 bp A S L nt b1 b4 K V ks i d c a w)(fo:(el=mw∧i<ks.length)∨el=.gone)
  (nQ:RO (ae (sB R A ba cap ab bp n cc l)) w0 6 (ij m)) (iR:ij m=.gone∨(ij m).live=true) (jg:Rv (ae (sB R A ba cap ab bp n cc l)) (gA m) S):
  HR (ae (sQ R A ba cap ab bp n cc l b1 b4 K V ks i d c)) (hQ m el (eu V)) 33 w:=by
 have low:=Ni s n cc b1 b4 K V ks i d c;have W1:ae (sQ R A ba cap ab bp n cc l b1 b4 K V ks i d c) 21=some ⟨b1,0,0⟩:=rfl;have e24:ae (sQ R A ba cap ab bp n cc l b1 b4 K V ks i d c) 24=some ⟨(aT bp K).aH,(aT bp K).base+i*2,0⟩:=rfl;have xj:ae (sQ R A ba cap ab bp n cc l b1 b4 K V ks i d c) 26=some (aT bp K):=rfl;have jX:ae (sQ R A ba cap ab bp n cc l b1 b4 K V ks i d c) 30=some ⟨bp,0,0⟩:=rfl;have Vo:ae (sQ R A ba cap ab bp n cc l b1 b4 K V ks i d c) 31=some ⟨b4,0,0⟩:=rfl;have O3:ae (sQ R A ba cap ab bp n cc l b1 b4 K V ks i d c) 32=some (Lc bp V):=rfl;have e6:ae (sB R A ba cap ab bp n cc l) 6=some ⟨ab,0,0⟩:=rfl;have d23:den (ae (sQ R A ba cap ab bp n cc l b1 b4 K V ks i d c)) (.sy 23)=some (.int .i64 i):=aj (i:=22) rfl (ax _ _);have d25:den (ae (sQ R A ba cap ab bp n cc l b1 b4 K V ks i d c)) (.sy 25)=some (.int .i64 d):=aj (i:=24) rfl (ax _ _);have d27:den (ae (sQ R A ba cap ab bp n cc l b1 b4 K V ks i d c)) (.sy 27)=some (.int .i64 (aG (aA ks))):=aj (i:=26) rfl (ax _ _);have wh:=s.Bq;have zh:bp<w.heap.size:=dV wh hd.bJ.size;have yR:ab<w.heap.size:=dV s.abs hd.bJ.size;have ux:ba<w.heap.size:=dV s.wJ hd.bJ.size;have vg:∀{b t ib},cQ w b t ib->b<w.heap.size:=fun h=>by obtain⟨_,h,_⟩:=h;exact(cW.1 h).1
 have hk:=hd.keys;have kin:(aT bp K).aH<w.heap.size:=by
  rcases hk with⟨rfl,_⟩|⟨b,off,cp,arr,e,fr,rfl,h2,_⟩
  ·exact zh
  ·exact(cW.1 h2).1
 have lin:(Lc bp V).aH<w.heap.size:=by
  rcases hd.ls with⟨rfl,_⟩|⟨b,cp,arr,rfl,h2,_⟩
  ·exact zh
  ·exact(cW.1 h2).1
 obtain⟨want,bn,yP,Ck,wY,yQ,Bj,_⟩:=hd.pl;have Qp:=hd.dl;have nv:aP (ae (sQ R A ba cap ab bp n cc l b1 b4 K V ks i d c)) ([Ob.pq,.x (.i .i64) (.sy 25)]++di 87) (A::.int .i64 d::(List.range 87).map fun j=>bn.getD (j+2) undef):=
  ad ((s.Fe n cc).mono low) (ad (by rw[Rv];exact⟨d25,_,rfl,by show(-9223372036854775808:Int)<=d;omega,by show(d:Int)<=9223372036854775807;omega⟩) (fX 87 _ (by rw[gp,ot]) fun V hV=>by
   obtain⟨j,hj,rfl⟩:=bU.1 hV;exact Bj j (List.mem_range.1 hj)))
 have rel:RO (ae (sQ R A ba cap ab bp n cc l b1 b4 K V ks i d c)) w 24 el:=by
  rcases fo with⟨rfl,hi⟩|rfl
  ·rcases hk with⟨_,rfl⟩|⟨b,off,cp,arr,e,fr,rfl,h2,h3,h4⟩
   ·cases hi
   ·have Ce:ks[i]? =some ks[i]:=cN hi
    obtain⟨c1,c2⟩:=h4 i _ Ce;obtain⟨o1,o2,o3⟩:=hd.mS _ (List.getElem_mem hi);refine⟨⟨b,off+i*2,0⟩,arr,e,fr,e24,fun h=>absurd h (by decide),h2,by show off+i*2+2<=_;omega,fun j hj=>?_,⟨fun h=>absurd h.2.1 (by decide),fun h=>absurd h.2.1 (by decide),fun _=>⟨⟨b,off,cp+1⟩,i,xj,d23,rfl,rfl⟩⟩⟩;refine jf (g:=fun j=>arr.getD (off+i*2+j) undef) _ _ _ (fun q x hx=>?_) (fun q=>by rw[nw];simp[Rv]) j
    have q2:q<2:=(bR.1 hx).1;match q,q2,hx with
    |0,_,hx=>
     cases hx
     have:=iQ (c:=0) d27 d23 Ce rfl (eV _);show Rv _ _ (arr.getD (off+i*2+(0+0)) undef);rw[show off+i*2+(0+0)=off+2*i by omega,c1,Rv];exact⟨this,_,rfl,o1⟩
    |1,_,hx=>
     cases hx
     have:=iQ (c:=1) d27 d23 Ce rfl (ax _ _);show Rv _ _ (arr.getD (off+i*2+(0+1)) undef);rw[show off+i*2+(0+1)=off+(2*i+1) by omega,c2,Rv];exact⟨this,_,rfl,o2,o3⟩
  ·trivial
 have rao:RO (ae (sQ R A ba cap ab bp n cc l b1 b4 K V ks i d c)) w 6 (ij m):=by
  refine RO.wide low (RO.same (fun M hM=>?_) nQ)
  rw[e6] at hM;cases hM;exact hd.bJ.same _ s.abs s.KM
 have rls:RO (ae (sQ R A ba cap ab bp n cc l b1 b4 K V ks i d c)) w 32 (Xq (eu V)):=by
  rcases hd.ls with⟨rfl,_⟩|⟨b,cp,arr,rfl,h2,h3,h4,h5⟩
  ·trivial
  ·exact⟨⟨b,0,cp⟩,arr,c,O3,rfl,h2,aj (i:=27) rfl (ax _ _),h4,by show cp*4<=arr.size;omega,h5⟩
 have rnm:RO (ae (sQ R A ba cap ab bp n cc l b1 b4 K V ks i d c)) w 22 (Fv (eu V)):=by
  cases eu V
  ·exact fun p hp=>by cases hp
  ·trivial
 refine cX (C:=sQ R A ba cap ab bp n cc l b1 b4 K V ks i d c) rfl (show 30<=33 from by decide)
  (.append (l:=[AO.gone,.gone,.gone,.gone,.gone,ij m]) ⟨trivial,trivial,trivial,trivial,trivial,rao,trivial⟩ (.append (.dead _ _ fun a ha=>by obtain⟨_,_,rfl⟩:=bU.1 ha;rfl) ⟨?_,rnm,trivial,rel,trivial,trivial,trivial,trivial,trivial,?_,?_,rls,trivial⟩)) (fun L hL=>?_) ?_
 ·exact hd.lq.ro W1 (ad (by rw[Rv];exact⟨⟨bp,0,0⟩,jX,rfl⟩) (ad (jg.mono low) aF)) rfl
 ·refine⟨⟨bp,0,0⟩,bn,124,jX,yP,by show 0+89<=_;omega,nV.gJ _ _ _ _ _,fun j hj=>?_⟩
  have:=ef 89 _ _ nv j hj;rw[show(0:Nat)+j=j by omega];have e:(A::Value.int .i64 d::(List.range 87).map fun j=>bn.getD (j+2) undef).getD j undef=bn.getD j undef:=by
   match j,hj with
   |0,_=>exact wY.symm
   |1,_=>exact yQ.symm
   |j+2,hj=>exact eQ bn 87 j (by omega)
  rw[←e];exact this
 ·exact hd.sG.ro Vo eZ rfl
 ·have s0:∀V,(aw V).aH<w.heap.size:=fun V=>by rw[bH];omega
  unfold sQ sB at hL;simp only[List.mem_append,bU] at hL;rcases hL with(hL|⟨_,_,rfl⟩)|hL
  ·simp only[mcQ,mnQ,or_false] at hL
   rcases hL with rfl|rfl|rfl|rfl|rfl|rfl|rfl|rfl<;>first|exact s0 _|assumption|(split<;>exact ux)
  ·exact s0 _
  ·simp only[mcQ,mnQ,or_false] at hL
   rcases hL with rfl|rfl|rfl|rfl|rfl|rfl|rfl|rfl|rfl|rfl|rfl|rfl<;>first|exact s0 _|assumption|exact vg hd.lq|exact vg hd.sG
 ·have n1:ab≠b1:=by have:=hd.qe;have:=s.abs;omega
  have n4:ab≠b4:=by have:=hd.oW;have:=s.abs;omega
  have p1:b1≠bp:=by have:=hd.qe;omega
  have p4:bp≠b4:=by have:=hd.oW;omega
  have cR:=s.KM;have W2:=hd.nS;have kb:i<ks.length->(aT bp K).aH≠ab∧(aT bp K).aH≠bp∧(aT bp K).aH≠b1∧(aT bp K).aH≠b4:=fun hi=>by
   rcases hk with⟨_,rfl⟩|⟨b,off,cp,arr,e,fr,rfl,h2,h3,h4⟩
   ·cases hi
   ·have hb:cn (.slice (some ⟨b,off,none⟩) ks.length cp) b:=⟨off,ks.length,cp,rfl⟩
    have h1:=hd.qf b hb;have h2:=hd.Qa b hb;have:=s.abs;exact⟨by show b≠_;omega,by show b≠_;omega,h2.1,h2.2⟩
  have hgo:ij m=.gone∨(ij m).live=true:=iR;rcases hd.ls with⟨rfl,_⟩|⟨b5,cp,arr,rfl,h2,h3,h4,_⟩
  ·rcases fo with⟨rfl,hi⟩|rfl<;>rcases iR with hg|hg
   ·show(jT ([AO.gone,.gone,.gone,.gone,.gone,ij m]++_) _).Nodup
    rw[hg];show[b1,(aT bp K).aH,bp,b4].Nodup;have:=kb hi;simp;grind
   ·show(if (ij m).live then ab::[b1,(aT bp K).aH,bp,b4] else[b1,(aT bp K).aH,bp,b4]).Nodup
    rw[if_pos hg];have:=kb hi;simp;grind
   ·show(jT ([AO.gone,.gone,.gone,.gone,.gone,ij m]++_) _).Nodup
    rw[hg];show[b1,bp,b4].Nodup;simp;grind
   ·show(if (ij m).live then ab::[b1,bp,b4] else[b1,bp,b4]).Nodup
    rw[if_pos hg];simp;grind
  ·have hb5:cn (.slice (some ⟨b5,0,none⟩) c cp) b5:=⟨0,c,cp,rfl⟩
   have l5:=hd.lol b5 hb5;obtain⟨m1,m4,mk⟩:=hd.nel b5 hb5;have q1:ab≠b5:=by have:=s.abs;omega
   have q2:bp≠b5:=by omega
   have q3:i<ks.length->(aT bp K).aH≠b5:=fun hi=>by
    rcases hk with⟨_,rfl⟩|⟨b,off,cp,arr,e,fr,rfl,h2,h3,h4⟩
    ·cases hi
    ·exact(mk b ⟨off,ks.length,cp,rfl⟩).symm
   rcases fo with⟨rfl,hi⟩|rfl<;>rcases iR with hg|hg
   ·show(jT ([AO.gone,.gone,.gone,.gone,.gone,ij m]++_) _).Nodup
    rw[hg];show[b1,(aT bp K).aH,bp,b4,b5].Nodup;have:=kb hi;have:=q3 hi;simp;grind
   ·show(if (ij m).live then ab::[b1,(aT bp K).aH,bp,b4,b5] else[b1,(aT bp K).aH,bp,b4,b5]).Nodup
    rw[if_pos hg];have:=kb hi;have:=q3 hi;simp;grind
   ·show(jT ([AO.gone,.gone,.gone,.gone,.gone,ij m]++_) _).Nodup
    rw[hg];show[b1,bp,b4,b5].Nodup;simp;grind
   ·show(if (ij m).live then ab::[b1,bp,b4,b5] else[b1,bp,b4,b5]).Nodup
    rw[if_pos hg];simp;grind
end
theorem hQ_box(m:Nat)(el:AO)(nil:Bool):T.get .gone (hQ m el nil) 21=lS m:=by kernel_rfl
theorem hQ_nil(m:Nat)(el:AO):∀nil,T.get .gone (hQ m el nil) 22=Fv nil
 |true=>by kernel_rfl
 |false=>by kernel_rfl
theorem Xs{nil:Bool}{j:Nat}{b:AO}(h:([AO.gone,.gone,.gone,.gone,.gone,ij m]++((List.range 14).map (fun _=>AO.gone)++[lS m,Fv nil,.gone,el,.gone,.gone,.gone,.gone,.gone,E8,E9,Xq nil]))[j]? =some b)(hl:b.live=true):
  j=5∨j=20∨(j=23∧el.live=true)∨j=29∨j=30∨(j=31∧nil=false):=by
 have hj:j<32:=(bR.1 h).1;rcases gC j 6 with h6|h6
 ·rw[iA h6] at h
  match j,h6,h with
  |0,_,h=>cases h;cases hl
  |1,_,h=>cases h;cases hl
  |2,_,h=>cases h;cases hl
  |3,_,h=>cases h;cases hl
  |4,_,h=>cases h;cases hl
  |5,_,_=>exact .inl rfl
 ·rw[zE h6] at h
  have h:((List.range 14).map (fun _=>AO.gone)++[lS m,Fv nil,.gone,el,.gone,.gone,.gone,.gone,.gone,E8,E9,Xq nil])[j-6]? =some b:=h;rcases gC (j-6) 14 with W2|W2
  ·exfalso
   rw[iA (by rw[gp,ot];exact W2),fL,List.getElem?_range W2] at h;cases h;cases hl
  ·rw[zE (by rw[gp,ot];exact W2)] at h
   rw[gp,ot] at h;obtain⟨t,rfl⟩:∃t,j=20+t:=⟨j-20,by omega⟩;have ht:t<12:=by omega
   rw[show 20+t-6-14=t by omega] at h;match t,ht,h with
   |0,_,_=>exact .inr (.inl rfl)
   |1,_,h=>cases h;cases nil<;>cases hl
   |2,_,h=>cases h;cases hl
   |3,_,h=>cases h;exact .inr (.inr (.inl ⟨rfl,hl⟩))
   |4,_,h=>cases h;cases hl
   |5,_,h=>cases h;cases hl
   |6,_,h=>cases h;cases hl
   |7,_,h=>cases h;cases hl
   |8,_,h=>cases h;cases hl
   |9,_,_=>exact .inr (.inr (.inr (.inl rfl)))
   |10,_,_=>exact .inr (.inr (.inr (.inr (.inl rfl))))
   |11,_,h=>cases h;cases nil<;>first|(cases hl;done)|exact .inr (.inr (.inr (.inr (.inr ⟨rfl,rfl⟩))))
def Po(bp b4:Nat)(V:Value)(k:Nat):Prop:=k=bp∨k=b4∨cn V k
section
variable{w0:World}{bp ba cap ab:Nat}{R:List An}{A S:Value}{l:List V4}(s:St w0 bp ba cap ab R A S l)
include s
theorem Ib{L:Lq}{K:Value}(hd:yz w0 bp A S L nt b1 b4 K V ks i d c a w){fs:aB}(fo:(el=mw∧i<ks.length)∨el=.gone)
  (nQ:RO (ae (sB R A ba cap ab bp n cc l)) w0 6 (ij m)) (iR:ij m=.gone∨(ij m).live=true) (jg:Rv (ae (sB R A ba cap ab bp n cc l)) (gA m) S) {q:List (Nat×Nat×Bool)} (hq:Holds (ae (sB R A ba cap ab bp n cc l)) (fF m++(kF q++f2)))
  (dX:Holds (ae (sQ R A ba cap ab bp n cc l b1 b4 K V ks i d c)) fs) {k:Heap->Bool} (hk:bQ (fs++(fQ++(fF m++(kF q++f2)))) (hQ m el (eu V)) k=true):
  ∃h1,k h1=true∧@Vx.St (KJ (ae (sB R A ba cap ab bp n cc l)) w0 (cg ba R)) [] (ae (sQ R A ba cap ab bp n cc l b1 b4 K V ks i d c)) (gd (L.rs (eu V))) h1 33 nt a w∧
   jh (Po bp b4 V) w 30 (fun E h=>(ae (sQ R A ba cap ab bp n cc l b1 b4 K V ks i d c)).le E∧T.get .gone h 21=lS m∧T.get .gone h 22=Fv (eu V)) (ae (sQ R A ba cap ab bp n cc l b1 b4 K V ks i d c)) h1 w:=by
 have low:=Ni s n cc b1 b4 K V ks i d c;have hr:=TI s hd fo nQ iR jg (n:=n) (cc:=cc);have xj:ae (sQ R A ba cap ab bp n cc l b1 b4 K V ks i d c) 26=some (aT bp K):=rfl;have d23:den (ae (sQ R A ba cap ab bp n cc l b1 b4 K V ks i d c)) (.sy 23)=some (.int .i64 i):=aj (i:=22) rfl (ax _ _);have d25:den (ae (sQ R A ba cap ab bp n cc l b1 b4 K V ks i d c)) (.sy 25)=some (.int .i64 d):=aj (i:=24) rfl (ax _ _);have d27:den (ae (sQ R A ba cap ab bp n cc l b1 b4 K V ks i d c)) (.sy 27)=some (.int .i64 (aG (aA ks))):=aj (i:=26) rfl (ax _ _);have d28:den (ae (sQ R A ba cap ab bp n cc l b1 b4 K V ks i d c)) (.sy 28)=some (.int .i64 c):=aj (i:=27) rfl (ax _ _);have dl:den (ae (sQ R A ba cap ab bp n cc l b1 b4 K V ks i d c)) (.fn 20 (.sy 27))=some (.int .i64 ks.length):=by
  rw[bC d27];unfold aA;rw[gp]
 have kz:=hd.mj;have uy:=hd.il;have Qp:=hd.dl;have qZ:=hd.cl;have hf:Holds (ae (sQ R A ba cap ab bp n cc l b1 b4 K V ks i d c)) (fs++(fQ++(fF m++(kF q++f2)))):=by
  refine aJ dX (aJ ?_ fun p hp=>an low _ _ (hq p hp))
  exact ah ((az d25).trans (by rw[eX (by omega)])) (ah ((az d25).trans (by rw[gM (by omega)])) (ah ((az d23).trans (by rw[eX (by omega)])) (ah ((az d23).trans (by rw[gM (by omega)]))
   (ah ((az dl).trans (by rw[eX (by omega)])) (ah ((az d28).trans (by rw[eX (by omega)])) (ah ((az d28).trans (by rw[gM (by omega)])) holds_nil))))))
 obtain⟨h1,he,fw,fk⟩:=bZ hk hr hf;have cG:bM (hQ m el (eu V))=30:=bX _ _;have wh:=s.Bq;have yR:=s.abs;have qe:=hd.qe;have oW:=hd.oW;have live:∀x M,(T.get .gone (hQ m el (eu V)) x).live=true->ae (sQ R A ba cap ab bp n cc l b1 b4 K V ks i d c) x=some M->(x=30∧M.aH=bp)∨(x=31∧M.aH=b4)∨(x=32∧cn V M.aH∧w0.heap.size<=M.aH)∨(x<30∧(M.aH=ab∨w0.heap.size<=M.aH)):=fun x M hl hM=>by
  obtain⟨j,b,rfl,g1,g2⟩:=bT (a:=.gone) hl;have hM:(sQ R A ba cap ab bp n cc l b1 b4 K V ks i d c)[j]? =some M:=hM;rcases Xs g1 g2 with rfl|rfl|⟨rfl,g⟩|rfl|rfl|⟨rfl,g⟩
  ·cases hM;exact .inr (.inr (.inr ⟨by decide,.inl rfl⟩))
  ·cases hM;exact .inr (.inr (.inr ⟨by decide,.inr qe⟩))
  ·cases hM
   refine .inr (.inr (.inr ⟨by decide,.inr ?_⟩));rcases fo with⟨_,hi⟩|rfl
   ·rcases hd.keys with⟨_,rfl⟩|⟨b',off,cp,arr,e,fr,rfl,h2,_⟩
    ·cases hi
    ·exact hd.qf b' ⟨off,ks.length,cp,rfl⟩
   ·cases g
  ·cases hM;exact .inl ⟨rfl,rfl⟩
  ·cases hM;exact .inr (.inl ⟨rfl,rfl⟩)
  ·cases hM
   rcases hd.ls with⟨rfl,_⟩|⟨b5,cp,arr,rfl,h2,h3,h4,_⟩
   ·cases g
   ·exact .inr (.inr (.inl ⟨rfl,⟨0,c,cp,rfl⟩,hd.lol b5 ⟨0,c,cp,rfl⟩⟩))
 refine⟨h1,he,@Vx.St.mk (KJ (ae (sB R A ba cap ab bp n cc l)) w0 (cg ba R)) _ _ _ _ _ _ _ _ (fun t=>?_) hd.size hd.defers fw ?_,⟨dH.refl _ _,fun k hk Cn=>?_,fk.bM.trans cG,fun E' h' hle oN=>⟨hle,?_,?_⟩⟩⟩
 ·rcases iK (L.rs (eu V)) t with g|⟨v,hv,g⟩
  ·rw[g];simp[Rv]
  ·rw[g]
   obtain⟨p,hp,e⟩:=bU.1 hv;cases e
   rw[hd.regs p hp];cases p.2 with
   |lit b=>show Rv _ (.b b) (.bool b);rw[Rv]
   |bc=>show Rv _ (.p 21 0) _;rw[Rv];exact⟨⟨b1,0,0⟩,rfl,rfl⟩
   |bo=>show Rv _ (.p 31 0) _;rw[Rv];exact⟨⟨b4,0,0⟩,rfl,rfl⟩
   |La=>
    show Rv _ (lsV (eu V)) V;rcases hd.ls with⟨rfl,_⟩|⟨b5,cp,arr,rfl,h2,h3,h4,_⟩
    ·show Rv _ .sn _;rw[Rv];rfl
    ·show Rv _ (.sr 32 (.sy 28)) _;rw[Rv];exact⟨⟨b5,0,cp⟩,c,rfl,d28,by omega,h4,rfl⟩
   |keys=>exact xm hd.keys hd.mj xj d27
   |len=>show Rv _ (xk 27) (.int .i64 ks.length);unfold xk;rw[Rv];exact⟨dl,_,rfl,by show(-9223372036854775808:Int)<=(ks.length:Int);omega,by show(ks.length:Int)<=9223372036854775807;omega⟩
   |idx=>show Rv _ (.x (.i .i64) (.sy 23)) (.int .i64 i);rw[Rv];exact⟨d23,_,rfl,by show(-9223372036854775808:Int)<=(i:Int);omega,by show(i:Int)<=9223372036854775807;omega⟩
 ·refine bL.fk (h:=hQ m el (eu V)) ⟨low,hd.bJ.size,fun k hk=>?_⟩ fk
  have qR:k<w0.heap.size∧k≠bp∧k≠ab:=by
   rcases hk with rfl|⟨x,hx,hb⟩|rfl
   ·exact⟨s.wJ,s.O8,s.WZ⟩
   rotate_left
   ·exact⟨s.mh.lt,s.SB,s.P8⟩
   ·refine⟨?_,s.kb x hx k hb⟩
    obtain⟨j,hj⟩:=List.getElem?_of_mem hx;obtain⟨off,n',c',hK⟩:=hb;rcases(s.ans j x hj).keys with⟨g1,_⟩|⟨b,tX,bz,arr,el,fr,g1,g2,_⟩
    ·rw[hK] at g1;cases g1
    ·rw[hK] at g1;cases g1
     exact(cW.1 g2).1
  refine⟨hd.bJ.same k qR.1 qR.2.1,qR.1,fun x M hl hM e=>?_⟩;rcases live x M hl hM with⟨_,g⟩|⟨_,g⟩|⟨_,_,g⟩|⟨_,g|g⟩<;>omega
 ·obtain⟨x,M,a1,a2,a3,rfl⟩:=Cn
  rw[fk.bM,cG] at a1;rw[fk.live] at a2;rcases live x M a2 a3 with⟨_,g⟩|⟨_,g⟩|⟨_,g,_⟩|⟨g,_⟩
  ·exact .inl g
  ·exact .inr (.inl g)
  ·exact .inr (.inr g)
  ·omega
 ·rw[oN 21 (by decide),fk.same 21 (.inr (.inr (.inl (by rw[cG];decide))))]
  exact hQ_box m el _
 ·rw[oN 22 (by decide),fk.same 22 (.inr (.inr (.inl (by rw[cG];decide))))]
  exact hQ_nil m el _
omit s in
theorem TJ(cO:HR E' h' n' w')(d28:den E' (.sy 28)=some (.int .i64 c))(hc:c<=2000)(hls:BE w V c){v:AV}{V':Value}(rv:Rv E' v V'){k:Nat->Bool}(he:TF (eu V) v k h'=true):
  ∃x,k x=true∧BE w' V' (c+x)∧∀b,cn V' b->∃id L,32<=id∧(T.get .gone h' id).live=true∧E' id=some L∧L.aH=b:=by
 unfold TF at he;split at he<;>try (cases he;done)
 ·obtain⟨h1,h2⟩:=aa he
  rw[Rv] at rv;refine⟨0,h2,.inl ⟨rv,?_⟩,fun b hb=>by obtain⟨_,_,_,hb⟩:=hb;rw[rv] at hb;cases hb⟩;rcases hls with⟨_,h⟩|⟨b,cp,arr,rfl,_⟩
  ·omega
  ·cases h1
 ·rename_i id e
  rcases aR he with⟨_,he⟩|⟨yO,he⟩
  ·cases he
  split at he<;>try (cases he;done)
  rename_i e' hg;obtain⟨Xt,Bl⟩:=aa he;have Xt:=aU Xt;obtain⟨QQ,P6⟩:=aa Bl;have QQ:=cq QQ;have dU:=cO.obj id;rw[hg] at dU;obtain⟨L,arr,N,eL,gi,hb,P4,_,cC,CU⟩:=dU;rw[Rv] at rv;obtain⟨L',n,qM,dn,_,hn,rfl⟩:=rv;rw[eL] at qM;cases qM;have aH:∀b,cn (.slice (some ⟨L.aH,L.base,none⟩) n L.room) b->∃id L,32<=id∧(T.get .gone h' id).live=true∧E' id=some L∧L.aH=b:=fun b hb=>by
   obtain⟨_,_,_,hb⟩:=hb;cases hb
   exact⟨id,L,Xt,by rw[hg];rfl,eL,rfl⟩
  rw[←QQ] at P4;obtain rfl:n=N:=by rw[dn] at P4;injection P4 with q;injection q with _ q;omega
  have mk:∀x,n=c+x->BE w' (.slice (some ⟨L.aH,L.base,none⟩) n L.room) (c+x):=fun x hx=>by
   subst hx;rw[gi];exact .inr ⟨L.aH,L.room,arr,rfl,hb,by omega,hn,CU⟩
  rcases aR P6 with⟨g,Sq⟩|⟨_,Sq⟩
  ·rw[cq g,d28] at dn
   have:n=c:=by injection dn with dn;injection dn with _ dn;omega
   exact⟨0,Sq,mk 0 (by omega),aH⟩
  ·obtain⟨g,heD⟩:=aa Sq
   rw[cq g] at dn;have d2:den E' (.cD 4 (.sy 28) (.li .i64 1))=some (.int .i64 (c+1:Nat)):=by
    simp only[den] at d28;simp only[den,d28,js];rw[if_pos (by omega)];rfl
   rw[d2] at dn;have:n=c+1:=by injection dn with dn;injection dn with _ dn;omega
   exact⟨1,heD,mk 1 this,aH⟩
 ·rename_i id
  obtain⟨yO,he⟩:=aa he;split at he<;>try (cases he;done)
  rename_i n0 cs hg;obtain⟨Xt,he⟩:=aa he;obtain⟨Xt,hn4⟩:=aa Xt;have Xt:=aU Xt;have hn4:=aU hn4;rw[kW] at he;obtain⟨CU,he⟩:=aa he;have dU:=cO.obj id;rw[hg] at dU;obtain⟨L,arr,el,eL,hb,cC,dr,dz⟩:=dU;have fo:el=31:=dr.2.1 _ rfl;have gi:L.base=0:=dr.2.2 rfl;subst fo;have CT:L.base+L.room*4<=arr.size:=(dr.1 (by show(4:Nat)≠0;omega)).1;rw[Rv] at rv;obtain⟨L',qM,rfl,hn⟩:=rv;rw[eL] at qM;cases qM;have c0:c=0:=by
   rcases hls with⟨_,h⟩|⟨b,cp,arr,rfl,_⟩
   ·exact h
   ·cases yO
  subst c0;have r4:=py 4 0 (fun j=>cs.get j) (arr:=arr) (E:=E') fun j hj=>by rw[Nat.zero_add];have:=dz j (by omega);rw[gi,Nat.zero_add] at this;exact this
  obtain⟨_,hk4⟩:=GL CU r4;refine⟨1,he,.inr ⟨L.aH,L.room,arr,by rw[gi];rfl,hb,by omega,by omega,fun j hj=>?_⟩,fun b hb=>?_⟩
  ·have:=hk4 j (by omega)
   rw[cB,fL,List.getElem?_range' (by omega)] at this;simpa using this
  obtain⟨_,_,_,hb⟩:=hb;cases hb
  exact⟨id,L,Xt,by rw[hg];rfl,eL,rfl⟩
theorem Pp[JC]{L:Lq}{K:Value}(hd:yz w0 bp A S L nt b1 b4 K V ks i d c a w)(hi:i<ks.length)(hlr:∀p∈L.rg,p.2.TC=true->p.1=L.lr){T2:Tr}{av:aI}{a':Act}{Z:Env->Heap->Prop}
  (st:Vx.St [] E' av h' n' nt a' w') (ci:jh (Po bp b4 V) w 30 Z E' h' w') (hle:(ae (sQ R A ba cap ab bp n cc l b1 b4 K V ks i d c)).le E') (hk:Dy L (eu V) T2 av h'=true):
  ∃x V',yz w0 bp A S L nt b1 b4 K V' ks (i+1) (d+x/2) (c+x%2) a' w'∧ev R (later d T2)=.go x:=by
 have low:=Ni s n cc b1 b4 K V ks i d c;have X:=s.yU n cc;have xj:ae (sQ R A ba cap ab bp n cc l b1 b4 K V ks i d c) 26=some (aT bp K):=rfl;have d23:den (ae (sQ R A ba cap ab bp n cc l b1 b4 K V ks i d c)) (.sy 23)=some (.int .i64 i):=aj (i:=22) rfl (ax _ _);have d25:den (ae (sQ R A ba cap ab bp n cc l b1 b4 K V ks i d c)) (.sy 25)=some (.int .i64 d):=aj (i:=24) rfl (ax _ _);have d27:den (ae (sQ R A ba cap ab bp n cc l b1 b4 K V ks i d c)) (.sy 27)=some (.int .i64 (aG (aA ks))):=aj (i:=26) rfl (ax _ _);have d28:den (ae (sQ R A ba cap ab bp n cc l b1 b4 K V ks i d c)) (.sy 28)=some (.int .i64 c):=aj (i:=27) rfl (ax _ _);have kz:=hd.mj;have Qp:=hd.dl;have qZ:=hd.cl;have hp:∀m,m<100->den E' (ji 25 m)=some (.int .i64 (d+m:Nat)):=fY (an hle _ _ d25) (by omega);unfold Dy at hk;obtain⟨k1,k2⟩:=aa hk;obtain⟨k1,k4⟩:=aa k1;have hf:=aD st.heap;obtain⟨lf,dh,rj⟩:=jj X (Env.le_trans low hle) hp hf k2;split at dh
 case h_2=>cases dh
 rename_i x;have wg:∀{M:aZ},E' 30=some M->M.aH=bp:=fun {M} h=>by rw[hle 30 _ rfl] at h;cases h;rfl
 obtain⟨y,hy,hls,hbl⟩:=TJ st.heap (an hle _ _ d28) (by omega) hd.ls (st.regs L.lr) dh;obtain⟨y1,hy⟩:=aa hy;obtain⟨y2,hy⟩:=aa hy;obtain⟨y3,y4⟩:=aa hy;have y1:x%2=y:=aN y1;have y2:=aU y2;subst y1;have P2:d+x/2<=41:=by
  rcases aR y3 with⟨g,_⟩|⟨_,g⟩
  ·have:=aU g;omega
  ·have cL:d+0<R.length:=gD ((aX hf (kH X (Env.le_trans low hle) (hp 0 (by decide)))).1 (aN g))
   have:=s.len;omega
 obtain⟨v,Vc,hv,rv,want,Cu⟩:=ik st.heap hle y4 (hle 30 _ rfl) ((s.Fe n cc).mono low);have hV:Vc=.int .i64 (d+x/2:Nat):=by
  rw[bV hv,Rv,show Nat.div x 2=x/2 from rfl,hp (x/2) (by omega)] at rv;have:=rv.1;injection this with this;exact this.symm
 subst hV;have vg:∀{b t ib},cQ w b t ib->b<w.heap.size:=fun h=>by obtain⟨_,h,_⟩:=h;exact(cW.1 h).1
 have wh:=s.Bq;have qe:=hd.qe;have oW:=hd.oW;have Vl:=hd.bJ.size;have W2:=hd.nS;have l30:(T.get .gone h' 30).live=true:=by
  unfold iP at y4;split at y4
  ·rename_i q;rw[q];rfl
  ·cases y4
 have l31:(T.get .gone h' 31).live=true:=by
  unfold dA at k4;split at k4
  ·rename_i q;rw[q];rfl
  ·cases k4
 have kin:∀b,cn K b->b<w.heap.size:=fun b hb=>by
  rcases hd.keys with⟨rfl,_⟩|⟨b',off,cp,arr,e,fr,rfl,h2,_⟩
  ·obtain⟨_,_,_,e⟩:=hb;cases e
  ·obtain⟨_,_,_,e⟩:=hb
   cases e
   exact(cW.1 h2).1
 have GN:∀b,cn (a'.tmps.getD L.lr undef) b->cn V b∨w.heap.size<=b:=fun b hb=>by
  obtain⟨id,M,g1,g2,g3,rfl⟩:=hbl b hb;rcases gC M.aH w.heap.size with cL|ll
  ·rcases ci.iq M.aH cL ⟨id,M,by rw[ci.bM];omega,g2,g3,rfl⟩ with h|h|h
   ·exfalso
    have:=st.heap.inj id 30 M ⟨bp,0,0⟩ g2 l30 g3 (hle 30 _ rfl) h;omega
   ·exfalso
    have:=st.heap.inj id 31 M ⟨b4,0,0⟩ g2 l31 g3 (hle 31 _ rfl) h;omega
   ·exact .inl h
  ·exact .inr ll
 have nok:∀k,Po bp b4 V k->k=bp∨w0.heap.size<=k:=fun k h=>by
  rcases h with h|h|h
  ·exact .inl h
  ·exact .inr (by omega)
  ·exact .inr (hd.lol k h)
 refine⟨x,a'.tmps.getD L.lr undef,⟨fun p Hi=>?_,st.size,st.defers,?_,?_,?_,?_,hd.mj,hd.mS,⟨want,Cu⟩,hls,hd.qe,hd.oW,hd.qf,fun b hb=>?_,hd.nS,hd.Qa,fun b hb=>?_,hi,P2,by omega⟩,rj⟩
 ·by_cases hL:p.2.TC=true
  ·rw[hlr p Hi hL]
   cases TL:p.2 with
   |La=>rfl
   |_=>rw[TL] at hL;cases hL
  have hL:p.2.TC=false:=by cases h:p.2.TC with|true=>exact absurd h hL|false=>rfl
  have r:=st.regs p.1;rw[cK k1 p.1 p.2.xh (bU.2 ⟨p,List.mem_filter.2 ⟨Hi,by rw[hL];rfl⟩,rfl⟩)] at r;have dl:den (ae (sQ R A ba cap ab bp n cc l b1 b4 K V ks i d c)) (.fn 20 (.sy 27))=some (.int .i64 ks.length):=by
   rw[bC d27];unfold aA;rw[gp]
  have hex:pZ p.2.xh=true:=by cases TL:p.2<;>first|rfl|(rw[TL] at hL;cases hL)
  have r0:Rv (ae (sQ R A ba cap ab bp n cc l b1 b4 K V ks i d c)) p.2.xh (p.2.val b1 b4 K (a'.tmps.getD L.lr undef) ks.length (i+1)):=by
   cases TL:p.2 with
   |lit b=>show Rv _ (.b b) (.bool b);rw[Rv]
   |bc=>show Rv _ (.p 21 0) _;rw[Rv];exact⟨⟨b1,0,0⟩,rfl,rfl⟩
   |bo=>show Rv _ (.p 31 0) _;rw[Rv];exact⟨⟨b4,0,0⟩,rfl,rfl⟩
   |La=>rw[TL] at hL;cases hL
   |keys=>exact xm hd.keys hd.mj xj d27
   |len=>show Rv _ (xk 27) (.int .i64 ks.length);unfold xk;rw[Rv];exact⟨dl,_,rfl,by show(-9223372036854775808:Int)<=(ks.length:Int);omega,by show(ks.length:Int)<=9223372036854775807;omega⟩
   |idx=>
    show Rv _ (.x (.i .i64) (.cD 4 (.sy 23) (.li .i64 1))) (.int .i64 (i+1:Nat));have:den (ae (sQ R A ba cap ab bp n cc l b1 b4 K V ks i d c)) (.cD 4 (.sy 23) (.li .i64 1))=some (.int .i64 (i+1:Nat)):=by
     simp only[den] at d23;simp only[den,d23,js];rw[if_pos (by omega)];rfl
    rw[Rv];exact⟨this,_,rfl,by show(-9223372036854775808:Int)<=((i+1:Nat):Int);omega,by show((i+1:Nat):Int)<=9223372036854775807;omega⟩
  exact Rv.exact hle _ _ _ hex r0 r
 ·exact⟨Nat.le_trans hd.bJ.size ci.bJ.size,fun k hk cR=>(ci.bJ.same k (dV hk hd.bJ.size) (by intro h;rcases nok k h with h|h<;>omega)).trans (hd.bJ.same k hk cR),ci.bJ.os.trans hd.bJ.os,ci.bJ.output.trans hd.bJ.output,ci.bJ.tape.trans hd.bJ.tape⟩
 ·refine hd.lq.same (ci.bJ.same _ (vg hd.lq) (by
   intro h;rcases h with h|h|h
   ·omega
   ·omega
   ·exact(hd.nel _ h).1 rfl))
 ·exact iS st.heap hle k4 (hle 31 _ rfl) (by rfl) eZ
 ·refine hd.keys.same fun b hb=>ci.bJ.same b (kin b hb) ?_
  have h1:=hd.qf b hb;have h2:=hd.Qa b hb;intro h;rcases h with h|h|h
  ·omega
  ·exact h2.2 h
  ·exact(hd.nel _ h).2.2 b hb rfl
 ·rcases GN b hb with h|h
  ·exact hd.lol b h
  ·omega
 ·rcases GN b hb with h|h
  ·exact hd.nel b h
  ·refine⟨by have:=vg hd.lq;omega,by have:=vg hd.sG;omega,fun b' pO=>by have:=kin b' pO;omega⟩
end
def Fy(R:List An)(L:Lq)(T0:Tr)(ks:List Ky)(i d c:Nat):Prop:=ev R T0=ev R (Tq L (1025-i) i d c)∧∃x,R[0]? =some x∧x.ks=ks
def uX(ks:List Ky)(i:Nat):Bool:=match ks[i]? with
 |some k=>decide (0<k.2)
 |none=>false
theorem ev_sym{am:Nat}{t f:Tr}{x:An}(h:R[am]? =some x):ev R (.sym am i t f)=bif uX x.ks i then ev R t else ev R f:=by
 show(match R[am]? with|some a=>bif a.nN i then ev R t else ev R f|none=>ct.bad)=_;rw[h];rfl
theorem Fy.at{L:Lq}(h:Fy R L T0 ks i d c)(hi:i<ks.length)(hk:ks.length<=1024):ev R T0=match ev R (later d (bif uX ks i then L.TS else L.TN)) with
  |.go x=>ev R (Tq L (1025-(i+1)) (i+1) (d+x/2) (c+x%2))
  |lf=>lf:=by
 obtain⟨h1,x,hx,rfl⟩:=h;rw[h1,show 1025-i=(1025-(i+1))+1 by omega];show ev R (.more 0 i (.sym 0 i (dM (fun x=>Tq L (1025-(i+1)) (i+1) (d+x/2) (c+x%2)) (later d L.TS)) (dM (fun x=>Tq L (1025-(i+1)) (i+1) (d+x/2) (c+x%2)) (later d L.TN))) (T3q d c))=_;rw[tA hx,eX hi,cond_true,ev_sym hx];cases uX x.ks i
 ·rw[cond_false,cond_false,eJ]
  cases ev R (later d L.TN)<;>rfl
 ·rw[cond_true,cond_true,eJ]
  cases ev R (later d L.TS)<;>rfl
theorem Fy.end_{L:Lq}(h:Fy R L T0 ks i d c)(hi:ks.length<=i)(hk:i<=1024):ev R T0=ev R (T3q d c):=by
 obtain⟨h1,x,hx,rfl⟩:=h;rw[h1,show 1025-i=(1025-(i+1))+1 by omega];show ev R (.more 0 i (.sym 0 i (dM (fun x=>Tq L (1025-(i+1)) (i+1) (d+x/2) (c+x%2)) (later d L.TS)) (dM (fun x=>Tq L (1025-(i+1)) (i+1) (d+x/2) (c+x%2)) (later d L.TN))) (T3q d c))=_;rw[tA hx,gM (by omega),cond_false]
theorem ZE(d27:den E (.sy 27)=some (.int .i64 (aG (aA ks))))(d23:den E (.sy 23)=some (.int .i64 i))(hi:i<ks.length)(m:Int):den E (.cmp .leq (.cD 201 (.sy 27) (.sy 23)) (.li .i64 m))=some (.bool (decide ((ks[i]).2<=m))):=by
 have Ce:ks[i]? =some ks[i]:=cN hi;have d:=iQ (c:=1) d27 d23 Ce rfl (ax _ _);have d2:den E (.cmp .leq (.cD 201 (.sy 27) (.sy 23)) (.li .i64 m))=(bu .leq (.int .i64 (ks[i]).2) (.int .i64 m)).map Value.bool:=by
  show(match den E (.cD (200+1) (.sy 27) (.sy 23)),den E (.li .i64 m) with|some X,some Y=>(bu .leq X Y).map Value.bool|_,_=>none)=_;rw[d];rfl
 rw[d2];rfl
theorem symD(d27:den E (.sy 27)=some (.int .i64 (aG (aA ks))))(d23:den E (.sy 23)=some (.int .i64 i))(hi:i<ks.length):den E B7=some (.bool (!uX ks i)):=by
 have Ce:ks[i]? =some ks[i]:=cN hi;have e:uX ks i=decide (0<(ks[i]).2):=by unfold uX;rw[Ce]
 refine(ZE d27 d23 hi 0).trans ?_;rw[e];by_cases h:(0:Int)<(ks[i]).2
 ·rw[eX h,gM (by omega)];rfl
 ·rw[gM h,eX (by omega)];rfl
theorem Xu(d27:den E (.sy 27)=some (.int .i64 (aG (aA ks))))(d23:den E (.sy 23)=some (.int .i64 i))(hi:i<ks.length)(hk:qT ks):Holds E (TE (uX ks i)):=by
 obtain⟨_,_,o3⟩:=hk _ (List.getElem_mem hi);exact ah (symD d27 d23 hi) (ah ((ZE d27 d23 hi _).trans (by rw[eX o3])) holds_nil)
theorem leQ(d27:den E (.sy 27)=some (.int .i64 (aG (aA ks))))(d23:den E (.sy 23)=some (.int .i64 i)):den E Dr=some (.bool (decide (ks.length<=i))):=by
 have dl:den E (.fn 20 (.sy 27))=some (.int .i64 ks.length):=by rw[bC d27];unfold aA;rw[gp]
 have d2:den E Dr=(bu .leq (.int .i64 ks.length) (.int .i64 i)).map Value.bool:=by
  show(match den _ (.fn 20 (.sy 27)),den _ (.sy 23) with|some X,some Y=>(bu .leq X Y).map Value.bool|_,_=>none)=_;rw[dl,d23]
 rw[d2];show some (Value.bool (decide ((ks.length:Int)<=(i:Int))))=_;rw[show decide ((ks.length:Int)<=(i:Int))=decide (ks.length<=i) from decide_eq_decide.2 Int.ofNat_le]
theorem ltQ(d27:den E (.sy 27)=some (.int .i64 (aG (aA ks))))(d23:den E (.sy 23)=some (.int .i64 i)):den E (.cmp .lss (.sy 23) (.fn 20 (.sy 27)))=some (.bool (decide (i<ks.length))):=by
 have dl:den E (.fn 20 (.sy 27))=some (.int .i64 ks.length):=by rw[bC d27];unfold aA;rw[gp]
 have d2:den E (.cmp .lss (.sy 23) (.fn 20 (.sy 27)))=(bu .lss (.int .i64 i) (.int .i64 ks.length)).map Value.bool:=by
  show(match den _ (.sy 23),den _ (.fn 20 (.sy 27)) with|some X,some Y=>(bu .lss X Y).map Value.bool|_,_=>none)=_;rw[dl,d23]
 rw[d2];show some (Value.bool (decide ((i:Int)<(ks.length:Int))))=_;rw[show decide ((i:Int)<(ks.length:Int))=decide (i<ks.length) from decide_eq_decide.2 Int.ofNat_lt]
theorem BE.nil0(h:BE w V c)(hn:eu V=true):c=0:=by
 rcases h with⟨_,h⟩|⟨b,cp,arr,rfl,_⟩
 ·exact h
 ·cases hn
def Zq(R:List An)(A:Value)(ba cap ab bp n cc:Nat)(l:List V4)(L:Lq)(T0:Tr)(m:Nat)(E:Env)(h:Heap):Prop:=
 ((ae (sC R A ba cap ab bp n cc l)).le E∧T.get .gone h 21=.gone)∨
 ∃b1 b4 K V ks i d c,(ae (sQ R A ba cap ab bp n cc l b1 b4 K V ks i d c)).le E∧T.get .gone h 21=lS m∧T.get .gone h 22=Fv (eu V)∧Fy R L T0 ks i d c∧i<=ks.length∧ks.length<=1024∧d<=41∧c<=i∧(eu V=true->c=0)
section
variable{w0:World}{bp ba cap ab:Nat}{R:List An}{A S:Value}{l:List V4}(s:St w0 bp ba cap ab R A S l)
include s
theorem Xx{L:Lq}{K:Value}(hd:yz w0 bp A S L nt b1 b4 K V ks i d c a w)(hR:Fy R L T0 ks i d c)
  (ci:jh (Po bp b4 V) w 30 (fun E h=>(ae (sQ R A ba cap ab bp n cc l b1 b4 K V ks i d c)).le E∧T.get .gone h 21=lS m∧T.get .gone h 22=Fv (eu V)) E' h' w'):jh (· =bp) w0 30 (Zq R A ba cap ab bp n cc l L T0 m) E' h' w':=by
 have oW:=hd.oW;have nok:∀k,k<w0.heap.size->Po bp b4 V k->k=bp:=fun k hk h=>by
  rcases h with h|h|h
  ·exact h
  ·omega
  ·have:=hd.lol k h;omega
 refine⟨⟨Nat.le_trans hd.bJ.size ci.bJ.size,fun k hk cR=>(ci.bJ.same k (dV hk hd.bJ.size) fun h=>cR (nok k hk h)).trans (hd.bJ.same k hk cR),ci.bJ.os.trans hd.bJ.os,ci.bJ.output.trans hd.bJ.output,ci.bJ.tape.trans hd.bJ.tape⟩,fun k hk hf=>nok k hk (ci.iq k (dV hk hd.bJ.size) hf),ci.bM,fun E2 h2 hle oN=>?_⟩;obtain⟨z1,z2,z3⟩:=ci.z E2 h2 hle oN;exact .inr ⟨b1,b4,K,V,ks,i,d,c,z1,z2,z3,hR,hd.il,hd.mj,hd.dl,hd.cl,hd.ls.nil0⟩
theorem Pq{L:Lq}{K:Value}{q:List (Nat×Nat×Bool)}{kn kr:Vx.S}{kx:Nat->Vx.S}(aQ:@bj (KJ (ae (sB R A ba cap ab bp n cc l)) w0 (cg ba R)) P Dz)(hn:aS cl=[])(hlr:∀p∈L.rg,p.2.TC=true->p.1=L.lr)
  (nQ:RO (ae (sB R A ba cap ab bp n cc l)) w0 6 (ij m)) (iR:ij m=.gone∨(ij m).live=true) (jg:Rv (ae (sB R A ba cap ab bp n cc l)) (gA m) S) (hq:Holds (ae (sB R A ba cap ab bp n cc l)) (fF m++(kF q++f2)))
  (I3:∀nil,Fx Dz L fn cl m q nil kx kr=true):
  ∀(N i d c:Nat)(V:Value)(a:Act)(w:World),ks.length-i=N->yz w0 bp A S L fn.ntmps b1 b4 K V ks i d c a w->Fy R L T0 ks i d c->
   Code.rounds P cl (@dG (KJ (ae (sB R A ba cap ab bp n cc l)) w0 (cg ba R)) (· =bp) w0 30 (Zq R A ba cap ab bp n cc l L T0 m) fn.ntmps kn kx kr) (N+1) a w:=by
 letI J:JC:=KJ (ae (sB R A ba cap ab bp n cc l)) w0 (cg ba R)
 have X:=s.yU n cc;have cE:fz P (Ia Dz):=ep mixed dv Dz aQ;have d27:∀(V:Value)(i d c:Nat),den (ae (sQ R A ba cap ab bp n cc l b1 b4 K V ks i d c)) (.sy 27)=some (.int .i64 (aG (aA ks))):=fun V i d c=>aj (i:=26) rfl (ax _ _)
 have d23:∀(V:Value)(i d c:Nat),den (ae (sQ R A ba cap ab bp n cc l b1 b4 K V ks i d c)) (.sy 23)=some (.int .i64 i):=fun V i d c=>aj (i:=22) rfl (ax _ _)
 have out:∀{V:Value}{i d c:Nat}{a:Act}{w:World}{Kn:Vx.S}{e:Exit}{a':Act}{w':World},yz w0 bp A S L fn.ntmps b1 b4 K V ks i d c a w->Fy R L T0 ks i d c->∀{KX:Nat->Vx.S},(∀x regs h n,KX x regs h n=true->kx x regs h n=true)->e≠.normal->
   dG (Po bp b4 V) w 30 (fun E h=>(ae (sQ R A ba cap ab bp n cc l b1 b4 K V ks i d c)).le E∧T.get .gone h 21=lS m∧T.get .gone h 22=Fv (eu V)) fn.ntmps Kn KX kr e a' w'->dG (· =bp) w0 30 (Zq R A ba cap ab bp n cc l L T0 m) fn.ntmps kn kx kr e a' w':=by
  intro V i d c a w Kn e a' w' hd hR KX O' cR hl;obtain⟨E',av,h',n',dB,ci,hk⟩:=hl;refine⟨E',av,h',n',dB,Xx s hd hR ci,?_⟩;cases e with
  |normal=>exact absurd rfl cR
  |exit x=>exact O' _ _ _ _ hk
  |ret=>exact hk
  |goto l=>exact hk.elim
  |panic l=>exact hk.elim
  |outgrown=>exact hk.elim
 intro N;induction N with
 |zero=>
  intro i d c V a w hN hd hR;have uy:=hd.il;have hi:ks.length<=i:=by omega
  obtain⟨_,hB⟩:=aa (I3 (eu V));obtain⟨h1,he,st,ci⟩:=Ib s hd (el:=.gone) (fs:=fB) (.inr rfl) nQ iR jg hq (ah ((leQ (d27 V i d c) (d23 V i d c)).trans (by rw[eX hi])) holds_nil) hB;rw[rounds_succ];refine wp_mono (kG aQ dv cE cl (fun l hl=>by rw[hn] at hl;cases hl) fj kx _ _ h1 33 a w he st ci) ?_
  intro e a' w' hl;cases e with
  |normal=>obtain⟨_,_,_,_,_,_,hk⟩:=hl;cases hk
  |_=>exact out hd hR (fun _ _ _ _ h=>h) (by intro h;cases h) hl
 |succ N ih=>
  intro i d c V a w hN hd hR;have hi:i<ks.length:=by omega
  obtain⟨hA,_⟩:=aa (I3 (eu V));obtain⟨hAS,hAN⟩:=aa hA;have hb:∃T2,T2=(bif uX ks i then L.TS else L.TN)∧Fw Dz L fn cl m q (eu V) mw (fA++TE (uX ks i)) (fun regs h _=>Dy L (eu V) T2 regs h) (fun _=>fj) kr=true:=by
   cases uX ks i
   ·exact⟨_,rfl,hAN⟩
   ·exact⟨_,rfl,hAS⟩
  obtain⟨T2,hT2,hA⟩:=hb;obtain⟨h1,he,st,ci⟩:=Ib s hd (el:=mw) (fs:=fA++TE (uX ks i)) (.inl ⟨rfl,hi⟩) nQ iR jg hq (aJ (ah ((ltQ (d27 V i d c) (d23 V i d c)).trans (by rw[eX hi])) (ah ((leQ (d27 V i d c) (d23 V i d c)).trans (by rw[gM (by omega)])) holds_nil)) (Xu (d27 V i d c) (d23 V i d c) hi hd.mS)) hA;rw[rounds_succ];refine wp_mono (kG aQ dv cE cl (fun l hl=>by rw[hn] at hl;cases hl) (fun regs h _=>Dy L (eu V) T2 regs h) (fun _=>fj) _ _ h1 33 a w he st ci) ?_
  intro e a' w' hl;cases e with
  |normal=>
   obtain⟨E',av,h',n',dB,qE,hk⟩:=hl;obtain⟨x,V',qw,rj⟩:=Pp s hd hi hlr dB qE (qE.z E' h' (Env.le_refl _) fun _ _=>rfl).1 hk;refine ih (i+1) (d+x/2) (c+x%2) V' a' w' (by omega) qw ⟨?_,hR.2⟩;rw[hR.at hi hd.mj,←hT2,rj]
  |_=>exact out hd hR (KX:=fun _=>fj) (fun _ _ _ _ h=>by cases h) (by intro h;cases h) hl
theorem Ld[JC]{L:Lq}{regs:aI}{h:Heap}{nx:Nat}(I7:T0=dM (fun _=>Tq L 1025 0 1 0) L.T1)(hr:(r,Rq.keys)∈L.rg)
  (st:Vx.St [] E regs h nx nt a w) (ci:jh (· =bp) w0 30 (Zq R A ba cap ab bp n cc l L T0 m) E h w) (jg:Rv (ae (sB R A ba cap ab bp n cc l)) (gA m) S) (Bt:pZ (gA m)=true) (hi:BD L h=true) (hk:TH L m regs h=true):
  ∃b1 b4 K ks,yz w0 bp A S L nt b1 b4 K bO ks 0 1 0 a w∧Fy R L T0 ks 0 1 0:=by
 unfold BD at hi;obtain⟨i0,hi⟩:=aa hi;obtain⟨i1,hi⟩:=aa hi;obtain⟨i2,i3⟩:=aa hi;obtain⟨g1,i1⟩:=aa i1;obtain⟨g4,gk⟩:=aa i1;have g1:=aU g1;have g4:=aU g4;have gk:=aU gk;obtain⟨u1,u2⟩:=aa i2;have u1:=aU u1;have u2:=aU u2;obtain⟨q14,qk1,qk4⟩:L.b1≠L.rt∧L.ue≠L.b1∧L.ue≠L.rt:=by
  rcases aR i3 with⟨_,i3⟩|⟨i3,_⟩
  ·cases i3
  have f:∀{x y:Nat}{b:Bool},bc (Nat.beq x y) true b=false->x≠y∧b=false:=fun {x y b} hh=>by
   cases e:Nat.beq x y with
   |true=>rw[e] at hh;cases hh
   |false=>rw[e] at hh;exact⟨Nat.ne_of_beq_eq_false e,hh⟩
  obtain⟨a1,i3⟩:=f i3;obtain⟨a2,i3⟩:=f i3;exact⟨a1,a2,Nat.ne_of_beq_eq_false i3⟩
 have qW:(ae (sC R A ba cap ab bp n cc l)).le E:=by
  rcases ci.z E h (Env.le_refl _) (fun _ _=>rfl) with⟨z,_⟩|⟨_,_,_,_,_,_,_,_,_,z,_⟩
  ·exact z
  ·rw[z] at i0;cases i0
 have hle:=Env.le_trans (oK s n cc) qW;have jX:E 30=some ⟨bp,0,0⟩:=qW 30 _ rfl;have X:=s.yU n cc;have uz:=aD st.heap;unfold TH at hk;obtain⟨k1,hk⟩:=aa hk;obtain⟨k2,hk⟩:=aa hk;obtain⟨k4,hk⟩:=aa hk;obtain⟨k4,k5⟩:=aa k4;obtain⟨k6,hk⟩:=aa hk;obtain⟨k7,hk⟩:=aa hk;obtain⟨k8,k9⟩:=aa hk;have rC:aP (ae (sC R A ba cap ab bp n cc l)) [.p 30 0,gA m] [.pointer (some ⟨bp,0,none⟩),S]:=ad (by rw[Rv];exact⟨⟨bp,0,0⟩,rfl,rfl⟩) (ad (jg.mono (oK s n cc)) aF);obtain⟨L1,KQ,z1,v1,x1⟩:=eB st.heap qW k2 (by show bc (pZ (.p 30 0)) (F0 [gA m]) false=true;show bc true (bc (pZ (gA m)) true false) false=true;rw[Bt];rfl) rC;obtain⟨L4,KR,z4',v4,x4⟩:=eB st.heap qW k4 (by rfl) (eZ (E:=ae (sC R A ba cap ab bp n cc l)));obtain⟨v,V,hv,rv,want,Cu⟩:=ik st.heap hle k6 jX (s.Fe n cc);have hV:V=.int .i64 (1:Nat):=by
  rw[bV hv,Rv] at rv;exact rv
 subst hV;have wg:(T.get .gone h 30).live=true:=by
  unfold iP at k6;split at k6
  ·rename_i q;rw[q];rfl
  ·cases k6
 have KS:∀{x:Nat}{M:aZ},31<=x->(T.get .gone h x).live=true->E x=some M->w0.heap.size<=M.aH:=fun {x M} hx hl hM=>by
  rcases gC M.aH w0.heap.size with cL|ll
  ·exfalso
   have:=ci.iq M.aH cL ⟨x,M,by rw[ci.bM];omega,hl,hM,rfl⟩;have:=st.heap.inj x 30 M ⟨bp,0,0⟩ hl wg hM jX this;omega
  ·exact ll
 have cR:∀{x y:Nat}{M N:aZ},x≠y->(T.get .gone h x).live=true->(T.get .gone h y).live=true->E x=some M->E y=some N->M.aH≠N.aH:=fun {x y M N} hxy h1 h2 e1 e2 e=>hxy (st.heap.inj x y M N h1 h2 e1 e2 e)
 have hm:0<R.length:=gD ((aX uz (tz X hle 0)).1 (aN k8));have hR:=cN hm;have X1:=X.at_ 0 _ hR;have rK:=st.regs r;rw[cK k1 r _ (bU.2 ⟨_,hr,rfl⟩)] at rK;have rK:Rv E (.sz L.ue (.fn 20 (.sy L.ks))) (a.tmps.getD r undef):=rK;unfold oJ at k5;split at k5<;>try (cases k5;done)
 rename_i g c0 tt hg;have k5:g=3000001+10*L.ks:=aN k5;obtain rfl:g=3000000+10*L.ks+1:=by omega
 have SK:(T.get .gone h L.ue).live=true:=by rw[hg];rfl
 have dU:=st.heap.obj L.ue;rw[hg] at dU;have hS:∀cx,den E (.sy L.ks)=some (.int .i64 cx)->cx=(aG (aA R[0].ks):Nat):=fun cx hc=>by
  have d26:den E (.cD 226 (.sy 1) (zi 0))=some (.int .i64 (aG (aA R[0].ks))):=eI (i:=26) (an hle _ _ X.rows) rfl hR rfl (ax _ _);have d0:den E (.cmp .eql (.sy L.ks) (.cD 226 (.sy 1) (zi 0)))=some (.bool (decide (cx=(aG (aA R[0].ks):Nat)))):=by
   have d2:den E (.cmp .eql (.sy L.ks) (.cD 226 (.sy 1) (zi 0)))=(bu .eql (.int .i64 cx) (.int .i64 (aG (aA R[0].ks)))).map Value.bool:=by
    show(match den E (.sy L.ks),den E (.cD 226 (.sy 1) (zi 0)) with|some X,some Y=>(bu .eql X Y).map Value.bool|_,_=>none)=_;rw[hc,d26]
   rw[d2];by_cases hh:cx=((aG (aA R[0].ks):Nat):Int)<;>simp[bu,jY,hh]
  exact gD ((aX uz d0).1 (aN k7))
 obtain⟨yS,dS⟩:=lB dU (by omega) u2 hS rK;have dl:=bC dS;have kz:(aA R[0].ks).length=R[0].ks.length:=by unfold aA;rw[gp]
 rw[kz] at dl;have l40:=s.len;have lK:∀b,cn (a.tmps.getD r undef) b->∃M,E L.ue=some M∧M.aH=b:=fun b hb=>uU dU (by omega) u2 rK hb
 have nnl:∀b,¬cn bO b:=fun b h=>by obtain⟨_,_,_,h⟩:=h;cases h
 refine⟨L1.aH,L4.aH,a.tmps.getD r undef,R[0].ks,⟨fun p hp=>?_,st.size,st.defers,ci.bJ.one,x1,x4,yS,X1.len,X1.mS,⟨want,Cu⟩,.inl ⟨rfl,rfl⟩,KS g1 v1 KQ,KS g4 v4 KR,fun b hb=>?_,fun b hb=>(nnl b hb).elim,cR q14 v1 v4 KQ KR,fun b hb=>?_,fun b hb=>(nnl b hb).elim,nzQ _,by omega,nrQ _⟩,?_,_,hR,rfl⟩
 ·have rr:=st.regs p.1
  rw[cK k1 p.1 (p.2.pV L) (bU.2 ⟨p,hp,rfl⟩)] at rr;cases Cv:p.2 with
  |lit b=>rw[Cv] at rr;have rr:Rv E (.b b) _:=rr;rw[Rv] at rr;exact rr
  |bc=>rw[Cv] at rr;have rr:Rv E (.p L.b1 0) _:=rr;rw[Rv] at rr;obtain⟨M,eM,rr⟩:=rr;rw[KQ] at eM;cases eM;rw[rr,z1];rfl
  |bo=>rw[Cv] at rr;have rr:Rv E (.p L.rt 0) _:=rr;rw[Rv] at rr;obtain⟨M,eM,rr⟩:=rr;rw[KR] at eM;cases eM;rw[rr,z4'];rfl
  |La=>rw[Cv] at rr;have rr:Rv E .sn _:=rr;rw[Rv] at rr;exact rr
  |keys=>rw[Cv] at rr;have rr:Rv E (.sz L.ue (.fn 20 (.sy L.ks))) _:=rr;exact Rv.exact (Env.le_refl E) _ _ _ (by rfl) rK rr
  |len=>
   rw[Cv] at rr;have rr:Rv E (xk L.ks) _:=rr;unfold xk at rr;rw[Rv,dl] at rr;have:=rr.1;injection this with this;exact this.symm
  |idx=>rw[Cv] at rr;have rr:Rv E (.i .i64 0) _:=rr;rw[Rv] at rr;exact rr
 ·obtain⟨M,eM,rfl⟩:=lK b hb
  exact KS gk SK eM
 ·obtain⟨M,eM,rfl⟩:=lK b hb
  exact⟨cR qk1 SK v1 eM KQ,cR qk4 SK v4 eM KR⟩
 ·have rj:=lC X hle uz k9
  rw[I7,eJ];cases he:ev R L.T1 with
  |go q=>rfl
  |_=>rw[he] at rj;cases rj
end
section
variable{w0:World}{bp ba cap ab:Nat}{R:List An}{A S:Value}{l:List V4}(s:St w0 bp ba cap ab R A S l)
include s
theorem lqLaw{L:Lq}{c:Code}{q:List (Nat×Nat×Bool)}{args:List AV}{ARGS:Array Value}(Nd:∀{E0:Env},Ctx E0 w0 ba cap R->@bj (KJ E0 w0 (cg ba R)) P Dz)(mP:P.funcs[g]? =some fn)(hb:fn.body=some c)(hc:aS c=[cl])(hn:aS cl=[])(hlr:∀p∈L.rg,p.2.TC=true->p.1=L.lr)
  (I7:T0=dM (fun _=>Tq L 1025 0 1 0) L.T1) (hr:(r,Rq.keys)∈L.rg) (hk:lqT Dz L fn args m q=true) (Bt:pZ (gA m)=true) (nQ:RO (ae (sB R A ba cap ab bp n cc l)) w0 6 (ij m)) (iR:ij m=.gone∨(ij m).live=true)
  (jg:Rv (ae (sB R A ba cap ab bp n cc l)) (gA m) S) (hq:Holds (ae (sB R A ba cap ab bp n cc l)) (fF m++(kF q++f2))) (ra:aP (ae (sC R A ba cap ab bp n cc l)) args ARGS.toList):
  Calls P g ARGS w0 fun e w'=>∃V,e=.returned V∧dH (· =bp) w0 w'∧cU R w0.heap.size bp V w' (ev R T0):=by
 letI J:JC:=KJ (ae (sB R A ba cap ab bp n cc l)) w0 (cg ba R)
 have X:=s.yU n cc;have aQ:bj P Dz:=Nd X;have cE:fz P (Ia Dz):=ep mixed dv Dz aQ;have low:=oK s n cc;obtain⟨Ci,AI,qa,cG⟩:=s.begin n cc (nQ.wide low) iR;have hk:bc (Nat.ble (List.length args) fn.ntmps) (bQ (fF m++(kF q++f2)) (hS (ij m)) fun h=>zj P Dz XT (Ia Dz) fn.ntmps (J1q Dz L fn cl m q) c (nB P fn (TG L)) (fun _=>fj) (nB P fn (TG L)) (gw args fc 0) h 31) false=true:=by
  unfold lqT at hk;rw[hb] at hk;dsimp only at hk;rw[hc] at hk;exact hk
 obtain⟨hle,hk⟩:=aa hk;obtain⟨h1,he,fw,fk⟩:=bZ hk Ci fun p hp=>an low _ _ (hq p hp)
 refine SD aQ dv cE (ok:=(· =bp)) (F:=30) (Z:=Zq R A ba cap ab bp n cc l L T0 m) mP hb ra (aU hle) fw (bL.fk AI fk) ⟨dH.refl _ _,fun k hk hf=>qa k (fk.goes.CE (w:=w0) k hk hf),fk.bM.trans cG,fun E' h' yL oN=>.inl ⟨yL,?_⟩⟩ (fun lc hl kn kx E regs h aq a w hJ st ci=>?_) he fun E h n' w' v V cO gQ ci rv hf=>?_
 ·rw[oN 21 (by decide),fk.same 21 (.inr (.inr (.inl (by rw[cG];decide))))]
  exact M3 _
 ·rw[hc] at hl
  obtain rfl:lc=cl:=by simpa using hl
  unfold J1q at hJ;obtain⟨j1,hJ⟩:=aa hJ;obtain⟨j1,j2⟩:=aa j1;obtain⟨hT,hF⟩:=aa hJ;obtain⟨b1,b4,K,ks,hd,hR⟩:=Ld s I7 hr st ci jg Bt j1 j2;refine wp_loop_rounds (ks.length-0+1) ?_;exact Pq s aQ hn hlr nQ iR jg hq (fun nil=>by cases nil;exact hF;exact hT) _ 0 1 0 bO a w rfl hd hR
 ·have uz:=aD cO
  unfold TG at hf;have na:(match T.get .gone h 21 with
   |.gone=>qb (au h) (dZ 30 v h) L.T1
   |_=>pick (cr (au h) Dr) (Xr (BC h) v h) (pick (cr (au h) B7) (jr 25 (au h) (dQ 25 30 v h) L.TN) (jr 25 (au h) (dQ 25 30 v h) L.TS)))=true:=by
   unfold qC at hf;split at hf
   ·exact hf
   ·cases hf
  rcases ci.z E h (Env.le_refl _) (fun _ _=>rfl) with⟨z,hg⟩|⟨b1,b4,K,V1,ks,i,d,c1,z,hg,Cv,hR,uy,kz,hd41,qZ,yO⟩
  ·rw[hg] at na
   have na:qb (au h) (dZ 30 v h) L.T1=true:=na;have dh:=lC X (Env.le_trans low z) uz na;have:=pz X (Env.le_trans low z) cO ci (z 30 _ rfl) rv dh;have e:ev R T0=ev R L.T1:=by
    rw[I7,eJ];cases he:ev R L.T1 with
    |go q=>rw[he] at dh;cases dh
    |_=>rfl
   rw[e];exact this
  ·rw[hg] at na
   have na:pick (cr (au h) Dr) (Xr (BC h) v h) (pick (cr (au h) B7) (jr 25 (au h) (dQ 25 30 v h) L.TN) (jr 25 (au h) (dQ 25 30 v h) L.TS))=true:=na;have Vd:BC h=eu V1:=by
    unfold BC;rw[Cv];cases eu V1<;>rfl
   rw[Vd] at na;have lowR:=Ni s n cc b1 b4 K V1 ks i d c1;have jW:=Env.le_trans lowR z;have d23:den E (.sy 23)=some (.int .i64 i):=an z _ _ (aj (i:=22) rfl (ax _ _));have d25:den E (.sy 25)=some (.int .i64 d):=an z _ _ (aj (i:=24) rfl (ax _ _));have d27:den E (.sy 27)=some (.int .i64 (aG (aA ks))):=an z _ _ (aj (i:=26) rfl (ax _ _));have d28:den E (.sy 28)=some (.int .i64 c1):=an z _ _ (aj (i:=27) rfl (ax _ _));have Ff:=leQ d27 d23;have hp:∀m,m<100->den E (ji 25 m)=some (.int .i64 (d+m:Nat)):=fY d25 (by omega);have fin:∀{T2:Tr},jr 25 (au h) (dQ 25 30 v h) T2=true->(∀x,ev R (later d T2)≠.go x)∧cU R w0.heap.size bp V w' (ev R (later d T2)):=fun {T2} h5=>by
    obtain⟨lf,dh,rj⟩:=jj X jW hp uz h5;have:=eY X jW cO ci (z 30 _ rfl) hp rv dh;rw[rj];refine⟨fun x hx=>?_,this⟩;cases lf with
    |go q=>cases dh
    |_=>cases hx
   rcases iu na with⟨h4,h5⟩|⟨h4,h5⟩
   ·have hi:=gD ((aX uz Ff).1 h4)
    rw[hR.end_ hi (by omega)];unfold Xr at h5;unfold T3q;cases Y1:eu V1 with
    |true=>
     rw[Y1] at h5;have h5:jr 25 (au h) (dQ 25 30 v h) (.ask 4 0 0 .done)=true:=h5;rw[yO Y1];exact(fin h5).2
    |false=>
     rw[Y1] at h5;have h5:pick (cr (au h) (.cmp .leq (.sy 28) (.li .i64 1023))) (jr 25 (au h) (dQ 25 30 v h) (.ask 4 0 0 .done)) (dQ 25 30 v h (.fail 2 8 8750038247350955892))=true:=h5;rcases iu h5 with⟨h6,h7⟩|⟨h6,h7⟩
     ·have hc:=gD ((aX uz (az d28)).1 h6)
      rw[Nat.ble_eq_true_of_le (show c1<=1023 by omega)];exact(fin h7).2
     ·have hc:=of_decide_eq_false ((aX uz (az d28)).2 h6)
      have hb:Nat.ble c1 1023=false:=by
       cases hh:Nat.ble c1 1023 with
       |false=>rfl
       |true=>exact absurd (show(c1:Int)<=1023 by have:=aU hh;omega) hc
      rw[hb];exact eY X jW cO ci (z 30 _ rfl) hp rv h7
   ·have hi:i<ks.length:=by have:=of_decide_eq_false ((aX uz Ff).2 h4);omega
    have sD:den E B7=some (.bool (!uX ks i)):=symD d27 d23 hi;have key:∃T2,T2=(bif uX ks i then L.TS else L.TN)∧jr 25 (au h) (dQ 25 30 v h) T2=true:=by
     rcases iu h5 with⟨h6,h7⟩|⟨h6,h7⟩
     ·have hs:=(aX uz sD).1 h6
      refine⟨L.TN,?_,h7⟩;cases oH:uX ks i with
      |true=>rw[oH] at hs;cases hs
      |false=>rfl
     ·have hs:=(aX uz sD).2 h6
      refine⟨L.TS,?_,h7⟩;cases oH:uX ks i with
      |true=>rfl
      |false=>rw[oH] at hs;cases hs
    obtain⟨T2,hT2,h7⟩:=key;obtain⟨f1,f2⟩:=fin h7;rw[hR.at hi kz,←hT2];cases he:ev R (later d T2) with
    |go x=>exact absurd he (f1 x)
    |_=>rw[he] at f2;exact f2
end
theorem gH{ok:Nat->Nat->Bool}(n:Nat):∀(T:Tr)(j:Nat),cf ok (fun j d=>j=d/2) j T->cf ok (fun j d=>j=n+d/2) (n+j) (later n T)
 |.ite i m le c t f,j,h=>⟨by show n+m<n+j;have:=h.1;omega,gH n t j h.2.1,gH n f j h.2.2⟩
 |.more m i t f,j,h=>⟨by show n+m<n+j;have:=h.1;omega,gH n t j h.2.1,gH n f j h.2.2⟩
 |.sym m i t f,j,h=>⟨by show n+m<n+j;have:=h.1;omega,gH n t j h.2.1,gH n f j h.2.2⟩
 |.ask q md m t,j,h=>⟨by show n+m=n+j;rw[h.1],h.2.1,gH n t (j+1) h.2.2⟩
 |.done,_,_=>trivial
 |.fail er l x,_,h=>h
 |.go d,j,h=>by show n+j=n+d/2;rw[show j=d/2 from h]
theorem TM(h4:ok 4 0=true)(d c:Nat):cf ok (fun _ _=>False) d (T3q d c):=by
 unfold T3q;cases Nat.ble c 1023
 ·show kB 2 8 8750038247350955892=true;rfl
 ·exact⟨rfl,h4,trivial⟩
theorem Nj{ok:Nat->Nat->Bool}{L:Lq}(h4:ok 4 0=true)(hS:cf ok (fun j x=>j=x/2) 0 L.TS)(hN:cf ok (fun j x=>j=x/2) 0 L.TN):∀(n i d c:Nat),0<d->cf ok (fun _ _=>False) d (Tq L n i d c)
 |0,_,_,_,_=>trivial
 |n+1,i,d,c,hd=>by
  have gr:∀T2:Tr,cf ok (fun j x=>j=x/2) 0 T2->cf ok (fun _ _=>False) d (dM (fun x=>Tq L n (i+1) (d+x/2) (c+x%2)) (later d T2)):=fun T2 h=>dP (later d T2) d (by have:=gH d T2 0 h;rw[Nat.add_zero] at this;exact this) fun j x hj=>by
   have hj:j=d+x/2:=hj;subst hj;exact Nj h4 hS hN n (i+1) (d+x/2) (c+x%2) (by omega)
  exact⟨hd,⟨hd,gr _ hS,gr _ hN⟩,TM h4 d c⟩
def eh(Dz:aO)(L:Lq)(fn:Func)(ex:List AV)(k:Nat)(q:List (Nat×Nat×Bool)):Bool:=(List.range 5).all fun m=>bc (Vn k m) (lqT Dz L fn (.ag [.p 30 0,gA m]::ex) m q) true
theorem Ps(Nd:∀{E0:Env}{w0:World}{ba cap:Nat}{R:List An},Ctx E0 w0 ba cap R->@bj (KJ E0 w0 (cg ba R)) P Dz){L:Lq}{c:Code}{ex:List AV}{EX:List Value}{k:Nat}{q:List (Nat×Nat×Bool)}(mP:P.funcs[g]? =some fn)(hb:fn.body=some c)(hc:aS c=[cl])(hn:aS cl=[])
  (hr:(r,Rq.keys)∈L.rg) (hlr:∀p∈L.rg,p.2.TC=true->p.1=L.lr) (hx:∀{E:Env},aP E ex EX) (h:eh Dz L fn ex k q=true) (h4:ok 4 0=true) (g1:cf ok (fun j d=>j=1) 0 L.T1) (hS:cf ok (fun j x=>j=x/2) 0 L.TS) (hN:cf ok (fun j x=>j=x/2) 0 L.TN) (kz:k<=l.length) (P9:k<=3) (hq:Cq l q):
  ∃T,cf ok (fun _ _=>False) 0 T∧∀{w:World}{bp ba cap ab:Nat}{R:List An}{A S:Value},St w bp ba cap ab R A S l->
   Calls P g (.agg #[.pointer (some ⟨bp,0,none⟩),S]::EX).toArray w fun e w'=>∃V,e=.returned V∧qS bp w w'∧cU R w.heap.size bp V w' (ev R T):=by
 refine⟨dM (fun _=>Tq L 1025 0 1 0) L.T1,dP L.T1 0 g1 fun j d hj=>?_,fun {w bp ba cap ab R A S} s=>?_⟩
 ·have hj:j=1:=hj
  subst hj;exact Nj h4 hS hN 1025 0 1 0 (by omega)
 ·obtain⟨m,n,cc,m5,ho,hh,jg,nQ,iR⟩:=s.Ds kz P9 hq
  have hm:=Aad.1 h m (List.mem_range.2 m5);rw[ho] at hm;have hm:lqT Dz L fn (.ag [.p 30 0,gA m]::ex) m q=true:=hm;have ra:aP (ae (sC R A ba cap ab bp n cc l)) (.ag [.p 30 0,gA m]::ex) (.agg #[.pointer (some ⟨bp,0,none⟩),S]::EX).toArray.toList:=
   ad (by rw[Rv];exact⟨[.pointer (some ⟨bp,0,none⟩),S],rfl,ad (by rw[Rv];exact⟨⟨bp,0,0⟩,rfl,rfl⟩) (ad (jg.mono (oK s n cc)) aF)⟩) hx
  refine(lqLaw s (fun X=>Nd X) mP hb hc hn hlr rfl hr hm (Bu m m5) nQ iR jg hh ra).mono ?_;rintro e w' ⟨V,rfl,h1,h2⟩;exact⟨V,rfl,h1.one,h2⟩
end
end Go.Proofs.YtngagklmbbogiaaGreatDoor.Ob
