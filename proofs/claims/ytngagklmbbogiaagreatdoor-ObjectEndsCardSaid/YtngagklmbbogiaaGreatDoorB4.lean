/- Parts of one proof (Ob39 to Ob67). No condition. -/
import Derived.Test.YtngagklmbbogiaaGreatDoorB3
import Derived.WalkLawsBesides
import Derived.Handy
set_option linter.all false
namespace Go.Proofs.YtngagklmbbogiaaGreatDoor.Ob
open Go Go.RowKit Vx
set_option maxRecDepth 100000
noncomputable section
variable{ao el:AO}{a a':Act}{ci cl:Code}{E E':Env}{fn:Func}{h h':Heap}{k:Heap->Bool}{R:List An}{ks:List Ky}{l r rest:List V4}{C:List aZ}{ab b b1 b2 b3 b4 ba bp c cap d i id j m n n' nt nx q t tl x y:Nat}{e:SE}{T0:Tr}{v v0:V4}{A:Value}{w w' w0 w1 w2 wB:World}{fs:aB}{av regs:aI}
def plP(p:Nat):AO:=.cells 89 BZ (fu ([pq,.x (.i .i64) (.sy p)]++di 87) ⟨89,fZ⟩ 0)
def KU:AO:=.cells 4 ⟨0,some 31,true⟩ (fu (vS 13) ⟨4,fZ⟩ 0)
def yw:AO:=.glob 6302504 4 (gw (vS 13) fc 0)
def W6(ao:AO):Heap:=jq ([.gone,.gone,.gone,.gone,.gone,ao]++((List.range 22).map (fun _=>AO.gone)++[.ali 6 4 1 (.sy 8),MZ])) 30
def Zk(m:Nat)(el:AO):Heap:=jq ([.gone,.gone,.gone,.gone,.gone,.gone]++((List.range 14).map (fun _=>AO.gone)++[lS m,O9,.gone,.gone,.gone,el,.gone,.gone,.gone,plP 29,E9])) 30
def hIn(m:Nat)(el:AO):Heap:=jq ([.gone,.gone,.gone,.gone,.gone,.gone]++((List.range 14).map (fun _=>AO.gone)++[lS m,O9,.gone,el,.gone,.gone,.gone,KU,.gone,E8,E9])) 30
def rsO:List (Nat×AV):=[(1,.p 21 0),(2,.p 31 0),(3,.p 22 0),(18,.sz 23 (.sy 24)),(19,.x (.i .i64) (.sy 24)),(20,.x (.i .i64) (.sy 25))]
def KV:List (Nat×AV):=[(1,.p 21 0),(2,.p 31 0),(3,.p 22 0),(18,.sz 23 (.sy 24)),(19,.x (.i .i64) (.sy 24)),(20,.x (.i .i64) (.cD 4 (.sy 25) (.li .i64 1)))]
def Bv:List (Nat×AV):=[(1,.p 21 0),(2,.p 31 0),(3,.p 22 0),(5,.p 32 0),(18,.sz 23 (.sy 24)),(19,.x (.i .i64) (.sy 24)),(20,.x (.i .i64) (.sy 25)),(36,I6 41 40),(37,xk 40),(38,.i .i64 0)]
def KW(i:SE):List (Nat×AV):=[(1,.p 21 0),(2,.p 31 0),(3,.p 22 0),(5,.p 28 0),(18,.sz 17 (.sy 18)),(19,.x (.i .i64) (.sy 18)),(20,.x (.i .i64) (.sy 19)),(36,I6 26 27),(37,xk 27),(38,.x (.i .i64) i)]
def KY:List (Nat×AV):=[(1,.p 21 0),(2,.p 31 0),(3,.p 22 0),(18,.sz 17 (.sy 18)),(19,.x (.i .i64) (.sy 18)),(20,.x (.i .i64) (.cD 4 (.sy 19) (.li .i64 1)))]
def SR(a b:Nat):aB:=[(.cmp .leq (.sy a) (.li .i64 63),true),(.cmp .leq (.sy a) (.li .i64 (-1)),false),(.cmp .leq (.sy b) (.li .i64 63),true),(.cmp .leq (.sy b) (.li .i64 (-1)),false)]
def fOt:aB:=SR 24 25++[(.cmp .leq (.sy 29) (.li .i64 42),true),(.cmp .leq (.sy 29) (.li .i64 (-1)),false)]
def fOA:aB:=[(.cmp .lss (.sy 25) (.sy 24),true),(.cmp .leq (.sy 24) (.sy 25),false)]
def fOB:aB:=[(.cmp .leq (.sy 24) (.sy 25),true)]
def T1a:Tr:=.ask 1 11 0 (.go 1)
def F1:Tr:=.ask 1 5 0 (.ite 6 0 false 1 (.ite 21 0 false 1 (.ask 1 8 1 (.ask 1 9 2 (.ite 5 2 false 1 (.go 3) te))) (.go 1)) (.go 1))
def Bw(h:Heap):Bool:=match T.get .gone h 28 with
 |.gone=>false
 |_=>true
def xn(regs:aI)(h:Heap):Bool:=bc (bc (dA 31 26 36 jL h) (Bw h) false) (bc (fi KY regs) (bc (Nat.beq (cr (au h) Dr) 1) (iP h fun v=>cY v (.x (.i .i64) (.sy 25))) false) false) false
def xp(regs:aI)(h:Heap):Bool:=bc (bc (dA 31 26 36 jL h) (bc (Bw h) false true) false) (bc (fi KV regs) (iP h fun v=>cY v (.x (.i .i64) (.sy 29))) false) false
def H3(regs:aI)(h:Heap):Bool:=
 bc (bc (fi (KW (.cD 4 (.sy 23) (.li .i64 1))) regs) (dA 31 26 36 jL h) false) (bc (Nat.beq (cr (au h) (px 25 0)) 1) (jr 25 (au h) (fun lf=>match lf with
  |.go n=>bc (Nat.ble n 3) (iP h fun v=>cY v (.x (.i .i64) (ji 25 n))) false
  |_=>false) F1) false) false
def M5(regs:aI)(h:Heap):Bool:=
 bc (bc (Bw h) false true) (bc (bc (fi Bv regs) (bc (dA 32 4 31 (vS 13) h) (bc (dA 31 26 36 jL h) (oJ 41 40 h) false) false) false) (bc (iP h fun v=>cY v (.x (.i .i64) (ji 29 1)))
  (bc (Nat.beq (cr (au h) (.cmp .eql (.sy 40) (.cD 226 (.sy 1) (ji 29 0)))) 1) (bc (Nat.beq (cr (au h) (px 29 0)) 1) (jr 29 (au h) (isGo 1) T1a) false) false) false) false) false
def SU(m:Nat)(regs:aI)(h:Heap):Bool:=
 bc (match T.get .gone h 21 with
  |.gone=>true
  |_=>false) (bc (bc (fi [(18,.sz 29 (.cD 5 (.sy 7) (.li .i64 1))),(19,.x (.i .i64) (.cD 5 (.sy 7) (.li .i64 1))),(20,.i .i64 0),(1,.p 31 0),(2,.p 32 0),(3,.p 35 0)] regs) (bc (dA 31 2 102 [.p 30 0,gA m] h) (bc (dA 35 4 31 (vS 9) h) (dA 32 26 36 jL h) false) false) false) (iP h fun v=>cY v (.i .i64 0)) false) false
def SV(v:AV)(h:Heap):Bool:=qC v fun _=>match T.get .gone h 21 with
 |.gone=>false
 |_=>bc (Bw h) (bc (Nat.beq (cr (au h) Dr) 2) (jr 25 (au h) (dQ 25 30 v h) F1) false) (pick (cr (au h) (.cmp .leq (.sy 24) (.sy 25))) (dQ 29 30 v h .done) (bc (Nat.beq (cr (au h) (.cmp .leq (.sy 13) (.li .u8 5))) 2) (jr 29 (au h) (dQ 29 30 v h) T1a) false))
def Fj(fn:Func)(cl:Code)(m:Nat)(el:AO)(fs:aB)(kn:S)(kx:Nat->S)(kr:S):Bool:=
 bQ (fs++(SR 18 19++(Wk++(fF m++(kF (oA 0++oA 1)++f2))))) (hIn m el) fun h=>zj P c2 XT qD fn.ntmps (fun _ _ _=>fj) cl kn kx kr (gd (KW (.sy 23))) h 32
def Ji(fn:Func)(cl:Code)(m:Nat):S->(Nat->S)->S->S:=fun kn kx kr regs h aq=>
 bc (M5 regs h) (bc (Fj fn cl m mw fA (fun regs h _=>H3 regs h) (fun _=>fj) kr) (Fj fn cl m .gone fB fj kx kr) false) false
def xq(fn:Func)(J:S->(Nat->S)->S->S)(cl:Code)(m:Nat)(q:List (Nat×Nat×Bool))(el:AO)(fs:aB)(kn:S)(kx:Nat->S)(kr:S):Bool:=
 bQ (fs++(fOt++(fF m++(kF (oA 0++q)++f2)))) (Zk m el) fun h=>zj P c2 XT qD fn.ntmps J cl kn kx kr (gd rsO) h 32
def noJ:S->(Nat->S)->S->S:=fun _ _ _=>fj
def Jo(fn:Func)(cl ci:Code)(m:Nat):S->(Nat->S)->S->S:=fun kn kx kr regs h aq=>
 bc (SU m regs h) (bc (xq fn (Ji fn ci m) cl m (oA 1) yw fOA (fun regs h _=>xn regs h) (fun _=>fj) kr) (bc (xq fn noJ cl m (pA 1) yw fOA (fun regs h _=>xp regs h) (fun _=>fj) fj) (xq fn noJ cl m [] .gone fOB fj kx kr) false) false) false
def asT(fn:Func)(m:Nat):Bool:=match fn.body with
 |some c=>(match aS c with
  |[cl]=>(match aS cl with
   |[ci]=>(match aS ci with
    |[]=>bc (Nat.ble 1 fn.ntmps) (bQ ((.cmp .leq (.sy 7) (.sy 8),true)::(fF m++(kF (oA 0)++f2))) (W6 (ij m)) fun h=>zj P c2 XT qD fn.ntmps (Jo fn cl ci m) c (nB P fn SV) (fun _=>fj) (nB P fn SV) (gw [.ag [.p 30 0,gA m]] fc 0) h 31) false
    |_=>false)
   |_=>false)
  |_=>false)
 |none=>false
def TK(am:Nat)(T2:Tr)(k:Nat->Tr):Nat->Nat->Nat->Tr
 |0,_,d=>k d
 |n+1,i,d=>.more am i (dM (fun q=>TK am T2 k n (i+1) (d+q)) (later d T2)) (k d)
def TO:List V4->Nat->Tr
 |[],_=>.done
 |v::r,d=>if 5<v.k then .ask 1 11 d (TK d F1 (TO r) 1025 0 (d+1)) else TO r d
theorem M6{ok:Nat->Nat->Bool}{am:Nat}{T2:Tr}{k:Nat->Tr}(h:cf ok (fun j x=>j=x) 0 T2)(hk:∀d,cf ok (fun _ _=>False) d (k d)):∀(n i d:Nat),am<d->cf ok (fun _ _=>False) d (TK am T2 k n i d)
 |0,_,d,_=>hk d
 |n+1,i,d,hd=>⟨hd,dP (later d T2) d (by have:=fI d T2 0 h;rw[Nat.add_zero] at this;exact this) fun j x hj=>by
   have hj:j=d+x:=hj;subst hj;exact M6 h hk n (i+1) (d+x) (by omega),hk d⟩
theorem SX:cf nR (fun j x=>j=x) 0 F1:=⟨rfl,rfl,by decide,⟨by decide,⟨rfl,rfl,rfl,rfl,by decide,rfl,rfl⟩,rfl⟩,rfl⟩
theorem Fl:∀(r:List V4)(d:Nat),cf nR (fun _ _=>False) d (TO r d)
 |[],_=>trivial
 |v::r,d=>by
  unfold TO;split
  ·exact⟨rfl,rfl,M6 SX (Fl r) 1025 0 (d+1) (by omega)⟩
  ·exact Fl r d
def KZ(R:List An)(T0:Tr)(rest:List V4)(ks:List Ky)(j d:Nat):Prop:=∃am x,R[am]? =some x∧x.ks=ks∧ev R T0=ev R (TK am F1 (TO rest) (1025-j) j d)
theorem KZ.at(h:KZ R T0 rest ks j d)(hj:j<ks.length)(hk:ks.length<=1024):∃am x,R[am]? =some x∧x.ks=ks∧ev R T0=match ev R (later d F1) with
  |.go q=>ev R (TK am F1 (TO rest) (1025-(j+1)) (j+1) (d+q))
  |lf=>lf:=by
 obtain⟨am,x,hx,rfl,h1⟩:=h;refine⟨am,x,hx,rfl,?_⟩;rw[h1,show 1025-j=(1025-(j+1))+1 by omega];show ev R (.more am j (dM (fun q=>TK am F1 (TO rest) (1025-(j+1)) (j+1) (d+q)) (later d F1)) (TO rest d))=_;rw[tA hx,eX hj,cond_true,eJ];cases ev R (later d F1)<;>rfl
theorem KZ.end_(h:KZ R T0 rest ks j d)(hj:ks.length<=j)(hk:j<=1024):ev R T0=ev R (TO rest d):=by
 obtain⟨am,x,hx,rfl,h1⟩:=h;rw[h1,show 1025-j=(1025-(j+1))+1 by omega];show ev R (.more am j (dM (fun q=>TK am F1 (TO rest) (1025-(j+1)) (j+1) (d+q)) (later d F1)) (TO rest d))=_;rw[tA hx,gM (by omega),cond_false]
theorem Zm(h:5<v.k):ev R (TO (v::r) d)=match ev R (later d T1a) with
  |.go _=>ev R (TK d F1 (TO r) 1025 0 (d+1))
  |lf=>lf:=by
 have e:TO (v::r) d=.ask 1 11 d (TK d F1 (TO r) 1025 0 (d+1)):=by
  show(if 5<v.k then _ else _)=_;rw[if_pos h]
 rw[e];show(match R[d]? with|some a=>bif decide (a.o.k=1) then ev R (TK d F1 (TO r) 1025 0 (d+1)) else .ans d|none=>ct.wait 1 11)=match (match R[d]? with|some a=>bif decide (a.o.k=1) then ct.go 1 else .ans d|none=>ct.wait 1 11) with|.go _=>_|lf=>lf
 cases R[d]? with
 |none=>rfl
 |some a=>
  dsimp only;cases decide (a.o.k=1)<;>rfl
theorem W7(h:v.k<=5):TO (v::r) d=TO r d:=by
 show(if 5<v.k then _ else _)=_;rw[if_neg (by omega)]
def mJ(ab c:Nat):aZ:=⟨ab,if c=1 then 0 else 4,c-1+1⟩
def W8(ab tl c:Nat):Value:=.slice (some ⟨ab,if c=1 then 0 else 4,none⟩) tl (c-1)
def lU(R:List An)(A:Value)(ba cap ab bp n c:Nat)(v0:V4):List aZ:=
 [aw (.int .i64 (aG (jU R))),aw (.int .i64 R.length),(match A with|.slice none _ _=>⟨ba,0,0⟩|_=>⟨ba,0,cap+1⟩),⟨bp,0,0⟩,⟨bp,0,0⟩,⟨ab,0,0⟩,aw (.int .i64 n),aw (.int .i64 c)]++v0.cells.map aw
def sA(R:List An)(A:Value)(ba cap ab bp n c:Nat)(l:List V4):List aZ:=sB R A ba cap ab bp n c l++
 [⟨bp,0,0⟩,⟨bp,0,0⟩,⟨bp,0,0⟩,⟨bp,0,0⟩,⟨bp,0,0⟩,⟨bp,0,0⟩,⟨bp,0,0⟩,⟨bp,0,0⟩,mJ ab c,⟨bp,0,0⟩]
def sO(R:List An)(A:Value)(ba cap ab bp n c:Nat)(v0 v1:V4)(b1 b2 b4 tl i d:Nat):List aZ:=lU R A ba cap ab bp n c v0++(v1.cells.map aw++
 [⟨bp,0,0⟩,⟨bp,0,0⟩,⟨bp,0,0⟩,⟨bp,0,0⟩,⟨b1,0,0⟩,⟨b2,0,0⟩,mJ ab c,aw (.int .i64 tl),aw (.int .i64 i),⟨ab,(mJ ab c).base+i*4,0⟩,⟨bp,0,0⟩,⟨bp,0,0⟩,aw (.int .i64 d),⟨bp,0,0⟩,⟨b4,0,0⟩])
def sI(R:List An)(A:Value)(ba cap ab bp n c:Nat)(v0 v1:V4)(b1 b2 b3 b4 tl i:Nat)(K:Value)(ks:List Ky)(j d:Nat):List aZ:=lU R A ba cap ab bp n c v0++(v1.cells.map aw++
 [mJ ab c,aw (.int .i64 tl),aw (.int .i64 i),⟨bp,0,0⟩,⟨b1,0,0⟩,⟨b2,0,0⟩,aw (.int .i64 j),⟨(aT bp K).aH,(aT bp K).base+j*2,0⟩,aw (.int .i64 d),aT bp K,aw (.int .i64 (aG (aA ks))),⟨b3,0,0⟩,⟨bp,0,0⟩,⟨bp,0,0⟩,⟨b4,0,0⟩])
theorem Bx{D:List aZ}:(ae C).le (ae (C++D)):=by
 intro x L h;cases x with
 |zero=>cases h
 |succ x=>
  show(C++D)[x]? =some L;have h:C[x]? =some L:=h;rw[iA (bR.1 h).1];exact h
theorem qO{v1:V4}:(ae (lU R A ba cap ab bp n c v0)).le (ae (sO R A ba cap ab bp n c v0 v1 b1 b2 b4 tl i d)):=Bx
theorem qI{v1:V4}{K:Value}:(ae (lU R A ba cap ab bp n c v0)).le (ae (sI R A ba cap ab bp n c v0 v1 b1 b2 b3 b4 tl i K ks j d)):=Bx
theorem qB:(ae (lU R A ba cap ab bp n c (l.getD 0 z4))).le (ae (sB R A ba cap ab bp n c l)):=by
 have e:sB R A ba cap ab bp n c l=lU R A ba cap ab bp n c (l.getD 0 z4)++((l.getD 1 z4).cells++(l.getD 2 z4).cells).map aw:=by unfold sB lU;simp;rfl
 rw[e];exact Bx
theorem bA:(ae (sB R A ba cap ab bp n c l)).le (ae (sA R A ba cap ab bp n c l)):=Bx
structure Pb(w0:World)(ab:Nat)(S:Value)(l:List V4)(c:Nat):Prop where
 s:S=.slice (some ⟨ab,0,none⟩) l.length c
 cells:∃(arr:Array Value)(el:TypeId)(fr:Nat×Nat),w0.heap[ab]? =some (.cells arr el fr)∧4*l.length<=arr.size∧∀j v,l[j]? =some v->∀i,i<4->arr.getD (4*j+i) undef=v.cells.getD i undef
 le:l.length<=c
structure nE(w0:World)(bp ab:Nat)(A S:Value)(v0:V4)(nt b1 b2 b4 c tl i d:Nat)(a:Act)(w:World):Prop where
 r1:a.tmps.getD 1 undef=.pointer (some ⟨b1,0,none⟩)
 r2:a.tmps.getD 2 undef=.pointer (some ⟨b4,0,none⟩)
 r3:a.tmps.getD 3 undef=.pointer (some ⟨b2,0,none⟩)
 Zn:a.tmps.getD 18 undef=W8 ab tl c
 Zo:a.tmps.getD 19 undef=.int .i64 tl
 Vp:a.tmps.getD 20 undef=.int .i64 i
 size:a.tmps.size=nt
 defers:a.defers=[]
 bJ:qS bp w0 w
 lq:cQ w b1 102 [.pointer (some ⟨bp,0,none⟩),S]
 nD:cQ w b2 31 v0.cells
 sG:cQ w b4 36 (zO.cells bO)
 pl:∃want,dE w bp A (.int .i64 d) want
 qe:w0.heap.size<=b1
 re:w0.heap.size<=b2
 oW:w0.heap.size<=b4
 xl:b1≠b2
 nS:b1≠b4
 qV:b2≠b4
 il:i<=tl
 wj:tl<=63
 dl:d<=42
structure By(w0 wB:World)(bp ab:Nat)(A S:Value)(v0 v1:V4)(nt b1 b2 b3 b4 c tl i:Nat)(K:Value)(ks:List Ky)(j d:Nat)(a:Act)(w:World):Prop where
 r1:a.tmps.getD 1 undef=.pointer (some ⟨b1,0,none⟩)
 r2:a.tmps.getD 2 undef=.pointer (some ⟨b4,0,none⟩)
 r3:a.tmps.getD 3 undef=.pointer (some ⟨b2,0,none⟩)
 r5:a.tmps.getD 5 undef=.pointer (some ⟨b3,0,none⟩)
 Zn:a.tmps.getD 18 undef=W8 ab tl c
 Zo:a.tmps.getD 19 undef=.int .i64 tl
 Vp:a.tmps.getD 20 undef=.int .i64 i
 r36:a.tmps.getD 36 undef=K
 r37:a.tmps.getD 37 undef=.int .i64 ks.length
 r38:a.tmps.getD 38 undef=.int .i64 j
 size:a.tmps.size=nt
 defers:a.defers=[]
 bJ:qS bp w0 w
 SY:dH (fun k=>k=bp∨k=b4) wB w
 Zp:w0.heap.size<=wB.heap.size
 lq:cQ w b1 102 [.pointer (some ⟨bp,0,none⟩),S]
 nD:cQ w b2 31 v0.cells
 xr:cQ w b3 31 v1.cells
 sG:cQ w b4 36 (zO.cells bO)
 keys:fE w K ks
 mj:ks.length<=1024
 mS:qT ks
 pl:∃want,dE w bp A (.int .i64 d) want
 qe:w0.heap.size<=b1
 re:w0.heap.size<=b2
 oW:w0.heap.size<=b4
 lB1:b1<wB.heap.size
 lB2:b2<wB.heap.size
 lB4:b4<wB.heap.size
 W9:wB.heap.size<=b3
 qf:∀b,cn K b->wB.heap.size<=b
 xl:b1≠b2
 nS:b1≠b4
 qV:b2≠b4
 Qa:∀b,cn K b->b≠b3
 jl:j<=ks.length
 il:i<tl
 wj:tl<=63
 dl:d<=42
theorem SZ{p:Nat}(h:∃want,dE w bp A (.int .i64 d) want)(hE:E 30=some ⟨bp,0,0⟩)(rA:Rv E pq A)(dd:den E (.sy p)=some (.int .i64 d))(hd:d<=1000):RO E w 30 (plP p):=by
 obtain⟨want,bn,yP,Ck,wY,yQ,Bj,_⟩:=h;have nv:aP E ([Ob.pq,.x (.i .i64) (.sy p)]++di 87) (A::.int .i64 d::(List.range 87).map fun j=>bn.getD (j+2) undef):=
  ad rA (ad (by rw[Rv];exact⟨dd,_,rfl,by show(-9223372036854775808:Int)<=d;omega,by show(d:Int)<=9223372036854775807;omega⟩) (fX 87 _ (by rw[gp,ot]) fun V hV=>by
   obtain⟨j,hj,rfl⟩:=bU.1 hV;exact Bj j (List.mem_range.1 hj)))
 refine⟨⟨bp,0,0⟩,bn,124,hE,yP,by show 0+89<=_;omega,nV.gJ _ _ _ _ _,fun j hj=>?_⟩;have:=ef 89 _ _ nv j hj;rw[show(0:Nat)+j=j by omega];have e:(A::Value.int .i64 d::(List.range 87).map fun j=>bn.getD (j+2) undef).getD j undef=bn.getD j undef:=by
  match j,hj with
  |0,_=>exact wY.symm
  |1,_=>exact yQ.symm
  |j+2,hj=>exact eQ bn 87 j (by omega)
 rw[←e];exact this
theorem Pc(h:∀i,i<4->C[q+i]? =(v.cells.map aw)[i]?):∀i V,v.cells[i]? =some V->den (ae C) (.sy (q+1+i))=some V:=fun i V hi=>by
 have yG:i<4:=(bR.1 hi).1;have e:C[q+i]? =some (aw V):=by rw[h i yG,fL,hi];rfl
 rw[show q+1+i=(q+i)+1 by omega];exact aj e (Bp _ V (gq hi))
theorem lt4{P:Nat->Prop}(h0:P 0)(h1:P 1)(h2:P 2)(h3:P 3):∀i,i<4->P i
 |0,_=>h0
 |1,_=>h1
 |2,_=>h2
 |3,_=>h3
theorem Fm(h:cQ w b 31 v.cells)(hE:E id=some ⟨b,0,0⟩)(ok:v.ok)(hd:∀i V,v.cells[i]? =some V->den E (.sy (q+i))=some V):RO E w id (.cells 4 ⟨0,some 31,true⟩ (fu (vS q) ⟨4,fZ⟩ 0)):=h.ro hE (iM ok hd) rfl
theorem uV(hE:E id=some (mJ ab c))(d:den E e=some (.int .i64 tl))(h:tl<=63):Rv E (.sz id e) (W8 ab tl c):=by
 rw[Rv];refine⟨mJ ab c,tl,hE,d,by omega,fun h=>absurd (show c-1+1=0 from h) (by omega),?_⟩;show _=(if c-1+1=0 then _ else _);rw[if_neg (by omega)];rfl
theorem fK(d:den E e=some (.int .i64 n))(h:n<=100000):Rv E (.x (.i .i64) e) (.int .i64 n):=by
 rw[Rv];exact⟨d,_,rfl,by show(-9223372036854775808:Int)<=n;omega,by show(n:Int)<=9223372036854775807;omega⟩
theorem qh(d:den E e=some (.int .i64 n))(h:n<=100000):den E (.cD 4 e (.li .i64 1))=some (.int .i64 (n+1:Nat)):=by
 simp only[den,d,js];rw[if_pos (by omega)];rfl
section
variable{w0:World}{bp ba cap ab:Nat}{R:List An}{A S:Value}{l:List V4}(s:St w0 bp ba cap ab R A S l)
include s
theorem St.H4(n c:Nat)(v0:V4):Ctx (ae (lU R A ba cap ab bp n c v0)) w0 ba cap R:=by
 refine⟨s.ans,s.len,s.fits,aj (i:=0) rfl (ax _ _),aj (i:=1) rfl (ax _ _),?_,s.mh⟩;rcases s.row with rfl|⟨h,rfl⟩
 ·exact .inl rfl
 ·exact .inr ⟨h,ba,rfl⟩
theorem St.yx(n c:Nat)(v0:V4):Rv (ae (lU R A ba cap ab bp n c v0)) Ob.pq A:=by
 unfold Ob.pq;rw[Rv];have d:den (ae (lU R A ba cap ab bp n c v0)) (.sy 2)=some (.int .i64 R.length):=aj (i:=1) rfl (ax _ _);have hl:=s.len;rcases s.row with rfl|⟨rfl,rfl⟩
 ·exact⟨⟨ba,0,cap+1⟩,R.length,rfl,d,by omega,fun h=>absurd (show cap+1=0 from h) (by omega),by show _=(if cap+1=0 then _ else _);rw[if_neg (by omega)];rfl⟩
 ·exact⟨⟨ba,0,0⟩,0,rfl,d,by omega,fun _=>rfl,rfl⟩
end
theorem Xa(m:Nat)(el:AO):T.get .gone (Zk m el) 21=lS m:=by kernel_rfl
theorem hOt_no(m:Nat)(el:AO):T.get .gone (Zk m el) 28=.gone:=by kernel_rfl
theorem Xb(m:Nat)(el:AO):T.get .gone (hIn m el) 21=lS m:=by kernel_rfl
theorem S7(m:Nat)(el:AO):T.get .gone (hIn m el) 28=KU:=by kernel_rfl
theorem S8{b:AO}(h:([AO.gone,.gone,.gone,.gone,.gone,.gone]++((List.range 14).map (fun _=>AO.gone)++[lS m,O9,.gone,.gone,.gone,el,.gone,.gone,.gone,plP 29,E9]))[j]? =some b)(hl:b.live=true):
  j=20∨j=21∨(j=25∧el.live=true)∨j=29∨j=30:=by
 have hj:j<31:=(bR.1 h).1;by_cases h20:j=20
 ·exact .inl h20
 by_cases h21:j=21
 ·exact .inr (.inl h21)
 by_cases h25:j=25
 ·subst h25;cases h;exact .inr (.inr (.inl ⟨rfl,hl⟩))
 by_cases SC:j=29
 ·exact .inr (.inr (.inr (.inl SC)))
 by_cases h30:j=30
 ·exact .inr (.inr (.inr (.inr h30)))
 exfalso;have hi:j∈[0,1,2,3,4,5,6,7,8,9,10,11,12,13,14,15,16,17,18,19,22,23,24,26,27,28]:=by simp;omega
 simp only[mcQ,mnQ,or_false] at hi;rcases hi with rfl|rfl|rfl|rfl|rfl|rfl|rfl|rfl|rfl|rfl|rfl|rfl|rfl|rfl|rfl|rfl|rfl|rfl|rfl|rfl|rfl|rfl|rfl|rfl|rfl|rfl<;>(cases h;cases hl)
theorem S9{b:AO}(h:([AO.gone,.gone,.gone,.gone,.gone,.gone]++((List.range 14).map (fun _=>AO.gone)++[lS m,O9,.gone,el,.gone,.gone,.gone,KU,.gone,E8,E9]))[j]? =some b)(hl:b.live=true):
  j=20∨j=21∨(j=23∧el.live=true)∨j=27∨j=29∨j=30:=by
 have hj:j<31:=(bR.1 h).1;by_cases h20:j=20
 ·exact .inl h20
 by_cases h21:j=21
 ·exact .inr (.inl h21)
 by_cases WJ:j=23
 ·subst WJ;cases h;exact .inr (.inr (.inl ⟨rfl,hl⟩))
 by_cases h27:j=27
 ·exact .inr (.inr (.inr (.inl h27)))
 by_cases SC:j=29
 ·exact .inr (.inr (.inr (.inr (.inl SC))))
 by_cases h30:j=30
 ·exact .inr (.inr (.inr (.inr (.inr h30))))
 exfalso;have hi:j∈[0,1,2,3,4,5,6,7,8,9,10,11,12,13,14,15,16,17,18,19,22,24,25,26,28]:=by simp;omega
 simp only[mcQ,mnQ,or_false] at hi;rcases hi with rfl|rfl|rfl|rfl|rfl|rfl|rfl|rfl|rfl|rfl|rfl|rfl|rfl|rfl|rfl|rfl|rfl|rfl|rfl|rfl|rfl|rfl|rfl|rfl|rfl<;>(cases h;cases hl)
theorem Ta{a b:List (Nat×Nat×Bool)}(ha:Holds E (kF a))(hb:Holds E (kF b)):Holds E (kF (a++b)):=by
 unfold kF at *;rw[List.map_append];exact aJ ha hb
theorem Holds.wide(h:E.le E')(hf:Holds E fs):Holds E' fs:=fun p hp=>an h _ _ (hf p hp)
theorem xu{s:Nat}(d:den E (.sy s)=some (.int .i64 n))(h:n<=b):Holds E [(.cmp .leq (.sy s) (.li .i64 b),true),(.cmp .leq (.sy s) (.li .i64 (-1)),false)]:=
 ah ((az d).trans (by rw[eX (by omega)])) (ah ((az d).trans (by rw[gM (by omega)])) holds_nil)
theorem Dt{a:Nat}(da:den E (.sy a)=some (.int .i64 x))(db:den E (.sy b)=some (.int .i64 y))(hx:x<=63)(hy:y<=63):Holds E (SR a b):=aJ (xu da hx) (xu db hy)
theorem uW{S:Value}(s:St w0 bp ba cap ab R A S l){k:Nat}(hk:cg ba R k):k<w0.heap.size∧k≠bp∧k≠ab:=by
 rcases hk with rfl|⟨x,hx,hb⟩|rfl
 ·exact⟨s.wJ,s.O8,s.WZ⟩
 rotate_left
 ·exact⟨s.mh.lt,s.SB,s.P8⟩
 ·refine⟨?_,s.kb x hx k hb⟩
  obtain⟨j,hj⟩:=List.getElem?_of_mem hx;obtain⟨off,n',c',hK⟩:=hb;rcases(s.ans j x hj).keys with⟨g1,_⟩|⟨b,tX,bz,arr,el,fr,g1,g2,_⟩
  ·rw[hK] at g1;cases g1
  ·rw[hK] at g1;cases g1
   exact(cW.1 g2).1
theorem cQ.lt{ib:List Value}(h:cQ w b t ib):b<w.heap.size:=by obtain⟨_,h,_⟩:=h;exact(cW.1 h).1
section
variable{w0:World}{bp ba cap ab:Nat}{R:List An}{A S:Value}{l:List V4}(s:St w0 bp ba cap ab R A S l)
include s
theorem Xc{v1:V4}(ra:Pb w0 ab S l c)(hd:nE w0 bp ab A S v0 nt b1 b2 b4 c tl i d a w)(fo:(el=yw∧l[i+1]? =some v1)∨el=.gone)(Cr:v0.ok)(Qb:v1.ok)
  (jg:Rv (ae (lU R A ba cap ab bp l.length c v0)) (gA m) S):HR (ae (sO R A ba cap ab bp l.length c v0 v1 b1 b2 b4 tl i d)) (Zk m el) 32 w:=by
 have low:(ae (lU R A ba cap ab bp l.length c v0)).le (ae (sO R A ba cap ab bp l.length c v0 v1 b1 b2 b4 tl i d)):=qO;have W1:ae (sO R A ba cap ab bp l.length c v0 v1 b1 b2 b4 tl i d) 21=some ⟨b1,0,0⟩:=rfl;have e22:ae (sO R A ba cap ab bp l.length c v0 v1 b1 b2 b4 tl i d) 22=some ⟨b2,0,0⟩:=rfl;have Vq:ae (sO R A ba cap ab bp l.length c v0 v1 b1 b2 b4 tl i d) 23=some (mJ ab c):=rfl;have xj:ae (sO R A ba cap ab bp l.length c v0 v1 b1 b2 b4 tl i d) 26=some ⟨ab,(mJ ab c).base+i*4,0⟩:=rfl;have jX:ae (sO R A ba cap ab bp l.length c v0 v1 b1 b2 b4 tl i d) 30=some ⟨bp,0,0⟩:=rfl;have Vo:ae (sO R A ba cap ab bp l.length c v0 v1 b1 b2 b4 tl i d) 31=some ⟨b4,0,0⟩:=rfl;have d25:den (ae (sO R A ba cap ab bp l.length c v0 v1 b1 b2 b4 tl i d)) (.sy 25)=some (.int .i64 i):=aj (i:=24) rfl (ax _ _);have d29:den (ae (sO R A ba cap ab bp l.length c v0 v1 b1 b2 b4 tl i d)) (.sy 29)=some (.int .i64 d):=aj (i:=28) rfl (ax _ _);have d9:∀i' V,v0.cells[i']? =some V->den (ae (sO R A ba cap ab bp l.length c v0 v1 b1 b2 b4 tl i d)) (.sy (9+i'))=some V:=Pc (q:=8) (lt4 rfl rfl rfl rfl);have d13:∀i' V,v1.cells[i']? =some V->den (ae (sO R A ba cap ab bp l.length c v0 v1 b1 b2 b4 tl i d)) (.sy (13+i'))=some V:=Pc (q:=12) (lt4 rfl rfl rfl rfl);have wh:=s.Bq;have zh:bp<w.heap.size:=dV wh hd.bJ.size;have yR:ab<w.heap.size:=dV s.abs hd.bJ.size;have ux:ba<w.heap.size:=dV s.wJ hd.bJ.size;have rel:RO (ae (sO R A ba cap ab bp l.length c v0 v1 b1 b2 b4 tl i d)) w 26 el:=by
  rcases fo with⟨rfl,hv⟩|rfl
  ·obtain⟨arr,e,fr,hb,cC,hc⟩:=ra.cells
   have hi:i+1<l.length:=(bR.1 hv).1;have hle:=ra.le;have oH:w.heap[ab]? =some (.cells arr e fr):=by rw[hd.bJ.same ab s.abs s.KM];exact hb
   have Zt:(mJ ab c).base=4:=if_neg (by omega);refine⟨⟨ab,(mJ ab c).base+i*4,0⟩,arr,e,fr,xj,fun h=>absurd h (by decide),oH,by show(mJ ab c).base+i*4+4<=_;rw[Zt];omega,fun j hj=>?_,⟨fun h=>absurd h.2.1 (by decide),fun h=>absurd h.2.1 (by decide),fun _=>⟨mJ ab c,i,Vq,d25,rfl,rfl⟩⟩⟩;refine jf (g:=fun j=>arr.getD ((mJ ab c).base+i*4+j) undef) _ _ _ (fun q x hx=>?_) (fun q=>by rw[nw];simp[Rv]) j
   have q4:q<4:=(bR.1 hx).1;obtain⟨V,h1,h2⟩:=xf (iM Qb d13) q x hx;show Rv _ _ (arr.getD ((mJ ab c).base+i*4+(0+q)) undef);have e2:arr.getD ((mJ ab c).base+i*4+(0+q)) undef=V:=by
    rw[Zt,show 4+i*4+(0+q)=4*(i+1)+q by omega,hc (i+1) v1 hv q q4,cB,h1];rfl
   rw[e2];exact h2
  ·trivial
 refine cX (C:=sO R A ba cap ab bp l.length c v0 v1 b1 b2 b4 tl i d) rfl (show 30<=32 from by decide)
  (.append (l:=[AO.gone,.gone,.gone,.gone,.gone,.gone]) ⟨trivial,trivial,trivial,trivial,trivial,trivial,trivial⟩ (.append (.dead _ _ fun a ha=>by obtain⟨_,_,rfl⟩:=bU.1 ha;rfl) ⟨?_,?_,trivial,trivial,trivial,rel,trivial,trivial,trivial,?_,?_,trivial⟩)) (fun L hL=>?_) ?_
 ·exact hd.lq.ro W1 (ad (by rw[Rv];exact⟨⟨bp,0,0⟩,jX,rfl⟩) (ad (jg.mono low) aF)) rfl
 ·exact Fm hd.nD e22 Cr d9
 ·exact SZ hd.pl jX ((s.yx l.length c v0).mono low) d29 (by have:=hd.dl;omega)
 ·exact hd.sG.ro Vo eZ rfl
 ·have s0:∀V,(aw V).aH<w.heap.size:=fun V=>by rw[bH];omega
  unfold sO lU at hL;simp only[List.mem_append,bU] at hL;rcases hL with(hL|⟨_,_,rfl⟩)|⟨_,_,rfl⟩|hL
  ·simp only[mcQ,mnQ,or_false] at hL
   rcases hL with rfl|rfl|rfl|rfl|rfl|rfl|rfl|rfl<;>first|exact s0 _|assumption|(split<;>exact ux)
  ·exact s0 _
  ·exact s0 _
  ·simp only[mcQ,mnQ,or_false] at hL
   rcases hL with rfl|rfl|rfl|rfl|rfl|rfl|rfl|rfl|rfl|rfl|rfl|rfl|rfl|rfl|rfl<;>first|exact s0 _|assumption|exact yR|exact hd.lq.lt|exact hd.nD.lt|exact hd.sG.lt
 ·have n1:ab≠b1:=by have:=hd.qe;have:=s.abs;omega
  have n2:ab≠b2:=by have:=hd.re;have:=s.abs;omega
  have n4:ab≠b4:=by have:=hd.oW;have:=s.abs;omega
  have p1:b1≠bp:=by have:=hd.qe;omega
  have p2:b2≠bp:=by have:=hd.re;omega
  have p4:bp≠b4:=by have:=hd.oW;omega
  have cR:=s.KM;have h12:=hd.xl;have W2:=hd.nS;have h24:=hd.qV;rcases fo with⟨rfl,hi⟩|rfl
  ·show[b1,b2,ab,bp,b4].Nodup
   simp;grind
  ·show[b1,b2,bp,b4].Nodup
   simp;grind
theorem Fo{v1:V4}{q:List (Nat×Nat×Bool)}{Zr:Env->Heap->Prop}(ra:Pb w0 ab S l c)(hd:nE w0 bp ab A S v0 nt b1 b2 b4 c tl i d a w)(fo:(el=yw∧l[i+1]? =some v1)∨el=.gone)(Cr:v0.ok)(Qb:v1.ok)
  (jg:Rv (ae (lU R A ba cap ab bp l.length c v0)) (gA m) S) (hF:Holds (ae (lU R A ba cap ab bp l.length c v0)) (fF m++(kF (oA 0)++f2))) (hq:Holds (ae (sO R A ba cap ab bp l.length c v0 v1 b1 b2 b4 tl i d)) (kF q)) (dX:Holds (ae (sO R A ba cap ab bp l.length c v0 v1 b1 b2 b4 tl i d)) fs)
  (hZ:∀E h,(ae (sO R A ba cap ab bp l.length c v0 v1 b1 b2 b4 tl i d)).le E->T.get .gone h 21=lS m->T.get .gone h 28=.gone->Zr E h) (hk:bQ (fs++(fOt++(fF m++(kF (oA 0++q)++f2)))) (Zk m el) k=true):
  ∃h1,k h1=true∧@Vx.St (KJ (ae (lU R A ba cap ab bp l.length c v0)) w0 (cg ba R)) [] (ae (sO R A ba cap ab bp l.length c v0 v1 b1 b2 b4 tl i d)) (gd rsO) h1 32 nt a w∧jh (fun k=>k=bp∨k=b4) w 30 Zr (ae (sO R A ba cap ab bp l.length c v0 v1 b1 b2 b4 tl i d)) h1 w:=by
 have low:(ae (lU R A ba cap ab bp l.length c v0)).le (ae (sO R A ba cap ab bp l.length c v0 v1 b1 b2 b4 tl i d)):=qO;have hr:=Xc s ra hd fo Cr Qb jg;have Vq:ae (sO R A ba cap ab bp l.length c v0 v1 b1 b2 b4 tl i d) 23=some (mJ ab c):=rfl;have d24:den (ae (sO R A ba cap ab bp l.length c v0 v1 b1 b2 b4 tl i d)) (.sy 24)=some (.int .i64 tl):=aj (i:=23) rfl (ax _ _);have d25:den (ae (sO R A ba cap ab bp l.length c v0 v1 b1 b2 b4 tl i d)) (.sy 25)=some (.int .i64 i):=aj (i:=24) rfl (ax _ _);have d29:den (ae (sO R A ba cap ab bp l.length c v0 v1 b1 b2 b4 tl i d)) (.sy 29)=some (.int .i64 d):=aj (i:=28) rfl (ax _ _);have xy:=hd.wj;have uy:=hd.il;have Qp:=hd.dl;have hF:=Holds.wide low hF;have hf:Holds (ae (sO R A ba cap ab bp l.length c v0 v1 b1 b2 b4 tl i d)) (fs++(fOt++(fF m++(kF (oA 0++q)++f2)))):=by
  refine aJ dX (aJ (aJ (Dt d24 d25 xy (by omega)) (xu d29 Qp)) (aJ (fun p hp=>hF p (List.mem_append_left _ hp)) (aJ (Ta (fun p hp=>hF p (List.mem_append_right _ (List.mem_append_left _ hp))) hq) fun p hp=>hF p (List.mem_append_right _ (List.mem_append_right _ hp)))))
 obtain⟨h1,he,fw,fk⟩:=bZ hk hr hf;have cG:bM (Zk m el)=30:=bX _ _;have wh:=s.Bq;have yR:=s.abs;have qe:=hd.qe;have re:=hd.re;have oW:=hd.oW;have live:∀x M,(T.get .gone (Zk m el) x).live=true->ae (sO R A ba cap ab bp l.length c v0 v1 b1 b2 b4 tl i d) x=some M->(x=30∧M.aH=bp)∨(x=31∧M.aH=b4)∨(x<30∧(M.aH=ab∨w0.heap.size<=M.aH)):=fun x M hl hM=>by
  obtain⟨j,b,rfl,g1,g2⟩:=bT (a:=.gone) hl;have hM:(sO R A ba cap ab bp l.length c v0 v1 b1 b2 b4 tl i d)[j]? =some M:=hM;rcases S8 g1 g2 with rfl|rfl|⟨rfl,g⟩|rfl|rfl
  ·cases hM;exact .inr (.inr ⟨by decide,.inr qe⟩)
  ·cases hM;exact .inr (.inr ⟨by decide,.inr re⟩)
  ·cases hM;exact .inr (.inr ⟨by decide,.inl rfl⟩)
  ·cases hM;exact .inl ⟨rfl,rfl⟩
  ·cases hM;exact .inr (.inl ⟨rfl,rfl⟩)
 refine⟨h1,he,@Vx.St.mk (KJ (ae (lU R A ba cap ab bp l.length c v0)) w0 (cg ba R)) _ _ _ _ _ _ _ _ (fun t=>?_) hd.size hd.defers fw ?_,⟨dH.refl _ _,fun k hk Cn=>?_,fk.bM.trans cG,fun E' h' hle oN=>hZ E' h' hle ?_ ?_⟩⟩
 ·rcases iK rsO t with g|⟨v,hv,g⟩
  ·rw[g];simp[Rv]
  ·rw[g]
   unfold rsO at hv;simp only[mcQ,mnQ,or_false,Prod.mk.injEq] at hv;rcases hv with⟨rfl,rfl⟩|⟨rfl,rfl⟩|⟨rfl,rfl⟩|⟨rfl,rfl⟩|⟨rfl,rfl⟩|⟨rfl,rfl⟩
   ·rw[hd.r1,Rv];exact⟨⟨b1,0,0⟩,rfl,rfl⟩
   ·rw[hd.r2,Rv];exact⟨⟨b4,0,0⟩,rfl,rfl⟩
   ·rw[hd.r3,Rv];exact⟨⟨b2,0,0⟩,rfl,rfl⟩
   ·rw[hd.Zn];exact uV Vq d24 xy
   ·rw[hd.Zo];exact fK d24 (by omega)
   ·rw[hd.Vp];exact fK d25 (by omega)
 ·refine bL.fk (h:=Zk m el) ⟨low,hd.bJ.size,fun k hk=>?_⟩ fk
  have qR:=uW s hk;refine⟨hd.bJ.same k qR.1 qR.2.1,qR.1,fun x M hl hM e=>?_⟩;rcases live x M hl hM with⟨_,g⟩|⟨_,g⟩|⟨_,g|g⟩<;>omega
 ·obtain⟨x,M,a1,a2,a3,rfl⟩:=Cn
  rw[fk.bM,cG] at a1;rw[fk.live] at a2;rcases live x M a2 a3 with⟨_,g⟩|⟨_,g⟩|⟨g,_⟩
  ·exact .inl g
  ·exact .inr g
  ·omega
 ·rw[oN 21 (by decide),fk.same 21 (.inr (.inr (.inl (by rw[cG];decide))))]
  exact Xa m el
 ·rw[oN 28 (by decide),fk.same 28 (.inr (.inr (.inl (by rw[cG];decide))))]
  exact hOt_no m el
end
section
variable{w0:World}{bp ba cap ab:Nat}{R:List An}{A S:Value}{l:List V4}(s:St w0 bp ba cap ab R A S l)
include s
theorem Xd{v1:V4}{K:Value}(hd:By w0 wB bp ab A S v0 v1 nt b1 b2 b3 b4 c tl i K ks j d a w)(fo:(el=mw∧j<ks.length)∨el=.gone)(Cr:v0.ok)(Qb:v1.ok)
  (jg:Rv (ae (lU R A ba cap ab bp n c v0)) (gA m) S):HR (ae (sI R A ba cap ab bp n c v0 v1 b1 b2 b3 b4 tl i K ks j d)) (hIn m el) 32 w:=by
 have low:(ae (lU R A ba cap ab bp n c v0)).le (ae (sI R A ba cap ab bp n c v0 v1 b1 b2 b3 b4 tl i K ks j d)):=qI;have W1:ae (sI R A ba cap ab bp n c v0 v1 b1 b2 b3 b4 tl i K ks j d) 21=some ⟨b1,0,0⟩:=rfl;have e22:ae (sI R A ba cap ab bp n c v0 v1 b1 b2 b3 b4 tl i K ks j d) 22=some ⟨b2,0,0⟩:=rfl;have e24:ae (sI R A ba cap ab bp n c v0 v1 b1 b2 b3 b4 tl i K ks j d) 24=some ⟨(aT bp K).aH,(aT bp K).base+j*2,0⟩:=rfl;have xj:ae (sI R A ba cap ab bp n c v0 v1 b1 b2 b3 b4 tl i K ks j d) 26=some (aT bp K):=rfl;have e28:ae (sI R A ba cap ab bp n c v0 v1 b1 b2 b3 b4 tl i K ks j d) 28=some ⟨b3,0,0⟩:=rfl;have jX:ae (sI R A ba cap ab bp n c v0 v1 b1 b2 b3 b4 tl i K ks j d) 30=some ⟨bp,0,0⟩:=rfl;have Vo:ae (sI R A ba cap ab bp n c v0 v1 b1 b2 b3 b4 tl i K ks j d) 31=some ⟨b4,0,0⟩:=rfl;have d23:den (ae (sI R A ba cap ab bp n c v0 v1 b1 b2 b3 b4 tl i K ks j d)) (.sy 23)=some (.int .i64 j):=aj (i:=22) rfl (ax _ _);have d25:den (ae (sI R A ba cap ab bp n c v0 v1 b1 b2 b3 b4 tl i K ks j d)) (.sy 25)=some (.int .i64 d):=aj (i:=24) rfl (ax _ _);have d27:den (ae (sI R A ba cap ab bp n c v0 v1 b1 b2 b3 b4 tl i K ks j d)) (.sy 27)=some (.int .i64 (aG (aA ks))):=aj (i:=26) rfl (ax _ _);have d9:∀i' V,v0.cells[i']? =some V->den (ae (sI R A ba cap ab bp n c v0 v1 b1 b2 b3 b4 tl i K ks j d)) (.sy (9+i'))=some V:=Pc (q:=8) (lt4 rfl rfl rfl rfl);have d13:∀i' V,v1.cells[i']? =some V->den (ae (sI R A ba cap ab bp n c v0 v1 b1 b2 b3 b4 tl i K ks j d)) (.sy (13+i'))=some V:=Pc (q:=12) (lt4 rfl rfl rfl rfl);have wh:=s.Bq;have zh:bp<w.heap.size:=dV wh hd.bJ.size;have yR:ab<w.heap.size:=dV s.abs hd.bJ.size;have ux:ba<w.heap.size:=dV s.wJ hd.bJ.size;have hk:=hd.keys;have kin:(aT bp K).aH<w.heap.size:=by
  rcases hk with⟨rfl,_⟩|⟨b,off,cp,arr,e,fr,rfl,h2,_⟩
  ·exact zh
  ·exact(cW.1 h2).1
 have rel:RO (ae (sI R A ba cap ab bp n c v0 v1 b1 b2 b3 b4 tl i K ks j d)) w 24 el:=by
  rcases fo with⟨rfl,hi⟩|rfl
  ·rcases hk with⟨_,rfl⟩|⟨b,off,cp,arr,e,fr,rfl,h2,h3,h4⟩
   ·cases hi
   ·have Ce:ks[j]? =some ks[j]:=cN hi
    obtain⟨c1,c2⟩:=h4 j _ Ce;obtain⟨o1,o2,o3⟩:=hd.mS _ (List.getElem_mem hi);refine⟨⟨b,off+j*2,0⟩,arr,e,fr,e24,fun h=>absurd h (by decide),h2,by show off+j*2+2<=_;omega,fun x hx=>?_,⟨fun h=>absurd h.2.1 (by decide),fun h=>absurd h.2.1 (by decide),fun _=>⟨⟨b,off,cp+1⟩,j,xj,d23,rfl,rfl⟩⟩⟩;refine jf (g:=fun x=>arr.getD (off+j*2+x) undef) _ _ _ (fun q x hx=>?_) (fun q=>by rw[nw];simp[Rv]) x
    have q2:q<2:=(bR.1 hx).1;match q,q2,hx with
    |0,_,hx=>
     cases hx
     have:=iQ (c:=0) d27 d23 Ce rfl (eV _);show Rv _ _ (arr.getD (off+j*2+(0+0)) undef);rw[show off+j*2+(0+0)=off+2*j by omega,c1,Rv];exact⟨this,_,rfl,o1⟩
    |1,_,hx=>
     cases hx
     have:=iQ (c:=1) d27 d23 Ce rfl (ax _ _);show Rv _ _ (arr.getD (off+j*2+(0+1)) undef);rw[show off+j*2+(0+1)=off+(2*j+1) by omega,c2,Rv];exact⟨this,_,rfl,o2,o3⟩
  ·trivial
 have l0:=hd.Zp;have lB1:=hd.lB1;have lB2:=hd.lB2;have lB4:=hd.lB4;have W9:=hd.W9
 refine cX (C:=sI R A ba cap ab bp n c v0 v1 b1 b2 b3 b4 tl i K ks j d) rfl (show 30<=32 from by decide)
  (.append (l:=[AO.gone,.gone,.gone,.gone,.gone,.gone]) ⟨trivial,trivial,trivial,trivial,trivial,trivial,trivial⟩ (.append (.dead _ _ fun a ha=>by obtain⟨_,_,rfl⟩:=bU.1 ha;rfl) ⟨?_,?_,trivial,rel,trivial,trivial,trivial,?_,trivial,?_,?_,trivial⟩)) (fun L hL=>?_) ?_
 ·exact hd.lq.ro W1 (ad (by rw[Rv];exact⟨⟨bp,0,0⟩,jX,rfl⟩) (ad (jg.mono low) aF)) rfl
 ·exact Fm hd.nD e22 Cr d9
 ·exact Fm hd.xr e28 Qb d13
 ·exact SZ hd.pl jX ((s.yx n c v0).mono low) d25 (by have:=hd.dl;omega)
 ·exact hd.sG.ro Vo eZ rfl
 ·have s0:∀V,(aw V).aH<w.heap.size:=fun V=>by rw[bH];omega
  unfold sI lU at hL;simp only[List.mem_append,bU] at hL;rcases hL with(hL|⟨_,_,rfl⟩)|⟨_,_,rfl⟩|hL
  ·simp only[mcQ,mnQ,or_false] at hL
   rcases hL with rfl|rfl|rfl|rfl|rfl|rfl|rfl|rfl<;>first|exact s0 _|assumption|(split<;>exact ux)
  ·exact s0 _
  ·exact s0 _
  ·simp only[mcQ,mnQ,or_false] at hL
   rcases hL with rfl|rfl|rfl|rfl|rfl|rfl|rfl|rfl|rfl|rfl|rfl|rfl|rfl|rfl|rfl<;>first|exact s0 _|assumption|exact yR|exact hd.lq.lt|exact hd.nD.lt|exact hd.xr.lt|exact hd.sG.lt
 ·have p1:b1≠bp:=by have:=hd.qe;omega
  have p2:b2≠bp:=by have:=hd.re;omega
  have p4:bp≠b4:=by have:=hd.oW;omega
  have p3:b3≠bp:=by omega
  have h12:=hd.xl;have W2:=hd.nS;have h24:=hd.qV;have h13:b1≠b3:=by omega
  have WJ:b2≠b3:=by omega
  have h34:b3≠b4:=by omega
  have kb:j<ks.length->(aT bp K).aH≠bp∧(aT bp K).aH≠b1∧(aT bp K).aH≠b2∧(aT bp K).aH≠b3∧(aT bp K).aH≠b4:=fun hi=>by
   rcases hk with⟨_,rfl⟩|⟨b,off,cp,arr,e,fr,rfl,h2,h3,h4⟩
   ·cases hi
   ·have hb:cn (.slice (some ⟨b,off,none⟩) ks.length cp) b:=⟨off,ks.length,cp,rfl⟩
    have h1:=hd.qf b hb;have h2:=hd.Qa b hb;exact⟨by show b≠_;omega,by show b≠_;omega,by show b≠_;omega,h2,by show b≠_;omega⟩
  rcases fo with⟨rfl,hi⟩|rfl
  ·show[b1,b2,(aT bp K).aH,b3,bp,b4].Nodup
   have:=kb hi;simp;grind
  ·show[b1,b2,b3,bp,b4].Nodup
   simp;grind
theorem M7{v1:V4}{K:Value}(hd:By w0 wB bp ab A S v0 v1 nt b1 b2 b3 b4 c tl i K ks j d a w)(fo:(el=mw∧j<ks.length)∨el=.gone)(Cr:v0.ok)(Qb:v1.ok)
  (jg:Rv (ae (lU R A ba cap ab bp n c v0)) (gA m) S) (hF:Holds (ae (lU R A ba cap ab bp n c v0)) (fF m++(kF (oA 0)++f2))) (h1k:5<v1.k) (h8k:v1.k<=8) (dX:Holds (ae (sI R A ba cap ab bp n c v0 v1 b1 b2 b3 b4 tl i K ks j d)) fs)
  (hk:bQ (fs++(SR 18 19++(Wk++(fF m++(kF (oA 0++oA 1)++f2))))) (hIn m el) k=true):
  ∃h1,k h1=true∧@Vx.St (KJ (ae (lU R A ba cap ab bp n c v0)) w0 (cg ba R)) [] (ae (sI R A ba cap ab bp n c v0 v1 b1 b2 b3 b4 tl i K ks j d)) (gd (KW (.sy 23))) h1 32 nt a w∧
   jh (fun k=>k=bp∨k=b4) w 30 (fun E h=>(ae (sI R A ba cap ab bp n c v0 v1 b1 b2 b3 b4 tl i K ks j d)).le E∧T.get .gone h 21=lS m∧T.get .gone h 28=KU) (ae (sI R A ba cap ab bp n c v0 v1 b1 b2 b3 b4 tl i K ks j d)) h1 w:=by
 have low:(ae (lU R A ba cap ab bp n c v0)).le (ae (sI R A ba cap ab bp n c v0 v1 b1 b2 b3 b4 tl i K ks j d)):=qI;have hr:=Xd s hd fo Cr Qb jg;have e17:ae (sI R A ba cap ab bp n c v0 v1 b1 b2 b3 b4 tl i K ks j d) 17=some (mJ ab c):=rfl;have xj:ae (sI R A ba cap ab bp n c v0 v1 b1 b2 b3 b4 tl i K ks j d) 26=some (aT bp K):=rfl;have d13:den (ae (sI R A ba cap ab bp n c v0 v1 b1 b2 b3 b4 tl i K ks j d)) (.sy 13)=some (.int .u8 v1.k):=aj (i:=12) rfl (ax _ _);have d18:den (ae (sI R A ba cap ab bp n c v0 v1 b1 b2 b3 b4 tl i K ks j d)) (.sy 18)=some (.int .i64 tl):=aj (i:=17) rfl (ax _ _);have d19:den (ae (sI R A ba cap ab bp n c v0 v1 b1 b2 b3 b4 tl i K ks j d)) (.sy 19)=some (.int .i64 i):=aj (i:=18) rfl (ax _ _);have d23:den (ae (sI R A ba cap ab bp n c v0 v1 b1 b2 b3 b4 tl i K ks j d)) (.sy 23)=some (.int .i64 j):=aj (i:=22) rfl (ax _ _);have d25:den (ae (sI R A ba cap ab bp n c v0 v1 b1 b2 b3 b4 tl i K ks j d)) (.sy 25)=some (.int .i64 d):=aj (i:=24) rfl (ax _ _);have d27:den (ae (sI R A ba cap ab bp n c v0 v1 b1 b2 b3 b4 tl i K ks j d)) (.sy 27)=some (.int .i64 (aG (aA ks))):=aj (i:=26) rfl (ax _ _);have dl:den (ae (sI R A ba cap ab bp n c v0 v1 b1 b2 b3 b4 tl i K ks j d)) (.fn 20 (.sy 27))=some (.int .i64 ks.length):=by
  rw[bC d27];unfold aA;rw[gp]
 have xy:=hd.wj;have uy:=hd.il;have Qp:=hd.dl;have kz:=hd.mj;have y8:=hd.jl;have hF:=Holds.wide low hF;have hf:Holds (ae (sI R A ba cap ab bp n c v0 v1 b1 b2 b3 b4 tl i K ks j d)) (fs++(SR 18 19++(Wk++(fF m++(kF (oA 0++oA 1)++f2))))):=by
  refine aJ dX (aJ (Dt d18 d19 xy (by omega)) (aJ ?_ (aJ (fun p hp=>hF p (List.mem_append_left _ hp)) (aJ (Ta (fun p hp=>hF p (List.mem_append_right _ (List.mem_append_left _ hp))) ?_) fun p hp=>hF p (List.mem_append_right _ (List.mem_append_right _ hp))))))
  ·exact ah ((az d25).trans (by rw[eX (by omega)])) (ah ((az d25).trans (by rw[gM (by omega)])) (ah ((az d23).trans (by rw[eX (by omega)])) (ah ((az d23).trans (by rw[gM (by omega)]))
    (ah ((az dl).trans (by rw[eX (by omega)])) holds_nil))))
  ·exact ah ((az d13).trans (by rw[gM (by show ¬_<=(5:Int);omega)])) (ah ((az d13).trans (by rw[eX (by show _<=(8:Int);omega)])) holds_nil)
 obtain⟨h1,he,fw,fk⟩:=bZ hk hr hf;have cG:bM (hIn m el)=30:=bX _ _;have wh:=s.Bq;have yR:=s.abs;have qe:=hd.qe;have re:=hd.re;have oW:=hd.oW;have W9:=hd.W9;have Zp:=hd.Zp;have live:∀x M,(T.get .gone (hIn m el) x).live=true->ae (sI R A ba cap ab bp n c v0 v1 b1 b2 b3 b4 tl i K ks j d) x=some M->(x=30∧M.aH=bp)∨(x=31∧M.aH=b4)∨(x<30∧(M.aH=ab∨w0.heap.size<=M.aH)):=fun x M hl hM=>by
  obtain⟨y,b,rfl,g1,g2⟩:=bT (a:=.gone) hl;have hM:(sI R A ba cap ab bp n c v0 v1 b1 b2 b3 b4 tl i K ks j d)[y]? =some M:=hM;rcases S9 g1 g2 with rfl|rfl|⟨rfl,g⟩|rfl|rfl|rfl
  ·cases hM;exact .inr (.inr ⟨by decide,.inr qe⟩)
  ·cases hM;exact .inr (.inr ⟨by decide,.inr re⟩)
  ·cases hM
   refine .inr (.inr ⟨by decide,.inr ?_⟩);rcases fo with⟨_,hi⟩|rfl
   ·rcases hd.keys with⟨_,rfl⟩|⟨b',off,cp,arr,e,fr,rfl,h2,_⟩
    ·cases hi
    ·have:=hd.qf b' ⟨off,ks.length,cp,rfl⟩
     show _<=b';omega
   ·cases g
  ·cases hM;exact .inr (.inr ⟨by decide,.inr (by show _<=b3;omega)⟩)
  ·cases hM;exact .inl ⟨rfl,rfl⟩
  ·cases hM;exact .inr (.inl ⟨rfl,rfl⟩)
 refine⟨h1,he,@Vx.St.mk (KJ (ae (lU R A ba cap ab bp n c v0)) w0 (cg ba R)) _ _ _ _ _ _ _ _ (fun t=>?_) hd.size hd.defers fw ?_,⟨dH.refl _ _,fun k hk Cn=>?_,fk.bM.trans cG,fun E' h' hle oN=>⟨hle,?_,?_⟩⟩⟩
 ·rcases iK (KW (.sy 23)) t with g|⟨v,hv,g⟩
  ·rw[g];simp[Rv]
  ·rw[g]
   unfold KW at hv;simp only[mcQ,mnQ,or_false,Prod.mk.injEq] at hv;rcases hv with⟨rfl,rfl⟩|⟨rfl,rfl⟩|⟨rfl,rfl⟩|⟨rfl,rfl⟩|⟨rfl,rfl⟩|⟨rfl,rfl⟩|⟨rfl,rfl⟩|⟨rfl,rfl⟩|⟨rfl,rfl⟩|⟨rfl,rfl⟩
   ·rw[hd.r1,Rv];exact⟨⟨b1,0,0⟩,rfl,rfl⟩
   ·rw[hd.r2,Rv];exact⟨⟨b4,0,0⟩,rfl,rfl⟩
   ·rw[hd.r3,Rv];exact⟨⟨b2,0,0⟩,rfl,rfl⟩
   ·rw[hd.r5,Rv];exact⟨⟨b3,0,0⟩,rfl,rfl⟩
   ·rw[hd.Zn];exact uV e17 d18 xy
   ·rw[hd.Zo];exact fK d18 (by omega)
   ·rw[hd.Vp];exact fK d19 (by omega)
   ·rw[hd.r36];exact xm hd.keys hd.mj xj d27
   ·rw[hd.r37];exact fK dl (by omega)
   ·rw[hd.r38];exact fK d23 (by omega)
 ·refine bL.fk (h:=hIn m el) ⟨low,hd.bJ.size,fun k hk=>?_⟩ fk
  have qR:=uW s hk;refine⟨hd.bJ.same k qR.1 qR.2.1,qR.1,fun x M hl hM e=>?_⟩;rcases live x M hl hM with⟨_,g⟩|⟨_,g⟩|⟨_,g|g⟩<;>omega
 ·obtain⟨x,M,a1,a2,a3,rfl⟩:=Cn
  rw[fk.bM,cG] at a1;rw[fk.live] at a2;rcases live x M a2 a3 with⟨_,g⟩|⟨_,g⟩|⟨g,_⟩
  ·exact .inl g
  ·exact .inr g
  ·omega
 ·rw[oN 21 (by decide),fk.same 21 (.inr (.inr (.inl (by rw[cG];decide))))]
  exact Xb m el
 ·rw[oN 28 (by decide),fk.same 28 (.inr (.inr (.inl (by rw[cG];decide))))]
  exact S7 m el
theorem bq[JC]{rs:List (Nat×AV)}(st:Vx.St [] E' av h' n' nt a' w')(hle:E.le E')(hk:fi rs av=true){v:AV}{V:Value}(hm:(t,v)∈rs)(hex:pZ v=true)(r:Rv E v V):a'.tmps.getD t undef=V:=by
 have r2:=st.regs t;rw[cK hk t v hm] at r2;exact Rv.exact hle _ _ _ hex r r2
theorem Pd[JC]{v1:V4}{K:Value}(hd:By w0 wB bp ab A S v0 v1 nt b1 b2 b3 b4 c tl i K ks j d a w)(hj:j<ks.length){Z:Env->Heap->Prop}
  (st:Vx.St [] E' av h' n' nt a' w') (ci:jh (fun k=>k=bp∨k=b4) w 30 Z E' h' w') (hle:(ae (sI R A ba cap ab bp n c v0 v1 b1 b2 b3 b4 tl i K ks j d)).le E') (hk:H3 av h'=true):
  ∃q,By w0 wB bp ab A S v0 v1 nt b1 b2 b3 b4 c tl i K ks (j+1) (d+q) a' w'∧ev R (later d F1)=.go q:=by
 have low:(ae (lU R A ba cap ab bp n c v0)).le (ae (sI R A ba cap ab bp n c v0 v1 b1 b2 b3 b4 tl i K ks j d)):=qI;have X:=s.H4 n c v0;have e17:ae (sI R A ba cap ab bp n c v0 v1 b1 b2 b3 b4 tl i K ks j d) 17=some (mJ ab c):=rfl;have xj:ae (sI R A ba cap ab bp n c v0 v1 b1 b2 b3 b4 tl i K ks j d) 26=some (aT bp K):=rfl;have d18:den (ae (sI R A ba cap ab bp n c v0 v1 b1 b2 b3 b4 tl i K ks j d)) (.sy 18)=some (.int .i64 tl):=aj (i:=17) rfl (ax _ _);have d19:den (ae (sI R A ba cap ab bp n c v0 v1 b1 b2 b3 b4 tl i K ks j d)) (.sy 19)=some (.int .i64 i):=aj (i:=18) rfl (ax _ _);have d23:den (ae (sI R A ba cap ab bp n c v0 v1 b1 b2 b3 b4 tl i K ks j d)) (.sy 23)=some (.int .i64 j):=aj (i:=22) rfl (ax _ _);have d25:den (ae (sI R A ba cap ab bp n c v0 v1 b1 b2 b3 b4 tl i K ks j d)) (.sy 25)=some (.int .i64 d):=aj (i:=24) rfl (ax _ _);have d27:den (ae (sI R A ba cap ab bp n c v0 v1 b1 b2 b3 b4 tl i K ks j d)) (.sy 27)=some (.int .i64 (aG (aA ks))):=aj (i:=26) rfl (ax _ _);have dl:den (ae (sI R A ba cap ab bp n c v0 v1 b1 b2 b3 b4 tl i K ks j d)) (.fn 20 (.sy 27))=some (.int .i64 ks.length):=by
  rw[bC d27];unfold aA;rw[gp]
 have xy:=hd.wj;have uy:=hd.il;have Qp:=hd.dl;have kz:=hd.mj;have hR:=s.len;have hp:∀m,m<100->den E' (ji 25 m)=some (.int .i64 (d+m:Nat)):=fY (an hle _ _ d25) (by omega);unfold H3 at hk;obtain⟨k1,k2⟩:=aa hk;obtain⟨k1,k4⟩:=aa k1;obtain⟨k2,k3⟩:=aa k2;have hf:=aD st.heap;have cL:d+0<R.length:=gD ((aX hf (kH X (Env.le_trans low hle) (hp 0 (by decide)))).1 (aN k2));obtain⟨lf,dh,rj⟩:=jj X (Env.le_trans low hle) hp hf k3;split at dh
 case h_2=>cases dh
 rename_i q;obtain⟨hq,dh⟩:=aa dh;have hq:=aU hq;obtain⟨v,V,hv,rv,want,Cu⟩:=ik st.heap hle dh (hle 30 _ rfl) ((s.yx n c v0).mono low);have hV:V=.int .i64 (d+q:Nat):=by
  rw[bV hv,Rv,hp q (by omega)] at rv;have:=rv.1;injection this with this;exact this.symm
 subst hV;have wh:=s.Bq;have qe:=hd.qe;have re:=hd.re;have oW:=hd.oW;have Zp:=hd.Zp;have lB1:=hd.lB1;have lB2:=hd.lB2;have W9:=hd.W9;have lB4:=hd.lB4;have bB:=hd.SY;have nS:=hd.nS;have qV:=hd.qV;refine⟨q,{r1:=?_,r2:=?_,r3:=?_,r5:=?_,Zn:=?_,Zo:=?_,Vp:=?_,r36:=?_,r37:=?_,r38:=?_,size:=st.size,defers:=st.defers,bJ:=?_,SY:=?_,Zp:=hd.Zp,lq:=?_,nD:=?_,xr:=?_,sG:=?_,keys:=?_,mj:=hd.mj,mS:=hd.mS,pl:=⟨want,Cu⟩,qe:=hd.qe,re:=hd.re,oW:=hd.oW,lB1:=hd.lB1,lB2:=hd.lB2,lB4:=hd.lB4,W9:=hd.W9,qf:=hd.qf,xl:=hd.xl,nS:=hd.nS,qV:=hd.qV,Qa:=hd.Qa,jl:=hj,il:=hd.il,wj:=hd.wj,dl:=by omega},rj⟩
 ·exact bq s st hle k1 (t:=1) (v:=.p 21 0) (by unfold KW;simp) rfl (by rw[Rv];exact⟨⟨b1,0,0⟩,rfl,rfl⟩)
 ·exact bq s st hle k1 (t:=2) (v:=.p 31 0) (by unfold KW;simp) rfl (by rw[Rv];exact⟨⟨b4,0,0⟩,rfl,rfl⟩)
 ·exact bq s st hle k1 (t:=3) (v:=.p 22 0) (by unfold KW;simp) rfl (by rw[Rv];exact⟨⟨b2,0,0⟩,rfl,rfl⟩)
 ·exact bq s st hle k1 (t:=5) (v:=.p 28 0) (by unfold KW;simp) rfl (by rw[Rv];exact⟨⟨b3,0,0⟩,rfl,rfl⟩)
 ·exact bq s st hle k1 (t:=18) (v:=.sz 17 (.sy 18)) (by unfold KW;simp) rfl (uV e17 d18 xy)
 ·exact bq s st hle k1 (t:=19) (v:=.x (.i .i64) (.sy 18)) (by unfold KW;simp) rfl (fK d18 (by omega))
 ·exact bq s st hle k1 (t:=20) (v:=.x (.i .i64) (.sy 19)) (by unfold KW;simp) rfl (fK d19 (by omega))
 ·exact bq s st hle k1 (t:=36) (v:=I6 26 27) (by unfold KW;simp) rfl (xm hd.keys hd.mj xj d27)
 ·exact bq s st hle k1 (t:=37) (v:=xk 27) (by unfold KW;simp) rfl (fK dl (by omega))
 ·exact bq s st hle k1 (t:=38) (v:=.x (.i .i64) (.cD 4 (.sy 23) (.li .i64 1))) (by unfold KW;simp) rfl (fK (qh d23 (by omega)) (by omega))
 ·exact⟨Nat.le_trans hd.bJ.size ci.bJ.size,fun k hk cR=>(ci.bJ.same k (dV hk hd.bJ.size) (by intro h;rcases h with h|h<;>omega)).trans (hd.bJ.same k hk cR),ci.bJ.os.trans hd.bJ.os,ci.bJ.output.trans hd.bJ.output,ci.bJ.tape.trans hd.bJ.tape⟩
 ·exact⟨Nat.le_trans bB.size ci.bJ.size,fun k hk cR=>(ci.bJ.same k (dV hk bB.size) cR).trans (bB.same k hk cR),ci.bJ.os.trans bB.os,ci.bJ.output.trans bB.output,ci.bJ.tape.trans bB.tape⟩
 ·exact hd.lq.same (ci.bJ.same _ hd.lq.lt (by intro h;rcases h with h|h<;>omega))
 ·exact hd.nD.same (ci.bJ.same _ hd.nD.lt (by intro h;rcases h with h|h<;>omega))
 ·exact hd.xr.same (ci.bJ.same _ hd.xr.lt (by intro h;rcases h with h|h<;>omega))
 ·exact iS st.heap hle k4 (hle 31 _ rfl) (by rfl) eZ
 ·refine hd.keys.same fun b hb=>ci.bJ.same b ?_ ?_
  ·rcases hd.keys with⟨rfl,_⟩|⟨b',off,cp,arr,e,fr,rfl,h2,_⟩
   ·obtain⟨_,_,_,e⟩:=hb;cases e
   ·obtain⟨_,_,_,e⟩:=hb
    cases e
    exact(cW.1 h2).1
  ·have h1:=hd.qf b hb
   intro h;rcases h with h|h<;>omega
end
theorem dH.trans{ok:Nat->Prop}(h:dH ok w0 w1)(h2:dH ok w1 w2):dH ok w0 w2:=
 ⟨Nat.le_trans h.size h2.size,fun k hk cR=>(h2.same k (dV hk h.size) cR).trans (h.same k hk cR),h2.os.trans h.os,h2.output.trans h.output,h2.tape.trans h.tape⟩
theorem qS.then(h:qS bp w0 w1)(h2:dH (fun k=>k=bp∨k=b4) w1 w2)(h4:w0.heap.size<=b4):qS bp w0 w2:=
 ⟨Nat.le_trans h.size h2.size,fun k hk cR=>(h2.same k (dV hk h.size) (by intro h;rcases h with h|h<;>omega)).trans (h.same k hk cR),h2.os.trans h.os,h2.output.trans h.output,h2.tape.trans h.tape⟩
theorem Na(e:T.get .gone h 28=.gone):Bw h=false:=by unfold Bw;rw[e]
theorem Bz(e:T.get .gone h 28=KU):Bw h=true:=by unfold Bw;rw[e];rfl
section
variable{w0:World}{bp ba cap ab:Nat}{R:List An}{A S:Value}{l:List V4}(s:St w0 bp ba cap ab R A S l)
include s
theorem K0[JC]{v1:V4}{a0:Act}(hd:nE w0 bp ab A S v0 nt b1 b2 b4 c tl i d a0 wB)(hi:i<tl)(Qb:v1.ok){Z:Env->Heap->Prop}
  (st:Vx.St [] E regs h nx nt a w) (ci:jh (fun k=>k=bp∨k=b4) wB 30 Z E h w) (hle:(ae (sO R A ba cap ab bp n c v0 v1 b1 b2 b4 tl i d)).le E) (hk:M5 regs h=true):
  ∃b3 K ks,By w0 wB bp ab A S v0 v1 nt b1 b2 b3 b4 c tl i K ks 0 (d+1) a w∧(∃x,R[d]? =some x∧x.ks=ks)∧ev R (later d T1a)=.go 1:=by
 have low:(ae (lU R A ba cap ab bp n c v0)).le (ae (sO R A ba cap ab bp n c v0 v1 b1 b2 b4 tl i d)):=qO;have X:=s.H4 n c v0;have Vq:ae (sO R A ba cap ab bp n c v0 v1 b1 b2 b4 tl i d) 23=some (mJ ab c):=rfl;have d24:den (ae (sO R A ba cap ab bp n c v0 v1 b1 b2 b4 tl i d)) (.sy 24)=some (.int .i64 tl):=aj (i:=23) rfl (ax _ _);have d25:den (ae (sO R A ba cap ab bp n c v0 v1 b1 b2 b4 tl i d)) (.sy 25)=some (.int .i64 i):=aj (i:=24) rfl (ax _ _);have d29:den (ae (sO R A ba cap ab bp n c v0 v1 b1 b2 b4 tl i d)) (.sy 29)=some (.int .i64 d):=aj (i:=28) rfl (ax _ _);have d13:∀i' V,v1.cells[i']? =some V->den (ae (sO R A ba cap ab bp n c v0 v1 b1 b2 b4 tl i d)) (.sy (13+i'))=some V:=Pc (q:=12) (lt4 rfl rfl rfl rfl);have xy:=hd.wj;have Qp:=hd.dl;have hR40:=s.len;have hp:∀m,m<100->den E (ji 29 m)=some (.int .i64 (d+m:Nat)):=fY (an hle _ _ d29) (by omega);have jW:=Env.le_trans low hle;have jX:E 30=some ⟨bp,0,0⟩:=hle 30 _ rfl;have Vo:E 31=some ⟨b4,0,0⟩:=hle 31 _ rfl;have uz:=aD st.heap;unfold M5 at hk;obtain⟨_,hk⟩:=aa hk;obtain⟨k1,hk⟩:=aa hk;obtain⟨k1,k3⟩:=aa k1;obtain⟨k3,k4⟩:=aa k3;obtain⟨k4,k5⟩:=aa k4;obtain⟨k6,hk⟩:=aa hk;obtain⟨k7,hk⟩:=aa hk;obtain⟨k8,k9⟩:=aa hk;obtain⟨L3,Tb,z3,v3,x3⟩:=eB st.heap hle k3 (by rfl) (iM Qb d13);obtain⟨v,V,hv,rv,want,Cu⟩:=ik st.heap hle k6 jX ((s.yx n c v0).mono low);have hV:V=.int .i64 (d+1:Nat):=by
  rw[bV hv,Rv,hp 1 (by omega)] at rv;have:=rv.1;injection this with this;exact this.symm
 subst hV;have wg:(T.get .gone h 30).live=true:=by
  unfold iP at k6;split at k6
  ·rename_i q;rw[q];rfl
  ·cases k6
 have lv31:(T.get .gone h 31).live=true:=by
  unfold dA at k4;split at k4
  ·rename_i q;rw[q];rfl
  ·cases k4
 have KS:∀{x:Nat}{M:aZ},32<=x->(T.get .gone h x).live=true->E x=some M->wB.heap.size<=M.aH:=fun {x M} hx hl hM=>by
  rcases gC M.aH wB.heap.size with cL|ll
  ·exfalso
   rcases ci.iq M.aH cL ⟨x,M,by rw[ci.bM];omega,hl,hM,rfl⟩ with e|e
   ·have:=st.heap.inj x 30 M ⟨bp,0,0⟩ hl wg hM jX e
    omega
   ·have:=st.heap.inj x 31 M ⟨b4,0,0⟩ hl lv31 hM Vo e
    omega
  ·exact ll
 have hm:d<R.length:=gD ((aX uz (kH X jW (hp 0 (by decide)))).1 (aN k8));have hR:=cN hm;have X1:=X.at_ d _ hR;have rK:=st.regs 36;rw[cK k1 36 (I6 41 40) (by unfold Bv;simp)] at rK;have rK:Rv E (.sz 41 (.fn 20 (.sy 40))) (a.tmps.getD 36 undef):=rK;unfold oJ at k5;split at k5<;>try (cases k5;done)
 rename_i g cc tt hg;have k5:g=3000001+10*40:=aN k5;obtain rfl:g=3000000+10*40+1:=by omega
 have SK:(T.get .gone h 41).live=true:=by rw[hg];rfl
 have dU:=st.heap.obj 41;rw[hg] at dU;have hS:∀cx,den E (.sy 40)=some (.int .i64 cx)->cx=(aG (aA R[d].ks):Nat):=fun cx hc=>by
  have d26:den E (.cD 226 (.sy 1) (ji 29 0))=some (.int .i64 (aG (aA R[d].ks))):=eI (i:=26) (an jW _ _ X.rows) (hp 0 (by decide)) hR rfl (ax _ _);have d0:den E (.cmp .eql (.sy 40) (.cD 226 (.sy 1) (ji 29 0)))=some (.bool (decide (cx=(aG (aA R[d].ks):Nat)))):=by
   have d2:den E (.cmp .eql (.sy 40) (.cD 226 (.sy 1) (ji 29 0)))=(bu .eql (.int .i64 cx) (.int .i64 (aG (aA R[d].ks)))).map Value.bool:=by
    show(match den E (.sy 40),den E (.cD 226 (.sy 1) (ji 29 0)) with|some X,some Y=>(bu .eql X Y).map Value.bool|_,_=>none)=_;rw[hc,d26]
   rw[d2];by_cases hh:cx=((aG (aA R[d].ks):Nat):Int)<;>simp[bu,jY,hh]
  exact gD ((aX uz d0).1 (aN k7))
 obtain⟨yS,dS⟩:=lB dU (by omega) (by decide) hS rK;have dl:=bC dS;have kz:(aA R[d].ks).length=R[d].ks.length:=by unfold aA;rw[gp]
 rw[kz] at dl;have lK:∀b,cn (a.tmps.getD 36 undef) b->∃M,E 41=some M∧M.aH=b:=fun b hb=>uU dU (by omega) (by decide) rK hb
 have x1024:=X1.len;obtain⟨lf,dh,rj⟩:=jj X jW hp uz k9;have rj:ev R (later d T1a)=.go 1:=by
  cases lf with
  |go q=>
   have hq:1=q:=aN dh;subst hq;exact rj
  |_=>cases dh
 have bx1:cQ w b1 102 [.pointer (some ⟨bp,0,none⟩),S]:=hd.lq.same (ci.bJ.same _ hd.lq.lt (by have:=hd.nS;have:=hd.qe;have:=s.Bq;intro h;rcases h with h|h<;>omega));have bx2:cQ w b2 31 v0.cells:=hd.nD.same (ci.bJ.same _ hd.nD.lt (by have:=hd.qV;have:=hd.re;have:=s.Bq;intro h;rcases h with h|h<;>omega));have hr31:dA 31 26 36 jL h=true:=k4;refine⟨L3.aH,a.tmps.getD 36 undef,R[d].ks,{r1:=?_,r2:=?_,r3:=?_,r5:=?_,Zn:=?_,Zo:=?_,Vp:=?_,r36:=rfl,r37:=?_,r38:=?_,size:=st.size,defers:=st.defers,bJ:=hd.bJ.then ci.bJ hd.oW,SY:=ci.bJ,Zp:=hd.bJ.size,lq:=bx1,nD:=bx2,xr:=x3,sG:=iS st.heap hle hr31 Vo (by rfl) eZ,keys:=yS,mj:=X1.len,mS:=X1.mS,pl:=⟨want,Cu⟩,qe:=hd.qe,re:=hd.re,oW:=hd.oW,lB1:=hd.lq.lt,lB2:=hd.nD.lt,lB4:=hd.sG.lt,W9:=KS (by decide) v3 Tb,qf:=fun b hb=>?_,xl:=hd.xl,nS:=hd.nS,qV:=hd.qV,Qa:=fun b hb=>?_,jl:=nzQ _,il:=hi,wj:=hd.wj,dl:=by omega},⟨_,hR,rfl⟩,rj⟩
 ·exact bq s st hle k1 (t:=1) (v:=.p 21 0) (by unfold Bv;simp) rfl (by rw[Rv];exact⟨⟨b1,0,0⟩,rfl,rfl⟩)
 ·exact bq s st hle k1 (t:=2) (v:=.p 31 0) (by unfold Bv;simp) rfl (by rw[Rv];exact⟨⟨b4,0,0⟩,rfl,rfl⟩)
 ·exact bq s st hle k1 (t:=3) (v:=.p 22 0) (by unfold Bv;simp) rfl (by rw[Rv];exact⟨⟨b2,0,0⟩,rfl,rfl⟩)
 ·have rr:=st.regs 5
  rw[cK k1 5 (.p 32 0) (by unfold Bv;simp),Rv] at rr;obtain⟨M,eM,rr⟩:=rr;rw[Tb] at eM;cases eM;rw[rr,z3]
 ·exact bq s st hle k1 (t:=18) (v:=.sz 23 (.sy 24)) (by unfold Bv;simp) rfl (uV Vq d24 xy)
 ·exact bq s st hle k1 (t:=19) (v:=.x (.i .i64) (.sy 24)) (by unfold Bv;simp) rfl (fK d24 (by omega))
 ·exact bq s st hle k1 (t:=20) (v:=.x (.i .i64) (.sy 25)) (by unfold Bv;simp) rfl (fK d25 (by omega))
 ·exact bq s st (Env.le_refl E) k1 (t:=37) (v:=xk 40) (by unfold Bv;simp) rfl (fK dl (by omega))
 ·exact bq s st hle k1 (t:=38) (v:=.i .i64 0) (by unfold Bv;simp) rfl (by rw[Rv];rfl)
 ·obtain⟨M,eM,rfl⟩:=lK b hb
  exact KS (by decide) SK eM
 ·obtain⟨M,eM,rfl⟩:=lK b hb
  intro e;have:=st.heap.inj 41 32 M L3 SK v3 eM Tb e;omega
theorem nE.step{c nt b1 b2 b4 tl i d d':Nat}{v0:V4}{a a':Act}{w w':World}(hd:nE w0 bp ab A S v0 nt b1 b2 b4 c tl i d a w)(hi:i<tl)(bt:dH (fun k=>k=bp∨k=b4) w w')(r1:a'.tmps.getD 1 undef=.pointer (some ⟨b1,0,none⟩))(r2:a'.tmps.getD 2 undef=.pointer (some ⟨b4,0,none⟩))
  (r3:a'.tmps.getD 3 undef=.pointer (some ⟨b2,0,none⟩)) (Zn:a'.tmps.getD 18 undef=W8 ab tl c) (Zo:a'.tmps.getD 19 undef=.int .i64 tl) (Vp:a'.tmps.getD 20 undef=.int .i64 (i+1:Nat)) (hs:a'.tmps.size=nt) (hdf:a'.defers=[]) (hb4:cQ w' b4 36 (zO.cells bO))
  (Cu:∃want,dE w' bp A (.int .i64 d') want) (qw:d'<=42):nE w0 bp ab A S v0 nt b1 b2 b4 c tl (i+1) d' a' w':=
 {r1,r2,r3,Zn,Zo,Vp,size:=hs,defers:=hdf,bJ:=hd.bJ.then bt hd.oW,lq:=hd.lq.same (bt.same _ hd.lq.lt (by have:=hd.nS;have:=hd.qe;have:=s.Bq;intro h;rcases h with h|h<;>omega)),nD:=hd.nD.same (bt.same _ hd.nD.lt (by have:=hd.qV;have:=hd.re;have:=s.Bq;intro h;rcases h with h|h<;>omega)),sG:=hb4,pl:=Cu,qe:=hd.qe,re:=hd.re,oW:=hd.oW,xl:=hd.xl,nS:=hd.nS,qV:=hd.qV,il:=hi,wj:=hd.wj,dl:=qw}
theorem Tc[JC]{d':Nat}{v1:V4}{K:Value}{Z:Env->Heap->Prop}(hd:nE w0 bp ab A S v0 nt b1 b2 b4 c tl i d a w)(hi:i<tl)
  (st:Vx.St [] E' av h' n' nt a' w') (ci:jh (fun k=>k=bp∨k=b4) w 30 Z E' h' w') (hle:(ae (sI R A ba cap ab bp n c v0 v1 b1 b2 b3 b4 tl i K ks j d')).le E') (qw:d'<=42) (hk:xn av h'=true):
  nE w0 bp ab A S v0 nt b1 b2 b4 c tl (i+1) d' a' w'∧ks.length<=j:=by
 have low:(ae (lU R A ba cap ab bp n c v0)).le (ae (sI R A ba cap ab bp n c v0 v1 b1 b2 b3 b4 tl i K ks j d')):=qI;have e17:ae (sI R A ba cap ab bp n c v0 v1 b1 b2 b3 b4 tl i K ks j d') 17=some (mJ ab c):=rfl;have d18:den (ae (sI R A ba cap ab bp n c v0 v1 b1 b2 b3 b4 tl i K ks j d')) (.sy 18)=some (.int .i64 tl):=aj (i:=17) rfl (ax _ _);have d19:den (ae (sI R A ba cap ab bp n c v0 v1 b1 b2 b3 b4 tl i K ks j d')) (.sy 19)=some (.int .i64 i):=aj (i:=18) rfl (ax _ _);have d23:den E' (.sy 23)=some (.int .i64 j):=an hle _ _ (aj (i:=22) rfl (ax _ _));have d25:den E' (.sy 25)=some (.int .i64 d'):=an hle _ _ (aj (i:=24) rfl (ax _ _));have d27:den E' (.sy 27)=some (.int .i64 (aG (aA ks))):=an hle _ _ (aj (i:=26) rfl (ax _ _));have dl:den E' (.fn 20 (.sy 27))=some (.int .i64 ks.length):=by
  rw[bC d27];unfold aA;rw[gp]
 have xy:=hd.wj;have uy:=hd.il;unfold xn at hk;obtain⟨k0,hk⟩:=aa hk;obtain⟨k0,_⟩:=aa k0;obtain⟨k1,hk⟩:=aa hk;obtain⟨k2,k3⟩:=aa hk;have Ff:den E' Dr=some (.bool (decide (ks.length<=j))):=by
  have d2:den E' Dr=(bu .leq (.int .i64 ks.length) (.int .i64 j)).map Value.bool:=by
   show(match den _ (.fn 20 (.sy 27)),den _ (.sy 23) with|some X,some Y=>(bu .leq X Y).map Value.bool|_,_=>none)=_;rw[dl,d23]
  rw[d2];show some (Value.bool (decide ((ks.length:Int)<=(j:Int))))=_;rw[show decide ((ks.length:Int)<=(j:Int))=decide (ks.length<=j) from decide_eq_decide.2 Int.ofNat_le]
 have y8:ks.length<=j:=gD ((aX (aD st.heap) Ff).1 (aN k2));obtain⟨v,V,hv,rv,want,Cu⟩:=ik st.heap hle k3 (hle 30 _ rfl) ((s.yx n c v0).mono low);have hV:V=.int .i64 d':=by
  rw[bV hv,Rv,d25] at rv;have:=rv.1;injection this with this;exact this.symm
 subst hV;refine⟨nE.step s hd hi ci.bJ ?_ ?_ ?_ ?_ ?_ ?_ st.size st.defers (iS st.heap hle k0 (hle 31 _ rfl) (by rfl) eZ) ⟨want,Cu⟩ qw,y8⟩
 ·exact bq s st hle k1 (t:=1) (v:=.p 21 0) (by unfold KY;simp) rfl (by rw[Rv];exact⟨⟨b1,0,0⟩,rfl,rfl⟩)
 ·exact bq s st hle k1 (t:=2) (v:=.p 31 0) (by unfold KY;simp) rfl (by rw[Rv];exact⟨⟨b4,0,0⟩,rfl,rfl⟩)
 ·exact bq s st hle k1 (t:=3) (v:=.p 22 0) (by unfold KY;simp) rfl (by rw[Rv];exact⟨⟨b2,0,0⟩,rfl,rfl⟩)
 ·exact bq s st hle k1 (t:=18) (v:=.sz 17 (.sy 18)) (by unfold KY;simp) rfl (uV e17 d18 xy)
 ·exact bq s st hle k1 (t:=19) (v:=.x (.i .i64) (.sy 18)) (by unfold KY;simp) rfl (fK d18 (by omega))
 ·exact bq s st hle k1 (t:=20) (v:=.x (.i .i64) (.cD 4 (.sy 19) (.li .i64 1))) (by unfold KY;simp) rfl (fK (qh d19 (by omega)) (by omega))
theorem Td[JC]{v1:V4}{Z:Env->Heap->Prop}(hd:nE w0 bp ab A S v0 nt b1 b2 b4 c tl i d a w)(hi:i<tl)
  (st:Vx.St [] E' av h' n' nt a' w') (ci:jh (fun k=>k=bp∨k=b4) w 30 Z E' h' w') (hle:(ae (sO R A ba cap ab bp n c v0 v1 b1 b2 b4 tl i d)).le E') (hk:xp av h'=true):
  nE w0 bp ab A S v0 nt b1 b2 b4 c tl (i+1) d a' w':=by
 have low:(ae (lU R A ba cap ab bp n c v0)).le (ae (sO R A ba cap ab bp n c v0 v1 b1 b2 b4 tl i d)):=qO;have Vq:ae (sO R A ba cap ab bp n c v0 v1 b1 b2 b4 tl i d) 23=some (mJ ab c):=rfl;have d24:den (ae (sO R A ba cap ab bp n c v0 v1 b1 b2 b4 tl i d)) (.sy 24)=some (.int .i64 tl):=aj (i:=23) rfl (ax _ _);have d25:den (ae (sO R A ba cap ab bp n c v0 v1 b1 b2 b4 tl i d)) (.sy 25)=some (.int .i64 i):=aj (i:=24) rfl (ax _ _);have d29:den E' (.sy 29)=some (.int .i64 d):=an hle _ _ (aj (i:=28) rfl (ax _ _));have xy:=hd.wj;unfold xp at hk;obtain⟨k0,hk⟩:=aa hk;obtain⟨k0,_⟩:=aa k0;obtain⟨k1,k3⟩:=aa hk;obtain⟨v,V,hv,rv,want,Cu⟩:=ik st.heap hle k3 (hle 30 _ rfl) ((s.yx n c v0).mono low);have hV:V=.int .i64 d:=by
  rw[bV hv,Rv,d29] at rv;have:=rv.1;injection this with this;exact this.symm
 subst hV;refine nE.step s hd hi ci.bJ ?_ ?_ ?_ ?_ ?_ ?_ st.size st.defers (iS st.heap hle k0 (hle 31 _ rfl) (by rfl) eZ) ⟨want,Cu⟩ hd.dl
 ·exact bq s st hle k1 (t:=1) (v:=.p 21 0) (by unfold KV;simp) rfl (by rw[Rv];exact⟨⟨b1,0,0⟩,rfl,rfl⟩)
 ·exact bq s st hle k1 (t:=2) (v:=.p 31 0) (by unfold KV;simp) rfl (by rw[Rv];exact⟨⟨b4,0,0⟩,rfl,rfl⟩)
 ·exact bq s st hle k1 (t:=3) (v:=.p 22 0) (by unfold KV;simp) rfl (by rw[Rv];exact⟨⟨b2,0,0⟩,rfl,rfl⟩)
 ·exact bq s st hle k1 (t:=18) (v:=.sz 23 (.sy 24)) (by unfold KV;simp) rfl (uV Vq d24 xy)
 ·exact bq s st hle k1 (t:=19) (v:=.x (.i .i64) (.sy 24)) (by unfold KV;simp) rfl (fK d24 (by omega))
 ·exact bq s st hle k1 (t:=20) (v:=.x (.i .i64) (.cD 4 (.sy 25) (.li .i64 1))) (by unfold KV;simp) rfl (fK (qh d25 (by omega)) (by omega))
end
theorem gu{a b:SE}(da:den E a=some (.int .i64 x))(db:den E b=some (.int .i64 y)):den E (.cmp .leq a b)=some (.bool (decide (x<=y))):=by
 have d2:den E (.cmp .leq a b)=(bu .leq (.int .i64 x) (.int .i64 y)).map Value.bool:=by
  show(match den E a,den E b with|some X,some Y=>(bu .leq X Y).map Value.bool|_,_=>none)=_;rw[da,db]
 rw[d2];show some (Value.bool (decide ((x:Int)<=(y:Int))))=_;rw[show decide ((x:Int)<=(y:Int))=decide (x<=y) from decide_eq_decide.2 Int.ofNat_le]
theorem lD{a b:SE}(da:den E a=some (.int .i64 x))(db:den E b=some (.int .i64 y)):den E (.cmp .lss a b)=some (.bool (decide (x<y))):=by
 have d2:den E (.cmp .lss a b)=(bu .lss (.int .i64 x) (.int .i64 y)).map Value.bool:=by
  show(match den E a,den E b with|some X,some Y=>(bu .lss X Y).map Value.bool|_,_=>none)=_;rw[da,db]
 rw[d2];show some (Value.bool (decide ((x:Int)<(y:Int))))=_;rw[show decide ((x:Int)<(y:Int))=decide (x<y) from decide_eq_decide.2 Int.ofNat_lt]
def Zr(R:List An)(A:Value)(ba cap ab bp n c:Nat)(v0 v1:V4)(b1 b2 b4 tl i d m:Nat)(T0:Tr)(rest:List V4)(E:Env)(h:Heap):Prop:=
 ((ae (sO R A ba cap ab bp n c v0 v1 b1 b2 b4 tl i d)).le E∧T.get .gone h 21=lS m∧T.get .gone h 28=.gone)∨
 ∃b3 K ks j d',(ae (sI R A ba cap ab bp n c v0 v1 b1 b2 b3 b4 tl i K ks j d')).le E∧T.get .gone h 21=lS m∧T.get .gone h 28=KU∧KZ R T0 rest ks j d'∧j<=ks.length∧ks.length<=1024∧d'<=42
def Za(R:List An)(A:Value)(ba cap ab bp c:Nat)(l:List V4)(tl m:Nat)(T0:Tr)(E:Env)(h:Heap):Prop:=
 ((ae (sA R A ba cap ab bp l.length c l)).le E∧T.get .gone h 21=.gone)∨
 ∃b1 b2 b4 i d,Zr R A ba cap ab bp l.length c (l.getD 0 z4) (l.getD (i+1) z4) b1 b2 b4 tl i d m T0 (l.drop (i+2)) E h∧ev R T0=ev R (TO (l.drop (i+1)) d)∧i<=tl∧d<=42
theorem Nb(h:l[i]? =some v):l.drop i=v::l.drop (i+1):=by
 obtain⟨h1,rfl⟩:=bR.1 h;exact List.drop_eq_getElem_cons h1
section
variable{w0:World}{bp ba cap ab:Nat}{R:List An}{A S:Value}{l:List V4}(s:St w0 bp ba cap ab R A S l)
include s
theorem loopI{dO:Nat}{v1:V4}{K:Value}{kn kr:Vx.S}{kx:Nat->Vx.S}(hn:aS ci=[])(Cr:v0.ok)(Qb:v1.ok)
  (jg:Rv (ae (lU R A ba cap ab bp n c v0)) (gA m) S) (hF:Holds (ae (lU R A ba cap ab bp n c v0)) (fF m++(kF (oA 0)++f2))) (h1k:5<v1.k) (h8k:v1.k<=8)
  (hA:Fj fn ci m mw fA (fun regs h _=>H3 regs h) (fun _=>fj) kr=true) (hB:Fj fn ci m .gone fB fj kx kr=true):
  ∀(N j d:Nat)(a:Act)(w:World),ks.length-j=N->By w0 wB bp ab A S v0 v1 fn.ntmps b1 b2 b3 b4 c tl i K ks j d a w->KZ R T0 rest ks j d->
   Code.rounds P ci (@dG (KJ (ae (lU R A ba cap ab bp n c v0)) w0 (cg ba R)) (fun k=>k=bp∨k=b4) wB 30 (Zr R A ba cap ab bp n c v0 v1 b1 b2 b4 tl i dO m T0 rest) fn.ntmps kn kx kr) (N+1) a w:=by
 letI J:JC:=KJ (ae (lU R A ba cap ab bp n c v0)) w0 (cg ba R)
 have X:=s.H4 n c v0;have aQ:bj P c2:=yq X;have cE:fz P qD:=ep mixed dv c2 aQ;have d27:∀(j d:Nat),den (ae (sI R A ba cap ab bp n c v0 v1 b1 b2 b3 b4 tl i K ks j d)) (.fn 20 (.sy 27))=some (.int .i64 ks.length):=fun j d=>by
  rw[bC (aj (i:=26) rfl (ax _ _))];unfold aA;rw[gp]
 have d23:∀(j d:Nat),den (ae (sI R A ba cap ab bp n c v0 v1 b1 b2 b3 b4 tl i K ks j d)) (.sy 23)=some (.int .i64 j):=fun j d=>aj (i:=22) rfl (ax _ _)
 have Ff:=fun j d=>gu (d27 j d) (d23 j d)
 have ltD:=fun j d=>lD (d23 j d) (d27 j d)
 have out:∀{j d:Nat}{a:Act}{w:World}{Kn:Vx.S}{e:Exit}{a':Act}{w':World},By w0 wB bp ab A S v0 v1 fn.ntmps b1 b2 b3 b4 c tl i K ks j d a w->KZ R T0 rest ks j d->∀{KX:Nat->Vx.S},(∀x regs h n,KX x regs h n=true->kx x regs h n=true)->e≠.normal->
   dG (fun k=>k=bp∨k=b4) w 30 (fun E h=>(ae (sI R A ba cap ab bp n c v0 v1 b1 b2 b3 b4 tl i K ks j d)).le E∧T.get .gone h 21=lS m∧T.get .gone h 28=KU) fn.ntmps Kn KX kr e a' w'->dG (fun k=>k=bp∨k=b4) wB 30 (Zr R A ba cap ab bp n c v0 v1 b1 b2 b4 tl i dO m T0 rest) fn.ntmps kn kx kr e a' w':=by
  intro j d a w Kn e a' w' hd hR KX O' cR hl;obtain⟨E',av,h',n',dB,ci,hk⟩:=hl;refine⟨E',av,h',n',dB,⟨hd.SY.trans ci.bJ,fun k hk hf=>ci.iq k (dV hk hd.SY.size) hf,ci.bM,fun E2 h2 hle oN=>?_⟩,?_⟩
  ·obtain⟨z1,z2,z3⟩:=ci.z E2 h2 hle oN
   exact .inr ⟨b3,K,ks,j,d,z1,z2,z3,hR,hd.jl,hd.mj,hd.dl⟩
  ·cases e with
   |normal=>exact absurd rfl cR
   |exit x=>exact O' _ _ _ _ hk
   |ret=>exact hk
   |goto l=>exact hk.elim
   |panic l=>exact hk.elim
   |outgrown=>exact hk.elim
 intro N;induction N with
 |zero=>
  intro j d a w hN hd hR;have uy:=hd.jl;have hi:ks.length<=j:=by omega
  obtain⟨h1,he,st,qE⟩:=M7 s hd (el:=.gone) (fs:=fB) (.inr rfl) Cr Qb jg hF h1k h8k (ah ((Ff j d).trans (by rw[eX hi])) holds_nil) hB;rw[rounds_succ];refine wp_mono (kG aQ dv cE ci (fun l hl=>by rw[hn] at hl;cases hl) fj kx _ _ h1 32 a w he st qE) ?_
  intro e a' w' hl;cases e with
  |normal=>obtain⟨_,_,_,_,_,_,hk⟩:=hl;cases hk
  |_=>exact out hd hR (fun _ _ _ _ h=>h) (by intro h;cases h) hl
 |succ N ih=>
  intro j d a w hN hd hR;have hi:j<ks.length:=by omega
  obtain⟨h1,he,st,qE⟩:=M7 s hd (el:=mw) (fs:=fA) (.inl ⟨rfl,hi⟩) Cr Qb jg hF h1k h8k (ah ((ltD j d).trans (by rw[eX hi])) (ah ((Ff j d).trans (by rw[gM (by omega)])) holds_nil)) hA;rw[rounds_succ];refine wp_mono (kG aQ dv cE ci (fun l hl=>by rw[hn] at hl;cases hl) (fun regs h _=>H3 regs h) (fun _=>fj) _ _ h1 32 a w he st qE) ?_
  intro e a' w' hl;cases e with
  |normal=>
   obtain⟨E',av,h',n',dB,Zu,hk⟩:=hl;obtain⟨q',qw,rj⟩:=Pd s hd hi dB Zu (Zu.z E' h' (Env.le_refl _) fun _ _=>rfl).1 hk;refine ih (j+1) (d+q') a' w' (by omega) qw ?_;obtain⟨am,x,hx,hxk,h1⟩:=hR.at hi hd.mj;exact⟨am,x,hx,hxk,by rw[h1,rj]⟩
  |_=>exact out hd hR (KX:=fun _=>fj) (fun _ _ _ _ h=>by cases h) (by intro h;cases h) hl
theorem loopO{kn kr:Vx.S}{kx:Nat->Vx.S}(qZ:aS cl=[ci])(hci:aS ci=[])(ra:Pb w0 ab S l c)(xy:tl+1=l.length)(Cr:(l.getD 0 z4).ok)(h8:∀v∈l,v.k<=8)
  (jg:Rv (ae (lU R A ba cap ab bp l.length c (l.getD 0 z4))) (gA m) S) (hF:Holds (ae (lU R A ba cap ab bp l.length c (l.getD 0 z4))) (fF m++(kF (oA 0)++f2)))
  (hA:xq fn (Ji fn ci m) cl m (oA 1) yw fOA (fun regs h _=>xn regs h) (fun _=>fj) kr=true) (hA2:xq fn noJ cl m (pA 1) yw fOA (fun regs h _=>xp regs h) (fun _=>fj) fj=true) (hB:xq fn noJ cl m [] .gone fOB fj kx kr=true):
  ∀(N i d:Nat)(a:Act)(w:World),tl-i=N->nE w0 bp ab A S (l.getD 0 z4) fn.ntmps b1 b2 b4 c tl i d a w->ev R T0=ev R (TO (l.drop (i+1)) d)->
   Code.rounds P cl (@dG (KJ (ae (lU R A ba cap ab bp l.length c (l.getD 0 z4))) w0 (cg ba R)) (· =bp) w0 30 (Za R A ba cap ab bp c l tl m T0) fn.ntmps kn kx kr) (N+1) a w:=by
 letI J:JC:=KJ (ae (lU R A ba cap ab bp l.length c (l.getD 0 z4))) w0 (cg ba R)
 have X:=s.H4 l.length c (l.getD 0 z4);have aQ:bj P c2:=yq X;have cE:fz P qD:=ep mixed dv c2 aQ;have d24:∀(v1:V4)(i d:Nat),den (ae (sO R A ba cap ab bp l.length c (l.getD 0 z4) v1 b1 b2 b4 tl i d)) (.sy 24)=some (.int .i64 tl):=fun v1 i d=>aj (i:=23) rfl (ax _ _)
 have d25:∀(v1:V4)(i d:Nat),den (ae (sO R A ba cap ab bp l.length c (l.getD 0 z4) v1 b1 b2 b4 tl i d)) (.sy 25)=some (.int .i64 i):=fun v1 i d=>aj (i:=24) rfl (ax _ _)
 have d13:∀(v1:V4)(i d:Nat),den (ae (sO R A ba cap ab bp l.length c (l.getD 0 z4) v1 b1 b2 b4 tl i d)) (.sy 13)=some (.int .u8 v1.k):=fun v1 i d=>aj (i:=12) rfl (ax _ _)
 have Ff:=fun v1 i d=>gu (d24 v1 i d) (d25 v1 i d)
 have ltD:=fun v1 i d=>lD (d25 v1 i d) (d24 v1 i d)
 have nR:∀i,(l.getD i z4).ok:=fun i=>by
  rw[cB];cases hj:l[i]? with
  |none=>exact ow
  |some v=>exact s.P7 v (gq hj)
 have out:∀{i d:Nat}{a:Act}{w:World}{Kn Kr:Vx.S}{e:Exit}{a':Act}{w':World},nE w0 bp ab A S (l.getD 0 z4) fn.ntmps b1 b2 b4 c tl i d a w->ev R T0=ev R (TO (l.drop (i+1)) d)->∀{KX:Nat->Vx.S},(∀x regs h n,KX x regs h n=true->kx x regs h n=true)->(∀regs h n,Kr regs h n=true->kr regs h n=true)->e≠.normal->
   dG (fun k=>k=bp∨k=b4) w 30 (Zr R A ba cap ab bp l.length c (l.getD 0 z4) (l.getD (i+1) z4) b1 b2 b4 tl i d m T0 (l.drop (i+2))) fn.ntmps Kn KX Kr e a' w'->dG (· =bp) w0 30 (Za R A ba cap ab bp c l tl m T0) fn.ntmps kn kx kr e a' w':=by
  intro i d a w Kn Kr e a' w' hd hR KX O' hKr cR hl;obtain⟨E',av,h',n',dB,ci,hk⟩:=hl;have oW:=hd.oW;have bt:=hd.bJ.then ci.bJ oW;refine⟨E',av,h',n',dB,⟨⟨bt.size,fun k hk cR=>bt.same k hk cR,bt.os,bt.output,bt.tape⟩,fun k hk hf=>?_,ci.bM,fun E2 h2 hle oN=>.inr ⟨b1,b2,b4,i,d,ci.z E2 h2 hle oN,hR,hd.il,hd.dl⟩⟩,?_⟩
  ·rcases ci.iq k (dV hk hd.bJ.size) hf with h|h
   ·exact h
   ·omega
  ·cases e with
   |normal=>exact absurd rfl cR
   |exit x=>exact O' _ _ _ _ hk
   |ret=>exact hKr _ _ _ hk
   |goto l=>exact hk.elim
   |panic l=>exact hk.elim
   |outgrown=>exact hk.elim
 intro N;induction N with
 |zero=>
  intro i d a w hN hd hR;have uy:=hd.il;have hi:tl<=i:=by omega
  obtain⟨h1,he,st,qE⟩:=Fo s (v1:=l.getD (i+1) z4) (el:=.gone) (fs:=fOB) (q:=[]) (Zr:=Zr R A ba cap ab bp l.length c (l.getD 0 z4) (l.getD (i+1) z4) b1 b2 b4 tl i d m T0 (l.drop (i+2))) ra hd (.inr rfl) Cr (nR _) jg hF holds_nil (ah ((Ff _ i d).trans (by rw[eX hi])) holds_nil) (fun E h h1 h2 h3=>.inl ⟨h1,h2,h3⟩) hB;rw[rounds_succ];refine wp_mono (kG aQ dv cE cl (fun l hl kn kx E regs h aq a w hJ=>by cases hJ) fj kx _ _ h1 32 a w he st qE) ?_
  intro e a' w' hl;cases e with
  |normal=>obtain⟨_,_,_,_,_,_,hk⟩:=hl;cases hk
  |_=>exact out hd hR (fun _ _ _ _ h=>h) (fun _ _ _ h=>h) (by intro h;cases h) hl
 |succ N ih=>
  intro i d a w hN hd hR;have hi:i<tl:=by omega
  have hv:l[i+1]? =some (l.getD (i+1) z4):=by rw[cB,cN (by omega)];rfl
  have Zv:l.drop (i+1)=l.getD (i+1) z4::l.drop (i+2):=Nb hv;have hv8:(l.getD (i+1) z4).k<=8:=h8 _ (gq hv);have dX:Holds (ae (sO R A ba cap ab bp l.length c (l.getD 0 z4) (l.getD (i+1) z4) b1 b2 b4 tl i d)) fOA:=ah ((ltD _ i d).trans (by rw[eX hi])) (ah ((Ff _ i d).trans (by rw[gM (by omega)])) holds_nil);rw[rounds_succ];rcases ig 5 (l.getD (i+1) z4).k with h5|h5
  ·have hq:Holds (ae (sO R A ba cap ab bp l.length c (l.getD 0 z4) (l.getD (i+1) z4) b1 b2 b4 tl i d)) (kF (oA 1)):=ah ((az (d13 _ i d)).trans (by rw[gM (by show ¬_<=(5:Int);omega)])) (ah ((az (d13 _ i d)).trans (by rw[eX (by show _<=(8:Int);omega)])) holds_nil)
   obtain⟨h1,he,st,qE⟩:=Fo s (v1:=l.getD (i+1) z4) (el:=yw) (fs:=fOA) (q:=oA 1) (Zr:=Zr R A ba cap ab bp l.length c (l.getD 0 z4) (l.getD (i+1) z4) b1 b2 b4 tl i d m T0 (l.drop (i+2))) ra hd (.inl ⟨rfl,hv⟩) Cr (nR _) jg hF hq dX (fun E h h1 h2 h3=>.inl ⟨h1,h2,h3⟩) hA;refine wp_mono (kG aQ dv cE cl (fun lc hl kn' kx' E regs h aq a1 w1 hJ st1 ci1=>?_) (fun regs h _=>xn regs h) (fun _=>fj) _ _ h1 32 a w he st qE) ?_
   ·rw[qZ] at hl
    obtain rfl:lc=ci:=by simpa using hl
    unfold Ji at hJ;obtain⟨j1,hJ⟩:=aa hJ;obtain⟨jA,jB⟩:=aa hJ;rcases ci1.z E h (Env.le_refl _) (fun _ _=>rfl) with⟨z,_,_⟩|⟨_,_,_,_,_,_,_,z,_⟩
    ·obtain⟨b3,K,ks,hdI,⟨x,hx,hxk⟩,rj⟩:=K0 s hd hi (nR _) st1 ci1 z j1
     refine wp_loop_rounds (ks.length-0+1) ?_;refine loopI s hci Cr (nR _) jg hF h5 hv8 jA jB _ 0 (d+1) a1 w1 rfl hdI ⟨d,x,hx,hxk,?_⟩;rw[hR,Zv,Zm h5,rj]
    ·exfalso
     unfold M5 at j1;obtain⟨j0,_⟩:=aa j1;rw[Bz z] at j0;cases j0
   ·intro e a' w' hl
    cases e with
    |normal=>
     obtain⟨E',av,h',n',dB,Zu,hk⟩:=hl;rcases Zu.z E' h' (Env.le_refl _) (fun _ _=>rfl) with⟨_,_,z⟩|⟨b3,K,ks,j,d',z,_,_,hRI,y8,kz,qw⟩
     ·exfalso
      unfold xn at hk;obtain⟨k0,_⟩:=aa hk;obtain⟨_,k0⟩:=aa k0;rw[Na z] at k0;cases k0
     ·obtain⟨Vf,hkj⟩:=Tc s hd hi dB Zu z qw hk
      exact ih (i+1) d' a' w' (by omega) Vf (hRI.end_ hkj (by omega))
    |_=>exact out hd hR (KX:=fun _=>fj) (fun _ _ _ _ h=>by cases h) (fun _ _ _ h=>h) (by intro h;cases h) hl
  ·have hq:Holds (ae (sO R A ba cap ab bp l.length c (l.getD 0 z4) (l.getD (i+1) z4) b1 b2 b4 tl i d)) (kF (pA 1)):=ah ((az (d13 _ i d)).trans (by rw[eX (by show _<=(5:Int);omega)])) holds_nil
   obtain⟨h1,he,st,qE⟩:=Fo s (v1:=l.getD (i+1) z4) (el:=yw) (fs:=fOA) (q:=pA 1) (Zr:=Zr R A ba cap ab bp l.length c (l.getD 0 z4) (l.getD (i+1) z4) b1 b2 b4 tl i d m T0 (l.drop (i+2))) ra hd (.inl ⟨rfl,hv⟩) Cr (nR _) jg hF hq dX (fun E h h1 h2 h3=>.inl ⟨h1,h2,h3⟩) hA2;refine wp_mono (kG aQ dv cE cl (fun l hl kn kx E regs h aq a w hJ=>by cases hJ) (fun regs h _=>xp regs h) (fun _=>fj) _ _ h1 32 a w he st qE) ?_
   intro e a' w' hl;cases e with
   |normal=>
    obtain⟨E',av,h',n',dB,Zu,hk⟩:=hl;rcases Zu.z E' h' (Env.le_refl _) (fun _ _=>rfl) with⟨z,_,_⟩|⟨_,_,_,_,_,_,_,z,_⟩
    ·refine ih (i+1) d a' w' (by omega) (Td s hd hi dB Zu z hk) ?_
     rw[hR,Zv,W7 h5]
    ·exfalso
     unfold xp at hk;obtain⟨k0,_⟩:=aa hk;obtain⟨_,k0⟩:=aa k0;rw[Bz z] at k0;cases k0
   |_=>exact out hd hR (Kr:=fj) (KX:=fun _=>fj) (fun _ _ _ _ h=>by cases h) (fun _ _ _ h=>by cases h) (by intro h;cases h) hl
end
theorem Te(ao:AO):T.get .gone (W6 ao) 21=.gone:=by kernel_rfl
theorem H5{b:AO}(h:([AO.gone,.gone,.gone,.gone,.gone,ao]++((List.range 22).map (fun _=>AO.gone)++[.ali 6 4 1 (.sy 8),MZ]))[j]? =some b)(hl:b.live=true):(j=5∧ao.live=true)∨j=29:=by
 have hj:j<30:=(bR.1 h).1;by_cases h5:j=5
 ·subst h5;cases h;exact .inl ⟨rfl,hl⟩
 by_cases SC:j=29
 ·exact .inr SC
 exfalso;have hi:j∈[0,1,2,3,4,6,7,8,9,10,11,12,13,14,15,16,17,18,19,20,21,22,23,24,25,26,27,28]:=by simp;omega
 simp only[mcQ,mnQ,or_false] at hi;rcases hi with rfl|rfl|rfl|rfl|rfl|rfl|rfl|rfl|rfl|rfl|rfl|rfl|rfl|rfl|rfl|rfl|rfl|rfl|rfl|rfl|rfl|rfl|rfl|rfl|rfl|rfl|rfl|rfl<;>(cases h;cases hl)
theorem Xe(d:den E e=some (.int .i64 n))(h:n<=100000)(h1:1<=n):den E (.cD 5 e (.li .i64 1))=some (.int .i64 (n-1:Nat)):=by
 simp only[den,d,js];rw[if_pos (by omega)];have:(n:Int)-1=((n-1:Nat):Int):=by omega
 rw[this]
section
variable{w:World}{bp ba cap ab:Nat}{R:List An}{A S:Value}{l:List V4}(s:St w bp ba cap ab R A S l)
include s
theorem St.beginA(ra:Pb w ab S l c)(h1:1<=l.length)(nQ:RO (ae (sB R A ba cap ab bp l.length c l)) w 6 ao)(oU:ao.live=true):
  HR (ae (sA R A ba cap ab bp l.length c l)) (W6 ao) 31 w∧bL (ae (lU R A ba cap ab bp l.length c (l.getD 0 z4))) w (cg ba R) (ae (sA R A ba cap ab bp l.length c l)) (W6 ao) w∧(∀k,fp (ae (sA R A ba cap ab bp l.length c l)) (W6 ao) k->k=bp)∧bM (W6 ao)=30:=by
 have zh:=s.Bq;have ux:=s.wJ;have yR:=s.abs;obtain⟨want,bn,yP,Ck,wY,yQ,Bj,_⟩:=s.pl;have low:(ae (lU R A ba cap ab bp l.length c (l.getD 0 z4))).le (ae (sA R A ba cap ab bp l.length c l)):=Env.le_trans qB bA;have jX:ae (sA R A ba cap ab bp l.length c l) 30=some ⟨bp,0,0⟩:=rfl;have e29:ae (sA R A ba cap ab bp l.length c l) 29=some (mJ ab c):=rfl;have e6:ae (sA R A ba cap ab bp l.length c l) 6=some ⟨ab,0,0⟩:=rfl;have d8:den (ae (sA R A ba cap ab bp l.length c l)) (.sy 8)=some (.int .i64 c):=aj (i:=7) rfl (ax _ _);have nv:aP (ae (sA R A ba cap ab bp l.length c l)) ([Ob.pq,.i .i64 0]++di 87) (A::.int .i64 0::(List.range 87).map fun j=>bn.getD (j+2) undef):=
  ad ((s.yx l.length c (l.getD 0 z4)).mono low) (ad (by rw[Rv]) (fX 87 _ (by rw[gp,ot]) fun V hV=>by
   obtain⟨j,hj,rfl⟩:=bU.1 hV;exact Bj j (List.mem_range.1 hj)))
 have hr:HR (ae (sA R A ba cap ab bp l.length c l)) (W6 ao) 31 w:=by
  refine cX (C:=sA R A ba cap ab bp l.length c l) rfl (show 30<=31 from by decide) (.append (l:=[AO.gone,.gone,.gone,.gone,.gone,ao]) ⟨trivial,trivial,trivial,trivial,trivial,nQ.wide bA,trivial⟩ (.append (.dead _ _ fun a ha=>by obtain⟨_,_,rfl⟩:=bU.1 ha;rfl) ⟨?_,?_,trivial⟩)) (fun L hL=>?_) ?_
  ·exact⟨mJ ab c,⟨ab,0,0⟩,c,e29,e6,d8,by have:=ra.le;omega,rfl,by show(if c=1 then 0 else 4)=0+(if c=1 then 0 else 4);rw[Nat.zero_add],rfl⟩
  ·refine⟨⟨bp,0,0⟩,bn,124,jX,yP,by show 0+89<=_;omega,nV.gJ _ _ _ _ _,fun j hj=>?_⟩
   have:=ef 89 _ _ nv j hj;rw[show(0:Nat)+j=j by omega];have e:(A::Value.int .i64 0::(List.range 87).map fun j=>bn.getD (j+2) undef).getD j undef=bn.getD j undef:=by
    match j,hj with
    |0,_=>exact wY.symm
    |1,_=>exact yQ.symm
    |j+2,hj=>exact eQ bn 87 j (by omega)
   rw[←e];exact this
  ·have s0:∀V,(aw V).aH<w.heap.size:=fun V=>by rw[bH];omega
   unfold sA sB at hL;simp only[List.mem_append,bU] at hL;rcases hL with(hL|⟨_,_,rfl⟩)|hL
   ·simp only[mcQ,mnQ,or_false] at hL
    rcases hL with rfl|rfl|rfl|rfl|rfl|rfl|rfl|rfl<;>first|exact s0 _|assumption|(split<;>exact ux)
   ·exact s0 _
   ·simp only[mcQ,mnQ,or_false] at hL
    rcases hL with rfl|rfl|rfl|rfl|rfl|rfl|rfl|rfl|rfl|rfl<;>first|exact s0 _|assumption|exact yR
  ·have cR:=s.KM
   show(if ao.live then ab::[bp] else[bp]).Nodup;rw[if_pos oU];simp[cR]
 have cG:bM (W6 ao)=30:=bX _ _;refine⟨hr,⟨low,nrQ _,fun k hk=>?_⟩,?_,cG⟩
 ·have qR:=uW s hk
  refine⟨rfl,qR.1,fun i L hl hL e=>?_⟩;obtain⟨j,b,rfl,h1,h2⟩:=bT (a:=.gone) hl;rcases H5 h1 h2 with⟨rfl,_⟩|rfl
  ·have:ae (sA R A ba cap ab bp l.length c l) 6=some L:=hL
   rw[e6] at this;cases this;exact qR.2.2 e.symm
  ·have:ae (sA R A ba cap ab bp l.length c l) 30=some L:=hL
   rw[jX] at this;cases this;exact qR.2.1 e.symm
 ·rintro k ⟨i,L,a1,a2,a3,rfl⟩
  rw[cG] at a1;obtain⟨j,b,rfl,h1,h2⟩:=bT (a:=.gone) a2;rcases H5 h1 h2 with⟨rfl,_⟩|rfl
  ·exact absurd a1 (by decide)
  ·have:ae (sA R A ba cap ab bp l.length c l) 30=some L:=a3
   rw[jX] at this;cases this;rfl
theorem K3[JC](xy:tl+1=l.length)(Cr:(l.getD 0 z4).ok)(Bt:pZ (gA m)=true)(jg:Rv (ae (lU R A ba cap ab bp l.length c (l.getD 0 z4))) (gA m) S)
  (st:Vx.St [] E regs h nx nt a w') (ci:jh (· =bp) w 30 (Za R A ba cap ab bp c l tl m T0) E h w') (hk:SU m regs h=true):
  ∃b1 b2 b4,nE w bp ab A S (l.getD 0 z4) nt b1 b2 b4 c tl 0 0 a w':=by
 unfold SU at hk;obtain⟨k0,hk⟩:=aa hk;have qW:(ae (sA R A ba cap ab bp l.length c l)).le E:=by
  rcases ci.z E h (Env.le_refl _) (fun _ _=>rfl) with⟨z,_⟩|⟨_,_,_,_,_,z,_⟩
  ·exact z
  ·exfalso
   rcases z with⟨_,z,_⟩|⟨_,_,_,_,_,_,z,_⟩<;>(rw[z] at k0;cases k0)
 have low:(ae (lU R A ba cap ab bp l.length c (l.getD 0 z4))).le (ae (sA R A ba cap ab bp l.length c l)):=Env.le_trans qB bA;have hle:=Env.le_trans low qW;have e29:ae (sA R A ba cap ab bp l.length c l) 29=some (mJ ab c):=rfl;have jX:E 30=some ⟨bp,0,0⟩:=qW 30 _ rfl;have d7:den (ae (sA R A ba cap ab bp l.length c l)) (.sy 7)=some (.int .i64 l.length):=aj (i:=6) rfl (ax _ _);have d9:∀i' V,(l.getD 0 z4).cells[i']? =some V->den (ae (lU R A ba cap ab bp l.length c (l.getD 0 z4))) (.sy (9+i'))=some V:=Pc (q:=8) (lt4 rfl rfl rfl rfl);have hal:=s.al;have dT:den (ae (sA R A ba cap ab bp l.length c l)) (.cD 5 (.sy 7) (.li .i64 1))=some (.int .i64 tl):=by
  have:=Xe d7 (by omega) (by omega);rw[show l.length-1=tl by omega] at this;exact this
 obtain⟨k1,k5⟩:=aa hk;obtain⟨k1,k2⟩:=aa k1;obtain⟨k2,k3⟩:=aa k2;obtain⟨k3,k4⟩:=aa k3;have rC:aP (ae (sA R A ba cap ab bp l.length c l)) [.p 30 0,gA m] [.pointer (some ⟨bp,0,none⟩),S]:=ad (by rw[Rv];exact⟨⟨bp,0,0⟩,rfl,rfl⟩) (ad (jg.mono low) aF);obtain⟨L1,KQ,z1,v1,x1⟩:=eB st.heap qW k2 (by show bc (pZ (.p 30 0)) (F0 [gA m]) false=true;show bc true (bc (pZ (gA m)) true false) false=true;rw[Bt];rfl) rC;obtain⟨L2,Cp,z2,v2,x2⟩:=eB st.heap hle k3 (by rfl) (iM Cr d9);obtain⟨L4,KR,z4',v4,x4⟩:=eB st.heap qW k4 (by rfl) (eZ (E:=ae (sA R A ba cap ab bp l.length c l)));obtain⟨v,V,hv,rv,want,Cu⟩:=ik st.heap hle k5 jX (s.yx l.length c (l.getD 0 z4));have hV:V=.int .i64 (0:Nat):=by
  rw[bV hv,Rv] at rv;exact rv
 subst hV;have wg:(T.get .gone h 30).live=true:=by
  unfold iP at k5;split at k5
  ·rename_i q;rw[q];rfl
  ·cases k5
 have KS:∀{x:Nat}{M:aZ},31<=x->(T.get .gone h x).live=true->E x=some M->w.heap.size<=M.aH:=fun {x M} hx hl hM=>by
  rcases gC M.aH w.heap.size with cL|ll
  ·exfalso
   have:=ci.iq M.aH cL ⟨x,M,by rw[ci.bM];omega,hl,hM,rfl⟩;have:=st.heap.inj x 30 M ⟨bp,0,0⟩ hl wg hM jX this;omega
  ·exact ll
 have cR:∀{x y:Nat}{M N:aZ},x≠y->(T.get .gone h x).live=true->(T.get .gone h y).live=true->E x=some M->E y=some N->M.aH≠N.aH:=fun {x y M N} hxy h1 h2 e1 e2 e=>hxy (st.heap.inj x y M N h1 h2 e1 e2 e)
 have ptr:∀{t p:Nat}{M:aZ},T.get .no regs t=.p p 0->E p=some M->M.base=0->a.tmps.getD t undef=.pointer (some ⟨M.aH,0,none⟩):=fun {t p M} e eM hb=>by
  have rr:=st.regs t;rw[e,Rv] at rr;obtain⟨N,eN,rr⟩:=rr;rw[eM] at eN;cases eN;rw[rr,hb]
 refine⟨L1.aH,L2.aH,L4.aH,{r1:=ptr (cK k1 1 _ (by simp)) KQ z1,r2:=ptr (cK k1 2 _ (by simp)) KR z4',r3:=ptr (cK k1 3 _ (by simp)) Cp z2,Zn:=?_,Zo:=?_,Vp:=?_,size:=st.size,defers:=st.defers,bJ:=ci.bJ.one,lq:=x1,nD:=x2,sG:=x4,pl:=⟨want,Cu⟩,qe:=KS (by decide) v1 KQ,re:=KS (by decide) v2 Cp,oW:=KS (by decide) v4 KR,xl:=cR (by decide) v1 v2 KQ Cp,nS:=cR (by decide) v1 v4 KQ KR,qV:=cR (by decide) v2 v4 Cp KR,il:=nzQ _,wj:=by omega,dl:=nzQ _}⟩
 ·exact bq s st qW k1 (t:=18) (v:=.sz 29 (.cD 5 (.sy 7) (.li .i64 1))) (by simp) rfl (uV e29 dT (by omega))
 ·exact bq s st qW k1 (t:=19) (v:=.x (.i .i64) (.cD 5 (.sy 7) (.li .i64 1))) (by simp) rfl (fK dT (by omega))
 ·exact bq s st qW k1 (t:=20) (v:=.i .i64 0) (by simp) rfl (by rw[Rv];rfl)
theorem asLaw{cd cc:Code}{g:FuncId}(mP:P.funcs[g]? =some fn)(hb:fn.body=some cd)(hc:aS cd=[cl])(qZ:aS cl=[cc])(hci:aS cc=[])(hk:asT fn m=true)(ra:Pb w ab S l c)(xy:tl+1=l.length)(h8:∀v∈l,v.k<=8)(Bt:pZ (gA m)=true)
  (nQ:RO (ae (sB R A ba cap ab bp l.length c l)) w 6 (ij m)) (iR:(ij m).live=true) (jg:Rv (ae (lU R A ba cap ab bp l.length c (l.getD 0 z4))) (gA m) S) (hF:Holds (ae (lU R A ba cap ab bp l.length c (l.getD 0 z4))) (fF m++(kF (oA 0)++f2))):
  Calls P g #[.agg #[.pointer (some ⟨bp,0,none⟩),S]] w fun e w'=>∃V,e=.returned V∧dH (· =bp) w w'∧cU R w.heap.size bp V w' (ev R (TO (l.drop 1) 0)):=by
 letI J:JC:=KJ (ae (lU R A ba cap ab bp l.length c (l.getD 0 z4))) w (cg ba R)
 have X:=s.H4 l.length c (l.getD 0 z4);have aQ:bj P c2:=yq X;have cE:fz P qD:=ep mixed dv c2 aQ;have low:(ae (lU R A ba cap ab bp l.length c (l.getD 0 z4))).le (ae (sA R A ba cap ab bp l.length c l)):=Env.le_trans qB bA;have nR:∀i,(l.getD i z4).ok:=fun i=>by
  rw[cB];cases hj:l[i]? with
  |none=>exact ow
  |some v=>exact s.P7 v (gq hj)
 obtain⟨Ci,AI,qa,cG⟩:=St.beginA s ra (by omega) nQ iR;have hk:bc (Nat.ble 1 fn.ntmps) (bQ ((.cmp .leq (.sy 7) (.sy 8),true)::(fF m++(kF (oA 0)++f2))) (W6 (ij m)) fun h=>zj P c2 XT qD fn.ntmps (Jo fn cl cc m) cd (nB P fn SV) (fun _=>fj) (nB P fn SV) (gw [.ag [.p 30 0,gA m]] fc 0) h 31) false=true:=by
  unfold asT at hk;rw[hb] at hk;dsimp only at hk;rw[hc] at hk;dsimp only at hk;rw[qZ] at hk;dsimp only at hk;rw[hci] at hk;exact hk
 obtain⟨hle,hk⟩:=aa hk;have d7:den (ae (sA R A ba cap ab bp l.length c l)) (.sy 7)=some (.int .i64 l.length):=aj (i:=6) rfl (ax _ _);have d8:den (ae (sA R A ba cap ab bp l.length c l)) (.sy 8)=some (.int .i64 c):=aj (i:=7) rfl (ax _ _);obtain⟨h1,he,fw,fk⟩:=bZ hk Ci (ah ((gu d7 d8).trans (by rw[eX ra.le])) (Holds.wide low hF));have rarg:aP (ae (sA R A ba cap ab bp l.length c l)) [.ag [.p 30 0,gA m]] (#[.agg #[.pointer (some ⟨bp,0,none⟩),S]]:Array Value).toList:=
  ad (by rw[Rv];exact⟨[.pointer (some ⟨bp,0,none⟩),S],rfl,ad (by rw[Rv];exact⟨⟨bp,0,0⟩,rfl,rfl⟩) (ad (jg.mono low) aF)⟩) aF
 refine SD aQ dv cE (ok:=(· =bp)) (F:=30) (Z:=Za R A ba cap ab bp c l tl m (TO (l.drop 1) 0)) mP hb rarg (aU hle) fw (bL.fk AI fk) ⟨dH.refl _ _,fun k hk hf=>qa k (fk.goes.CE (w:=w) k hk hf),fk.bM.trans cG,fun E' h' yL oN=>.inl ⟨yL,?_⟩⟩ (fun lc hl kn kx E regs h aq a w1 hJ st ci=>?_) he fun E h n' w' v V cO gQ ci rv hf=>?_
 ·rw[oN 21 (by decide),fk.same 21 (.inr (.inr (.inl (by rw[cG];decide))))]
  exact Te _
 ·rw[hc] at hl
  obtain rfl:lc=cl:=by simpa using hl
  unfold Jo at hJ;obtain⟨j1,hJ⟩:=aa hJ;obtain⟨jA,hJ⟩:=aa hJ;obtain⟨jA2,jB⟩:=aa hJ;obtain⟨b1,b2,b4,hd⟩:=K3 s xy (nR 0) Bt jg st ci j1;refine wp_loop_rounds (tl-0+1) ?_;exact loopO s qZ hci ra xy (nR 0) h8 jg hF jA jA2 jB _ 0 0 a w1 rfl hd rfl
 ·have uz:=aD cO
  unfold SV at hf;have na:(match T.get .gone h 21 with
   |.gone=>false
   |_=>bc (Bw h) (bc (Nat.beq (cr (au h) Dr) 2) (jr 25 (au h) (dQ 25 30 v h) F1) false) (pick (cr (au h) (.cmp .leq (.sy 24) (.sy 25))) (dQ 29 30 v h .done) (bc (Nat.beq (cr (au h) (.cmp .leq (.sy 13) (.li .u8 5))) 2) (jr 29 (au h) (dQ 29 30 v h) T1a) false)))=true:=by
   unfold qC at hf;split at hf
   ·exact hf
   ·cases hf
  rcases ci.z E h (Env.le_refl _) (fun _ _=>rfl) with⟨_,hg⟩|⟨b1,b2,b4,i,d,z,hR,uy,hd42⟩
  ·rw[hg] at na;cases na
  ·rcases z with⟨z,hg,Cv⟩|⟨b3,K,ks,j,d',z,hg,Cv,hRI,y8,kz,qw⟩
   ·rw[hg] at na
    have na:bc (Bw h) _ _=true:=na;rw[Na Cv] at na;have na:pick (cr (au h) (.cmp .leq (.sy 24) (.sy 25))) (dQ 29 30 v h .done) (bc (Nat.beq (cr (au h) (.cmp .leq (.sy 13) (.li .u8 5))) 2) (jr 29 (au h) (dQ 29 30 v h) T1a) false)=true:=na;have jW:=Env.le_trans (qO (v1:=l.getD (i+1) z4) (b1:=b1) (b2:=b2) (b4:=b4) (tl:=tl) (i:=i) (d:=d)) z;have d24:den E (.sy 24)=some (.int .i64 tl):=an z _ _ (aj (i:=23) rfl (ax _ _));have d25:den E (.sy 25)=some (.int .i64 i):=an z _ _ (aj (i:=24) rfl (ax _ _));have d29:den E (.sy 29)=some (.int .i64 d):=an z _ _ (aj (i:=28) rfl (ax _ _));have d13:den E (.sy 13)=some (.int .u8 (l.getD (i+1) z4).k):=an z _ _ (aj (i:=12) rfl (ax _ _));have hp:∀m,m<100->den E (ji 29 m)=some (.int .i64 (d+m:Nat)):=fY d29 (by omega);rcases iu na with⟨h4,h5⟩|⟨h4,h5⟩
    ·have hi:tl<=i:=gD ((aX uz (gu d24 d25)).1 h4)
     have hdr:l.drop (i+1)=[]:=List.drop_eq_nil_of_le (by omega);rw[hR,hdr];exact eY X jW cO ci (z 30 _ rfl) hp rv h5
    ·have hi:i<tl:=by have:=of_decide_eq_false ((aX uz (gu d24 d25)).2 h4);omega
     obtain⟨h6,h7⟩:=aa h5;have hk5:5<(l.getD (i+1) z4).k:=by
      have:=of_decide_eq_false ((aX uz (az d13)).2 (Nat.le_of_eq (aN h6).symm));omega
     have hv:l[i+1]? =some (l.getD (i+1) z4):=by rw[cB,cN (by omega)];rfl
     obtain⟨lf,dh,rj⟩:=jj X jW hp uz h7;have:=eY X jW cO ci (z 30 _ rfl) hp rv dh;rw[hR,Nb hv,Zm hk5,rj];cases lf with
     |go q=>cases dh
     |_=>exact this
   ·rw[hg] at na
    have na:bc (Bw h) _ _=true:=na;rw[Bz Cv] at na;have na:bc (Nat.beq (cr (au h) Dr) 2) (jr 25 (au h) (dQ 25 30 v h) F1) false=true:=na;obtain⟨h6,h7⟩:=aa na;have jW:=Env.le_trans (qI (v1:=l.getD (i+1) z4) (b1:=b1) (b2:=b2) (b3:=b3) (b4:=b4) (tl:=tl) (i:=i) (K:=K) (ks:=ks) (j:=j) (d:=d')) z;have d23:den E (.sy 23)=some (.int .i64 j):=an z _ _ (aj (i:=22) rfl (ax _ _));have d25:den E (.sy 25)=some (.int .i64 d'):=an z _ _ (aj (i:=24) rfl (ax _ _));have d27:den E (.sy 27)=some (.int .i64 (aG (aA ks))):=an z _ _ (aj (i:=26) rfl (ax _ _));have dl:den E (.fn 20 (.sy 27))=some (.int .i64 ks.length):=by rw[bC d27];unfold aA;rw[gp]
    have hj:j<ks.length:=by
     have:=of_decide_eq_false ((aX uz (gu dl d23)).2 (Nat.le_of_eq (aN h6).symm));omega
    have hp:∀m,m<100->den E (ji 25 m)=some (.int .i64 (d'+m:Nat)):=fY d25 (by omega);obtain⟨lf,dh,rj⟩:=jj X jW hp uz h7;have:=eY X jW cO ci (z 30 _ rfl) hp rv dh;obtain⟨am,x,hx,hxk,h1⟩:=hRI.at hj kz;rw[h1,rj];cases lf with
    |go q=>cases dh
    |_=>exact this
theorem St.formsA(h1:1<=l.length)(hq:Cq l (oA 0)):∃m c,(m=1∨m=2∨m=3)∧Pb w ab S l c∧RO (ae (sB R A ba cap ab bp l.length c l)) w 6 (ij m)∧(ij m).live=true∧Rv (ae (lU R A ba cap ab bp l.length c (l.getD 0 z4))) (gA m) S∧Holds (ae (lU R A ba cap ab bp l.length c (l.getD 0 z4))) (fF m++(kF (oA 0)++f2)):=by
 rcases s.args with⟨rfl,rfl⟩|⟨arr,el,fr,c,rfl,hb,cC,hc,P'⟩
 ·exact absurd h1 (by decide)
 ·have hm:∃m,(m=1∨m=2∨m=3)∧m<=l.length∧(m<3->m=l.length):=by
   rcases gC l.length 3 with h3|h3
   ·exact⟨l.length,by omega,by omega,fun _=>rfl⟩
   ·exact⟨3,by omega,by omega,fun h=>by omega⟩
  obtain⟨m,m3,ml,mm⟩:=hm;have al:=s.al;have hR:=s.len;have d2:den (ae (lU R A ba cap ab bp l.length c (l.getD 0 z4))) (.sy 2)=some (.int .i64 R.length):=aj (i:=1) rfl (ax _ _);have dl:den (ae (lU R A ba cap ab bp l.length c (l.getD 0 z4))) (.sy 7)=some (.int .i64 l.length):=aj (i:=6) rfl (ax _ _);have dc:den (ae (lU R A ba cap ab bp l.length c (l.getD 0 z4))) (.sy 8)=some (.int .i64 c):=aj (i:=7) rfl (ax _ _);have d9:den (ae (lU R A ba cap ab bp l.length c (l.getD 0 z4))) (.sy 9)=some (.int .u8 (l.getD 0 z4).k):=aj (i:=8) rfl (ax _ _);have e1:gA m=slN m:=by unfold gA;split<;>first|omega|rfl
  have e2:ij m=aoN m:=by unfold ij;split<;>first|omega|rfl
  have e3:fF m=fN m:=by unfold fF;split<;>first|omega|rfl
  refine⟨m,c,m3,⟨rfl,⟨arr,el,fr,hb,cC,hc⟩,P'⟩,?_⟩;rw[e1,e2,e3];refine⟨?_,rfl,?_,?_⟩
  ·have hv:=s.Zj l.length c al m (by omega) ml
   refine⟨⟨ab,0,0⟩,arr,el,fr,rfl,fun h=>absurd h (by decide),hb,by show 0+4*m<=_;omega,fun j hj=>?_,qL.vb (by decide)⟩;refine jf (g:=fun j=>arr.getD (0+j) undef) _ _ _ (fun i a hi=>?_) (fun i=>by rw[nw];simp[Rv]) j
   obtain⟨V,h1,h2,h3⟩:=hv i a hi;have cL:i/4<l.length:=by omega
   have e:arr.getD (0+(0+i)) undef=V:=by
    have hg:l[i/4]? =some (l.getD (i/4) z4):=by rw[cB,cN cL];rfl
    have:=hc (i/4) _ hg (i%4) (by omega);rw[show 4*(i/4)+i%4=0+(0+i) by omega] at this;rw[this,cB,h1];rfl
   rw[e];exact h2
  ·unfold slN
   rw[Rv];exact⟨⟨ab,0,0⟩,l.length,c,rfl,dl,dc,ml,by omega,rfl⟩
  ·refine aJ ?_ (aJ ?_ (ah ((az d2).trans (by rw[eX (by omega)])) holds_nil))
   ·rcases m3 with rfl|rfl|rfl
    ·exact ah ((az dl).trans (by rw[eX (by have:=mm (by decide);omega)])) (ah ((az dl).trans (by rw[gM (by have:=mm (by decide);omega)])) holds_nil)
    ·exact ah ((az dl).trans (by rw[eX (by have:=mm (by decide);omega)])) (ah ((az dl).trans (by rw[gM (by have:=mm (by decide);omega)])) holds_nil)
    ·exact ah ((az dl).trans (by rw[gM (by omega)])) holds_nil
   ·have q1:=(hq (0,5,false) (by unfold oA;simp)).2
    have q2:=(hq (0,8,true) (by unfold oA;simp)).2;exact ah ((az d9).trans (by rw[←q1];rfl)) (ah ((az d9).trans (by rw[←q2];rfl)) holds_nil)
end
def Fp(b:Option Code):Bool:=match b with
 |some c=>(match aS c with
  |[cl]=>(match aS cl with
   |[ci]=>(match aS ci with
    |[]=>true
    |_=>false)
   |_=>false)
  |_=>false)
 |none=>false
theorem K4{b:Option Code}(h:Fp b=true):∃c cl ci,b=some c∧aS c=[cl]∧aS cl=[ci]∧aS ci=[]:=by
 unfold Fp at h;split at h
 ·rename_i c
  split at h
  ·rename_i cl hc
   split at h
   ·rename_i ci hn
    split at h
    ·rename_i hz;exact⟨c,cl,ci,rfl,hc,hn,hz⟩
    ·cases h
   ·cases h
  ·cases h
 ·cases h
theorem b88:Fp Tryz.f88.body=true:=by kernel_rfl
theorem c88a:asT Tryz.f88 1=true:=by kernel_rfl
theorem c88b:asT Tryz.f88 2=true:=by kernel_rfl
theorem c88c:asT Tryz.f88 3=true:=by kernel_rfl
theorem c88d:qd 88 0 (pA 0) te=true:=by kernel_rfl
theorem run88:iN 88 nR:=fun l h8=>by
 rcases ig 5 (l.getD 0 z4).k with h|h
 ·obtain⟨cd,cl,cc,hb,hc,qZ,hci⟩:=K4 b88
  have mP:P.funcs[(88:Nat)]? =some Tryz.f88:=Tryz.func88;have h1:1<=l.length:=fJ (by omega);refine⟨TO (l.drop 1) 0,Fl _ _,fun {w bp ba cap ab R A S} s=>?_⟩;obtain⟨m,c,hm,ra,nQ,iR,jg,hF⟩:=St.formsA s h1 (ic h8 (by decide) h);have hk:asT Tryz.f88 m=true:=by
   rcases hm with rfl|rfl|rfl
   ·exact c88a
   ·exact c88b
   ·exact c88c
  refine(asLaw s (tl:=l.length-1) mP hb hc qZ hci hk ra (by omega) h8 (Bu m (by omega)) nQ iR jg hF).mono ?_;rintro e w' ⟨V,rfl,h1,h2⟩;exact⟨V,rfl,h1.one,h2⟩
 ·exact iO c88d rfl (nzQ _) (by decide) (kC (by decide) h)
end
end Go.Proofs.YtngagklmbbogiaaGreatDoor.Ob
