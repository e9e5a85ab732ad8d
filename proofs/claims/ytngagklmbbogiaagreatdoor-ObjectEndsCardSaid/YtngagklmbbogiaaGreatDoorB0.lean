/- Parts of one proof (Ob1 to Ob7). No condition. -/
import Derived.Test.YtngagklmbbogiaaGreatDoorA7
set_option linter.all false
namespace Go.Proofs.YtngagklmbbogiaaGreatDoor.Ob
open Go Go.RowKit Vx
set_option maxRecDepth 100000
noncomputable section
abbrev P:Program:=Tryz.prog
structure V4 where
 k:Int
 x:Nat
 s:ByteArray
 r:Int
def V4.cells(v:V4):List Value:=[.int .u8 v.k,.float .f64 v.x,.string v.s,.int .i64 v.r]
structure V4.ok(v:V4):Prop where
 k:0<=v.k∧v.k<=255
 x:v.x<18446744073709551616
 s:(v.s.size:Int)<=9223372036854775807
 r: -9223372036854775808<=v.r∧v.r<=9223372036854775807
structure iB where
 k:Int
 v:V4
 b1:Bool
 b2:Bool
 has:Int
 d1:V4
 d2:V4
 d3:V4
 b3:Bool
 b4:Bool
 b5:Bool
 er:Int
 tx:ByteArray
def iB.cells(o:iB)(keys:Value):List Value:=.int .u8 o.k::o.v.cells++[.bool o.b1,.bool o.b2,.int .u8 o.has]++o.d1.cells++o.d2.cells++o.d3.cells++[.bool o.b3,.bool o.b4,.bool o.b5,keys,.int .u8 o.er,.string o.tx]
structure iB.ok(o:iB):Prop where
 k:0<=o.k∧o.k<=255
 v:o.v.ok
 has:0<=o.has∧o.has<=255
 d1:o.d1.ok
 d2:o.d2.ok
 d3:o.d3.ok
 er:0<=o.er∧o.er<=255
 tx:(o.tx.size:Int)<=9223372036854775807
def bI(b:Bool):Value:=.int .u8 (if b then 1 else 0)
def iB.syms(o:iB):List Value:=.int .u8 o.k::o.v.cells++[bI o.b1,bI o.b2,.int .u8 o.has]++o.d1.cells++o.d2.cells++o.d3.cells++[bI o.b3,bI o.b4,bI o.b5,.int .u8 o.er,.string o.tx]
theorem nq(o:iB):o.syms.length=25:=rfl
theorem gO(o:iB):∀V∈o.syms,jk V:=by
 intro V hV;simp only[iB.syms,V4.cells,bI,List.cons_append,List.nil_append,mcQ,mnQ,or_false] at hV;rcases hV with rfl|rfl|rfl|rfl|rfl|rfl|rfl|rfl|rfl|rfl|rfl|rfl|rfl|rfl|rfl|rfl|rfl|rfl|rfl|rfl|rfl|rfl|rfl|rfl|rfl<;>first|exact ax _ _|exact lN _|exact eV _
def yN(V:Value):Nat×Nat:=((aw V).base,(aw V).room)
theorem gz{V:Value}(h:jk V):ru (yN V)=V:=by
 have e:(⟨0,(aw V).base,(aw V).room⟩:aZ)=aw V:=by
  rw[←bH V]
 show oD ⟨0,(aw V).base,(aw V).room⟩=V;rw[e];exact pj h
abbrev Ky:=ByteArray×Int
def HL(k:Ky):List (Nat×Nat):=[yN (.string k.1),yN (.int .i64 k.2)]
def aA(l:List Ky):List (List (Nat×Nat)):=l.map HL
def fE(w:World)(K:Value)(l:List Ky):Prop:=(K=.slice none 0 0∧l=[])∨
 ∃(b off cap:Nat)(arr:Array Value)(el:TypeId)(fr:Nat×Nat),K=.slice (some ⟨b,off,none⟩) l.length cap∧w.heap[b]? =some (.cells arr el fr)∧off+2*l.length<=arr.size∧
  ∀j k,l[j]? =some k->arr.getD (off+2*j) undef=.string k.1∧arr.getD (off+(2*j+1)) undef=.int .i64 k.2
def ia(w:World)(K:Value)(l:List Ky):Prop:=fE w K l∨(l=[]∧∃a,K=.slice (some a) 0 0)
def HM(K:Value)(b:Nat):Prop:=∃off n c,K=.slice (some ⟨b,off,none⟩) n c∧¬(n=0∧c=0)
def fP(bp:Nat)(K:Value):aZ:=match K with
 |.slice (some a) 0 0=>⟨bp,tQ a,0⟩
 |.slice (some ⟨b,off,none⟩) _ c=>⟨b,off,c+1⟩
 |_=>⟨bp,0,0⟩
theorem ia.cases{w:World}{K:Value}{l:List Ky}(h:ia w K l):(K=.slice none 0 0∧l=[]∧∀bp,fP bp K=⟨bp,0,0⟩)∨(l=[]∧∃a,K=.slice (some a) 0 0∧∀bp,fP bp K=⟨bp,tQ a,0⟩)∨
  ∃(b off cap:Nat)(arr:Array Value)(el:TypeId)(fr:Nat×Nat),K=.slice (some ⟨b,off,none⟩) l.length cap∧w.heap[b]? =some (.cells arr el fr)∧off+2*l.length<=arr.size∧
   (∀j k,l[j]? =some k->arr.getD (off+2*j) undef=.string k.1∧arr.getD (off+(2*j+1)) undef=.int .i64 k.2)∧HM K b∧∀bp,fP bp K=⟨b,off,cap+1⟩:=by
 rcases h with(⟨rfl,rfl⟩|⟨b,off,cap,arr,el,fr,rfl,h2,h3,h4⟩)|⟨rfl,a,rfl⟩
 ·exact .inl ⟨rfl,rfl,fun _=>rfl⟩
 ·by_cases hz:l.length=0∧cap=0
  ·obtain⟨h5,rfl⟩:=hz
   obtain rfl:=List.eq_nil_of_length_eq_zero h5;exact .inr (.inl ⟨rfl,_,rfl,fun _=>rfl⟩)
  ·refine .inr (.inr ⟨b,off,cap,arr,el,fr,rfl,h2,h3,h4,⟨off,_,cap,rfl,hz⟩,fun bp=>?_⟩)
   unfold fP;split
   ·rename_i h;injection h with h1 h5 h6;exact absurd ⟨h5,h6⟩ hz
   ·rename_i h;injection h with h1 h5 h6;injection h1 with h1;injection h1 with h1 h7 h8
    rw[h1,h7,h6]
   ·rename_i h1 h;exact(h _ _ _ _ rfl).elim
 ·exact .inr (.inl ⟨rfl,a,rfl,fun _=>rfl⟩)
def vS(n:Nat):List AV:=[.x (.i .u8) (.sy n),.x .f (.sy (Nat.add n 1)),.x .s (.sy (Nat.add n 2)),.x (.i .i64) (.sy (Nat.add n 3))]
def bS(n:Nat):AV:=.x .b (.cmp .eql (.sy n) (.li .u8 1))
def je(q:Nat)(keys:AV):List AV:=.x (.i .u8) (.sy q)::vS (Nat.add q 1)++[bS (Nat.add q 5),bS (Nat.add q 6),.x (.i .u8) (.sy (Nat.add q 7))]++vS (Nat.add q 8)++vS (Nat.add q 12)++vS (Nat.add q 16)++
 [bS (Nat.add q 20),bS (Nat.add q 21),bS (Nat.add q 22),keys,.x (.i .u8) (.sy (Nat.add q 23)),.x .s (.sy (Nat.add q 24))]
theorem EY{E:Env}{n:Nat}{b:Bool}(d:den E (.sy n)=some (bI b)):Rv E (bS n) (.bool b):=by
 have:den E (.cmp .eql (.sy n) (.li .u8 1))=some (.bool b):=(bx (k:=.u8) (c:=1) d).trans (by cases b<;>rfl);unfold bS;rw[Rv];exact⟨this,b,rfl⟩
theorem aY{E:Env}:∀{a:List AV}{vs:List Value}{b:List AV}{us:List Value},aP E a vs->aP E b us->aP E (a++b) (vs++us)
 |[],vs,b,us,h,k=>by rw[aP] at h;subst h;exact k
 |v::a,vs,b,us,h,k=>by
  rw[aP] at h;obtain⟨x,xs,rfl,h1,h2⟩:=h;exact ad h1 (aY h2 k)
theorem iM{E:Env}{n:Nat}{v:V4}(ok:v.ok)(h:∀i V,v.cells[i]? =some V->den E (.sy (n+i))=some V):aP E (vS n) v.cells:=
 ad (by rw[Rv];exact⟨h 0 _ rfl,_,rfl,ok.k⟩) (ad (by rw[Rv];exact⟨h 1 _ rfl,_,rfl,ok.x⟩) (ad (by rw[Rv];exact⟨h 2 _ rfl,_,rfl,ok.s⟩) (ad (by rw[Rv];exact⟨h 3 _ rfl,_,rfl,ok.r⟩) aF)))
theorem uT{E:Env}{q:Nat}{o:iB}(ok:o.ok){ka:AV}{K:Value}(hk:Rv E ka K)(h:∀i V,o.syms[i]? =some V->den E (.sy (q+i))=some V):aP E (je q ka) (o.cells K):=by
 have two:∀(i:Nat)(v:V4),(∀j V,v.cells[j]? =some V->o.syms[i+j]? =some V)->∀j V,v.cells[j]? =some V->den E (.sy (Nat.add q i+j))=some V:=fun i v hv j V hj=>by
  have:=h (i+j) V (hv j V hj);rw[←Nat.add_assoc] at this;exact this
 have c4:∀{v:V4}{j:Nat}{V:Value},v.cells[j]? =some V->(j=0∧V=.int .u8 v.k)∨(j=1∧V=.float .f64 v.x)∨(j=2∧V=.string v.s)∨(j=3∧V=.int .i64 v.r):=fun {v j V} hj=>by
  match j,hj with
  |0,hj=>cases hj;exact .inl ⟨rfl,rfl⟩
  |1,hj=>cases hj;exact .inr (.inl ⟨rfl,rfl⟩)
  |2,hj=>cases hj;exact .inr (.inr (.inl ⟨rfl,rfl⟩))
  |3,hj=>cases hj;exact .inr (.inr (.inr ⟨rfl,rfl⟩))
  |j+4,hj=>cases hj
 refine aY (aY (aY (aY (aY (ad (by rw[Rv];exact⟨h 0 _ rfl,_,rfl,ok.k⟩) (iM ok.v (two 1 o.v fun j V hj=>?_))) ?_) (iM ok.d1 (two 8 o.d1 fun j V hj=>?_))) (iM ok.d2 (two 12 o.d2 fun j V hj=>?_))) (iM ok.d3 (two 16 o.d3 fun j V hj=>?_))) ?_
 ·rcases c4 hj with⟨rfl,rfl⟩|⟨rfl,rfl⟩|⟨rfl,rfl⟩|⟨rfl,rfl⟩<;>rfl
 ·exact ad (EY (h 5 _ rfl)) (ad (EY (h 6 _ rfl)) (ad (by rw[Rv];exact⟨h 7 _ rfl,_,rfl,ok.has⟩) aF))
 ·rcases c4 hj with⟨rfl,rfl⟩|⟨rfl,rfl⟩|⟨rfl,rfl⟩|⟨rfl,rfl⟩<;>rfl
 ·rcases c4 hj with⟨rfl,rfl⟩|⟨rfl,rfl⟩|⟨rfl,rfl⟩|⟨rfl,rfl⟩<;>rfl
 ·rcases c4 hj with⟨rfl,rfl⟩|⟨rfl,rfl⟩|⟨rfl,rfl⟩|⟨rfl,rfl⟩<;>rfl
 ·exact ad (EY (h 20 _ rfl)) (ad (EY (h 21 _ rfl)) (ad (EY (h 22 _ rfl)) (ad hk (ad (by rw[Rv];exact⟨h 23 _ rfl,_,rfl,ok.er⟩) (ad (by rw[Rv];exact⟨h 24 _ rfl,_,rfl,ok.tx⟩) aF)))))
theorem Sh:∃i0 z,Tryz.prog.info? 38=some i0∧i0.zero=some z∧i0.size=2∧z.cells.size=2∧i0.bytes<=1000:=by
 have e:(match Tryz.prog.info? 38 with
  |some i=>(match i.zero with
   |some z=>Nat.beq i.size 2&&(Nat.beq z.cells.size 2&&Nat.ble i.bytes 1000)
   |none=>false)
  |none=>false)=true:=by kernel_rfl
 cases h:Tryz.prog.info? 38 with
 |none=>rw[h] at e;cases e
 |some i=>
  rw[h] at e;dsimp only at e;cases hz:i.zero with
  |none=>rw[hz] at e;cases e
  |some z=>
   rw[hz] at e;simp only[Bool.and_eq_true] at e;exact⟨i,z,rfl,hz,aN e.1,aN e.2.1,aU e.2.2⟩
theorem Bh:ET P 180 1:=by
 obtain⟨i0,z,hi,hz,h2,WH,hby⟩:=Sh;refine⟨fun w=>(AnyE.slices_Clone_nil Tryz.Bg 0 0 w).mono fun e w'⟨h,hw⟩=>⟨h,by rw[hw];exact Below.refl _ _⟩,fun b off n c news w hl hn hc h1=>?_⟩;have hb:n*i0.bytes<=140737488355328:=by
  have:=Nat.mul_le_mul hn hby
  omega
 refine(AnyE.slices_Clone Tryz.Bg i0 z 2 i0.bytes hi hz h2 rfl WH (by decide) Tryz.sizeOf38 b off n c news w hl (by unfold maxLen;omega) hb hc h1).mono ?_;rintro e w' ⟨v',rfl,⟨_,hv⟩,yO,Vl⟩;rcases hv with⟨rfl,_⟩|⟨g,cap,cur,rfl,hg,pP,wQ,HJ,cC,uw⟩
 ·exact absurd rfl yO
 ·exact⟨⟨g,cap,cur,_,rfl,hg,pP,wQ,HJ,cC,uw⟩,Vl⟩
def S0:fV:=fun g=>match g with
 |180=>some uS
 |_=>none
theorem Si[JC]:fg P S0:=by
 intro g C hC;unfold S0 at hC;split at hC
 ·cases hC;exact po Bh
 ·cases hC
def c0:aO:=run S0 40
theorem iL[JC]:bj P c0:=eH Si 40
def ansT(m:Nat)(keys:AV):T AV:=gw (je 7 keys) fc (Nat.mul 26 m)
def di:Nat->List AV:=Nat.rec [] (fun _ ih=>.any::ih)
def HN(m:Nat)(ans:AV):AO:=.cells 89 ⟨0,some 124,true⟩ (fu ([ans,.i .i64 (Int.ofNat m)]++di 87) ⟨89,fZ⟩ 0)
def wH(m:Nat)(keys:AV)(kg:AO):Heap:=jq ([.gone,.gone,.glob 1000000 (Nat.mul 26 (Nat.succ m)) (ansT m keys),kg]++(List.range 27).map (fun _=>AO.gone)++[HN m (.sx 3 (Nat.succ m) (.sy 1) (.sy 2))]) 32
def kgS:AO:=.glob 3000051 0 fc
def O2:AV:=.sx 4 0 (.fn 20 (.sy 5)) (.sy 6)
def WI(m:Nat):aB:=[(.cmp .leq (.sy 1) (.li .i64 (Int.ofNat m)),false),(.cmp .leq (.fn 20 (.sy 5)) (.li .i64 1024),true)]
def Dl(m:Nat)(h:Heap):Bool:=match T.get .gone h 32 with
 |.cells 89 ⟨0,some 124,true⟩ c=>bc (MK (c.get 0) (.sx 3 (Nat.succ m) (.sy 1) (.sy 2))) (bc (cY (c.get 1) (.i .i64 (Int.ofNat (Nat.succ m)))) (cj ((List.range 87).map fun j=>c.get (Nat.add j 2))) false) false
 |_=>false
def MQ(nil:Bool)(v:AV)(h:Heap):Bool:=match v with
 |.ag l=>bc (Nat.beq l.length 26) (bc (cH (List.take 23 l) (List.take 23 (je 7 .sn))) (bc (cH (List.drop 24 l) (List.drop 24 (je 7 .sn))) (match cV l 23 with
  |.sn=>nil
  |.sx id _ (.fn 20 (.sy 5)) _=>bc nil false (match T.get .gone h id with
   |.glob 3000051 _ _=>bc (Nat.ble 33 id) (Nat.ble id 2999999) false
   |_=>false)
  |_=>false) false) false) false
 |_=>false
def Ew(h:Heap):Bool:=match T.get .gone h 33 with
 |.cells _ _ _=>true
 |_=>false
def yesR(m:Nat):Bool:=bQ (WI m) (wH m O2 kgS) fun h=>c0 120 [.p 32 0,.ag (di 87)] h 33 fun v h _=>bc (MQ false v h) (bc (Dl m h) (Ew h) false) false
def yesN(m:Nat):Bool:=bQ (WI m) (wH m .sn .gone) fun h=>c0 120 [.p 32 0,.ag (di 87)] h 33 fun v h _=>bc (MQ true v h) (bc (Dl m h) (Ew h) false) false
theorem yesAll:((List.range 40).all fun m=>yesR m)=true:=by kernel_rfl
theorem nilAll:((List.range 40).all fun m=>yesN m)=true:=by kernel_rfl
structure qS(b:Nat)(w w':World):Prop where
 size:w.heap.size<=w'.heap.size
 same:∀k,k<w.heap.size->k≠b->w'.heap[k]? =w.heap[k]?
 os:w'.os=w.os
 output:w'.output=w.output
 tape:w'.tape=w.tape
def dE(w:World)(bp:Nat)(A M:Value)(want:Nat->Value):Prop:=∃arr:Array Value,w.heap[bp]? =some (.cells arr 124 (0,0))∧89<=arr.size∧arr.getD 0 undef=A∧arr.getD 1 undef=M∧(∀j,j<87->(arr.getD (j+2) undef).oneCell'=true∧(arr.getD (j+2) undef).cells=#[arr.getD (j+2) undef])∧∀j,j<2->arr.getD (j+2) undef=want j
def Dm(w:World)(ba m:Nat)(o:iB)(K:Value):Prop:=∃(arr:Array Value)(el:TypeId)(fr:Nat×Nat),w.heap[ba]? =some (.cells arr el fr)∧26*(m+1)<=arr.size∧∀c,c<26->arr.getD (26*m+c) undef=(o.cells K).getD c undef
theorem fX{E:Env}:∀(n:Nat)(l:List Value),l.length=n->(∀V∈l,V.oneCell'=true∧V.cells=#[V])->aP E (di n) l
 |0,[],_,_=>aF
 |n+1,[],h,_=>by cases h
 |0,_::_,h,_=>by cases h
 |n+1,V::l,h,k=>by
  show aP E (.any::di n) (V::l);exact ad (by rw[Rv];exact k V List.mem_cons_self) (fX n l (by simpa using h) fun U hU=>k U (List.mem_cons_of_mem _ hU))
theorem Sj{E E':Env}(hle:E.le E'){o:iB}{K:Value}{l:List AV}{vs:List Value}(r0:aP E (je 7 .sn) (o.cells (.slice none 0 0)))(hl:l.length=26)(h1:cH (List.take 23 l) (List.take 23 (je 7 .sn))=true)
  (h2:cH (List.drop 24 l) (List.drop 24 (je 7 .sn))=true) (r:aP E' l vs) (hK:vs.getD 23 undef=K):vs=o.cells K:=by
 have e1:=bb h1;have e2:=bb h2;have t:=r.take 23;have d:=r.drop 24;rw[e1] at t;rw[e2] at d;have q1:=aP.exact hle _ _ _ (by rfl) (r0.take 23) t;have q2:=aP.exact hle _ _ _ (by rfl) (r0.drop 24) d;have hv:vs.length=26:=by rw[r.length,hl]
 have e3:vs=vs.take 23++(vs.getD 23 undef::vs.drop 24):=by
  have WJ:23<vs.length:=by omega
  have:vs.drop 23=vs.getD 23 undef::vs.drop 24:=by
   rw[List.drop_eq_getElem_cons WJ,cB,cN WJ];rfl
  rw[←this,List.take_append_drop]
 rw[e3,q1,q2,hK];rfl
theorem bC{E:Env}{S:Nat}{R:List (List (Nat×Nat))}(d:den E (.sy S)=some (.int .i64 (aG R))):den E (.fn 20 (.sy S))=some (.int .i64 R.length):=by
 have e1:den E (.fn 20 (.sy S))=FW 20 (.int .i64 (aG R)):=by
  show(match den E (.sy S) with|some V=>FW 20 V|_=>none)=_;rw[d]
 rw[e1,MN,Int.toNat_natCast,u']
theorem ns{l:List Ky}{j:Nat}{k:Ky}(h:l[j]? =some k):(aA l)[j]? =some (HL k):=by
 unfold aA;rw[fL,h];rfl
theorem MR{E:Env}{w:World}{id:Nat}{S c:Nat}{t:T AV}{cp:SE}{l:List Ky}{m:Nat}{K:Value}(dU:RO E w id (.glob (3000000+10*S+1) c t))(hid:id<3000000)(hS:S<=99998)(d:den E (.sy S)=some (.int .i64 (aG (aA l))))(r:Rv E (.sx id m (.fn 20 (.sy S)) cp) K):
  fE w K l∧∃L,E id=some L∧∃n c,K=.slice (some ⟨L.aH,L.base,none⟩) n c:=by
 obtain⟨L,arr,el,fr,eL,_,hb,_,_,ht⟩:=dU;rw[Rv] at r;obtain⟨L',n,c,qM,dn,dc,_,_,rfl⟩:=r;rw[eL] at qM;cases qM;obtain⟨R,dR,cC,hlen,CU⟩:=ht.2.1 ⟨by omega,by omega,by omega⟩;have eS:(3000000+10*S+1-3000000)/10=S:=by omega
 have eP:Jh ((3000000+10*S+1)%10)=2:=by rw[show(3000000+10*S+1)%10=1 by omega];rfl
 rw[eS,d] at dR;rw[eP] at cC hlen CU;have eR:aA l=R:=by
  injection dR with dR;injection dR with _ dR
  exact oZ (by exact_mod_cast dR)
 subst eR;have hl:(aA l).length=l.length:=by unfold aA;rw[gp]
 rw[bC d] at dn;have en:n=l.length:=by
  injection dn with dn;injection dn with _ dn
  rw[hl] at dn;omega
 subst en;rw[hl] at cC;refine⟨.inr ⟨L.aH,L.base,c,arr,el,fr,rfl,hb,cC,fun j k hj=>?_⟩,L,eL,_,_,rfl⟩;have h0:=CU j (HL k) (ns hj) 0 (yN (.string k.1)) rfl;have h1:=CU j (HL k) (ns hj) 1 (yN (.int .i64 k.2)) rfl;rw[gz (eV _)] at h0;rw[gz (ax _ _)] at h1;exact⟨h0,h1⟩
theorem nu{E:Env}{id S b off:Nat}{l:List Ky}{arr:Array Value}(hS:S<=99998)(d:den E (.sy S)=some (.int .i64 (aG (aA l))))(cC:off+2*l.length<=arr.size)
  (hc:∀j k,l[j]? =some k->arr.getD (off+2*j) undef=.string k.1∧arr.getD (off+(2*j+1)) undef=.int .i64 k.2) (room:Nat) (dU:room=0->off=0):qL E id (3000000+10*S+1) ⟨b,off,room⟩ arr:=by
 have eS:(3000000+10*S+1-3000000)/10=S:=by omega
 have eP:Jh ((3000000+10*S+1)%10)=2:=by rw[show(3000000+10*S+1)%10=1 by omega];rfl
 refine⟨fun h=>absurd h.2.1 (by omega),fun _=>?_,fun h=>absurd h.1 (by omega)⟩;rw[eS,eP];have hl:(aA l).length=l.length:=by unfold aA;rw[gp]
 refine⟨aA l,d,by rw[hl];exact cC,⟨fun r hr=>?_,dU⟩,fun j r hj c p hp=>?_⟩
 ·unfold aA at hr
  obtain⟨k,_,rfl⟩:=bU.1 hr;rfl
 ·unfold aA at hj
  rw[fL] at hj;cases hk:l[j]? with
  |none=>rw[hk] at hj;cases hj
  |some k=>
   rw[hk] at hj;cases hj
   obtain⟨h0,h1⟩:=hc j k hk;match c,hp with
   |0,hp=>cases hp;rw[gz (eV _)];exact h0
   |1,hp=>cases hp;rw[gz (ax _ _)];exact h1
   |c+2,hp=>cases hp
def wC(N C ba kb koff kc bp:Nat)(ks:List Ky)(o:iB):List aZ:=[aw (.int .i64 N),aw (.int .i64 C),⟨ba,0,0⟩,⟨kb,koff,1⟩,aw (.int .i64 (aG (aA ks))),aw (.int .i64 kc)]++o.syms.map aw++[⟨bp,0,0⟩]
section
variable{N C ba kb koff kc bp:Nat}{ks:List Ky}{o:iB}
theorem wC_len:(wC N C ba kb koff kc bp ks o).length=32:=rfl
theorem Sk(i:Nat)(V:Value)(h:o.syms[i]? =some V):den (ae (wC N C ba kb koff kc bp ks o)) (.sy (7+i))=some V:=by
 have hi:i<25:=by have:=(bR.1 h).1;rw[nq] at this;exact this
 rw[show 7+i=(6+i)+1 by omega];refine aj ?_ (gO o V (gq h));unfold wC;rw[iA (by simp[nq];omega),zE (by simp)];show(o.syms.map aw)[6+i-6]? =_;rw[show 6+i-6=i by omega];rw[fL,h];rfl
theorem wC_blk{w:World}(h1:ba<w.heap.size)(h2:kb<w.heap.size)(h3:bp<w.heap.size):∀L∈wC N C ba kb koff kc bp ks o,L.aH<w.heap.size:=by
 intro L hL;have s0:∀V,(aw V).aH<w.heap.size:=fun V=>by rw[bH];omega
 unfold wC at hL;simp only[List.cons_append,List.nil_append,mcQ,List.mem_append,bU,mnQ,or_false] at hL;rcases hL with rfl|rfl|rfl|rfl|rfl|rfl|⟨V,_,rfl⟩|rfl<;>first|exact s0 _|assumption
end
theorem bT{l:List AO}{F i:Nat}{a:AO}(hl:(T.get .gone (jq l F) i).live=true):∃j b,i=j+1∧l[j]? =some b∧b.live=true:=by
 cases i with
 |zero=>rw[xd] at hl;cases hl
 |succ j=>
  rcases ss l F j with q|⟨b,h1,h2⟩
  ·rw[q] at hl;cases hl
  ·rw[h2] at hl;exact⟨j,b,rfl,h1,hl⟩
theorem eQ(arr:Array Value)(n:Nat)(j:Nat)(hj:j<n):((List.range n).map fun j=>arr.getD (j+2) undef).getD j undef=arr.getD (j+2) undef:=by
 rw[cB,fL,List.getElem?_range hj];rfl
theorem jf{E:Env}{g:Nat->Value}:∀(l:List AV)(c:T AV)(off:Nat),(∀i a,l[i]? =some a->Rv E a (g (off+i)))->(∀j,Rv E (T.get .no c j) (g j))->∀j,Rv E (T.get .no (gw l c off) j) (g j)
 |[],c,off,_,hc,j=>hc j
 |v::l,c,off,h,hc,j=>by
  show Rv E (T.get .no (gw l (T.set v c off) (off+1)) j) (g j);refine jf l _ _ (fun i a hi=>?_) (fun i=>?_) j
  ·rw[show off+1+i=off+(i+1) from by omega]
   exact h (i+1) a hi
  ·by_cases e:i=off
   ·subst e
    rcases T.bd AV.no v c i with q|q<;>rw[q]
    ·exact h 0 v rfl
    ·simp[Rv]
   ·rw[T.ay _ _ _ _ _ e];exact hc i
theorem xf{E:Env}{l:List AV}{vs:List Value}(r:aP E l vs)(i:Nat)(a:AV)(h:l[i]? =some a):∃V,vs[i]? =some V∧Rv E a V:=r.get i a h
theorem cM:∀{l:List AV},cj l=true->∀v∈l,leaf v=true
 |[],_,v,h=>by cases h
 |a::l,he,v,h=>by
  obtain⟨h1,h2⟩:=pI he;rcases mcQ.1 h with rfl|h
  ·exact h1
  ·exact cM h2 v h
theorem WK{m:Nat}{kAV:AV}{kAO:AO}{i:Nat}(hl:(T.get .gone (wH m kAV kAO) i).live=true)(hi:32<=i):i=32:=by
 obtain⟨j,b,rfl,h1,h2⟩:=bT (a:=.gone) hl;have:=(bR.1 h1).1;have hlen:([AO.gone,.gone,.glob 1000000 (Nat.mul 26 (Nat.succ m)) (ansT m kAV),kAO]++(List.range 27).map (fun _=>AO.gone)++[HN m (.sx 3 (Nat.succ m) (.sy 1) (.sy 2))]).length=32:=rfl;rw[hlen] at this;omega
theorem HO{w:World}{bp ba kb koff kc m N C:Nat}{o:iB}{K:Value}{ks:List Ky}{want:Nat->Value}{ws:Array Value}{kAV:AV}{kAO:AO}{nil:Bool}(hmN:m<N)(hN:N<=9223372036854775807)(ok:o.ok)
  (hp:dE w bp (.slice (some ⟨ba,0,none⟩) N C) (.int .i64 m) want) (ha:Dm w ba m o K) (qR:ks.length<=1024) (I4:kb<w.heap.size) (I5:ws.size=87) (OO:∀V∈ws.toList,V.oneCell'=true∧V.cells=#[V])
  (rk:Rv (ae (wC N C ba kb koff kc bp ks o)) kAV K) (rok:RO (ae (wC N C ba kb koff kc bp ks o)) w 4 kAO)
  (Zb:(jT ([AO.gone,.gone,.glob 1000000 (Nat.mul 26 (Nat.succ m)) (ansT m kAV),kAO]++(List.range 27).map (fun _=>AO.gone)++[HN m (.sx 3 (Nat.succ m) (.sy 1) (.sy 2))]) (wC N C ba kb koff kc bp ks o)).Nodup)
  (run:bQ (WI m) (wH m kAV kAO) (fun h=>c0 120 [.p 32 0,.ag (di 87)] h 33 fun v h _=>bc (MQ nil v h) (bc (Dl m h) (Ew h) false) false)=true):
  Calls P 120 #[.pointer (some ⟨bp,0,none⟩),.agg ws] w fun e w'=>qS bp w w'∧(∃K',e=.returned (.agg (o.cells K').toArray)∧(nil=true->K'=.slice none 0 0)∧(nil=false->fE w' K' ks∧∀b off n c,K'=.slice (some ⟨b,off,none⟩) n c->w.heap.size<=b))∧
   (∃Bi,dE w' bp (.slice (some ⟨ba,0,none⟩) N C) (.int .i64 (m+1:Nat)) Bi)∧∃b arr el fr,w.heap.size<=b∧w'.heap[b]? =some (.cells arr el fr):=by
 obtain⟨bn,yP,Ck,wY,yQ,Bj,_⟩:=hp;obtain⟨arra,ela,fra,yR,has,hac⟩:=ha;have zh:bp<w.heap.size:=(cW.1 yP).1;have ux:ba<w.heap.size:=(cW.1 yR).1;have d1:den (ae (wC N C ba kb koff kc bp ks o)) (.sy 1)=some (.int .i64 N):=aj (i:=0) rfl (ax _ _);have d2:den (ae (wC N C ba kb koff kc bp ks o)) (.sy 2)=some (.int .i64 C):=aj (i:=1) rfl (ax _ _);have d5:den (ae (wC N C ba kb koff kc bp ks o)) (.sy 5)=some (.int .i64 (aG (aA ks))):=aj (i:=4) rfl (ax _ _);have kz:(aA ks).length=ks.length:=by unfold aA;rw[gp]
 have e3:ae (wC N C ba kb koff kc bp ks o) 3=some ⟨ba,0,0⟩:=rfl;have O3:ae (wC N C ba kb koff kc bp ks o) 32=some ⟨bp,0,0⟩:=rfl;have rs:Rv (ae (wC N C ba kb koff kc bp ks o)) (.sx 3 (Nat.succ m) (.sy 1) (.sy 2)) (.slice (some ⟨ba,0,none⟩) N C):=by
  rw[Rv];exact⟨⟨ba,0,0⟩,N,C,e3,d1,d2,hmN,hN,rfl⟩
 have ro:aP (ae (wC N C ba kb koff kc bp ks o)) (je 7 kAV) (o.cells K):=uT ok rk Sk;have ro0:aP (ae (wC N C ba kb koff kc bp ks o)) (je 7 .sn) (o.cells (.slice none 0 0)):=uT ok (by rw[Rv]) Sk;have nv:aP (ae (wC N C ba kb koff kc bp ks o)) ([.sx 3 (Nat.succ m) (.sy 1) (.sy 2),.i .i64 (Int.ofNat m)]++di 87) (Value.slice (some ⟨ba,0,none⟩) N C::.int .i64 m::(List.range 87).map fun j=>bn.getD (j+2) undef):=
  ad rs (ad (by rw[Rv];rfl) (fX 87 _ (by rw[gp,ot]) fun V hV=>by
   obtain⟨j,hj,rfl⟩:=bU.1 hV;exact Bj j (List.mem_range.1 hj)))
 have hr:HR (ae (wC N C ba kb koff kc bp ks o)) (wH m kAV kAO) 33 w:=by
  refine cX (C:=wC N C ba kb koff kc bp ks o) wC_len (show 32<=33 from by decide) (.append (.append ⟨trivial,trivial,?_,rok,trivial⟩ (.dead _ _ fun a ha=>by obtain⟨_,_,rfl⟩:=bU.1 ha;rfl)) ⟨?_,trivial⟩) (wC_blk ux I4 zh) Zb
  ·refine⟨⟨ba,0,0⟩,arra,ela,fra,e3,fun h=>absurd h (by decide),yR,by show 0+26*(m+1)<=_;omega,fun j hj=>?_,qL.vb (by decide)⟩
   have hw:=jf (E:=ae (wC N C ba kb koff kc bp ks o)) (g:=fun j=>arra.getD j undef) (je 7 kAV) fc (Nat.mul 26 m) (fun i a hi=>by
    obtain⟨V,hV,r⟩:=xf ro i a hi;have BX:i<26:=(bR.1 hi).1;have:=hac i BX;rw[cB,hV] at this;show Rv _ a (arra.getD (26*m+i) undef);rw[this];exact r) (fun i=>by
    have e:T.get AV.no fc i=.no:=T.mV _ _ _;rw[e];simp[Rv]) j
   rw[Nat.zero_add];exact hw
  ·refine⟨⟨bp,0,0⟩,bn,124,O3,yP,by show 0+89<=_;omega,nV.gJ _ _ _ _ _,fun j hj=>?_⟩
   have:=ef 89 _ _ nv j hj;rw[show(0:Nat)+j=j by omega];refine(show Rv _ _ _ from ?_);have e:(Value.slice (some ⟨ba,0,none⟩) N C::.int .i64 m::(List.range 87).map fun j=>bn.getD (j+2) undef).getD j undef=bn.getD j undef:=by
    match j,hj with
    |0,_=>exact wY.symm
    |1,_=>exact yQ.symm
    |j+2,hj=>exact eQ bn 87 j (by omega)
   rw[←e];exact this
 have hf:Holds (ae (wC N C ba kb koff kc bp ks o)) (WI m):=by
  refine ah ((az d1).trans ?_) (ah ((az (k:=.i64) (c:=1024) (n:=ks.length) (by rw[bC d5,kz])).trans ?_) holds_nil)
  ·rw[gM (by show ¬((N:Int)<=(m:Int));omega)]
  ·rw[eX (by omega)]
 have ra:aP (ae (wC N C ba kb koff kc bp ks o)) [.p 32 0,.ag (di 87)] (#[.pointer (some ⟨bp,0,none⟩),.agg ws]:Array Value).toList:=
  ad (by rw[Rv];exact⟨⟨bp,0,0⟩,O3,rfl⟩) (ad (by rw[Rv];exact⟨ws.toList,by simp,fX 87 _ (by simpa using I5) OO⟩) aF)
 refine(jK iL run hr (fun _ _=>trivial) hf ra (fun v h=>rfl)).mono ?_;rintro e w' ⟨V,v,h',n',E',rfl,rv,cO,_,gs,xg,hk⟩;obtain⟨k1,k2⟩:=aa hk;obtain⟨k2,k3⟩:=aa k2;have qa:∀k,fp (ae (wC N C ba kb koff kc bp ks o)) (wH m kAV kAO) k->k=bp:=by
  rintro k ⟨i,L,a1,a2,a3,rfl⟩;have jI:bM (wH m kAV kAO)=32:=bX _ _;rw[jI] at a1;obtain rfl:=WK a2 a1;rw[O3] at a3;cases a3;rfl
 refine⟨⟨gs.size,fun k hk cR=>gs.fr k hk fun Cn=>cR (qa k Cn),gs.os,gs.output,gs.tape⟩,?_,?_,?_⟩
 ·unfold MQ at k1
  split at k1
  case h_2=>cases k1
  rename_i l;obtain⟨a1,k1⟩:=aa k1;obtain⟨a2,k1⟩:=aa k1;obtain⟨a3,k1⟩:=aa k1;have a1:=aN a1;rw[Rv] at rv;obtain⟨vs,rfl,WL⟩:=rv;have qY:=Sj gs.ext ro0 a1 a2 a3 WL rfl;refine⟨vs.getD 23 undef,by rw[←qY],?_⟩;have EZ:=WL.nth 23;rw[ff] at k1;rw[ff] at EZ;split at k1
  ·rename_i hq
   rw[hq,Rv] at EZ;subst k1;exact⟨fun _=>EZ,fun h=>by cases h⟩
  ·rename_i id lo cp hq
   rw[hq] at EZ;rcases aR k1 with⟨rfl,k1⟩|⟨rfl,k1⟩
   ·cases k1
   refine⟨fun h=>by (cases h),fun _=>?_⟩;split at k1
   case h_2=>cases k1
   rename_i c t hg;obtain⟨k1,k1b⟩:=aa k1;have k1:=aU k1;have k1b:=aU k1b;have fG:=cO.obj id;rw[hg] at fG;obtain⟨q1,L,q2,n,c,q3⟩:=MR (S:=5) fG (by omega) (by decide) (an gs.ext _ _ d5) EZ;refine⟨q1,fun b off n' c' e=>?_⟩;rw[q3] at e;obtain⟨rfl,rfl⟩:L.aH=b∧L.base=off:=by
    injection e with e;injection e with e;injection e with e1 e2;exact⟨e1,e2⟩
   rcases gC L.aH w.heap.size with cL|ll
   ·exfalso
    have bD:(T.get .gone h' id).live=true:=by rw[hg];rfl
    have jI:bM h'=32:=gs.bM.trans (bX _ _);have:=qa L.aH (gs.CE L.aH cL ⟨id,L,by rw[jI];omega,bD,q2,rfl⟩);unfold Dl at k2;split at k2
    case h_2=>cases k2
    rename_i cc hc;have:=cO.inj id 32 L ⟨bp,0,0⟩ bD (by rw[hc];rfl) q2 (gs.ext _ _ O3) this;omega
   ·exact ll
  ·cases k1
 ·unfold Dl at k2
  split at k2
  case h_2=>cases k2
  rename_i c hc;obtain⟨b1,k2⟩:=aa k2;obtain⟨b2,b3⟩:=aa k2;have fG:=cO.obj 32;rw[hc] at fG;obtain⟨L,arr,el,eL,hb,cC,dr,dz⟩:=fG;rw[gs.ext _ _ O3] at eL;cases eL
  have fo:=dr.2.1 _ rfl;subst fo;have u6:=dz 0 (by decide);have pV:=dz 1 (by decide);rw[HF b1] at u6;rw[bV b2] at pV;have e0:=Rv.exact gs.ext _ _ _ (by rfl) rs u6;rw[Rv] at pV;refine⟨fun j=>arr.getD (j+2) undef,arr,hb,by have:0+89<=arr.size:=cC;omega,by rw[←e0,Nat.zero_add],by rw[Nat.zero_add] at pV;exact pV,fun j hj=>?_,fun j hj=>rfl⟩;have oV:=dz (j+2) (by omega);rw[Nat.zero_add] at oV;have dh:leaf (c.get (j+2))=true:=cM b3 _ (bU.2 ⟨j,List.mem_range.2 hj,rfl⟩);exact bY dh oV
 ·unfold Ew at k3
  split at k3
  case h_2=>cases k3
  rename_i n0 gB c hc;have fG:=cO.obj 33;rw[hc] at fG;obtain⟨L,arr,el,eL,hb,_⟩:=fG;refine⟨L.aH,arr,el,_,?_,hb⟩;rcases gC L.aH w.heap.size with cL|ll
  ·exfalso
   have bD:(T.get .gone h' 33).live=true:=by rw[hc];rfl
   have jI:bM h'=32:=gs.bM.trans (bX _ _);have:=qa L.aH (gs.CE L.aH cL ⟨33,L,by rw[jI];omega,bD,eL,rfl⟩);unfold Dl at k2;split at k2
   case h_2=>cases k2
   rename_i cc Aa;have:=cO.inj 33 32 L ⟨bp,0,0⟩ bD (by rw[Aa];rfl) eL (gs.ext _ _ O3) this;omega
  ·exact ll
def cn(K:Value)(b:Nat):Prop:=∃off n c,K=.slice (some ⟨b,off,none⟩) n c
theorem Sl{w:World}{bp ba m N C:Nat}{o:iB}{K:Value}{ks:List Ky}{want:Nat->Value}{ws:Array Value}(hm:m<40)(hmN:m<N)(hN:N<=9223372036854775807)(ok:o.ok)
  (hp:dE w bp (.slice (some ⟨ba,0,none⟩) N C) (.int .i64 m) want) (ha:Dm w ba m o K) (hk:fE w K ks) (qR:ks.length<=1024) (ux:ba≠bp) (I4:∀b,cn K b->b≠bp∧b≠ba)
  (I5:ws.size=87) (OO:∀V∈ws.toList,V.oneCell'=true∧V.cells=#[V]):
  Calls P 120 #[.pointer (some ⟨bp,0,none⟩),.agg ws] w fun e w'=>qS bp w w'∧(∃K',e=.returned (.agg (o.cells K').toArray)∧fE w' K' ks∧∀b,cn K' b->w.heap.size<=b)∧
   (∃Bi,dE w' bp (.slice (some ⟨ba,0,none⟩) N C) (.int .i64 (m+1:Nat)) Bi)∧∃b arr el fr,w.heap.size<=b∧w'.heap[b]? =some (.cells arr el fr):=by
 have zh:bp<w.heap.size:=by obtain⟨_,h,_⟩:=hp;exact(cW.1 h).1
 have WM:ba<w.heap.size:=by obtain⟨_,_,_,h,_⟩:=ha;exact(cW.1 h).1
 rcases hk with⟨rfl,rfl⟩|⟨b,off,cap,arr,el,fr,rfl,hb,cC,hc⟩
 ·refine(HO (kb:=ba) (koff:=0) (kc:=0) (ks:=[]) (kAV:=.sn) (kAO:=.gone) (nil:=true) hmN hN ok hp ha (by decide) WM I5 OO (by rw[Rv]) trivial ?_ (Aad.1 nilAll m (List.mem_range.2 hm))).mono ?_
  ·show[ba,bp].Nodup
   simp[ux]
  ·rintro e w' ⟨h1,⟨K',h2,h3,_⟩,h4⟩
   have h3:=h3 rfl;subst h3;exact⟨h1,⟨_,h2,.inl ⟨rfl,rfl⟩,fun b hb=>by obtain⟨_,_,_,hb⟩:=hb;cases hb⟩,h4⟩
 ·have ML:b<w.heap.size:=(cW.1 hb).1
  obtain⟨n1,n2⟩:=I4 b ⟨_,_,_,rfl⟩;have d5:den (ae (wC N C ba b off cap bp ks o)) (.sy 5)=some (.int .i64 (aG (aA ks))):=aj (i:=4) rfl (ax _ _);have d6:den (ae (wC N C ba b off cap bp ks o)) (.sy 6)=some (.int .i64 cap):=aj (i:=5) rfl (ax _ _);have kz:(aA ks).length=ks.length:=by unfold aA;rw[gp]
  refine(HO (kb:=b) (koff:=off) (kc:=cap) (ks:=ks) (kAV:=O2) (kAO:=kgS) (nil:=false) hmN hN ok hp ha qR ML I5 OO ?_ ?_ ?_ (Aad.1 yesAll m (List.mem_range.2 hm))).mono ?_
  ·unfold O2
   rw[Rv];exact⟨⟨b,off,1⟩,ks.length,cap,rfl,by rw[bC d5,kz],d6,nzQ _,by omega,rfl⟩
  ·exact⟨⟨b,off,1⟩,arr,el,fr,rfl,fun h=>absurd h (by decide),hb,by show off+0<=_;omega,fun j hj=>absurd hj (Nat.not_lt_zero _),nu (S:=5) (by decide) d5 cC hc 1 fun h=>absurd h (by decide)⟩
  ·show[ba,b,bp].Nodup
   simp only[List.nodup_cons,mcQ,mnQ,or_false,not_or,not_false_eq_true,List.nodup_nil,and_true];exact⟨⟨fun e=>n2 e.symm,ux⟩,n1⟩
  ·rintro e w' ⟨h1,⟨K',h2,_,h3⟩,h4⟩
   obtain⟨h3,h5⟩:=h3 rfl;exact⟨h1,⟨_,h2,h3,fun b hb=>by obtain⟨off,n,c,hb⟩:=hb;exact h5 b off n c hb⟩,h4⟩
def zV:List AV:=[.i .u8 0,.f .f64 0,.s 0 0,.i .i64 0]
def jL:List AV:=.i .u8 0::zV++[.b false,.b false,.i .u8 0]++zV++zV++zV++[.b false,.b false,.b false,.sn,.i .u8 0,.s 0 0]
def z4:V4:=⟨0,0,ByteArray.empty,0⟩
def zO:iB:=⟨0,z4,false,false,0,z4,z4,z4,false,false,false,0,ByteArray.empty⟩
def nH(m:Nat)(ans:AV):Heap:=jq ((List.range 31).map (fun _=>AO.gone)++[HN m ans]) 32
def Zc(m:Nat)(ans:AV)(h:Heap):Bool:=match T.get .gone h 32 with
 |.cells 89 ⟨0,some 124,true⟩ c=>bc (MK (c.get 0) ans) (bc (cY (c.get 1) (.i .i64 (Int.ofNat (Nat.succ m)))) (bc (cY (c.get 2) (.x (.i .u8) (.sy 7))) (bc (cY (c.get 3) (.x (.i .u8) (.sy 8))) (cj ((List.range 87).map fun j=>c.get (Nat.add j 2))) false) false) false) false
 |_=>false
def isZ(v:AV):Bool:=match v with
 |.ag l=>cH l jL
 |_=>false
def noF(m:Nat):aB:=[(.cmp .leq (.sy 1) (.li .i64 (Int.ofNat m)),true)]
def noA:AV:=.sx 3 0 (.sy 1) (.sy 2)
def noR(m:Nat)(ans:AV):Bool:=bQ (noF m) (nH m ans) fun h=>c0 120 [.p 32 0,.ag ([.x (.i .u8) (.sy 7),.x (.i .u8) (.sy 8)]++di 85)] h 33 fun v h _=>bc (isZ v) (Zc m ans h) false
theorem noAll:((List.range 64).all fun m=>noR m noA)=true:=by kernel_rfl
theorem noNil:((List.range 64).all fun m=>noR m .sn)=true:=by kernel_rfl
def nC(N C ba bp:Nat)(k1 k2:Int):List aZ:=[aw (.int .i64 N),aw (.int .i64 C),⟨ba,0,0⟩,⟨bp,0,0⟩,⟨bp,0,0⟩,⟨bp,0,0⟩,aw (.int .u8 k1),aw (.int .u8 k2)]++(List.range 23).map (fun _=>⟨bp,0,0⟩)++[⟨bp,0,0⟩]
theorem tq{E:Env}{l:List Value}(h:aP E jL l):l=zO.cells (.slice none 0 0):=by
 have h2:aP E jL (zO.cells (.slice none 0 0)):=by
  have z:aP E zV z4.cells:=ad (by rw[Rv]<;>rfl) (ad (by rw[Rv]<;>rfl) (ad (by rw[Rv]<;>rfl) (ad (by rw[Rv]<;>rfl) aF)))
  exact aY (aY (aY (aY (aY (ad (by rw[Rv]<;>rfl) z) (ad (by rw[Rv]<;>rfl) (ad (by rw[Rv]<;>rfl) (ad (by rw[Rv]<;>rfl) aF)))) z) z) z)
   (ad (by rw[Rv]<;>rfl) (ad (by rw[Rv]<;>rfl) (ad (by rw[Rv]<;>rfl) (ad (by rw[Rv]<;>rfl) (ad (by rw[Rv]<;>rfl) (ad (by rw[Rv]<;>rfl) aF))))))
 exact aP.exact (Env.le_refl E) _ _ _ (by rfl) h2 h
theorem WN{w:World}{bp ba m N C:Nat}{k1 k2:Int}{A:Value}{want:Nat->Value}{ws:Array Value}(hm:m<64)(hN:N<=9223372036854775807)(hA:(A=.slice none 0 0∧N=0)∨(A=.slice (some ⟨ba,0,none⟩) N C∧N<=m))(WM:ba<w.heap.size)
  (hp:dE w bp A (.int .i64 m) want) (I5:ws.size=87) (OO:∀V∈ws.toList,V.oneCell'=true∧V.cells=#[V]) (h1:ws.getD 0 undef=.int .u8 k1) (h2:ws.getD 1 undef=.int .u8 k2) (o1:0<=k1∧k1<=255) (o2:0<=k2∧k2<=255):
  Calls P 120 #[.pointer (some ⟨bp,0,none⟩),.agg ws] w fun e w'=>qS bp w w'∧e=.returned (.agg (zO.cells (.slice none 0 0)).toArray)∧dE w' bp A (.int .i64 (m+1:Nat)) fun j=>if j=0 then .int .u8 k1 else .int .u8 k2:=by
 obtain⟨bn,yP,Ck,wY,yQ,Bj,_⟩:=hp;have zh:bp<w.heap.size:=(cW.1 yP).1;have O3:ae (nC N C ba bp k1 k2) 32=some ⟨bp,0,0⟩:=rfl;have d1:den (ae (nC N C ba bp k1 k2)) (.sy 1)=some (.int .i64 N):=aj (i:=0) rfl (ax _ _);have d2:den (ae (nC N C ba bp k1 k2)) (.sy 2)=some (.int .i64 C):=aj (i:=1) rfl (ax _ _);have d7:den (ae (nC N C ba bp k1 k2)) (.sy 7)=some (.int .u8 k1):=aj (i:=6) rfl (ax _ _);have d8:den (ae (nC N C ba bp k1 k2)) (.sy 8)=some (.int .u8 k2):=aj (i:=7) rfl (ax _ _);have key:∀ans:AV,pZ ans=true->Rv (ae (nC N C ba bp k1 k2)) ans A->N<=m->noR m ans=true->
   Calls P 120 #[.pointer (some ⟨bp,0,none⟩),.agg ws] w fun e w'=>qS bp w w'∧e=.returned (.agg (zO.cells (.slice none 0 0)).toArray)∧dE w' bp A (.int .i64 (m+1:Nat)) fun j=>if j=0 then .int .u8 k1 else .int .u8 k2:=by
  intro ans hex rs hNm run;have nv:aP (ae (nC N C ba bp k1 k2)) ([ans,.i .i64 (Int.ofNat m)]++di 87) (A::.int .i64 m::(List.range 87).map fun j=>bn.getD (j+2) undef):=
   ad rs (ad (by rw[Rv];rfl) (fX 87 _ (by rw[gp,ot]) fun V hV=>by
    obtain⟨j,hj,rfl⟩:=bU.1 hV;exact Bj j (List.mem_range.1 hj)))
  have hr:HR (ae (nC N C ba bp k1 k2)) (nH m ans) 33 w:=by
   refine cX (C:=nC N C ba bp k1 k2) rfl (show 32<=33 from by decide) (.append (.dead _ _ fun a ha=>by obtain⟨_,_,rfl⟩:=bU.1 ha;rfl) ⟨?_,trivial⟩) (fun L hL=>?_) (show[bp].Nodup by simp)
   ·refine⟨⟨bp,0,0⟩,bn,124,O3,yP,by show 0+89<=_;omega,nV.gJ _ _ _ _ _,fun j hj=>?_⟩
    have:=ef 89 _ _ nv j hj;rw[show(0:Nat)+j=j by omega];have e:(A::Value.int .i64 m::(List.range 87).map fun j=>bn.getD (j+2) undef).getD j undef=bn.getD j undef:=by
     match j,hj with
     |0,_=>exact wY.symm
     |1,_=>exact yQ.symm
     |j+2,hj=>exact eQ bn 87 j (by omega)
    rw[←e];exact this
   ·have s0:∀V,(aw V).aH<w.heap.size:=fun V=>by rw[bH];omega
    unfold nC at hL;simp only[List.cons_append,List.nil_append,mcQ,List.mem_append,bU,mnQ,or_false] at hL;rcases hL with rfl|rfl|rfl|rfl|rfl|rfl|rfl|rfl|⟨_,_,rfl⟩|rfl<;>first|exact s0 _|assumption
  have hf:Holds (ae (nC N C ba bp k1 k2)) (noF m):=by
   refine ah ((az d1).trans ?_) holds_nil;rw[eX (by show(N:Int)<=(m:Int);omega)]
  have ewl:ws.toList=ws.getD 0 undef::ws.getD 1 undef::ws.toList.drop 2:=by
   have h0:ws.toList.length=87:=by simpa using I5
   have a0:ws.toList=ws.toList.drop 0:=rfl;rw[a0,List.drop_eq_getElem_cons (by omega),List.drop_eq_getElem_cons (by omega)];simp[Array.getD,I5]
  have P5:aP (ae (nC N C ba bp k1 k2)) ([.x (.i .u8) (.sy 7),.x (.i .u8) (.sy 8)]++di 85) ws.toList:=by
   rw[ewl,h1,h2];exact ad (by rw[Rv];exact⟨d7,_,rfl,o1⟩) (ad (by rw[Rv];exact⟨d8,_,rfl,o2⟩) (fX 85 _ (by simp[I5]) fun V hV=>OO V (List.mem_of_mem_drop hV)))
  have ra:aP (ae (nC N C ba bp k1 k2)) [.p 32 0,.ag ([.x (.i .u8) (.sy 7),.x (.i .u8) (.sy 8)]++di 85)] (#[.pointer (some ⟨bp,0,none⟩),.agg ws]:Array Value).toList:=
   ad (by rw[Rv];exact⟨⟨bp,0,0⟩,O3,rfl⟩) (ad (by rw[Rv];exact⟨ws.toList,by simp,P5⟩) aF)
  refine(jK iL run hr (fun _ _=>trivial) hf ra (fun v h=>rfl)).mono ?_;rintro e w' ⟨V,v,h',n',E',rfl,rv,cO,_,gs,xg,hk⟩;obtain⟨k1',Vm⟩:=aa hk;have qa:∀k,fp (ae (nC N C ba bp k1 k2)) (nH m ans) k->k=bp:=by
   rintro k ⟨i,L,a1,a2,a3,rfl⟩;have jI:bM (nH m ans)=32:=bX _ _;rw[jI] at a1;obtain⟨j,b,rfl,h1,h2⟩:=bT (a:=.gone) a2;have:=(bR.1 h1).1;have hlen:((List.range 31).map (fun _=>AO.gone)++[HN m ans]).length=32:=rfl;rw[hlen] at this;obtain rfl:j=31:=by omega
   rw[O3] at a3;cases a3;rfl
  refine⟨⟨gs.size,fun k hk cR=>gs.fr k hk fun Cn=>cR (qa k Cn),gs.os,gs.output,gs.tape⟩,?_,?_⟩
  ·unfold isZ at k1'
   split at k1'
   case h_2=>cases k1'
   rename_i l;rw[bb k1',Rv] at rv;obtain⟨vs,rfl,WL⟩:=rv;rw[tq WL]
  ·unfold Zc at Vm
   split at Vm
   case h_2=>cases Vm
   rename_i c hc;obtain⟨b1,Vm⟩:=aa Vm;obtain⟨b2,Vm⟩:=aa Vm;obtain⟨b3,Vm⟩:=aa Vm;obtain⟨b4,b5⟩:=aa Vm;have fG:=cO.obj 32;rw[hc] at fG;obtain⟨L,arr,el,eL,hb,cC,dr,dz⟩:=fG;rw[gs.ext _ _ O3] at eL;cases eL
   have fo:=dr.2.1 _ rfl;subst fo;have u6:=dz 0 (by decide);have pV:=dz 1 (by decide);have BY:=dz 2 (by decide);have xh:=dz 3 (by decide);rw[HF b1] at u6;rw[bV b2] at pV;rw[bV b3,Rv,an gs.ext _ _ d7] at BY;rw[bV b4,Rv,an gs.ext _ _ d8] at xh;have e0:=Rv.exact gs.ext _ _ _ hex rs u6;rw[Rv] at pV;refine⟨arr,hb,by have:0+89<=arr.size:=cC;omega,by rw[←e0,Nat.zero_add],by rw[Nat.zero_add] at pV;exact pV,fun j hj=>?_,fun j hj=>?_⟩
   ·have oV:=dz (j+2) (by omega)
    rw[Nat.zero_add] at oV;have dh:leaf (c.get (j+2))=true:=cM b5 _ (bU.2 ⟨j,List.mem_range.2 hj,rfl⟩);exact bY dh oV
   ·match j,hj with
    |0,_=>have:=BY.1;injection this with this;rw[Nat.zero_add] at this;exact this.symm
    |1,_=>have:=xh.1;injection this with this;rw[Nat.zero_add] at this;exact this.symm
 rcases hA with⟨rfl,rfl⟩|⟨rfl,hNm⟩
 ·exact key .sn rfl (by rw[Rv]) (nzQ _) (Aad.1 noNil m (List.mem_range.2 hm))
 ·exact key noA rfl (by unfold noA;rw[Rv];exact⟨⟨ba,0,0⟩,N,C,rfl,d1,d2,nzQ _,hN,rfl⟩) hNm (Aad.1 noAll m (List.mem_range.2 hm))
theorem HR.tv{E:Env}{h:Heap}{n:Nat}{w w':World}(hr:HR E h n w){id:Nat}{ao:AO}(hold:(T.get .gone h id).live=true)(bD:ao.live=true){L:aZ}(hL:E id=some L)(hb:qS L.aH w w')(dU:RO E w' id ao)(jI:bM h<=id)
  {V:Value} {L2:aZ} (Oj:w.heap.size<=L2.aH) (oH:L2.aH<w'.heap.size) {a:AO} (ha:RO (Vx.br (df E n V) (n+1) L2) w' (n+1) a):
  HR (Vx.br (df E n V) (n+1) L2) (T.set a (T.set ao h id) (n+1)) (n+2) w'∧bk E h w (Vx.br (df E n V) (n+1) L2) (T.set a (T.set ao h id) (n+1)) w':=by
 obtain⟨fw,g1⟩:=HR.Bf hr hold bD hL hb.size hb.same dU hb.os hb.output hb.tape jI;have hs:0<w'.heap.size:=by omega
 have jF:=fw.add V hs;have e2:(fun i=>if i=n+1 then some L2 else df E n V i)=Vx.br (df E n V) (n+1) L2:=rfl;have G2:∀i M,(T.get .gone (T.set ao h id) i).live=true->df E n V i=some M->M.aH≠L2.aH:=fun i M hi hM e=>by
  have vg:i≠n:=fun e3=>by rw[e3,fw.lt n (nrQ _)] at hi;cases hi
  unfold df at hM;rw[if_neg vg] at hM;have:=hr.kT i M hM;omega
 have wa:=jF.Ha L2 oH G2 a ha;rw[e2] at wa;have hn0:0<n:=hr.pos;have le1:=fw.Bc V;have le2:(df E n V).le (Vx.br (df E n V) (n+1) L2):=eW (jF.fresh (n+1) (nrQ _));have z:T.get .gone (T.set a (T.set ao h id) (n+1)) 0=T.get .gone (T.set ao h id) 0:=T.ay _ _ _ _ _ (by omega);have fl:bM (T.set a (T.set ao h id) (n+1))=bM (T.set ao h id):=by unfold bM;rw[z]
 refine⟨wa,Env.le_trans le1 le2,g1.size,g1.fr,fun k hk hf=>?_,fl.trans g1.bM,fun i hi=>?_,g1.os,g1.output,g1.tape⟩
 ·obtain⟨i,M,a1,a2,a3,a4⟩:=hf
  by_cases e:i=n+1
  ·subst e
   unfold Vx.br at a3;rw[if_pos rfl] at a3;cases a3
   omega
  ·rw[T.ay _ _ _ _ _ e] at a2
   unfold Vx.br at a3;rw[if_neg e] at a3;have vg:i≠n:=fun e3=>by rw[e3,fw.lt n (nrQ _)] at a2;cases a2
   unfold df at a3;rw[if_neg vg] at a3;rw[fl] at a1;exact g1.CE k hk ⟨i,M,a1,a2,a3,a4⟩
 ·have:=hr.kU
  rw[T.ay _ _ _ _ _ (by omega)];exact g1.gT i hi
structure An where
 o:iB
 ks:List Ky
 K:Value
variable{v:AV}{E E0:Env}{R:List An}{ba cap m:Nat}{e:SE}{A V:Value}{w w' w0:World}{o:iB}
def qT(l:List Ky):Prop:=∀k∈l,(k.1.size:Int)<=9223372036854775807∧-9223372036854775808<=k.2∧k.2<=9223372036854775807
structure An.ok(a:An)(w:World)(ba i:Nat):Prop where
 o:a.o.ok
 at_:Dm w ba i a.o a.K
 keys:fE w a.K a.ks
 len:a.ks.length<=1024
 aH:∀b,cn a.K b->b≠ba
 mS:qT a.ks
 k8:a.o.v.k<=8
def An.row(a:An):List (Nat×Nat):=(a.o.syms++[Value.int .i64 a.ks.length,Value.int .i64 (aG (aA a.ks))]).map yN
def jU(R:List An):List (List (Nat×Nat)):=R.map An.row
def cg(ba:Nat)(R:List An)(k:Nat):Prop:=k=ba∨(∃a∈R,cn a.K k)∨k=2
def fq(w:World):Prop:=∃(el:TypeId)(fr:Nat×Nat),w.heap[(2:Nat)]? =some (.cells (Lib.pow10Tab.map fun z=>Value.int .u64 z).toArray el fr)
theorem fq.same(h:fq w)(e:w'.heap[(2:Nat)]? =w.heap[(2:Nat)]?):fq w':=by
 obtain⟨el,fr,h1⟩:=h;exact⟨el,fr,by rw[e];exact h1⟩
theorem fq.lt(h:fq w):2<w.heap.size:=by
 obtain⟨el,fr,h1⟩:=h;exact(cW.1 h1).1
theorem HP{c:Nat}{N e:Int}(h1:200<=c)(h2:c<300):js c (.int .i64 N) (.int .i64 e)=va N e (c-200):=by
 unfold js;split<;>first|(exfalso;omega)|(rename_i h _;cases h)|skip
 all_goals first
  |(rename_i OP Wc;cases OP;cases Wc;rw[if_neg (by omega),if_pos h1])
  |(simp_all<;>(intro h;omega))
theorem eI{i:Nat}{a:An}(d:den E (.sy 1)=some (.int .i64 (aG (jU R))))(de:den E e=some (.int .i64 m))(ha:R[m]? =some a)
  (hV:(a.o.syms++[Value.int .i64 a.ks.length,Value.int .i64 (aG (aA a.ks))])[i]? =some V) (ok:jk V):den E (.cD (200+i) (.sy 1) e)=some V:=by
 have hi:i<27:=by have:=(bR.1 hV).1;rw[List.length_append,nq] at this;exact this
 have e1:den E (.cD (200+i) (.sy 1) e)=js (200+i) (.int .i64 (aG (jU R))) (.int .i64 m):=by
  show(match den E (.sy 1),den E e with|some X,some Y=>js (200+i) X Y|_,_=>none)=_;rw[d,de]
 rw[e1,HP (by omega) (by omega),show 200+i-200=i by omega];unfold va;rw[Int.toNat_natCast,Int.toNat_natCast,u'];unfold jU;rw[fL,ha];show((An.row a)[i]?).map ru=some V;unfold An.row;rw[fL,hV];show some (ru (yN V))=some V;rw[gz ok]
def bE(e:SE):AV:=.x .b (.cmp .eql e (.li .u8 1))
def vE(f:Nat->SE)(n:Nat):List AV:=[.x (.i .u8) (f n),.x .f (f (Nat.add n 1)),.x .s (f (Nat.add n 2)),.x (.i .i64) (f (Nat.add n 3))]
def Co(f:Nat->SE)(keys:AV):List AV:=.x (.i .u8) (f 0)::vE f 1++[bE (f 5),bE (f 6),.x (.i .u8) (f 7)]++vE f 8++vE f 12++vE f 16++[bE (f 20),bE (f 21),bE (f 22),keys,.x (.i .u8) (f 23),.x .s (f 24)]
theorem HQ{b:Bool}(d:den E e=some (bI b)):Rv E (bE e) (.bool b):=by
 have:den E (.cmp .eql e (.li .u8 1))=some (.bool b):=(bx (k:=.u8) (c:=1) d).trans (by cases b<;>rfl);unfold bE;rw[Rv];exact⟨this,b,rfl⟩
theorem MS{f:Nat->SE}{n:Nat}{v:V4}(ok:v.ok)(h:∀i V,v.cells[i]? =some V->den E (f (n+i))=some V):aP E (vE f n) v.cells:=
 ad (by rw[Rv];exact⟨h 0 _ rfl,_,rfl,ok.k⟩) (ad (by rw[Rv];exact⟨h 1 _ rfl,_,rfl,ok.x⟩) (ad (by rw[Rv];exact⟨h 2 _ rfl,_,rfl,ok.s⟩) (ad (by rw[Rv];exact⟨h 3 _ rfl,_,rfl,ok.r⟩) aF)))
theorem gP{f:Nat->SE}(ok:o.ok){ka:AV}{K:Value}(hk:Rv E ka K)(h:∀i V,o.syms[i]? =some V->den E (f i)=some V):aP E (Co f ka) (o.cells K):=by
 have two:∀(i:Nat)(v:V4),(∀j V,v.cells[j]? =some V->o.syms[i+j]? =some V)->∀j V,v.cells[j]? =some V->den E (f (i+j))=some V:=fun i v hv j V hj=>h (i+j) V (hv j V hj)
 have c4:∀{v:V4}{j:Nat}{V:Value},v.cells[j]? =some V->(j=0∧V=.int .u8 v.k)∨(j=1∧V=.float .f64 v.x)∨(j=2∧V=.string v.s)∨(j=3∧V=.int .i64 v.r):=fun {v j V} hj=>by
  match j,hj with
  |0,hj=>cases hj;exact .inl ⟨rfl,rfl⟩
  |1,hj=>cases hj;exact .inr (.inl ⟨rfl,rfl⟩)
  |2,hj=>cases hj;exact .inr (.inr (.inl ⟨rfl,rfl⟩))
  |3,hj=>cases hj;exact .inr (.inr (.inr ⟨rfl,rfl⟩))
  |j+4,hj=>cases hj
 refine aY (aY (aY (aY (aY (ad (by rw[Rv];exact⟨h 0 _ rfl,_,rfl,ok.k⟩) (MS ok.v (two 1 o.v fun j V hj=>?_))) ?_) (MS ok.d1 (two 8 o.d1 fun j V hj=>?_))) (MS ok.d2 (two 12 o.d2 fun j V hj=>?_))) (MS ok.d3 (two 16 o.d3 fun j V hj=>?_))) ?_
 ·rcases c4 hj with⟨rfl,rfl⟩|⟨rfl,rfl⟩|⟨rfl,rfl⟩|⟨rfl,rfl⟩<;>rfl
 ·exact ad (HQ (h 5 _ rfl)) (ad (HQ (h 6 _ rfl)) (ad (by rw[Rv];exact⟨h 7 _ rfl,_,rfl,ok.has⟩) aF))
 ·rcases c4 hj with⟨rfl,rfl⟩|⟨rfl,rfl⟩|⟨rfl,rfl⟩|⟨rfl,rfl⟩<;>rfl
 ·rcases c4 hj with⟨rfl,rfl⟩|⟨rfl,rfl⟩|⟨rfl,rfl⟩|⟨rfl,rfl⟩<;>rfl
 ·rcases c4 hj with⟨rfl,rfl⟩|⟨rfl,rfl⟩|⟨rfl,rfl⟩|⟨rfl,rfl⟩<;>rfl
 ·exact ad (HQ (h 20 _ rfl)) (ad (HQ (h 21 _ rfl)) (ad (HQ (h 22 _ rfl)) (ad hk (ad (by rw[Rv];exact⟨h 23 _ rfl,_,rfl,ok.er⟩) (ad (by rw[Rv];exact⟨h 24 _ rfl,_,rfl,ok.tx⟩) aF)))))
def jv(e:SE)(i:Nat):SE:=.cD (Nat.add 200 i) (.sy 1) e
def pq:AV:=.sz 3 (.sy 2)
def seI(v:AV)(k:SE->Bool):Bool:=match v with
 |.x (.i .i64) e=>k e
 |.i .i64 (.ofNat m)=>k (.li .i64 (.ofNat m))
 |_=>false
def WO(v:AV):Bool:=match v with
 |.x (.i .u8) _=>true
 |.i .u8 n=>bc (decide (0<=n)) (decide (n<=255)) false
 |_=>false
def HS(v:AV):Bool:=match v with
 |.sz 3 (.sy 2)=>true
 |_=>false
def BZ:nV:=⟨0,some 124,true⟩
def Dn(e:SE):AV:=match e with
 |.li .i64 (.ofNat m)=>.i .i64 (.ofNat (Nat.succ m))
 |e=>.x (.i .i64) (.cD 4 e (.li .i64 1))
def MT(e:SE)(fs:aB):aB:=match e with
 |.li _ _=>fs
 |e=>(.cmp .leq (.cD 4 e (.li .i64 1)) (.li .i64 40),true)::(.cmp .leq (.cD 4 e (.li .i64 1)) (.li .i64 (-1)),false)::fs
theorem Sm{fs:aB}(d:den E e=some (.int .i64 m))(hm:m<40)(h:Holds E fs):Holds E (MT e fs):=by
 have d2:den E (.cD 4 e (.li .i64 1))=some (.int .i64 (m+1:Nat)):=by
  simp only[den,d,js];rw[if_pos (by omega)];rfl
 unfold MT;split
 ·exact h
 ·exact ah ((az d2).trans (by rw[eX (by omega)])) (ah ((az d2).trans (by rw[gM (by omega)])) h)
def Sn:Ct:=fun args h n k=>match args with
 |[.p id 0,.ag wl]=>(match T.get .gone h id with
  |.cells m gB c=>bc (bc (Nat.beq m 89) (bc (Da gB BZ) (bc (Nat.beq wl.length 87) (bc (cj wl) (bc (WO (cV wl 0)) (bc (WO (cV wl 1)) (Gl c 87 2 fun l=>cj l) false) false) false) false) false) false)
    (bc (bc (Nat.ble n 99998) (HS (c.get 0)) false) (seI (c.get 1) fun e=>bc (bc (jo e 63 (au h)) (ki e (-1) (au h)) false) (jO h id (o5 (.cmp .lss e (.sy 2)) (au h)
     (fun fs=>N8 ([pq,Dn e]++di 87) ⟨89,fZ⟩ 0 fun c'=>T.dj (.cells 89 BZ c') h id fun h1=>aM (Nat.succ n) fun n1=>T.dj (.glob (Nat.add 3000001 (Nat.mul 10 n)) 0 fc) h1 n1 fun h2=>
      bQ ((.cmp .eql (.sy n) (.cD 226 (.sy 1) e),true)::(.cmp .leq (.fn 20 (.sy n)) (.li .i64 1024),true)::(.cmp .leq (jv e 1) (.li .u8 8),true)::MT e fs) h2 fun h3=>aM (Nat.add n 2) fun n2=>k (.ag (Co (jv e) (.sz n1 (.fn 20 (.sy n))))) h3 n2)
     (fun fs=>N8 ([pq,Dn e,cV wl 0,cV wl 1]++di 85) ⟨89,fZ⟩ 0 fun c'=>T.dj (.cells 89 BZ c') h id fun h1=>bQ fs h1 fun h2=>k (.ag jL) h2 n))) false) false) false
  |_=>false)
 |_=>false
def mH(a:An):Prop:=∀(w:World)(K:Value)(k m:Int),0<w.heap.size->fE w K a.ks->(k=2∨k=1∧m≠1∧m≠13)->0<=m∧m<=255->
 Calls P 68 #[.int .u8 k,.int .u8 m,.agg (a.o.cells K).toArray] w fun e w'=>e=.returned (.bool true)∧Below w.heap.size w w'
structure Ctx(E0:Env)(w0:World)(ba cap:Nat)(R:List An):Prop where
 at_:∀(i:Nat)(a:An),R[i]? =some a->a.ok w0 ba i
 len:R.length<=40
 fits:∀(i:Nat)(a:An),R[i]? =some a->mH a
 rows:den E0 (.sy 1)=some (.int .i64 (aG (jU R)))
 many:den E0 (.sy 2)=some (.int .i64 R.length)
 place:(E0 3=some ⟨ba,0,cap+1⟩)∨(R=[]∧∃b,E0 3=some ⟨b,0,0⟩)
 mh:fq w0
theorem fE.same{K:Value}{l:List Ky}(h:fE w K l)(hb:∀b,cn K b->w'.heap[b]? =w.heap[b]?):fE w' K l:=by
 rcases h with h|⟨b,off,cap,arr,el,fr,rfl,h2,h3⟩
 ·exact .inl h
 ·exact .inr ⟨b,off,cap,arr,el,fr,rfl,by rw[hb b ⟨_,_,_,rfl⟩];exact h2,h3⟩
theorem Dm.same{K:Value}(h:Dm w ba m o K)(hb:w'.heap[ba]? =w.heap[ba]?):Dm w' ba m o K:=by
 obtain⟨arr,el,fr,h1,h2⟩:=h;exact⟨arr,el,fr,by rw[hb];exact h1,h2⟩
theorem HT(d:den E e=some (.int .i64 m))(hm:m<64):Rv E (Dn e) (.int .i64 (m+1:Nat)):=by
 have d2:den E (.cD 4 e (.li .i64 1))=some (.int .i64 (m+1:Nat)):=by
  simp only[den,d,js];rw[if_pos (by omega)];rfl
 unfold Dn;split
 ·rename_i q
  simp only[den,siQ,Value.int.injEq,Int.ofNat_eq_natCast,true_and] at d;have:q=m:=by omega
  subst this;rw[Rv,Int.ofNat_eq_natCast]
 ·rw[Rv]
  exact⟨d2,_,rfl,by show(-9223372036854775808:Int)<=((m+1:Nat):Int);omega,by show((m+1:Nat):Int)<=9223372036854775807;omega⟩
theorem seI_ok{k:SE->Bool}(he:seI v k=true)(r:Rv E v V):∃e n,V=.int .i64 n∧den E e=some (.int .i64 n)∧k e=true:=by
 unfold seI at he;split at he<;>try (cases he;done)
 ·rw[Rv] at r
  obtain⟨d,n,rfl,_⟩:=r;exact⟨_,n,rfl,d,he⟩
 ·rw[Rv] at r;subst r
  exact⟨_,_,rfl,rfl,he⟩
theorem MU(he:WO v=true)(r:Rv E v V):∃n,V=.int .u8 n∧0<=n∧n<=255:=by
 unfold WO at he;split at he<;>try (cases he;done)
 ·rw[Rv] at r
  obtain⟨_,n,rfl,h1,h2⟩:=r;exact⟨n,rfl,h1,h2⟩
 ·rw[Rv] at r;subst r
  obtain⟨h1,h2⟩:=aa he;exact⟨_,rfl,gD h1,gD h2⟩
theorem Bk{E:Env}:∀{l:List AV}{vs:List Value},cj l=true->aP E l vs->∀V∈vs,V.oneCell'=true∧V.cells=#[V]
 |[],_,_,r,V,hV=>by rw[aP] at r;subst r;cases hV
 |a::l,_,he,r,V,hV=>by
  rw[aP] at r;obtain⟨x,xs,rfl,r1,r2⟩:=r;obtain⟨h1,h2⟩:=pI he;rcases mcQ.1 hV with rfl|hV
  ·exact bY h1 r1
  ·exact Bk h2 r2 V hV
theorem So{id bp:Nat}{L:aZ}{M:Value}{want:Nat->Value}{l:List AV}{q:Nat}(hL:E id=some L)(hL2:L.aH=bp)(gi:L.base=0)(hp:dE w' bp A M want)(hl:l.length=q)(hq:q<=89)(vs:List Value)
  (hr:aP E l vs) (hv:∀j,j<q->vs.getD j undef=(if j=0 then A else if j=1 then M else want (j-2))) (hq2:q<=4) (hq3:2<=q):RO E w' id (.cells 89 BZ (fu (l++di (89-q)) ⟨89,fZ⟩ 0)):=by
 obtain⟨arr,h1,h2,h3,h4,h5,h6⟩:=hp;have Al:vs=(List.range q).map fun j=>arr.getD j undef:=by
  apply List.ext_getElem?;intro j;rw[fL];have hvl:vs.length=q:=by rw[hr.length,hl]
  by_cases hj:j<q
  ·rw[List.getElem?_range hj]
   have:=hv j hj;rw[cB,cN (by omega)] at this;rw[cN (by omega)];show some vs[j]=some (arr.getD j undef);have e:vs[j]=(if j=0 then A else if j=1 then M else want (j-2)):=this;rw[e];congr 1;by_cases e0:j=0
   ·subst e0;rw[if_pos rfl,h3]
   ·by_cases e1:j=1
    ·subst e1;rw[if_neg (by decide),if_pos rfl,h4]
    ·rw[if_neg e0,if_neg e1,←h6 (j-2) (by omega),show j-2+2=j by omega]
  ·rw[List.getElem?_eq_none (by omega),List.getElem?_eq_none (by rw[ot];omega)];rfl
 have qU:aP E (l++di (89-q)) ((List.range q).map (fun j=>arr.getD j undef)++(List.range (89-q)).map fun j=>arr.getD (q+j) undef):=by
  refine aY (Al▸hr) (fX (89-q) _ (by rw[gp,ot]) fun V hV=>?_)
  obtain⟨j,hj,rfl⟩:=bU.1 hV;have hj:=List.mem_range.1 hj;by_cases h2q:2<=q+j
  ·have:=h5 (q+j-2) (by omega)
   rw[show q+j-2+2=q+j by omega] at this;exact this
  ·exfalso
   omega
 refine⟨L,arr,124,hL,by rw[hL2];exact h1,by rw[gi];omega,by
  have:=nV.gJ bp L.room 124 arr.size 89;have e:L=⟨bp,0,L.room⟩:=by cases L;simp_all
  rw[e];exact this,fun j hj=>?_⟩
 have hlen:(l++di (89-q)).length=89:=by
  have ha:∀n,(di n).length=n:=fun n=>by
   induction n with
   |zero=>rfl
   |succ n ih=>show(AV.any::di n).length=n+1;rw[List.length_cons,ih]
  rw[List.length_append,hl,ha];omega
 have:=ef 89 _ _ qU j (by rw[hlen];exact hj);rw[gi,Nat.zero_add];have e:((List.range q).map (fun j=>arr.getD j undef)++(List.range (89-q)).map fun j=>arr.getD (q+j) undef).getD j undef=arr.getD j undef:=by
  rw[cB];by_cases hjq:j<q
  ·rw[iA (by rw[gp,ot];exact hjq),fL,List.getElem?_range hjq];rfl
  ·rw[zE (by rw[gp,ot];omega),gp,ot,fL,List.getElem?_range (by omega)]
   show arr.getD (q+(j-q)) undef=_;rw[show q+(j-q)=j by omega]
 rw[←e];exact this
theorem E3(h:HS v=true):v=pq:=by
 unfold HS at h;split at h
 ·rfl
 ·cases h
theorem KI(X:Ctx E0 w0 ba cap R)(hle:E0.le E)(r:Rv E pq A):(A=.slice none 0 0∧R=[])∨A=.slice (some ⟨ba,0,none⟩) R.length cap:=by
 unfold pq at r;rw[Rv] at r;obtain⟨L,n,eL,dn,_,hz,rfl⟩:=r;have d2:=an hle _ _ X.many;rw[dn] at d2;have en:n=R.length:=by injection d2 with d2;injection d2 with _ d2;omega
 rcases X.place with hp|⟨h0,b,hp⟩
 ·rw[hle _ _ hp] at eL
  cases eL
  subst en;rw[if_neg (by show ¬cap+1=0;omega)];exact .inr rfl
 ·rw[hle _ _ hp] at eL
  cases eL
  exact .inl ⟨if_pos rfl,h0⟩
theorem Sp(X:Ctx E0 w0 ba cap R):@gL (KJ E0 w0 (cg ba R)) P 120 Sn:=by
 intro args ARGS E h n w k he ra hr hj;have hj:bL E0 w0 (cg ba R) E h w:=hj;unfold Sn at he;split at he<;>try (cases he;done)
 rename_i id wl;split at he<;>try (cases he;done)
 rename_i m89 gB c hc;obtain⟨a1,Bl⟩:=aa he;obtain⟨a2,P6⟩:=aa Bl;clear he Bl;obtain⟨b1,a1⟩:=aa a1;obtain⟨b2,a1⟩:=aa a1;obtain⟨b3,a1⟩:=aa a1;obtain⟨b4,a1⟩:=aa a1;obtain⟨b5,a1⟩:=aa a1;obtain⟨b6,b7⟩:=aa a1;rw[kW] at b7;obtain⟨c1,c2⟩:=aa a2;have b1:=aN b1;have b2:=sf b2;have b3:=aN b3;have c1:=aU c1;have c2:=E3 c2;subst b1 b2;obtain⟨PV,WV,hA,rp,rwv⟩:=ra.two;have hA:ARGS=#[PV,WV]:=by apply Array.ext';simpa using hA
 subst hA;rw[Rv] at rp;obtain⟨L,eL,rfl⟩:=rp;rw[Rv] at rwv;obtain⟨ws,rfl,rws⟩:=rwv;have bD:(T.get .gone h id).live=true:=by rw[hc];rfl
 obtain⟨L',bn,el,qM,hb,cC,dr,dz⟩:=hr.cells hc;rw[eL] at qM;cases qM;have fo:el=124:=dr.2.1 _ rfl;have gi:L.base=0:=dr.2.2 rfl;subst fo;have eL0:L=⟨L.aH,0,L.room⟩:=by cases L;simp_all
 have u6:=dz 0 (by decide);have pV:=dz 1 (by decide);rw[gi] at u6 pV cC;rw[Nat.zero_add] at u6 pV cC;rw[c2] at u6;obtain⟨e,mi,hmi,de,Sq⟩:=seI_ok P6 pV;obtain⟨f1,heD⟩:=aa Sq;clear P6 Sq;obtain⟨f1,f2⟩:=aa f1;have f1:=gy (aD hr) e de f1;have f2:=iV (aD hr) e de f2;obtain⟨jI,heE⟩:=gU heD;clear heD;obtain⟨m,rfl⟩:∃m:Nat,mi=(m:Int):=⟨mi.toNat,by omega⟩;have hm:m<64:=by omega
 have hlen:ws.length=87:=by rw[rws.length,b3]
 have I5:ws.toArray.size=87:=by simpa using hlen
 have OO:∀V∈ws.toArray.toList,V.oneCell'=true∧V.cells=#[V]:=by simpa using Bk b4 rws
 obtain⟨k1,yS,o1⟩:=MU b5 (rws.nth 0);obtain⟨k2,sq,o2⟩:=MU b6 (rws.nth 1);have xi:∀j,j<87->(bn.getD (j+2) undef).oneCell'=true∧(bn.getD (j+2) undef).cells=#[bn.getD (j+2) undef]:=fun j hj=>by
  have oV:=dz (j+2) (by omega);rw[gi,Nat.zero_add] at oV;exact bY (cM b7 _ (bU.2 ⟨j+2,List.mem_range'_1.2 ⟨by omega,by omega⟩,rfl⟩)) oV
 have hp:dE w L.aH (bn.getD 0 undef) (.int .i64 m) (fun j=>bn.getD (j+2) undef):=⟨bn,hb,cC,rfl,hmi,xi,fun _ _=>rfl⟩;have dN:den E (.sy 2)=some (.int .i64 R.length):=an hj.1 _ _ X.many;have dlt:den E (.cmp .lss e (.sy 2))=some (.bool (decide ((m:Int)<(R.length:Int)))):=by
  have d2:den E (.cmp .lss e (.sy 2))=(bu .lss (.int .i64 m) (.int .i64 R.length)).map Value.bool:=by
   show(match den E e,den E (.sy 2) with|some X,some Y=>(bu .lss X Y).map Value.bool|_,_=>none)=_;rw[de,dN]
  rw[d2];rfl
 have cR:∀b,cg ba R b->b≠L.aH:=fun b WQ e2=>(hj.2.2 b WQ).2.2 id L bD eL e2.symm
 have jm:∀b,cg ba R b->w.heap[b]? =w0.heap[b]?:=fun b WQ=>(hj.2.2 b WQ).1
 have hs0:0<w.heap.size:=by have:=(cW.1 hb).1;omega
 have Sr:R.length<=9223372036854775807:=by have:=X.len;omega
 obtain⟨fs,dX,hx⟩:=gW _ heE (aD hr) dlt;clear heE;rw[gi,Nat.add_zero];rcases hx with⟨hx,he⟩|⟨hx,he⟩
 ·have hx:m<R.length:=by have:=gD hx;omega
  obtain⟨a,ha⟩:∃a,R[m]? =some a:=⟨R[m],cN hx⟩;have X1:=X.at_ m a ha;have yT:=gq ha;have hA:bn.getD 0 undef=.slice (some ⟨ba,0,none⟩) R.length cap:=by
   rcases KI X hj.1 u6 with⟨_,h0⟩|h1
   ·rw[h0] at hx;cases hx
   ·exact h1
  rw[hA] at hp;have haw:=X1.at_.same (jm ba (.inl rfl));have hkw:=X1.keys.same fun b hb=>jm b (.inr (.inl ⟨a,yT,hb⟩))
  refine(Sl (by have:=X.len;omega) hx Sr X1.o hp haw hkw X1.len (cR ba (.inl rfl)) (fun b hb=>⟨cR b (.inr (.inl ⟨a,yT,hb⟩)),X1.aH b hb⟩) I5 OO).mono ?_;rintro ed w' ⟨fH,⟨K',rfl,lA,HU⟩,⟨Bi,Hi⟩,jb,E4,WR,WS,O4,KK⟩;rw[jn,T.bh,aC,T.bh] at he;have cod:jk (Value.int .i64 (aG (aA a.ks))):=ax _ _;have dU:RO E w' id (.cells 89 BZ (fu ([pq,Dn e]++di 87) ⟨89,fZ⟩ 0)):=by
   refine So (q:=2) eL rfl gi Hi rfl (by decide) [_,_] (ad (by rw[hA] at u6;exact u6) (ad (HT de hm) aF)) (fun j hj=>?_) (by decide) (by decide)
   match j,hj with
   |0,_=>rfl
   |1,_=>rfl
  obtain⟨L2,hL2,Oj,oH,CU,rk⟩:∃L2:aZ,(∀E':Env,den E' (.sy n)=some (.int .i64 (aG (aA a.ks)))->∃arr el fr,w'.heap[L2.aH]? =some (.cells arr el fr)∧L2.base<=arr.size∧qL E' (n+1) (3000000+10*n+1) L2 arr)∧w.heap.size<=L2.aH∧L2.aH<w'.heap.size∧True∧
    (∀E':Env,E' (n+1)=some L2->den E' (.sy n)=some (.int .i64 (aG (aA a.ks)))->Rv E' (.sz (n+1) (.fn 20 (.sy n))) K'):=by
   have kz:(aA a.ks).length=a.ks.length:=by unfold aA;rw[gp]
   have hl:=X1.len;rcases lA with⟨rfl,h0⟩|⟨b,off,kc,karr,kel,kfr,rfl,I4,qR,hkc⟩
   ·refine⟨⟨jb,0,0⟩,fun E' d=>⟨E4,WR,WS,KK,nzQ _,nu (by omega) d (by rw[h0];exact nzQ _) (fun j k hk=>by rw[h0] at hk;cases hk) 0 fun _=>rfl⟩,O4,(cW.1 KK).1,trivial,fun E' e1 d=>?_⟩
    rw[Rv];exact⟨_,a.ks.length,e1,by rw[bC d,kz],by omega,fun _=>by rw[h0];rfl,(if_pos rfl).symm⟩
   ·refine⟨⟨b,off,kc+1⟩,fun E' d=>⟨karr,kel,kfr,I4,by show off<=_;omega,nu (by omega) d qR hkc _ fun h=>absurd h (by omega)⟩,HU b ⟨_,_,_,rfl⟩,(cW.1 I4).1,trivial,fun E' e1 d=>?_⟩
    rw[Rv];refine⟨_,a.ks.length,e1,by rw[bC d,kz],by omega,fun h=>absurd h (by show ¬kc+1=0;omega),?_⟩;rw[if_neg (by show ¬kc+1=0;omega)];rfl
  have e1:Vx.br (df E n (.int .i64 (aG (aA a.ks)))) (n+1) L2 (n+1)=some L2:=by unfold Vx.br;rw[if_pos rfl]
  have len:∀w1:World,HR E h n w1->(df E n (.int .i64 (aG (aA a.ks)))).le (Vx.br (df E n (.int .i64 (aG (aA a.ks)))) (n+1) L2):=fun w1 fw=>eW (by
   unfold df;rw[if_neg (by omega)];exact hr.fresh (n+1) (by omega))
  have dS:den (Vx.br (df E n (.int .i64 (aG (aA a.ks)))) (n+1) L2) (.sy n)=some (.int .i64 (aG (aA a.ks))):=an (len w hr) _ _ (den_add cod);obtain⟨arr,el,fr,q1,q2,q3⟩:=hL2 _ dS
  obtain⟨jF,g2⟩:=HR.tv hr bD rfl eL fH dU jI (V:=.int .i64 (aG (aA a.ks))) Oj oH (a:=.glob (3000000+10*n+1) 0 fc)
   ⟨L2,arr,el,fr,e1,fun h=>absurd h (by omega),q1,by omega,fun j hj=>absurd hj (Nat.not_lt_zero _),q3⟩
  have hle:=g2.ext;have de2:=an hle _ _ de;have d1:=an (Env.le_trans hj.1 hle) _ _ X.rows;have kz:(aA a.ks).length=a.ks.length:=by unfold aA;rw[gp]
  have cell:∀i V,a.o.syms[i]? =some V->den (Vx.br (df E n (.int .i64 (aG (aA a.ks)))) (n+1) L2) (jv e i)=some V:=fun i V hi=>by
   have BX:=(bR.1 hi).1;exact eI d1 de2 ha (by rw[iA BX];exact hi) (gO a.o V (gq hi))
  have Ou:Holds (Vx.br (df E n (.int .i64 (aG (aA a.ks)))) (n+1) L2) ((.cmp .eql (.sy n) (.cD 226 (.sy 1) e),true)::(.cmp .leq (.fn 20 (.sy n)) (.li .i64 1024),true)::(.cmp .leq (jv e 1) (.li .u8 8),true)::MT e fs):=by
   refine ah ?_ (ah ((az (k:=.i64) (c:=1024) (n:=a.ks.length) (by rw[bC dS,kz])).trans (by have:=X1.len;rw[eX (by omega)])) (ah ((az (k:=.u8) (c:=8) (cell 1 (.int .u8 a.o.v.k) rfl)).trans (by have:=X1.k8;rw[eX (by omega)])) (Sm de2 (by have:=X.len;omega) fun p hp=>an hle _ _ (dX p hp))))
   have d26:den (Vx.br (df E n (.int .i64 (aG (aA a.ks)))) (n+1) L2) (.cD 226 (.sy 1) e)=some (.int .i64 (aG (aA a.ks))):=eI (i:=26) d1 de2 ha rfl (ax _ _);have d0:den (Vx.br (df E n (.int .i64 (aG (aA a.ks)))) (n+1) L2) (.cmp .eql (.sy n) (.cD 226 (.sy 1) e))=(bu .eql (.int .i64 (aG (aA a.ks))) (.int .i64 (aG (aA a.ks)))).map Value.bool:=by
    show(match den _ (.sy n),den _ (.cD 226 (.sy 1) e) with|some X,some Y=>(bu .eql X Y).map Value.bool|_,_=>none)=_;rw[dS,d26]
   show den _ (.cmp .eql (.sy n) (.cD 226 (.sy 1) e))=some (.bool true);rw[d0];simp[bu,jY]
  have eg:Nat.add 3000001 (Nat.mul 10 n)=3000000+10*n+1:=by show 3000001+10*n=_;omega
  rw[eg] at he;obtain⟨h3,he,wa,fk⟩:=bZ he jF Ou;rw[aC] at he;exact .inl ⟨_,rfl,_,h3,n+2,_,by rw[Rv];exact⟨_,rfl,gP X1.o (rk _ e1 dS) cell⟩,wa,g2.trans fk.goes,he⟩
 ·have hx:R.length<=m:=by have:=of_decide_eq_false hx;omega
  have hA:(bn.getD 0 undef=.slice none 0 0∧R.length=0)∨(bn.getD 0 undef=.slice (some ⟨ba,0,none⟩) R.length cap∧R.length<=m):=by
   rcases KI X hj.1 u6 with⟨h1,h0⟩|h1
   ·exact .inl ⟨h1,by rw[h0];rfl⟩
   ·exact .inr ⟨h1,hx⟩
  have WM:ba<w.heap.size:=by
   have:=hj.2.2 ba (.inl rfl);have:=hj.2.1;omega
  refine(WN (k1:=k1) (k2:=k2) hm Sr hA WM hp I5 OO (by simpa using yS) (by simpa using sq) o1 o2).mono ?_;rintro ed w' ⟨fH,rfl,Hi⟩;rw[jn,T.bh] at he;have dU:RO E w' id (.cells 89 BZ (fu ([pq,Dn e,cV wl 0,cV wl 1]++di 85) ⟨89,fZ⟩ 0)):=by
   refine So (q:=4) eL rfl gi Hi rfl (by decide) [_,_,.int .u8 k1,.int .u8 k2] (ad u6 (ad (HT de hm) (ad (by have:=rws.nth 0;rw[yS] at this;exact this) (ad (by have:=rws.nth 1;rw[sq] at this;exact this) aF)))) (fun j hj=>?_) (by decide) (by decide)
   match j,hj with
   |0,_=>rfl
   |1,_=>rfl
   |2,_=>rfl
   |3,_=>rfl
  obtain⟨jF,g2⟩:=HR.Bf hr bD rfl eL fH.size fH.same dU fH.os fH.output fH.tape jI;obtain⟨h3,he,wa,fk⟩:=bZ he jF dX;refine .inl ⟨_,rfl,.ag jL,h3,n,E,?_,wa,g2.trans fk.goes,he⟩;rw[Rv];refine⟨_,rfl,?_⟩;have z:aP E zV z4.cells:=ad (by rw[Rv]<;>rfl) (ad (by rw[Rv]<;>rfl) (ad (by rw[Rv]<;>rfl) (ad (by rw[Rv]<;>rfl) aF)))
  exact aY (aY (aY (aY (aY (ad (by rw[Rv]<;>rfl) z) (ad (by rw[Rv]<;>rfl) (ad (by rw[Rv]<;>rfl) (ad (by rw[Rv]<;>rfl) aF)))) z) z) z)
   (ad (by rw[Rv]<;>rfl) (ad (by rw[Rv]<;>rfl) (ad (by rw[Rv]<;>rfl) (ad (by rw[Rv]<;>rfl) (ad (by rw[Rv]<;>rfl) (ad (by rw[Rv]<;>rfl) aF))))))
end
end Go.Proofs.YtngagklmbbogiaaGreatDoor.Ob
