/- Parts of one proof (Ob34 to Ob36). No condition. -/
import Derived.Test.YtngagklmbbogiaaGreatDoorC1
import Derived.Test.YtngagklmbbogiaaGreatDoorC0
import Derived.Shelf.Strconv.Itoa3
import Derived.Lib.ItoaLen
import Derived.Lib.AppendIntMem
set_option linter.all false
namespace Go.Proofs.YtngagklmbbogiaaGreatDoor.Ob
open Go Go.RowKit Vx
set_option maxRecDepth 100000
noncomputable section
variable{ARGS:Array Value}{E E0:Env}{g:FuncId}{h:Heap}{args:List AV}{R:List An}{l:List V4}{ba cap n:Nat}{w w0:World}
def One(V:Value):Prop:=V.oneCell'=true∧V.cells=#[V]
theorem wo(hj:bL E0 w0 (cg ba R) E h w):0<w.heap.size:=by
 have:=(hj.2.2 ba (.inl rfl)).2.1;have:=hj.2.1;omega
theorem symKey(n:Int)(hn: -9223372036854775808<=n∧n<=9223372036854775807)(w:World):Calls P 286 #[.int .i64 n] w fun e w'=>(∃m:Int,-9223372036854775808<=m∧m<=9223372036854775807∧e=.returned (.agg #[.string ByteArray.empty,.int .i64 m]))∧Below w.heap.size w w':=by
 go_enter Tryz.func286,Tryz.ntmps286
 go_wp2
 all_goals go_returns
 all_goals exact⟨⟨_,by first|decide|(simp only[wrap64];omega),by first|decide|(simp only[wrap64];omega),rfl⟩,(Below.refl w.heap.size w).alloc (nrQ _) _⟩
def Tv:Ct:=fun args h n k=>match args with
 |[v]=>bc (Bm 3 v) (aM (Nat.succ n) fun m=>k (.ag [.s 0 0,.x (.i .i64) (.sy n)]) h m) false
 |_=>false
theorem Tw(X:Ctx E0 w0 ba cap R):@gL (KJ E0 w0 (cg ba R)) P 286 Tv:=by
 intro args ARGS E h n w k he ra hr hj;have gQ:bL E0 w0 (cg ba R) E h w:=hj;unfold Tv at he;split at he<;>try (cases he;done)
 obtain⟨h1,he⟩:=aa he;rw[aC] at he;obtain⟨V,hA,rx⟩:=ra.one;have hA:ARGS=#[V]:=by apply Array.ext';simpa using hA
 subst hA;obtain⟨m,rfl,hm⟩:=tw (t:=3) h1 rx;refine(symKey m hm w).mono ?_;rintro e w' ⟨⟨m,h1,h2,rfl⟩,hb⟩;have vQ:0<w'.heap.size:=by have:=wo gQ;have:=hb.size;omega
 refine .inl ⟨_,rfl,_,h,n+1,df E n (.int .i64 m),?_,(hr.below hb).add _ vQ,(bk.below hb).trans ((hr.below hb).ju _),he⟩;exact vX (ad (by rw[Rv];rfl) (ad (by rw[Rv];exact⟨den_add (ax _ _),_,rfl,h1,h2⟩) aF))
theorem HR.place(hr:HR E h n w){L:aZ}(hb:L.aH<w.heap.size):HR (Vx.br E n L) h (n+1) w∧bk E h w (Vx.br E n L) h w:=by
 have hn:=hr.fresh n (nrQ _);have hd:=hr.lt n (nrQ _);have fw:HR E h (n+1) w:=⟨hr.obj,hr.inj,fun i hi=>hr.lt i (by omega),fun i hi=>hr.fresh i (by omega),hr.kT,by omega,by have:=hr.kU;omega,hr.zero⟩;refine⟨fw.br (Nat.lt_succ_self n) hn hd hb,eW hn,nrQ _,fun _ _ _=>rfl,fun k hk⟨i,M,a1,a2,a3,a4⟩=>⟨i,M,a1,a2,?_,a4⟩,rfl,fun _ _=>rfl,rfl,rfl,rfl⟩;unfold Vx.br at a3;by_cases e:i=n
 ·rw[e,hd] at a2;cases a2
 ·rw[if_neg e] at a3;exact a3
structure Tx where
 has:Int
 d1:V4
 d2:V4
 d3:V4
 b3:Bool
 b4:Bool
 b5:Bool
def Tx.cells(o:Tx):List Value:=.int .u8 o.has::o.d1.cells++o.d2.cells++o.d3.cells++[.bool o.b3,.bool o.b4,.bool o.b5]
def Tx.syms(o:Tx):List Value:=.int .u8 o.has::o.d1.cells++o.d2.cells++o.d3.cells++[bI o.b3,bI o.b4,bI o.b5]
structure Tx.ok(o:Tx):Prop where
 has:0<=o.has∧o.has<=255
 d1:o.d1.ok
 d2:o.d2.ok
 d3:o.d3.ok
theorem ds_sok(o:Tx):∀V∈o.syms,jk V:=by
 intro V hV;simp only[Tx.syms,V4.cells,bI,List.cons_append,List.nil_append,mcQ,mnQ,or_false] at hV;rcases hV with rfl|rfl|rfl|rfl|rfl|rfl|rfl|rfl|rfl|rfl|rfl|rfl|rfl|rfl|rfl|rfl<;>first|exact ax _ _|exact lN _|exact eV _
theorem rv_ds{q:Nat}{o:Tx}(ok:o.ok)(h:∀i V,o.syms[i]? =some V->den E (.sy (q+i))=some V):aP E (dsS q) o.cells:=by
 have two:∀(i:Nat)(v:V4),(∀j V,v.cells[j]? =some V->o.syms[i+j]? =some V)->∀j V,v.cells[j]? =some V->den E (.sy (Nat.add q i+j))=some V:=fun i v hv j V hj=>by
  have:=h (i+j) V (hv j V hj);rw[←Nat.add_assoc] at this;exact this
 have c4:∀{v:V4}{j:Nat}{V:Value},v.cells[j]? =some V->(j=0∧V=.int .u8 v.k)∨(j=1∧V=.float .f64 v.x)∨(j=2∧V=.string v.s)∨(j=3∧V=.int .i64 v.r):=fun {v j V} hj=>by
  match j,hj with
  |0,hj=>cases hj;exact .inl ⟨rfl,rfl⟩
  |1,hj=>cases hj;exact .inr (.inl ⟨rfl,rfl⟩)
  |2,hj=>cases hj;exact .inr (.inr (.inl ⟨rfl,rfl⟩))
  |3,hj=>cases hj;exact .inr (.inr (.inr ⟨rfl,rfl⟩))
  |j+4,hj=>cases hj
 refine aY (aY (aY (ad (by rw[Rv];exact⟨h 0 _ rfl,_,rfl,ok.has⟩) (iM ok.d1 (two 1 o.d1 fun j V hj=>?_))) (iM ok.d2 (two 5 o.d2 fun j V hj=>?_))) (iM ok.d3 (two 9 o.d3 fun j V hj=>?_)))
  (ad (EY (h 13 _ rfl)) (ad (EY (h 14 _ rfl)) (ad (EY (h 15 _ rfl)) aF)))
 ·rcases c4 hj with⟨rfl,rfl⟩|⟨rfl,rfl⟩|⟨rfl,rfl⟩|⟨rfl,rfl⟩<;>rfl
 ·rcases c4 hj with⟨rfl,rfl⟩|⟨rfl,rfl⟩|⟨rfl,rfl⟩|⟨rfl,rfl⟩<;>rfl
 ·rcases c4 hj with⟨rfl,rfl⟩|⟨rfl,rfl⟩|⟨rfl,rfl⟩|⟨rfl,rfl⟩<;>rfl
def SlV(V:Value)(w:World):Prop:=V=.slice none 0 0∨∃b off n c:Nat,V=.slice (some ⟨b,off,none⟩) n c∧n<=64∧b<w.heap.size
theorem fldsV(o:Tx)(ho:o.ok)(w:World)(hs:0<w.heap.size):Calls P 215 #[.agg o.cells.toArray] w fun e w'=>(∃V,e=.returned V∧SlV V w')∧Below w.heap.size w w':=by
 have hr:aP (ew [] 1 o.syms) (dsS 1) o.cells:=rv_ds ho fun i V hi=>iZ i hi (ds_sok o V (gq hi))
 refine(zf (fin:=fun v _=>isSl v) (@iL JC.qP) rfl rfl (gp _) (show 1+o.syms.length=17 from rfl) (fun L hL=>by obtain⟨V,_,rfl⟩:=bU.1 hL;exact bH V) holds_nil (ad (by rw[Rv];exact⟨o.cells,rfl,hr⟩) aF) (fun v _=>rfl) flds0 w hs (fun p hp=>by cases hp)).mono ?_;rintro e w' ⟨V,v,h',E',n',rfl,rv,cO,hle,hk,hb⟩;refine⟨⟨V,rfl,?_⟩,hb⟩;unfold isSl at hk;split at hk<;>try (cases hk;done)
 ·rw[Rv] at rv;exact .inl rv
 ·rename_i id off len used
  rw[Rv] at rv;obtain⟨L,eL,rfl,jF⟩:=rv;exact .inr ⟨_,_,_,_,rfl,aU hk,cO.kT _ _ eL⟩
def dty:List Nat:=[0,0,1,2,3,0,1,2,3,0,1,2,3,4,4,4]
theorem Xk{vs:List Value}(h:TyL dty vs):∃o:Tx,o.ok∧vs=o.cells:=by
 unfold dty at h;obtain⟨x0,q0,rfl,a0,t0⟩:=aW h;obtain⟨x1,q1,rfl,a1,t1⟩:=aW t0;obtain⟨x2,q2,rfl,a2,t2⟩:=aW t1;obtain⟨x3,q3,rfl,a3,t3⟩:=aW t2;obtain⟨x4,q4,rfl,a4,t4⟩:=aW t3;obtain⟨x5,q5,rfl,a5,t5⟩:=aW t4;obtain⟨x6,q6,rfl,a6,t6⟩:=aW t5;obtain⟨x7,q7,rfl,a7,t7⟩:=aW t6;obtain⟨x8,q8,rfl,a8,t8⟩:=aW t7;obtain⟨x9,q9,rfl,a9,t9⟩:=aW t8;obtain⟨x10,q10,rfl,Vg,t10⟩:=aW t9;obtain⟨x11,q11,rfl,Vh,t11⟩:=aW t10;obtain⟨x12,O7,rfl,a12,t12⟩:=aW t11;obtain⟨x13,q13,rfl,Vi,t13⟩:=aW t12;obtain⟨x14,q14,rfl,Vj,t14⟩:=aW t13;obtain⟨x15,q15,rfl,Vk,t15⟩:=aW t14;have e:q15=[]:=by cases q15 with|nil=>rfl|cons _ _=>cases t15
 subst e;obtain⟨n0,rfl,b0⟩:=a0;obtain⟨n1,rfl,b1⟩:=a1;obtain⟨n2,rfl,b2⟩:=a2;obtain⟨n3,rfl,b3⟩:=a3;obtain⟨n4,rfl,b4⟩:=a4;obtain⟨n5,rfl,b5⟩:=a5;obtain⟨n6,rfl,b6⟩:=a6;obtain⟨n7,rfl,b7⟩:=a7;obtain⟨n8,rfl,b8⟩:=a8;obtain⟨n9,rfl,b9⟩:=a9;obtain⟨n10,rfl,b10⟩:=Vg;obtain⟨n11,rfl,b11⟩:=Vh;obtain⟨n12,rfl,b12⟩:=a12;obtain⟨n13,rfl⟩:=Vi;obtain⟨n14,rfl⟩:=Vj;obtain⟨n15,rfl⟩:=Vk;exact⟨⟨n0,⟨n1,n2,n3,n4⟩,⟨n5,n6,n7,n8⟩,⟨n9,n10,n11,n12⟩,n13,n14,n15⟩,⟨b0,⟨b1,b2,b3,b4⟩,⟨b5,b6,b7,b8⟩,⟨b9,b10,b11,b12⟩⟩,rfl⟩
def Ty:Ct:=fun args h n k=>match args with
 |[.ag l]=>bc (Bn dty l) (aM (Nat.add n 2) fun m=>aM (Nat.succ n) fun n1=>k (.sz n (.sy n1)) h m) false
 |_=>false
theorem slV_rv(hr:HR E h n w)(hs:0<w.heap.size){V:Value}(hV:SlV V w):∃E',Rv E' (.sz n (.sy (n+1))) V∧HR E' h (n+2) w∧bk E h w E' h w:=by
 have mk:∀(L:aZ)(q:Nat),L.aH<w.heap.size->q<=64->(L.room=0->q=0)->V=(if L.room=0 then N4 L.base else .slice (some ⟨L.aH,L.base,none⟩) q (L.room-1))->∃E',Rv E' (.sz n (.sy (n+1))) V∧HR E' h (n+2) w∧bk E h w E' h w:=by
  intro L q hL hq hz e;obtain⟨h1,g1⟩:=HR.place hr hL;have h2:=h1.add (.int .i64 q) hs;have g2:=h1.ju (.int .i64 q);refine⟨df (Vx.br E n L) (n+1) (.int .i64 q),?_,h2,g1.trans g2⟩;rw[Rv];refine⟨L,q,?_,den_add (ax _ _),by omega,hz,e⟩;unfold df;rw[if_neg (by omega)];unfold Vx.br;rw[if_pos rfl]
 rcases hV with rfl|⟨b,off,q,c,rfl,hq,hb⟩
 ·exact mk ⟨0,0,0⟩ 0 hs (by decide) (fun _=>rfl) rfl
 ·exact mk ⟨b,off,c+1⟩ q hb hq (fun h=>absurd h (by show ¬c+1=0;omega)) (by show _=(if c+1=0 then _ else _);rw[if_neg (by omega)];rfl)
theorem Tz(X:Ctx E0 w0 ba cap R):@gL (KJ E0 w0 (cg ba R)) P 215 Ty:=by
 intro args ARGS E h n w k he ra hr hj;have gQ:bL E0 w0 (cg ba R) E h w:=hj;unfold Ty at he;split at he<;>try (cases he;done)
 rename_i l;obtain⟨h1,he⟩:=aa he;rw[aC,aC] at he;obtain⟨V,hA,rx⟩:=ra.one;have hA:ARGS=#[V]:=by apply Array.ext';simpa using hA
 subst hA;rw[Rv] at rx;obtain⟨vs,rfl,rl⟩:=rx;obtain⟨o,ho,rfl⟩:=Xk (lQ h1 rl);refine(fldsV o ho w (wo gQ)).mono ?_;rintro e w' ⟨⟨V,rfl,hV⟩,hb⟩;obtain⟨E',q1,q2,q3⟩:=slV_rv (hr.below hb) (by have:=wo gQ;have:=hb.size;omega) hV;exact .inl ⟨_,rfl,_,h,n+2,E',q1,q2,(bk.below hb).trans q3,he⟩
@[reducible] def KT(w0:World):JC:=KJ (fun _=>none) w0 (· =2)
theorem tabIs(ht:fq w){nm:String}(hg:P.globalNamed nm=some 2):Lib.TabIs P w nm .u64 Lib.pow10Tab:=by
 obtain⟨el,fr,h⟩:=ht;unfold Lib.TabIs World.var?;rw[hg];show(match w.heap[(2:Nat)]? with|some (.cells cs _ _)=>some cs|_=>none)=_;rw[h]
def fmtS:Ct:=fun args h n k=>match args with
 |[.x (.i .i64) _,.i .i64 (.ofNat 10)]=>aM (Nat.succ n) fun m=>bQ ((.cmp .leq (.len (.sy n)) (.li .i64 24),true)::au h) h fun h1=>k (.x .s (.sy n)) h1 m
 |_=>false
theorem Xl(ht:fq w0):@gL (KT w0) P 307 fmtS:=by
 intro args ARGS E h n w k he ra hr hj;have gQ:bL (fun _=>none) w0 (· =2) E h w:=hj;have hw:w.heap[2]? =w0.heap[2]?:=(gQ.2.2 _ rfl).1;unfold fmtS at he;split at he<;>try (cases he;done)
 rw[aC] at he;obtain⟨X,Y,hA,rx,ry⟩:=ra.two;have hA:ARGS=#[X,Y]:=by apply Array.ext';simpa using hA
 subst hA;rw[Rv] at ry;subst ry;simp only[Rv,jZ] at rx;obtain⟨_,m,rfl,n1,n2⟩:=rx;refine(Any.internal_strconv_FormatInt_10 {Tryz.Sf with} m n1 n2 w (tabIs (ht.same hw) (by kernel_rfl))).mono ?_;rintro e w' ⟨rfl,q,os,rfl⟩;have hb:Below w.heap.size w (Go.Sort.grow (w.drewN q) os):=Lib.below_grow _ w (nrQ _) q os;have vQ:0<(Go.Sort.grow (w.drewN q) os).heap.size:=by have:=hb.size;have:=gQ.2.1;have:=ht.lt;omega
 have hl:=Lib.itoa_length_le m n1 n2;have r1:=(hr.below hb).add (.string ⟨(Lib.itoa m).toArray⟩) vQ;have dn:den (df E n (.string ⟨(Lib.itoa m).toArray⟩)) (.sy n)=some (.string ⟨(Lib.itoa m).toArray⟩):=den_add (eV _);have dl:den (df E n (.string ⟨(Lib.itoa m).toArray⟩)) (.len (.sy n))=some (.int .i64 (Lib.itoa m).length):=by
  have:den (df E n (.string ⟨(Lib.itoa m).toArray⟩)) (.len (.sy n))=_:=Vx.bC dn;rw[this];simp[ByteArray.size]
 obtain⟨h1,k1,k2,k3⟩:=bZ he r1 (ah ((az dl).trans (by rw[eX (by omega)])) (aD r1));exact .inl ⟨_,rfl,.x .s (.sy n),h1,n+1,_,by rw[Rv];exact⟨dn,_,rfl,by simp[ByteArray.size];omega⟩,k2,((bk.below hb).trans ((hr.below hb).ju _)).trans k3.goes,k1⟩
def ST:fV:=fun g=>match g with
 |307=>some fmtS
 |104=>some (orC (HA .f .b 7) (vY c0 104))
 |_=>none
theorem ST_ok(ht:fq w0):@fg (KT w0) P ST:=by
 letI J:JC:=KT w0
 intro g C hC;unfold ST at hC;split at hC<;>cases hC
 ·exact Xl ht
 ·exact xc (AZ (s0:=.f) (s1:=.b) (c:=7) fun V w hV hs=>by obtain⟨x,rfl,hx⟩:=hV;exact⟨_,rfl,⟨_,rfl⟩,Con.KH x w hx hs⟩) (ja iL 104)
def cT:aO:=run ST 40
theorem cT_ok(ht:fq w0):@bj (KT w0) P cT:=@eH (KT w0) _ (ST_ok ht) 40
theorem runT(ht:fq w){Vs:List Value}{fin:AV->Bool}(ra:aP (ew [] 5 Vs) args ARGS.toList)(he:bQ [] (dY [] 5) (fun h=>cT g args h (5+Vs.length) fun v _ _=>fin v)=true)(hp:∀v,fin (.pk v)=false):
  Calls P g ARGS w fun e w'=>(∃V v E',e=.returned V∧Rv E' v V∧fin v=true)∧Below w.heap.size w w':=by
 have tl:=ht.lt;have hs:0<w.heap.size:=by omega
 have hr:=Wu (gl:=[]) (n0:=5) (Ls:=Vs.map aw) (w:=w) rfl rfl rfl (fun p hp=>(by cases hp)) (gp _) (fun L hL=>by obtain⟨V,_,rfl⟩:=bU.1 hL;exact bH V) hs;have z:=lJ [] 5;have dead:∀i,(T.get .gone (dY [] 5) i).live=false:=fun i=>by
  cases i with
  |zero=>rw[z];rfl
  |succ i=>
   rcases nj [] 5 i with h|⟨p,hp,_⟩
   ·rw[h];rfl
   ·cases hp
 refine(@jK (KT w) P cT (cT_ok ht) _ _ _ _ [] g args ARGS (fun v _=>fin v) he hr (fun h' fk=>⟨fun _ _ h=>(by cases h),nrQ _,fun k hk=>⟨rfl,by rw[hk];exact tl,fun i L hl _=>by rw[fk.live,dead] at hl;cases hl⟩⟩) holds_nil ra (fun v h=>hp v)).mono ?_;rintro e w' ⟨V,v,h',n',E',rfl,rv,_,_,gs,_,hk⟩;exact⟨⟨V,v,E',rfl,rv,hk⟩,AM gs fun k hk=>by obtain⟨i,L,_,a2,_⟩:=hk;rw[dead] at a2;cases a2⟩
def txR(k:Nat):Bool:=bQ [] (dY [] 5) (fun h=>cT 229 [.ag [.i .u8 (Int.ofNat k),.x .f (.sy 5),.x .s (.sy 6),.x (.i .i64) (.sy 7)]] h 8 (fun v _ _=>Bm 2 v))
theorem tx0:txR 0=true:=by kernel_rfl
theorem tx1:txR 1=true:=by kernel_rfl
theorem tx2:txR 2=true:=by kernel_rfl
theorem tx3:txR 3=true:=by kernel_rfl
theorem txA:∀k,k<=3->txR k=true
 |0,_=>tx0
 |1,_=>tx1
 |2,_=>tx2
 |3,_=>tx3
theorem textV(v:V4)(hv:v.ok)(hk:v.k<=3)(w:World)(ht:fq w):Calls P 229 #[.agg v.cells.toArray] w fun e w'=>(∃s:ByteArray,e=.returned (.string s)∧(s.size:Int)<=9223372036854775807)∧Below w.heap.size w w':=by
 obtain⟨k,sq⟩:∃k:Nat,v.k=(k:Int):=⟨v.k.toNat,by have:=hv.k.1;omega⟩;have q1:aP (ew [] 5 [.float .f64 v.x,.string v.s,.int .i64 v.r]) [.i .u8 (Int.ofNat k),.x .f (.sy 5),.x .s (.sy 6),.x (.i .i64) (.sy 7)] v.cells:=
  ad (by rw[Rv,sq];rfl) (ad (jJ (s:=.f) 0 rfl (lN _) ⟨_,rfl,hv.x⟩) (ad (jJ (s:=.s) 1 rfl (eV _) ⟨_,rfl,hv.s⟩) (ad (jJ (s:=.i .i64) 2 rfl (ax _ _) ⟨_,rfl,hv.r⟩) aF)))
 refine(runT ht (Vs:=[.float .f64 v.x,.string v.s,.int .i64 v.r]) (args:=[.ag [.i .u8 (Int.ofNat k),.x .f (.sy 5),.x .s (.sy 6),.x (.i .i64) (.sy 7)]]) (ARGS:=#[.agg v.cells.toArray]) (g:=229) (fin:=Bm 2) (ad (by rw[Rv];exact⟨v.cells,rfl,q1⟩) aF) (txA k (by omega)) (fun v=>rfl)).mono ?_;rintro e w' ⟨⟨V,v,E',rfl,rv,hk⟩,hb⟩;obtain⟨s,rfl,h2⟩:=tw (t:=2) hk rv;exact⟨⟨_,rfl,h2⟩,hb⟩
def K9:Ct:=fun args h n k=>match args with
 |[.ag [a,b,c,d]]=>bc (Bn [0,1,2,3] [a,b,c,d]) (match a with
  |.x (.i .u8) e=>bc (bc (Nat.beq (cr (au h) (.cmp .leq e (.li .u8 5))) 1) (bc (Nat.ble 2 (cr (au h) (.cmp .eql e (.li .u8 5)))) (Nat.ble 2 (cr (au h) (.cmp .eql e (.li .u8 4)))) false) false) (aM (Nat.succ n) fun m=>k (.x .s (.sy n)) h m) false
  |_=>false) false
 |_=>false
theorem Pk(X:Ctx E0 w0 ba cap R):@gL (KJ E0 w0 (cg ba R)) P 229 K9:=by
 intro args ARGS E h n w k he ra hr hj;have gQ:bL E0 w0 (cg ba R) E h w:=hj;unfold K9 at he;split at he<;>try (cases he;done)
 rename_i a b c d;obtain⟨h1,Bl⟩:=aa he;clear he;split at Bl<;>try (cases Bl;done)
 rename_i e;obtain⟨h2,he⟩:=aa Bl;clear Bl;obtain⟨h2,h3⟩:=aa h2;obtain⟨h3,h4⟩:=aa h3;obtain⟨V,hA,rx⟩:=ra.one;have hA:ARGS=#[V]:=by apply Array.ext';simpa using hA
 subst hA;rw[Rv] at rx;obtain⟨vs,rfl,rl⟩:=rx;obtain⟨v,hv,rfl⟩:=ty4 (lQ h1 rl);have hf:=aD hr;have r0:=rl.nth 0;have r0:Rv E (.x (.i .u8) e) (.int .u8 v.k):=r0;rw[Rv] at r0;have de:=r0.1;have g5:=gD ((aX hf (az (k:=.u8) (c:=5) de)).1 (aN h2));have n5:=of_decide_eq_false ((aX hf (bx (k:=.u8) (c:=5) de)).2 (aU h3));have n4:=of_decide_eq_false ((aX hf (bx (k:=.u8) (c:=4) de)).2 (aU h4));refine(textV v hv (by omega) w (X.mh.same (gQ.2.2 _ (.inr (.inr rfl))).1)).mono ?_;rintro e w' ⟨⟨s,rfl,hV⟩,hb⟩;rw[aC] at he;have vQ:0<w'.heap.size:=by have:=wo gQ;have:=hb.size;omega
 exact .inl ⟨_,rfl,.x .s (.sy n),h,n+1,df E n (.string s),by rw[Rv];exact⟨den_add (eV _),_,rfl,hV⟩,(hr.below hb).add _ vQ,(bk.below hb).trans ((hr.below hb).ju _),he⟩
def S4:fV:=fun g=>match g with
 |46=>some (orC R7 (vY c0 46))
 |286=>some Tv
 |215=>some Ty
 |229=>some (orC K9 (vY c0 229))
 |g=>S2 g
def c4:aO:=run S4 40
theorem ZC(X:Ctx E0 w0 ba cap R):@fg (KJ E0 w0 (cg ba R)) P S4:=by
 intro g C hC;unfold S4 at hC;split at hC
 ·cases hC;letI:JC:=KJ E0 w0 (cg ba R);exact xc (zg Con.EW) (ja iL _)
 ·cases hC;exact Tw X
 ·cases hC;exact Tz X
 ·cases hC;letI:JC:=KJ E0 w0 (cg ba R);exact xc (Pk X) (ja iL _)
 ·exact Dk X _ C hC
theorem Dw(X:Ctx E0 w0 ba cap R):@bj (KJ E0 w0 (cg ba R)) P c4:=@eH (KJ E0 w0 (cg ba R)) _ (ZC X) 40
def Xm(cc:aO)(g:FuncId)(args:List AV)(ao:AO)(fs:aB)(T:Tr):Bool:=bQ fs (hS ao) fun h=>cc g args h 31 fun v h' _=>qC v fun _=>qb (au h') (dZ 30 v h') T
section
variable{w:World}{bp ba cap ab:Nat}{R:List An}{A S:Value}{l:List V4}(s:St w bp ba cap ab R A S l)
include s
theorem St.goC{cc:aO}(Nd:∀{E0:Env},Ctx E0 w ba cap R->@bj (KJ E0 w (cg ba R)) P cc)(n c:Nat){ao:AO}{fs:aB}{T:Tr}(hk:Xm cc g args ao fs T=true)(hf:Holds (ae (sC R A ba cap ab bp n c l)) fs)
  (ra:aP (ae (sC R A ba cap ab bp n c l)) args ARGS.toList) (nQ:RO (ae (sC R A ba cap ab bp n c l)) w 6 ao) (oU:ao=.gone∨ao.live=true):
  Calls P g ARGS w fun e w'=>∃V,e=.returned V∧qS bp w w'∧cU R w.heap.size bp V w' (ev R T):=by
 obtain⟨hr,hj,qa,cG⟩:=s.begin n c nQ oU;have X:=s.yU n c;have jX:ae (sC R A ba cap ab bp n c l) 30=some ⟨bp,0,0⟩:=rfl;refine(@jK (KJ (ae (sB R A ba cap ab bp n c l)) w (cg ba R)) P cc (Nd X) _ _ _ _ fs g _ _ (fun v h'=>qC v fun _=>qb (au h') (dZ 30 v h') T) hk hr (fun h' fk=>bL.fk hj fk) hf ra (fun v h=>rfl)).mono ?_;rintro e w' ⟨V,v,h',n',E',rfl,rv,cO,gQ,gs,xg,hk⟩;have sq:qb (au h') (dZ 30 v h') T=true:=by
  unfold qC at hk;split at hk
  ·exact hk
  ·cases hk
 have ci:jh (· =bp) w 30 (fun _ _=>True) E' h' w':=jh.goes (w:=w) ⟨dH.refl _ _,fun k _ hk=>qa k hk,cG,fun _ _ _ _=>trivial⟩ gs;exact⟨V,rfl,ci.bJ.one,pz X gQ.1 cO ci (gs.ext _ _ jX) rv (lC X gQ.1 xg sq)⟩
end
def Pm(cc:aO)(g:FuncId)(k:Nat)(q:List (Nat×Nat×Bool))(fm:aB)(T:Tr):Bool:=(List.range 5).all fun m=>bc (Vn k m) (Xm cc g [.ag [.p 30 0,gA m]] (ij m) (fF m++(kF q++f2)++fm) T) true
def qG(j:Nat):aB:=[(.fn 10 (sk (.sy (Nat.add 9 (Nat.mul 4 j))) (.sy (Nat.add 10 (Nat.mul 4 j))) (.sy (Nat.add 11 (Nat.mul 4 j))) (.sy (Nat.add 12 (Nat.mul 4 j)))),true)]
def V4.may(v:V4):Bool:=gI v.k v.x v.s v.r
theorem St.Ft{bp ab:Nat}{A S:Value}(s:St w bp ba cap ab R A S l)(n c:Nat){j:Nat}(hj:j<3)(h:(l.getD j z4).may=true):Holds (ae (sC R A ba cap ab bp n c l)) (qG j):=by
 refine ah ?_ holds_nil;have d0:=s.cell n c (i:=0) (V:=.int .u8 (l.getD j z4).k) hj rfl;have d1:=s.cell n c (i:=1) (V:=.float .f64 (l.getD j z4).x) hj rfl;have d2:=s.cell n c (i:=2) (V:=.string (l.getD j z4).s) hj rfl;have d3:=s.cell n c (i:=3) (V:=.int .i64 (l.getD j z4).r) hj rfl;have:=jc (E:=ae (sC R A ba cap ab bp n c l)) (a:=.sy (9+4*j+0)) (b:=.sy (9+4*j+1)) (c:=.sy (9+4*j+2)) (d:=.sy (9+4*j+3)) d0 d1 d2 d3;rw[show gI (l.getD j z4).k (l.getD j z4).x (l.getD j z4).s (l.getD j z4).r=true from h] at this;rw[show 9+4*j+0=9+4*j from rfl,show 9+4*j+1=10+4*j by omega,show 9+4*j+2=11+4*j by omega,show 9+4*j+3=12+4*j by omega] at this;exact this
def zn(g:FuncId)(ok:Nat->Nat->Bool):Prop:=∀l:List V4,(∀v∈l,v.may=true)->∃T,cf ok (fun _ _=>False) 0 T∧∀{w:World}{bp ba cap ab:Nat}{R:List An}{A S:Value},St w bp ba cap ab R A S l->
 Calls P g #[.agg #[.pointer (some ⟨bp,0,none⟩),S]] w fun e w'=>∃V,e=.returned V∧qS bp w w'∧cU R w.heap.size bp V w' (ev R T)
theorem ZD{v:V4}(h:v.may=true):v.k<=8:=by
 unfold V4.may gI at h;simp only[Bool.and_eq_true,decide_eq_true_eq] at h;exact h.1.1.1
theorem z4_may:z4.may=true:=by kernel_rfl
theorem xA(h:∀v∈l,v.may=true)(j:Nat):(l.getD j z4).may=true:=by
 rw[cB];cases hj:l[j]? with
 |none=>exact z4_may
 |some v=>exact h v (gq hj)
def xB(k:Nat->Tr):Nat->Nat->Tr
 |_,0=>te
 |p,n+1=>.ask 1 8 p (.ite 1 p false 7 (.ask 2 0 (p+1) (.ite 1 (p+1) true 5 (k (p+2)) (xB k (p+2) n))) (.ite 1 p false 8 (.ask 2 0 (p+1) (.ite 1 (p+1) true 5 (k (p+2)) (xB k (p+2) n))) (xB k (p+1) n)))
def c1T(k:Nat->Tr):Tr:=.ask 2 0 1 (.ite 1 1 true 5 (k 2) te)
def uf(k:Nat->Tr):Tr:=.ask 1 8 0 (.ite 1 0 false 0 (xB k 1 2) (.ite 1 0 false 1 (xB k 1 2) (.ite 1 0 false 7 (c1T k) (.ite 1 0 false 8 (c1T k) te))))
def TA(p:Nat):Tr:=.ask 1 5 p (.ite 6 p false 1 (.ask 4 0 (p+1) .done) .done)
def iy:Nat->Tr->List aB
 |0,_=>[[]]
 |n+1,.ask _ _ m t=>[(sw m,false)]::[(sw m,true),(HY 0 m false 1,false)]::(iy n t).map (fun fs=>(sw m,true)::(HY 0 m false 1,true)::fs)
 |n+1,.ite i m le c t f=>(iy n t).map (fun fs=>(HY i m le c,true)::fs)++(iy n f).map (fun fs=>(HY i m le c,false)::fs)
 |_+1,_=>[[]]
theorem xC(n q md m:Nat)(t:Tr):iy (n+1) (.ask q md m t)=[(sw m,false)]::[(sw m,true),(HY 0 m false 1,false)]::(iy n t).map (fun fs=>(sw m,true)::(HY 0 m false 1,true)::fs):=by simp only[iy]
theorem Dx(n i m:Nat)(le:Bool)(c:Nat)(t f:Tr):iy (n+1) (.ite i m le c t f)=(iy n t).map (fun fs=>(HY i m le c,true)::fs)++(iy n f).map (fun fs=>(HY i m le c,false)::fs):=by simp only[iy]
theorem wq{E0 E:Env}{w0:World}{ba cap:Nat}{R:List An}(X:Ctx E0 w0 ba cap R)(hle:E0.le E){ok:Nat->Nat->Bool}{G:Nat->Nat->Prop}:∀(n:Nat)(T:Tr)(j:Nat),cf ok G j T->I8 T->j<=R.length->∃fs∈iy n T,Holds E fs
 |0,_,_,_,_,_=>⟨[],by simp[iy],holds_nil⟩
 |n+1,.ask q md m t,j,hg,hu,hj=>by
  obtain⟨rfl,_,h3⟩:=hg;have d1:=tz X hle m;by_cases hm:m<R.length
  ·have d2:=E5 X hle (i:=0) rfl (cN hm) false 1
   cases hb:gG false ((R[m]).u8 0) 1<;>rw[hb] at d2
   ·have hh:Holds E [(sw m,true),(HY 0 m false 1,false)]:=ah (d1.trans (by rw[eX hm])) (ah d2 holds_nil)
    exact⟨_,by rw[xC];exact List.mem_cons_of_mem _ List.mem_cons_self,hh⟩
   ·obtain⟨fs,h4,h5⟩:=wq X hle n t (m+1) h3 hu (by omega)
    have hh:Holds E ((sw m,true)::(HY 0 m false 1,true)::fs):=ah (d1.trans (by rw[eX hm])) (ah d2 h5);exact⟨_,by rw[xC];exact List.mem_cons_of_mem _ (List.mem_cons_of_mem _ (bU.2 ⟨fs,h4,rfl⟩)),hh⟩
  ·have hh:Holds E [(sw m,false)]:=ah (d1.trans (by rw[gM hm])) holds_nil
   exact⟨_,by rw[xC];exact List.mem_cons_self,hh⟩
 |n+1,.ite i m le c t f,j,hg,hu,hj=>by
  obtain⟨h1,h2,h3⟩:=hg;have hm:m<R.length:=by omega
  have d2:=E5 X hle hu.1 (cN hm) le c;cases hb:gG le ((R[m]).u8 i) c<;>rw[hb] at d2
  ·obtain⟨fs,h4,h5⟩:=wq X hle n f j h3 hu.2.2 hj
   have hh:Holds E ((HY i m le c,false)::fs):=ah d2 h5;exact⟨_,by rw[Dx];exact List.mem_append_right _ (bU.2 ⟨fs,h4,rfl⟩),hh⟩
  ·obtain⟨fs,h4,h5⟩:=wq X hle n t j h2 hu.2.1 hj
   have hh:Holds E ((HY i m le c,true)::fs):=ah d2 h5;exact⟨_,by rw[Dx];exact List.mem_append_left _ (bU.2 ⟨fs,h4,rfl⟩),hh⟩
 |n+1,.more _ _ _ _,_,_,_,_=>⟨[],by simp[iy],holds_nil⟩
 |n+1,.sym _ _ _ _,_,_,_,_=>⟨[],by simp[iy],holds_nil⟩
 |n+1,.done,_,_,_,_=>⟨[],by simp[iy],holds_nil⟩
 |n+1,.fail _ _ _,_,_,_,_=>⟨[],by simp[iy],holds_nil⟩
 |n+1,.go _,_,_,_,_=>⟨[],by simp[iy],holds_nil⟩
end
end Go.Proofs.YtngagklmbbogiaaGreatDoor.Ob
