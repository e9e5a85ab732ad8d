/- Parts of one proof (Ob8a to Ob14). No condition. -/
import Derived.Shelf.RegionOpenPlain
import Derived.WalkKit
import Derived.Deep.LoopGhost
import Derived.Lib.Walk
import Derived.Lib.SliceRun
import Derived.Test.YtngagklmbbogiaaGreatDoorB0
set_option linter.all false
namespace Go.Proofs.YtngagklmbbogiaaGreatDoor.Ob
open Go.Shelf Go.RowKit Go.Lib
set_option maxHeartbeats 2000000 in
set_option maxRecDepth 100000 in
theorem O5{P:Program}{ρ:Ren}(L:SlLaysE0.n41 P ρ)(i0:TypeInfo)(z:Value)(size bytes:Nat)(hi:P.info? (ρ.t 23)=some i0)(hz0:i0.zero=some z)(hz1:i0.size=size)(WH:i0.bytes=bytes)(JQ:z.cells.size=size)(cC:0<size)(z23:∀w,(Go.sizeOf (ρ.t 23)).run P w=.ok size w)(a:Addr)(w:World):
  Calls P (ρ.f 41) #[.slice (some a) 0 0] w fun e w'=>∃v',e=.returned v'∧w'.ownsRow w.heap.size (ρ.t 23) size v' 0 []∧v'≠.slice none 0 0∧Below w.heap.size w w':=by
 have mixed:=L.mixed;have t4:=L.t4;have a4:=L.a4;have z4:=L.z4;have v4:=L.v4;have t22:=L.t22;have a22:=L.a22;have z22:=L.z22;have v22:=L.v22;have q22:∀(w:World)(a:Option Addr)(n c n' c':Nat),(binOp .eql (ρ.t 22) (.slice a n c) (.slice none n' c')).run P w=.ok (.bool a.isNone) w:=fun w a n c n' c'=>Lib.run_eql_slice_nil w _ _ a n c n' c' L.t22
 have u22:∀w,Sem.run P (underlying (ρ.t 22)) w=.ok (TypeDesc.slice (ρ.t 23)) w:=run_underlying t22;obtain⟨_,_,FG⟩:=L.f41
 go_enter FG,SlBodyN.n41_ntmps ρ
 go_wp2_with (at_builtin;refine wpList_append_own _ rfl _ _ (ρ.t 22) rfl w.heap.size (ρ.t 23) i0 z size bytes t22 hi hz0 hz1 WH JQ cC _ _ _ rfl (World.ownsRow_made w #[] 0 (nrQ _) (nzQ _) (by simp)) a 0 0 [] rfl ?qc1 ?qc2 ?qc3 ?qc4 ?qc5 ?qc6 ?_)
 case qc1=>simp
 case qc2=>intro j u hj;cases hj
 case qc3=>intro u hu;cases hu
 case qc4=>exact nzQ _
 case qc5=>simp
 case qc6=>simp
 intro v' w1 hown hgrow yO
 go_wp2
 go_ret
 refine⟨v',rfl,by simpa using hown,?_,?_⟩
 ·exact yO
 ·exact((Below.refl _ w).alloc (nrQ _) _).grown hgrow (by simp) (by intro k hk;simp[Value.ownBlock] at hk;omega)
end Go.Proofs.YtngagklmbbogiaaGreatDoor.Ob
namespace Go.Proofs.YtngagklmbbogiaaGreatDoor.Ob
open Go Go.RowKit Vx
set_option maxRecDepth 100000
noncomputable section
def tH(kAO:AO):Heap:=jq ([AO.gone,.gone,.gone,kAO]++(List.range 27).map (fun _=>AO.gone)) 32
def tF:aB:=[(.cmp .leq (.fn 20 (.sy 5)) (.li .i64 1024),true)]
def MV(h:Heap):Bool:=match T.get .gone h 32 with
 |.cells _ _ _=>true
 |_=>false
def WT(nil:Bool)(v:AV)(h:Heap):Bool:=match v with
 |.ag l=>bc (Nat.beq l.length 26) (bc (cH (List.take 23 l) (List.take 23 (je 7 .sn))) (bc (cH (List.drop 24 l) (List.drop 24 (je 7 .sn))) (match cV l 23 with
  |.sn=>nil
  |.sx id _ (.fn 20 (.sy 5)) _=>bc nil false (match T.get .gone h id with
   |.glob 3000051 _ _=>bc (Nat.ble 32 id) (Nat.ble id 2999999) false
   |_=>false)
  |_=>false) false) false) false
 |_=>false
def Ss(nil:Bool)(keys:AV)(kAO:AO):Bool:=bQ tF (tH kAO) fun h=>c0 69 [.ag (je 7 keys)] h 32 fun v h _=>bc (WT nil v h) (MV h) false
theorem twinN:Ss true .sn .gone=true:=by kernel_rfl
theorem twinK:Ss false O2 kgS=true:=by kernel_rfl
def tC(kb koff kr kc:Nat)(ks:List Ky)(o:iB):List aZ:=[⟨kb,0,0⟩,⟨kb,0,0⟩,⟨kb,0,0⟩,⟨kb,koff,kr⟩,aw (.int .i64 (aG (aA ks))),aw (.int .i64 kc)]++o.syms.map aw
theorem Su{kb koff kr kc:Nat}{ks:List Ky}{o:iB}(i:Nat)(V:Value)(h:o.syms[i]? =some V):den (ae (tC kb koff kr kc ks o)) (.sy (7+i))=some V:=by
 have hi:i<25:=by have:=(bR.1 h).1;rw[nq] at this;exact this
 rw[show 7+i=(6+i)+1 by omega];refine aj ?_ (gO o V (gq h));unfold tC;rw[zE (by simp)];show(o.syms.map aw)[6+i-6]? =_;rw[show 6+i-6=i by omega];rw[fL,h];rfl
theorem WU{kAO:AO}{i:Nat}(hl:(T.get .gone (tH kAO) i).live=true):i<32:=by
 obtain⟨j,b,rfl,h1,h2⟩:=bT (a:=.gone) hl;have:=(bR.1 h1).1;have hlen:([AO.gone,.gone,.gone,kAO]++(List.range 27).map (fun _=>AO.gone)).length=31:=rfl;rw[hlen] at this;omega
theorem Dp{J:JC}{call:aO}(aQ:@bj J P call){w:World}{kb koff kr kc:Nat}{o:iB}{K:Value}{ks:List Ky}{kAV:AV}{kAO:AO}{nil:Bool}(hj:∀h,J.J (ae (tC kb koff kr kc ks o)) h w)(ok:o.ok)(qR:ks.length<=1024)(I4:kb<w.heap.size)
  (rk:Rv (ae (tC kb koff kr kc ks o)) kAV K) (rok:RO (ae (tC kb koff kr kc ks o)) w 4 kAO) (Zb:(jT ([AO.gone,.gone,.gone,kAO]++(List.range 27).map (fun _=>AO.gone)) (tC kb koff kr kc ks o)).Nodup) (run:(bQ tF (tH kAO) fun h=>call 69 [.ag (je 7 kAV)] h 32 fun v h _=>bc (WT nil v h) (MV h) false)=true):
  Calls P 69 #[.agg (o.cells K).toArray] w fun e w'=>Below w.heap.size w w'∧(∃K',e=.returned (.agg (o.cells K').toArray)∧(nil=true->K'=.slice none 0 0)∧(nil=false->fE w' K' ks∧∀b,cn K' b->w.heap.size<=b))∧
   ∃b arr el fr,w.heap.size<=b∧w'.heap[b]? =some (.cells arr el fr):=by
 have d5:den (ae (tC kb koff kr kc ks o)) (.sy 5)=some (.int .i64 (aG (aA ks))):=aj (i:=4) rfl (ax _ _);have kz:(aA ks).length=ks.length:=by unfold aA;rw[gp]
 have ro:aP (ae (tC kb koff kr kc ks o)) (je 7 kAV) (o.cells K):=uT ok rk Su;have ro0:aP (ae (tC kb koff kr kc ks o)) (je 7 .sn) (o.cells (.slice none 0 0)):=uT ok (by rw[Rv]) Su;have hr:HR (ae (tC kb koff kr kc ks o)) (tH kAO) 32 w:=by
  refine cX (C:=tC kb koff kr kc ks o) rfl (show 32<=32 from by decide) (.append ⟨trivial,trivial,trivial,rok,trivial⟩ (.dead _ _ fun a ha=>by obtain⟨_,_,rfl⟩:=bU.1 ha;rfl)) (fun L hL=>?_) Zb
  have s0:∀V,(aw V).aH<w.heap.size:=fun V=>by rw[bH];omega
  unfold tC at hL;simp only[List.cons_append,List.nil_append,mcQ,List.mem_append,bU,mnQ,or_false] at hL;rcases hL with rfl|rfl|rfl|rfl|rfl|rfl|⟨V,_,rfl⟩<;>first|exact s0 _|assumption
 have hf:Holds (ae (tC kb koff kr kc ks o)) tF:=ah ((az (k:=.i64) (c:=1024) (n:=ks.length) (by rw[bC d5,kz])).trans (by rw[eX (by omega)])) holds_nil;have ra:aP (ae (tC kb koff kr kc ks o)) [.ag (je 7 kAV)] (#[.agg (o.cells K).toArray]:Array Value).toList:=ad (by rw[Rv];exact⟨_,rfl,ro⟩) aF;refine(@jK J _ _ aQ _ _ _ _ _ _ _ _ _ run hr (fun h _=>hj h) hf ra (fun v h=>rfl)).mono ?_;rintro e w' ⟨V,v,h',n',E',rfl,rv,cO,_,gs,xg,hk⟩;obtain⟨k1,k3⟩:=aa hk;have hfl0:bM (tH kAO)=32:=bX _ _;have qa:∀k,¬fp (ae (tC kb koff kr kc ks o)) (tH kAO) k:=by
  rintro k ⟨i,L,a1,a2,a3,rfl⟩;rw[hfl0] at a1;have:=WU a2;omega
 have fresh:∀i L,32<=i->(T.get .gone h' i).live=true->E' i=some L->w.heap.size<=L.aH:=fun i L hi hl hL=>by
  rcases gC L.aH w.heap.size with cL|ll
  ·exact absurd (gs.CE L.aH cL ⟨i,L,by rw[gs.bM,hfl0];exact hi,hl,hL,rfl⟩) (qa _)
  ·exact ll
 refine⟨AM gs qa,?_,?_⟩
 ·unfold WT at k1
  split at k1
  case h_2=>cases k1
  rename_i l;obtain⟨a1,k1⟩:=aa k1;obtain⟨a2,k1⟩:=aa k1;obtain⟨a3,k1⟩:=aa k1;have a1:=aN a1;rw[Rv] at rv;obtain⟨vs,rfl,WL⟩:=rv;have qY:=Sj gs.ext ro0 a1 a2 a3 WL rfl;refine⟨vs.getD 23 undef,by rw[←qY],?_⟩;have EZ:=WL.nth 23;rw[ff] at k1;rw[ff] at EZ;split at k1
  ·rename_i hq
   rw[hq,Rv] at EZ;subst k1;exact⟨fun _=>EZ,fun h=>by cases h⟩
  ·rename_i id lo cp hq
   rw[hq] at EZ;rcases aR k1 with⟨rfl,k1⟩|⟨rfl,k1⟩
   ·cases k1
   refine⟨fun h=>by (cases h),fun _=>?_⟩;split at k1
   case h_2=>cases k1
   rename_i c t hg;obtain⟨k1,k1b⟩:=aa k1;have k1:=aU k1;have k1b:=aU k1b;have fG:=cO.obj id;rw[hg] at fG;obtain⟨q1,L,q2,n,c,q3⟩:=MR (S:=5) fG (by omega) (by decide) (an gs.ext _ _ d5) EZ;refine⟨q1,fun b hb=>?_⟩;obtain⟨off,n',c',hb⟩:=hb;rw[q3] at hb;obtain rfl:L.aH=b:=by injection hb with e;injection e with e;injection e with e1 e2
   exact fresh id L k1 (by rw[hg];rfl) q2
  ·cases k1
 ·unfold MV at k3
  split at k3
  case h_2=>cases k3
  rename_i n0 gB c hc;have fG:=cO.obj 32;rw[hc] at fG;obtain⟨L,arr,el,eL,hb,_⟩:=fG;exact⟨L.aH,arr,el,_,fresh 32 L (nrQ _) (by rw[hc];rfl) eL,hb⟩
theorem Sv(a:Addr)(w:World):Calls P 180 #[.slice (some a) 0 0] w fun e w'=>(∃(b' cap:Nat)(cur:Array Value)(el:TypeId),e=.returned (.slice (some ⟨b',0,none⟩) 0 cap)∧w.heap.size<=b'∧w'.heap[b']? =some (.cells cur el (0,0))∧cap<=maxLen)∧Below w.heap.size w w':=by
 obtain⟨i0,z,hi,hz,h2,WH,hby⟩:=Sh;refine(O5 Tryz.Bg i0 z 2 i0.bytes hi hz h2 rfl WH (by decide) Tryz.sizeOf38 a w).mono ?_;rintro e w' ⟨v',rfl,⟨_,hv⟩,yO,Vl⟩;rcases hv with⟨rfl,_⟩|⟨g,cap,cur,rfl,hg,pP,wQ,HJ,cC,uw⟩
 ·exact absurd rfl yO
 ·exact⟨⟨g,cap,cur,_,rfl,hg,pP,HJ⟩,Vl⟩
def KL:Ct:=fun args h n k=>match args with
 |[.sz id (.fn 20 (.sy S))]=>bc (bc (Nat.beq id 4) (Nat.beq S 5) false) (T.dj (.glob 3000051 0 fc) h n fun h1=>aM (Nat.add n 2) fun q=>aM (Nat.succ n) fun q1=>k (.sx n 0 (.fn 20 (.sy 5)) (.sy q1)) h1 q) false
 |_=>false
@[reducible] def JW(kb:Nat)(a:Addr):JC:=⟨fun E _ _=>E 4=some ⟨kb,tQ a,0⟩∧den E (.sy 5)=some (.int .i64 (aG (aA []))),fun _ j g _=>⟨g.ext _ _ j.1,an g.ext _ _ j.2⟩,fun _ _ j=>j⟩
theorem O6(kb:Nat)(a:Addr):@gL (JW kb a) P 180 KL:=by
 intro args ARGS E h n w k he ra hr hj;have hj:E 4=some ⟨kb,tQ a,0⟩∧den E (.sy 5)=some (.int .i64 (aG (aA []))):=hj;unfold KL at he;split at he<;>try (cases he;done)
 rename_i id S;obtain⟨h1,he⟩:=aa he;obtain⟨h1,h2⟩:=aa h1;have h1:=aN h1;have h2:=aN h2;subst h1 h2;rw[T.bh,aC,aC] at he;obtain⟨V,hA,rx⟩:=ra.one;have hA:ARGS=#[V]:=by apply Array.ext';simpa using hA
 subst hA;rw[Rv] at rx;obtain⟨L,N,eL,dN,hN,hz,rfl⟩:=rx;rw[hj.1] at eL;cases eL
 have eN:=hz rfl;subst eN;rw[if_pos rfl,zB];refine(Sv a w).mono ?_;rintro e w' ⟨⟨b',cap,cur,el,rfl,Ah,pP,HJ⟩,Vl⟩;have fresh:=hr.fresh n (nrQ _);have d5:den (Vx.br E n ⟨b',0,0⟩) (.sy 5)=some (.int .i64 (aG (aA []))):=an (eW fresh) _ _ hj.2;obtain⟨a1,a2⟩:=hr.newRow Vl (g:=3000000+10*5+1) Ah pP (by omega) (nu (l:=[]) (b:=b') (off:=0) (by decide) d5 (nzQ _) (fun j k hk=>by cases hk) 0 fun _=>rfl);have vQ:0<w'.heap.size:=by have:=(cW.1 pP).1;omega
 have jF:=a1.add (.int .i64 cap) vQ;have le2:=a1.Bc (.int .i64 cap);refine .inl ⟨_,rfl,.sx n 0 (.fn 20 (.sy 5)) (.sy (n+1)),T.set (.glob 3000051 0 fc) h n,n+2,df (Vx.br E n ⟨b',0,0⟩) (n+1) (.int .i64 cap),?_,jF,a2.trans (a1.ju _),he⟩;rw[Rv];exact⟨⟨b',0,0⟩,0,cap,le2 _ _ (by unfold Vx.br;rw[if_pos rfl]),an le2 _ _ (by rw[bC d5];rfl),den_add (ax _ _),nzQ _,by omega,rfl⟩
def SWk:fV:=fun g=>match g with
 |180=>some KL
 |_=>none
theorem SWk_ok(kb:Nat)(a:Addr):@fg (JW kb a) P SWk:=by
 intro g C hC;unfold SWk at hC;split at hC
 ·cases hC;exact O6 kb a
 ·cases hC
def keyW:AV:=.sz 4 (.fn 20 (.sy 5))
def twinW:Bool:=bQ tF (tH .gone) fun h=>Vx.run SWk 40 69 [.ag (je 7 keyW)] h 32 fun v h _=>bc (WT false v h) (MV h) false
theorem Sw:twinW=true:=by kernel_rfl
theorem HV{w:World}{kb koff kr kc:Nat}{o:iB}{K:Value}{ks:List Ky}{kAV:AV}{kAO:AO}{nil:Bool}(ok:o.ok)(qR:ks.length<=1024)(I4:kb<w.heap.size)
  (rk:Rv (ae (tC kb koff kr kc ks o)) kAV K) (rok:RO (ae (tC kb koff kr kc ks o)) w 4 kAO) (Zb:(jT ([AO.gone,.gone,.gone,kAO]++(List.range 27).map (fun _=>AO.gone)) (tC kb koff kr kc ks o)).Nodup) (run:Ss nil kAV kAO=true):
  Calls P 69 #[.agg (o.cells K).toArray] w fun e w'=>Below w.heap.size w w'∧(∃K',e=.returned (.agg (o.cells K').toArray)∧(nil=true->K'=.slice none 0 0)∧(nil=false->fE w' K' ks∧∀b,cn K' b->w.heap.size<=b))∧
   ∃b arr el fr,w.heap.size<=b∧w'.heap[b]? =some (.cells arr el fr):=
 Dp (J:=JC.qP) (@iL JC.qP) (fun _=>trivial) ok qR I4 rk rok Zb run
theorem twin{w:World}{o:iB}{K:Value}{ks:List Ky}(ok:o.ok)(hk:ia w K ks)(qR:ks.length<=1024)(hs:0<w.heap.size):
  Calls P 69 #[.agg (o.cells K).toArray] w fun e w'=>Below w.heap.size w w'∧(∃K',e=.returned (.agg (o.cells K').toArray)∧fE w' K' ks∧∀b,cn K' b->w.heap.size<=b)∧∃b arr el fr,w.heap.size<=b∧w'.heap[b]? =some (.cells arr el fr):=by
 rcases hk with(⟨rfl,rfl⟩|⟨b,off,cap,arr,el,fr,rfl,hb,cC,hc⟩)|⟨rfl,a,rfl⟩
 ·refine(HV (kb:=0) (koff:=0) (kr:=1) (kc:=0) (ks:=[]) (kAV:=.sn) (kAO:=.gone) (nil:=true) ok (by decide) hs (by rw[Rv]) trivial (show([]:List Nat).Nodup by simp) twinN).mono ?_
  rintro e w' ⟨h1,⟨K',h2,h3,_⟩,h4⟩;have h3:=h3 rfl;subst h3;exact⟨h1,⟨_,h2,.inl ⟨rfl,rfl⟩,fun b hb=>by obtain⟨_,_,_,hb⟩:=hb;cases hb⟩,h4⟩
 ·have ML:b<w.heap.size:=(cW.1 hb).1
  have d5:den (ae (tC b off 1 cap ks o)) (.sy 5)=some (.int .i64 (aG (aA ks))):=aj (i:=4) rfl (ax _ _);have d6:den (ae (tC b off 1 cap ks o)) (.sy 6)=some (.int .i64 cap):=aj (i:=5) rfl (ax _ _);have kz:(aA ks).length=ks.length:=by unfold aA;rw[gp]
  refine(HV (kb:=b) (koff:=off) (kr:=1) (kc:=cap) (ks:=ks) (kAV:=O2) (kAO:=kgS) (nil:=false) ok qR ML ?_ ?_ (show[b].Nodup by simp) twinK).mono ?_
  ·unfold O2
   rw[Rv];exact⟨⟨b,off,1⟩,ks.length,cap,rfl,by rw[bC d5,kz],d6,nzQ _,by omega,rfl⟩
  ·exact⟨⟨b,off,1⟩,arr,el,fr,rfl,fun h=>absurd h (by decide),hb,by show off+0<=_;omega,fun j hj=>absurd hj (Nat.not_lt_zero _),nu (S:=5) (by decide) d5 cC hc 1 fun h=>absurd h (by decide)⟩
  ·rintro e w' ⟨h1,⟨K',h2,_,h3⟩,h4⟩
   exact⟨h1,⟨_,h2,h3 rfl⟩,h4⟩
 ·have d5:den (ae (tC 0 (tQ a) 0 0 [] o)) (.sy 5)=some (.int .i64 (aG (aA []))):=aj (i:=4) rfl (ax _ _)
  refine(Dp (J:=JW 0 a) (@eH (JW 0 a) _ (SWk_ok 0 a) 40) (kb:=0) (koff:=tQ a) (kr:=0) (kc:=0) (ks:=[]) (kAV:=keyW) (kAO:=.gone) (nil:=false) (fun _=>⟨rfl,d5⟩) ok (by decide) hs ?_ trivial (show([]:List Nat).Nodup by simp) Sw).mono ?_
  ·unfold keyW
   rw[Rv];exact⟨⟨0,tQ a,0⟩,0,rfl,by rw[bC d5];rfl,by omega,fun _=>rfl,by rw[if_pos rfl,zB]⟩
  ·rintro e w' ⟨h1,⟨K',h2,_,h3⟩,h4⟩
   exact⟨h1,⟨_,h2,h3 rfl⟩,h4⟩
def Bm(t:Nat)(v:AV):Bool:=match t,v with
 |0,.x (.i .u8) _=>true
 |0,.i .u8 n=>bc (decide (0<=n)) (decide (n<=255)) false
 |1,.x .f _=>true
 |1,.f .f64 x=>Nat.ble (Nat.succ x) 18446744073709551616
 |2,.x .s _=>true
 |2,.s l _=>Nat.ble l 9223372036854775807
 |3,.x (.i .i64) _=>true
 |3,.i .i64 n=>bc (decide (-9223372036854775808<=n)) (decide (n<=9223372036854775807)) false
 |4,.x .b _=>true
 |4,.b _=>true
 |5,_=>true
 |_,_=>false
def TyV(t:Nat)(V:Value):Prop:=match t with
 |0=>∃n,V=.int .u8 n∧0<=n∧n<=255
 |1=>∃x,V=.float .f64 x∧x<18446744073709551616
 |2=>∃s:ByteArray,V=.string s∧(s.size:Int)<=9223372036854775807
 |3=>∃n,V=.int .i64 n∧-9223372036854775808<=n∧n<=9223372036854775807
 |4=>∃b,V=.bool b
 |_=>True
theorem tw{E:Env}{t:Nat}{v:AV}{V:Value}(h:Bm t v=true)(r:Rv E v V):TyV t V:=by
 unfold Bm at h;split at h<;>try (cases h;done)
 ·rw[Rv] at r;obtain⟨_,n,rfl,k⟩:=r;exact⟨n,rfl,k⟩
 ·rw[Rv] at r;subst r
  obtain⟨h1,h2⟩:=aa h;exact⟨_,rfl,gD h1,gD h2⟩
 ·rw[Rv] at r;obtain⟨_,n,rfl,k⟩:=r;exact⟨n,rfl,k⟩
 ·rw[Rv] at r;subst r
  exact⟨_,rfl,aU h⟩
 ·rw[Rv] at r;obtain⟨_,n,rfl,k⟩:=r;exact⟨n,rfl,k⟩
 ·rw[Rv] at r;subst r
  refine⟨_,rfl,?_⟩;rw[oX];have:=aU h;omega
 ·rw[Rv] at r;obtain⟨_,n,rfl,k⟩:=r;exact⟨n,rfl,k⟩
 ·rw[Rv] at r;subst r
  obtain⟨h1,h2⟩:=aa h;exact⟨_,rfl,gD h1,gD h2⟩
 ·rw[Rv] at r;obtain⟨_,n,rfl⟩:=r;exact⟨n,rfl⟩
 ·rw[Rv] at r;subst r;exact⟨_,rfl⟩
 ·trivial
def tys:List Nat:=[0,0,1,2,3,4,4,0,0,1,2,3,0,1,2,3,0,1,2,3,4,4,4,5,0,2]
def Bn(ts:List Nat):List AV->Bool:=List.rec (motive:=fun _=>List AV->Bool) (fun l=>List.rec (motive:=fun _=>Bool) true (fun _ _ _=>false) l) (fun t _ ih l=>List.rec (motive:=fun _=>Bool) false (fun v l _=>bc (Bm t v) (ih l) false) l) ts
def TyL:List Nat->List Value->Prop
 |[],vs=>vs=[]
 |t::ts,vs=>∃V us,vs=V::us∧TyV t V∧TyL ts us
theorem lQ{E:Env}:∀{ts:List Nat}{l:List AV}{vs:List Value},Bn ts l=true->aP E l vs->TyL ts vs
 |[],[],vs,_,r=>by rw[aP] at r;exact r
 |[],_::_,_,h,_=>by cases h
 |_::_,[],_,h,_=>by cases h
 |t::ts,v::l,vs,h,r=>by
  have h:bc (Bm t v) (Bn ts l) false=true:=h;obtain⟨h1,h2⟩:=aa h;rw[aP] at r;obtain⟨V,us,rfl,r1,r2⟩:=r;exact⟨V,us,rfl,tw h1 r1,lQ h2 r2⟩
theorem aW{t:Nat}{ts:List Nat}{vs:List Value}(h:TyL (t::ts) vs):∃V us,vs=V::us∧TyV t V∧TyL ts us:=h
theorem Bo{vs:List Value}(h:TyL tys vs):∃o:iB,o.ok∧vs=o.cells (vs.getD 23 undef):=by
 unfold tys at h;obtain⟨x0,q0,rfl,a0,t0⟩:=aW h;obtain⟨x1,q1,rfl,a1,t1⟩:=aW t0;obtain⟨x2,q2,rfl,a2,t2⟩:=aW t1;obtain⟨x3,q3,rfl,a3,t3⟩:=aW t2;obtain⟨x4,q4,rfl,a4,t4⟩:=aW t3;obtain⟨x5,q5,rfl,a5,t5⟩:=aW t4;obtain⟨x6,q6,rfl,a6,t6⟩:=aW t5;obtain⟨x7,q7,rfl,a7,t7⟩:=aW t6;obtain⟨x8,q8,rfl,a8,t8⟩:=aW t7;obtain⟨x9,q9,rfl,a9,t9⟩:=aW t8;obtain⟨x10,q10,rfl,Vg,t10⟩:=aW t9;obtain⟨x11,q11,rfl,Vh,t11⟩:=aW t10;obtain⟨x12,O7,rfl,a12,t12⟩:=aW t11;obtain⟨x13,q13,rfl,Vi,t13⟩:=aW t12;obtain⟨x14,q14,rfl,Vj,t14⟩:=aW t13;obtain⟨x15,q15,rfl,Vk,t15⟩:=aW t14;obtain⟨x16,q16,rfl,a16,t16⟩:=aW t15;obtain⟨x17,q17,rfl,a17,t17⟩:=aW t16;obtain⟨x18,q18,rfl,a18,t18⟩:=aW t17;obtain⟨x19,q19,rfl,a19,t19⟩:=aW t18;obtain⟨x20,q20,rfl,a20,t20⟩:=aW t19;obtain⟨x21,q21,rfl,a21,t21⟩:=aW t20;obtain⟨x22,q22,rfl,a22,t22⟩:=aW t21;obtain⟨x23,q23,rfl,a23,t23⟩:=aW t22;obtain⟨x24,q24,rfl,a24,t24⟩:=aW t23;obtain⟨x25,q25,rfl,a25,t25⟩:=aW t24;have xj:q25=[]:=by cases q25 with|nil=>rfl|cons _ _=>cases t25
 subst xj;obtain⟨n0,rfl,b0⟩:=a0;obtain⟨n1,rfl,b1⟩:=a1;obtain⟨n2,rfl,b2⟩:=a2;obtain⟨n3,rfl,b3⟩:=a3;obtain⟨n4,rfl,b4⟩:=a4;obtain⟨n5,rfl⟩:=a5;obtain⟨n6,rfl⟩:=a6;obtain⟨n7,rfl,b7⟩:=a7;obtain⟨n8,rfl,b8⟩:=a8;obtain⟨n9,rfl,b9⟩:=a9;obtain⟨n10,rfl,b10⟩:=Vg;obtain⟨n11,rfl,b11⟩:=Vh;obtain⟨n12,rfl,b12⟩:=a12;obtain⟨n13,rfl,b13⟩:=Vi;obtain⟨n14,rfl,b14⟩:=Vj;obtain⟨n15,rfl,b15⟩:=Vk;obtain⟨n16,rfl,b16⟩:=a16;obtain⟨n17,rfl,b17⟩:=a17;obtain⟨n18,rfl,b18⟩:=a18;obtain⟨n19,rfl,b19⟩:=a19;obtain⟨n20,rfl⟩:=a20;obtain⟨n21,rfl⟩:=a21;obtain⟨n22,rfl⟩:=a22;obtain⟨n24,rfl,b24⟩:=a24;obtain⟨n25,rfl,b25⟩:=a25;exact⟨⟨n0,⟨n1,n2,n3,n4⟩,n5,n6,n7,⟨n8,n9,n10,n11⟩,⟨n12,n13,n14,n15⟩,⟨n16,n17,n18,n19⟩,n20,n21,n22,n24,n25⟩,⟨b0,⟨b1,b2,b3,b4⟩,b7,⟨b8,b9,b10,b11⟩,⟨b12,b13,b14,b15⟩,⟨b16,b17,b18,b19⟩,b24,b25⟩,rfl⟩
def Dq(l:List AV)(fs:aB)(k:SE->Nat->Nat->Bool):Bool:=match l with
 |.x (.i .u8) (.cD 200 (.sy 1) e)::_=>(match cV l 23 with
  |.sz id (.fn 20 (.sy S))=>bc (cH l (Co (jv e) (.sz id (.fn 20 (.sy S))))) (bc (bc (Nat.beq (cr fs (.cmp .lss e (.sy 2))) 1) (ki e (-1) fs) false) (bc (Nat.beq (cr fs (.cmp .eql (.sy S) (.cD 226 (.sy 1) e))) 1) (k e id S) false) false) false
  |_=>false)
 |_=>false
theorem sv{E0 E:Env}{w0:World}{ba cap:Nat}{R:List An}(X:Ctx E0 w0 ba cap R)(hle:E0.le E){l:List AV}{fs:aB}{k:SE->Nat->Nat->Bool}(he:Dq l fs k=true)(hf:Holds E fs){vs:List Value}(r:aP E l vs)(hint:∀e,l.head? =some (.x (.i .u8) (.cD 200 (.sy 1) e))->∃n,den E e=some (.int .i64 n)):
  ∃e id S m a,k e id S=true∧R[m]? =some a∧den E e=some (.int .i64 (m:Nat))∧vs=a.o.cells (vs.getD 23 undef)∧Rv E (.sz id (.fn 20 (.sy S))) (vs.getD 23 undef)∧l=Co (jv e) (.sz id (.fn 20 (.sy S)))∧
   (∀c,den E (.sy S)=some (.int .i64 c)->c=(aG (aA a.ks):Nat)):=by
 unfold Dq at he;split at he<;>try (cases he;done)
 rename_i e tl;split at he<;>try (cases he;done)
 rename_i id S WJ;obtain⟨h1,Bl⟩:=aa he;obtain⟨h2,P6⟩:=aa Bl;obtain⟨h3,Sq⟩:=aa P6;clear he Bl P6;obtain⟨h2,h2b⟩:=aa h2;have h1:=bb h1;obtain⟨n,dn⟩:=hint e rfl;have ha:=iV hf e dn h2b;obtain⟨m,rfl⟩:∃m:Nat,n=(m:Int):=⟨n.toNat,by omega⟩;have dN:den E (.sy 2)=some (.int .i64 R.length):=an hle _ _ X.many;have dlt:den E (.cmp .lss e (.sy 2))=some (.bool (decide ((m:Int)<(R.length:Int)))):=by
  have d2:den E (.cmp .lss e (.sy 2))=(bu .lss (.int .i64 m) (.int .i64 R.length)).map Value.bool:=by
   show(match den E e,den E (.sy 2) with|some X,some Y=>(bu .lss X Y).map Value.bool|_,_=>none)=_;rw[dn,dN]
  rw[d2];rfl
 have cL:=gD ((aX hf dlt).1 (aN h2));obtain⟨a,hR⟩:∃a,R[m]? =some a:=⟨R[m]'(by omega),cN (by omega)⟩;have d1:=an hle _ _ X.rows;have EZ:=r.nth 23;rw[WJ] at EZ;have cell:∀i V,a.o.syms[i]? =some V->den E (jv e i)=some V:=fun i V hi=>by
  have BX:=(bR.1 hi).1;exact eI d1 dn hR (by rw[iA BX];exact hi) (gO a.o V (gq hi))
 have r2:aP E (Co (jv e) (.sz id (.fn 20 (.sy S)))) (a.o.cells (vs.getD 23 undef)):=gP (X.at_ m a hR).o EZ cell;refine⟨e,id,S,m,a,Sq,hR,dn,?_,EZ,h1,fun c hc=>?_⟩
 ·rw[h1] at r
  exact aP.exact (Env.le_refl E) _ _ _ (by rfl) r2 r
 ·have d26:den E (.cD 226 (.sy 1) e)=some (.int .i64 (aG (aA a.ks))):=eI (i:=26) d1 dn hR rfl (ax _ _)
  have d0:den E (.cmp .eql (.sy S) (.cD 226 (.sy 1) e))=some (.bool (decide (c=(aG (aA a.ks):Nat)))):=by
   have d2:den E (.cmp .eql (.sy S) (.cD 226 (.sy 1) e))=(bu .eql (.int .i64 c) (.int .i64 (aG (aA a.ks)))).map Value.bool:=by
    show(match den E (.sy S),den E (.cD 226 (.sy 1) e) with|some X,some Y=>(bu .eql X Y).map Value.bool|_,_=>none)=_;rw[hc,d26]
   rw[d2];by_cases hh:c=((aG (aA a.ks):Nat):Int)<;>simp[bu,jY,hh]
  exact gD ((aX hf d0).1 (aN h3))
theorem lB{E:Env}{w:World}{id S c:Nat}{t:T AV}{K:Value}{ks:List Ky}(dU:RO E w id (.glob (3000000+10*S+1) c t))(hid:id<3000000)(hS:S<=99998)(d:∀c,den E (.sy S)=some (.int .i64 c)->c=(aG (aA ks):Nat))(r:Rv E (.sz id (.fn 20 (.sy S))) K):
  fE w K ks∧den E (.sy S)=some (.int .i64 (aG (aA ks))):=by
 obtain⟨L,arr,el,fr,eL,_,hb,_,_,ht⟩:=dU;rw[Rv] at r;obtain⟨L',n,qM,dn,hn,hz,rfl⟩:=r;rw[eL] at qM;cases qM;obtain⟨R,dR,cC,hlen,CU⟩:=ht.2.1 ⟨by omega,by omega,by omega⟩;have eS:(3000000+10*S+1-3000000)/10=S:=by omega
 have eP:Jh ((3000000+10*S+1)%10)=2:=by rw[show(3000000+10*S+1)%10=1 by omega];rfl
 rw[eS] at dR;rw[eP] at cC hlen CU;have eR:aA ks=R:=oZ (by have:=d _ dR;exact_mod_cast this.symm);subst eR;have hl:(aA ks).length=ks.length:=by unfold aA;rw[gp]
 rw[bC dR] at dn;have en:n=ks.length:=by
  injection dn with dn;injection dn with _ dn
  rw[hl] at dn;omega
 subst en;rw[hl] at cC;refine⟨?_,dR⟩;by_cases h0:L.room=0
 ·rw[if_pos h0,hlen.2 h0]
  exact .inl ⟨rfl,List.eq_nil_of_length_eq_zero (hz h0)⟩
 ·rw[if_neg h0]
  refine .inr ⟨L.aH,L.base,_,arr,el,fr,rfl,hb,cC,fun j k hj=>?_⟩
  have h0:=CU j (HL k) (ns hj) 0 (yN (.string k.1)) rfl;have h1:=CU j (HL k) (ns hj) 1 (yN (.int .i64 k.2)) rfl;rw[gz (eV _)] at h0;rw[gz (ax _ _)] at h1;exact⟨h0,h1⟩
theorem HR.HW{E:Env}{h:Heap}{n:Nat}{w w':World}(hr:HR E h n w)(hb:Below w.heap.size w w'){L2:aZ}(Oj:w.heap.size<=L2.aH)(oH:L2.aH<w'.heap.size){a:AO}(ha:RO (Vx.br E n L2) w' n a):
  HR (Vx.br E n L2) (T.set a h n) (n+1) w'∧bk E h w (Vx.br E n L2) (T.set a h n) w':=by
 have fw:=hr.below hb;have e2:(fun i=>if i=n then some L2 else E i)=Vx.br E n L2:=rfl;have wa:=fw.Ha L2 oH (fun i M hi hM e=>by have:=hr.kT i M hM;omega) a ha;rw[e2] at wa;have hn0:0<n:=hr.pos;have z:T.get .gone (T.set a h n) 0=T.get .gone h 0:=T.ay _ _ _ _ _ (by omega);have fl:bM (T.set a h n)=bM h:=by unfold bM;rw[z]
 refine⟨wa,eW (hr.fresh n (nrQ _)),hb.size,fun k hk _=>hb.block k hk,fun k hk hf=>?_,fl,fun i hi=>T.ay _ _ _ _ _ (by have:=hr.kU;omega),hb.os,hb.output,hb.tape⟩;obtain⟨i,M,a1,a2,a3,a4⟩:=hf;by_cases e:i=n
 ·subst e
  unfold Vx.br at a3;rw[if_pos rfl] at a3;cases a3
  omega
 ·rw[T.ay _ _ _ _ _ e] at a2
  unfold Vx.br at a3;rw[if_neg e] at a3;rw[fl] at a1;exact⟨i,M,a1,a2,a3,a4⟩
theorem pt{w w':World}{K':Value}{ks:List Ky}(hk:fE w' K' ks)(HU:∀b,cn K' b->w.heap.size<=b){jb:Nat}{E4:Array Value}{WR:TypeId}{WS:Nat×Nat}(O4:w.heap.size<=jb)(KK:w'.heap[jb]? =some (.cells E4 WR WS))(hl:ks.length<=1024):
  ∃L2:aZ,w.heap.size<=L2.aH∧L2.aH<w'.heap.size∧∀(E':Env)(S id:Nat),S<=99998->id<3000000->E' id=some L2->den E' (.sy S)=some (.int .i64 (aG (aA ks)))->RO E' w' id (.glob (3000000+10*S+1) 0 fc)∧Rv E' (.sz id (.fn 20 (.sy S))) K':=by
 have kz:(aA ks).length=ks.length:=by unfold aA;rw[gp]
 rcases hk with⟨rfl,h0⟩|⟨b,off,kc,karr,kel,kfr,rfl,I4,qR,hkc⟩
 ·refine⟨⟨jb,0,0⟩,O4,(cW.1 KK).1,fun E' S id hS hid e1 d=>⟨⟨⟨jb,0,0⟩,E4,WR,WS,e1,fun h=>absurd h (by omega),KK,nzQ _,fun j hj=>absurd hj (Nat.not_lt_zero _),nu hS d (by rw[h0];exact nzQ _) (fun j k hk=>by rw[h0] at hk;cases hk) 0 fun _=>rfl⟩,?_⟩⟩
  rw[Rv];exact⟨_,ks.length,e1,by rw[bC d,kz],by omega,fun _=>by rw[h0];rfl,(if_pos rfl).symm⟩
 ·refine⟨⟨b,off,kc+1⟩,HU b ⟨_,_,_,rfl⟩,(cW.1 I4).1,fun E' S id hS hid e1 d=>⟨⟨⟨b,off,kc+1⟩,karr,kel,kfr,e1,fun h=>absurd h (by omega),I4,by show off+0<=_;omega,fun j hj=>absurd hj (Nat.not_lt_zero _),nu hS d qR hkc _ fun h=>absurd h (by omega)⟩,?_⟩⟩
  rw[Rv];refine⟨_,ks.length,e1,by rw[bC d,kz],by omega,fun h=>absurd h (by show ¬kc+1=0;omega),?_⟩;rw[if_neg (by show ¬kc+1=0;omega)];rfl
def MW(inl:Ct):Ct:=fun args h n k=>match args with
 |[.ag l]=>(match cV l 23 with
  |.sz _ _=>Dq l (au h) fun e id S=>(match T.get .gone h id with
   |.glob g _ _=>bc (bc (Nat.beq g (Nat.add 3000001 (Nat.mul 10 S))) (bc (Nat.ble id 2999999) (bc (Nat.ble S 99998) (Nat.ble n 2999999) false) false) false)
     (T.dj (.glob g 0 fc) h n fun h1=>aM (Nat.succ n) fun n1=>k (.ag (Co (jv e) (.sz n (.fn 20 (.sy S))))) h1 n1) false
   |_=>false)
  |_=>inl args h n k)
 |_=>false
theorem wc{E:Env}{l:List AV}{vs:List Value}(r:aP E l vs)(e:SE)(h:l.head? =some (.x (.i .u8) (.cD 200 (.sy 1) e))):∃n,den E e=some (.int .i64 n):=by
 cases l with
 |nil=>cases h
 |cons v l=>
  cases h
  rw[aP] at r;obtain⟨V,us,rfl,r1,r2⟩:=r;rw[Rv] at r1;obtain⟨d,_⟩:=r1;have d2:(match den E (.sy 1),den E e with|some X,some Y=>js 200 X Y|_,_=>none)=some V:=d;cases h1:den E (.sy 1) with
  |none=>rw[h1] at d2;cases d2
  |some Xv=>
   cases h2:den E e with
   |none=>rw[h1,h2] at d2;cases d2
   |some Y=>
    rw[h1,h2] at d2;have d2:js 200 Xv Y=some V:=d2;unfold js at d2;split at d2<;>first|(cases d2;done)|skip
    all_goals first
     |(rename_i h0 _;cases h0;done)
     |exact⟨_,rfl⟩
     |(exfalso;simp_all;done)
theorem HX{E0:Env}{w0:World}{ba cap:Nat}{R:List An}(X:Ctx E0 w0 ba cap R){inl:Ct}(hi:@gL (KJ E0 w0 (cg ba R)) P 69 inl):@gL (KJ E0 w0 (cg ba R)) P 69 (MW inl):=by
 intro args ARGS E h n w k he ra hr hj;have gQ:bL E0 w0 (cg ba R) E h w:=hj;unfold MW at he;split at he<;>try (cases he;done)
 rename_i l;split at he
 case h_2=>exact hi _ ARGS E h n w k he ra hr hj
 obtain⟨V,hA,rx⟩:=ra.one;have hA:ARGS=#[V]:=by apply Array.ext';simpa using hA
 subst hA;rw[Rv] at rx;obtain⟨vs,rfl,rl⟩:=rx;obtain⟨e,id,S,m,a,he,hR,de,qY,rk,_,hS⟩:=sv X gQ.1 he (aD hr) rl (fun e h=>wc rl e h);split at he<;>try (cases he;done)
 rename_i g c t hg;obtain⟨h1,he⟩:=aa he;obtain⟨b1,h1⟩:=aa h1;obtain⟨b2,h1⟩:=aa h1;obtain⟨b3,b4⟩:=aa h1;have b1:g=3000001+10*S:=aN b1;have b2:=aU b2;have b3:=aU b3;have b4:=aU b4;have eg:g=3000000+10*S+1:=by omega
 subst eg;rw[T.bh,aC] at he;have dU:=hr.obj id;rw[hg] at dU;have X1:=X.at_ m a hR;obtain⟨hk,dS⟩:=lB dU (by omega) b3 hS rk;have hs:0<w.heap.size:=by
  obtain⟨L,arr,el,fr,_,_,hb,_⟩:=dU;have:=(cW.1 hb).1;omega
 have eA:(vs.toArray:Array Value)=(a.o.cells (vs.getD 23 undef)).toArray:=congrArg List.toArray qY;rw[eA];refine(twin X1.o (.inl hk) X1.len hs).mono ?_;rintro ed w' ⟨hb,⟨K',rfl,lA,HU⟩,jb,E4,WR,WS,O4,KK⟩;obtain⟨L2,q1,q2,q3⟩:=pt lA HU O4 KK X1.len;have e1:Vx.br E n L2 n=some L2:=by unfold Vx.br;rw[if_pos rfl]
 have hle:E.le (Vx.br E n L2):=eW (hr.fresh n (nrQ _));have dS2:=an hle _ _ dS;obtain⟨q4,q5⟩:=q3 _ S n b3 (by omega) e1 dS2;obtain⟨jF,g2⟩:=HR.HW hr hb q1 q2 q4;have de2:=an hle _ _ de;have d1:=an (Env.le_trans gQ.1 hle) _ _ X.rows;have cell:∀i V,a.o.syms[i]? =some V->den (Vx.br E n L2) (jv e i)=some V:=fun i V hi=>by
  have BX:=(bR.1 hi).1;exact eI d1 de2 hR (by rw[iA BX];exact hi) (gO a.o V (gq hi))
 exact .inl ⟨_,rfl,_,_,n+1,_,by rw[Rv];exact⟨_,rfl,gP X1.o q5 cell⟩,jF,g2,he⟩
def WW(inl:Ct):Ct:=fun args h n k=>match args with
 |[.i .u8 kd,.i .u8 md,.ag l]=>(match cV l 23 with
  |.sz _ _=>bc (bc (bc (decide (kd=2)) true (bc (decide (kd=1)) (bc (decide (md=1)) false (bc (decide (md=13)) false true)) false)) (bc (decide (0<=md)) (decide (md<=255)) false) false) (Dq l (au h) fun _ id S=>(match T.get .gone h id with
   |.glob g _ _=>bc (bc (Nat.beq g (Nat.add 3000001 (Nat.mul 10 S))) (bc (Nat.ble id 2999999) (Nat.ble S 99998) false) false) (k (.b true) h n) false
   |_=>false)) false
  |_=>inl args h n k)
 |_=>false
theorem MY{E0:Env}{w0:World}{ba cap:Nat}{R:List An}(X:Ctx E0 w0 ba cap R){inl:Ct}(hi:@gL (KJ E0 w0 (cg ba R)) P 68 inl):@gL (KJ E0 w0 (cg ba R)) P 68 (WW inl):=by
 intro args ARGS E h n w k he ra hr hj;have gQ:bL E0 w0 (cg ba R) E h w:=hj;unfold WW at he;split at he<;>try (cases he;done)
 rename_i kd md l;split at he
 case h_2=>exact hi _ ARGS E h n w k he ra hr hj
 obtain⟨hg0,he⟩:=aa he;obtain⟨c1,c2⟩:=aa hg0;obtain⟨c2,c3⟩:=aa c2;have hkm:kd=2∨kd=1∧md≠1∧md≠13:=by
  rcases aR c1 with⟨h,_⟩|⟨_,h⟩
  ·exact .inl (gD h)
  ·obtain⟨h1,h⟩:=aa h
   rcases aR h with⟨_,h⟩|⟨h2,h⟩
   ·cases h
   ·rcases aR h with⟨_,h⟩|⟨h3,_⟩
    ·cases h
    ·exact .inr ⟨gD h1,of_decide_eq_false h2,of_decide_eq_false h3⟩
 obtain⟨V1,us,e1,r1,ra2⟩:∃V us,ARGS.toList=V::us∧Rv E (.i .u8 kd) V∧aP E [.i .u8 md,.ag l] us:=by rw[aP] at ra;obtain⟨V,us,h1,h2,h3⟩:=ra;exact⟨V,us,h1,h2,h3⟩
 obtain⟨V2,V3,e2,r2,r3⟩:=ra2.two;rw[e2] at e1;have hA:ARGS=#[V1,V2,V3]:=by apply Array.ext';simpa using e1
 subst hA;simp only[Rv] at r1 r2 r3;subst r1 r2;obtain⟨vs,rfl,rl⟩:=r3;obtain⟨e,id,S,m,a,he,hR,de,qY,rk,_,hS⟩:=sv X gQ.1 he (aD hr) rl (fun e h=>wc rl e h);split at he<;>try (cases he;done)
 rename_i g c t hg;obtain⟨h1,heF⟩:=aa he;clear he;obtain⟨b1,h1⟩:=aa h1;obtain⟨b2,b3⟩:=aa h1;have b1:g=3000001+10*S:=aN b1;have b2:=aU b2;have b3:=aU b3;have eg:g=3000000+10*S+1:=by omega
 subst eg;have dU:=hr.obj id;rw[hg] at dU;obtain⟨hk,dS⟩:=lB dU (by omega) b3 hS rk;have hs:0<w.heap.size:=by
  obtain⟨L,arr,el,fr,_,_,hb,_⟩:=dU;have:=(cW.1 hb).1;omega
 have eA:(vs.toArray:Array Value)=(a.o.cells (vs.getD 23 undef)).toArray:=congrArg List.toArray qY;rw[eA];refine(X.fits m a hR w _ kd md hs hk hkm ⟨gD c2,gD c3⟩).mono ?_;rintro ed w' ⟨rfl,hb⟩;exact .inl ⟨_,rfl,.b true,h,n,E,by rw[Rv],hr.below hb,bk.below hb,heF⟩
def S1:fV:=fun g=>match g with
 |180=>some uS
 |69=>some (MW (vY c0 69))
 |68=>some (WW (vY c0 68))
 |_=>none
def c1:aO:=run S1 40
def Sx:Ct:=fun args h n k=>match args with
 |[.p id 0,_]=>(match T.get .gone h id with
  |.cells _ _ c=>bc (HS (c.get 0)) (Sn args h n k) (vY c1 120 args h n k)
  |_=>false)
 |_=>false
def S2:fV:=fun g=>match g with
 |180=>some uS
 |69=>some (MW (vY c0 69))
 |68=>some (WW (vY c0 68))
 |120=>some Sx
 |_=>none
def c2:aO:=run S2 40
section
variable{E0:Env}{w0:World}{ba cap:Nat}{R:List An}(X:Ctx E0 w0 ba cap R)
include X
theorem Sg:@fg (KJ E0 w0 (cg ba R)) P S1:=by
 intro g C hC;unfold S1 at hC;split at hC
 ·cases hC;exact @po (KJ E0 w0 (cg ba R)) _ _ Bh
 ·cases hC;exact HX X (@ja (KJ E0 w0 (cg ba R)) _ _ (@iL (KJ E0 w0 (cg ba R))) _)
 ·cases hC;exact MY X (@ja (KJ E0 w0 (cg ba R)) _ _ (@iL (KJ E0 w0 (cg ba R))) _)
 ·cases hC
theorem MP:@bj (KJ E0 w0 (cg ba R)) P c1:=@eH (KJ E0 w0 (cg ba R)) _ (Sg X) 40
theorem Sy:@gL (KJ E0 w0 (cg ba R)) P 120 Sx:=by
 intro args ARGS E h n w k he ra hr hj;unfold Sx at he;split at he<;>try (cases he;done)
 split at he<;>try (cases he;done)
 rcases aR he with⟨_,he⟩|⟨_,he⟩
 ·exact Sp X _ ARGS E h n w k he ra hr hj
 ·exact @ja (KJ E0 w0 (cg ba R)) _ _ (MP X) _ _ ARGS E h n w k he ra hr hj
theorem Dk:@fg (KJ E0 w0 (cg ba R)) P S2:=by
 intro g C hC;unfold S2 at hC;split at hC
 ·cases hC;exact @po (KJ E0 w0 (cg ba R)) _ _ Bh
 ·cases hC;exact HX X (@ja (KJ E0 w0 (cg ba R)) _ _ (@iL (KJ E0 w0 (cg ba R))) _)
 ·cases hC;exact MY X (@ja (KJ E0 w0 (cg ba R)) _ _ (@iL (KJ E0 w0 (cg ba R))) _)
 ·cases hC;exact Sy X
 ·cases hC
theorem yq:@bj (KJ E0 w0 (cg ba R)) P c2:=@eH (KJ E0 w0 (cg ba R)) _ (Dk X) 40
end
inductive Tr where
 |ite (i m:Nat) (le:Bool) (c:Nat) (t f:Tr)
 |more (m i:Nat) (t f:Tr)
 |sym (m i:Nat) (t f:Tr)
 |ask (k md m:Nat) (t:Tr)
 |done
 |fail (er l x:Nat)
 |go (d:Nat)
variable{v:AV}{E:Env}{R:List An}{i m n:Nat}{V:Value}{w:World}
inductive ct where
 |wait (k md:Nat)
 |done
 |fail (er l x:Nat)
 |ans (m:Nat)
 |go (d:Nat)
 |bad
def An.u8(a:An)(i:Nat):Int:=match a.o.syms[i]? with
 |some (.int .u8 n)=>n
 |_=>0
def gG(le:Bool)(n:Int)(c:Nat):Bool:=bif le then decide (n<=(c:Int)) else decide (n=(c:Int))
def An.nN(a:An)(i:Nat):Bool:=match a.ks[i]? with
 |some k=>decide (0<k.2)
 |none=>false
def ev(R:List An):Tr->ct
 |.ite i m le c t f=>match R[m]? with
  |some a=>bif gG le (a.u8 i) c then ev R t else ev R f
  |none=>.bad
 |.more m i t f=>match R[m]? with
  |some a=>bif decide (i<a.ks.length) then ev R t else ev R f
  |none=>.bad
 |.sym m i t f=>match R[m]? with
  |some a=>bif a.nN i then ev R t else ev R f
  |none=>.bad
 |.ask k md m t=>match R[m]? with
  |some a=>bif decide (a.o.k=1) then ev R t else .ans m
  |none=>.wait k md
 |.done=>.done
 |.fail er l x=>.fail er l x
 |.go d=>.go d
def kB(er l x:Nat):Bool:=(er==1&&l==4&&x==1701869940)||(er==2&&((l==8&&x==8750038247350955892)||(l==7&&x==32760367581326953)))
def cf(ok:Nat->Nat->Bool)(G:Nat->Nat->Prop):Nat->Tr->Prop
 |j,.ite _ m _ _ t f=>m<j∧cf ok G j t∧cf ok G j f
 |j,.more m _ t f=>m<j∧cf ok G j t∧cf ok G j f
 |j,.sym m _ t f=>m<j∧cf ok G j t∧cf ok G j f
 |j,.ask k md m t=>m=j∧ok k md=true∧cf ok G (j+1) t
 |_,.done=>True
 |_,.fail er l x=>kB er l x=true
 |j,.go d=>G j d
theorem we{x:An}(h:m<R.length):(R++[x])[m]? =R[m]?:=iA h
theorem mI{ok:Nat->Nat->Bool}:∀(T:Tr)(j:Nat)(R:List An),cf ok (fun _ _=>False) j T->j<=R.length->(∀a∈R,a.o.k=1)->
  (∃k md,ev R T=.wait k md∧ok k md=true∧∀x:An,x.o.k≠1->ev (R++[x]) T=.ans R.length)∨(ev R T=.done∧∀x,ev (R++[x]) T=.done)∨∃er l x,ev R T=.fail er l x∧kB er l x=true
 |.ite i m le c t f,j,R,hg,hj,hR=>by
  obtain⟨h1,h2,h3⟩:=hg;have hm:m<R.length:=by omega
  have e:∀Q:List An,Q[m]? =R[m]?->ev Q (.ite i m le c t f)=bif gG le (R[m].u8 i) c then ev Q t else ev Q f:=fun Q hQ=>by
   show(match Q[m]? with|some a=>bif gG le (a.u8 i) c then ev Q t else ev Q f|none=>ct.bad)=_;rw[hQ,cN hm]
  have e1:=e R rfl;have e2:=fun x=>e (R++[x]) (we hm)
  cases hb:gG le (R[m].u8 i) c<;>rw[hb] at e1<;>simp only[hb,cond_false,cond_true] at e1 e2
  ·rw[e1];simp only[e2];exact mI f j R h3 hj hR
  ·rw[e1];simp only[e2];exact mI t j R h2 hj hR
 |.more m i t f,j,R,hg,hj,hR=>by
  obtain⟨h1,h2,h3⟩:=hg;have hm:m<R.length:=by omega
  have e:∀Q:List An,Q[m]? =R[m]?->ev Q (.more m i t f)=bif decide (i<R[m].ks.length) then ev Q t else ev Q f:=fun Q hQ=>by
   show(match Q[m]? with|some a=>bif decide (i<a.ks.length) then ev Q t else ev Q f|none=>ct.bad)=_;rw[hQ,cN hm]
  have e1:=e R rfl;have e2:=fun x=>e (R++[x]) (we hm)
  cases hb:decide (i<R[m].ks.length)<;>simp only[hb,cond_false,cond_true] at e1 e2
  ·rw[e1];simp only[e2];exact mI f j R h3 hj hR
  ·rw[e1];simp only[e2];exact mI t j R h2 hj hR
 |.sym m i t f,j,R,hg,hj,hR=>by
  obtain⟨h1,h2,h3⟩:=hg;have hm:m<R.length:=by omega
  have e:∀Q:List An,Q[m]? =R[m]?->ev Q (.sym m i t f)=bif R[m].nN i then ev Q t else ev Q f:=fun Q hQ=>by
   show(match Q[m]? with|some a=>bif a.nN i then ev Q t else ev Q f|none=>ct.bad)=_;rw[hQ,cN hm]
  have e1:=e R rfl;have e2:=fun x=>e (R++[x]) (we hm)
  cases hb:R[m].nN i<;>simp only[hb,cond_false,cond_true] at e1 e2
  ·rw[e1];simp only[e2];exact mI f j R h3 hj hR
  ·rw[e1];simp only[e2];exact mI t j R h2 hj hR
 |.ask k md m t,j,R,hg,hj,hR=>by
  obtain⟨rfl,h2,h3⟩:=hg;by_cases hm:m<R.length
  ·have e:∀Q:List An,Q[m]? =R[m]?->ev Q (.ask k md m t)=ev Q t:=fun Q hQ=>by
    show(match Q[m]? with|some a=>bif decide (a.o.k=1) then ev Q t else .ans m|none=>.wait k md)=_;rw[hQ,cN hm];dsimp only;rw[eX (hR R[m] (List.getElem_mem hm))];rfl
   rw[e R rfl];simp only[e (R++[_]) (we hm)];exact mI t (m+1) R h3 hm hR
  ·have hm:m=R.length:=by omega
   subst hm;refine .inl ⟨k,md,?_,h2,fun x hx=>?_⟩
   ·show(match R[R.length]? with|some a=>bif decide (a.o.k=1) then ev R t else .ans R.length|none=>.wait k md)=_
    rw[List.getElem?_eq_none (nrQ _)]
   ·show(match (R++[x])[R.length]? with|some a=>bif decide (a.o.k=1) then ev (R++[x]) t else .ans R.length|none=>.wait k md)=_
    rw[zE (nrQ _),Nat.sub_self];show(bif decide (x.o.k=1) then _ else ct.ans R.length)=_;rw[gM hx];rfl
 |.done,_,_,_,_,_=>.inr (.inl ⟨rfl,fun _=>rfl⟩)
 |.fail er l x,_,_,hg,_,_=>.inr (.inr ⟨er,l,x,rfl,hg⟩)
 |.go d,_,_,hg,_,_=>hg.elim
def dM(k:Nat->Tr):Tr->Tr
 |.ite i m le c t f=>.ite i m le c (dM k t) (dM k f)
 |.more m i t f=>.more m i (dM k t) (dM k f)
 |.sym m i t f=>.sym m i (dM k t) (dM k f)
 |.ask q md m t=>.ask q md m (dM k t)
 |.done=>.done
 |.fail er l x=>.fail er l x
 |.go d=>k d
def later(n:Nat):Tr->Tr
 |.ite i m le c t f=>.ite i (n+m) le c (later n t) (later n f)
 |.more m i t f=>.more (n+m) i (later n t) (later n f)
 |.sym m i t f=>.sym (n+m) i (later n t) (later n f)
 |.ask q md m t=>.ask q md (n+m) (later n t)
 |.done=>.done
 |.fail er l x=>.fail er l x
 |.go d=>.go d
theorem eJ{R:List An}{k:Nat->Tr}:∀T:Tr,ev R (dM k T)=match ev R T with
  |.go d=>ev R (k d)
  |l=>l
 |.ite i m le c t f=>by
  show(match R[m]? with|some a=>bif gG le (a.u8 i) c then ev R (dM k t) else ev R (dM k f)|none=>ct.bad)=match (match R[m]? with|some a=>bif gG le (a.u8 i) c then ev R t else ev R f|none=>ct.bad) with|.go d=>ev R (k d)|l=>l
  cases R[m]? with
  |none=>rfl
  |some a=>
   dsimp only;cases gG le (a.u8 i) c
   ·exact eJ f
   ·exact eJ t
 |.more m i t f=>by
  show(match R[m]? with|some a=>bif decide (i<a.ks.length) then ev R (dM k t) else ev R (dM k f)|none=>ct.bad)=match (match R[m]? with|some a=>bif decide (i<a.ks.length) then ev R t else ev R f|none=>ct.bad) with|.go d=>ev R (k d)|l=>l
  cases R[m]? with
  |none=>rfl
  |some a=>
   dsimp only;cases decide (i<a.ks.length)
   ·exact eJ f
   ·exact eJ t
 |.sym m i t f=>by
  show(match R[m]? with|some a=>bif a.nN i then ev R (dM k t) else ev R (dM k f)|none=>ct.bad)=match (match R[m]? with|some a=>bif a.nN i then ev R t else ev R f|none=>ct.bad) with|.go d=>ev R (k d)|l=>l
  cases R[m]? with
  |none=>rfl
  |some a=>
   dsimp only;cases a.nN i
   ·exact eJ f
   ·exact eJ t
 |.ask q md m t=>by
  show(match R[m]? with|some a=>bif decide (a.o.k=1) then ev R (dM k t) else .ans m|none=>ct.wait q md)=match (match R[m]? with|some a=>bif decide (a.o.k=1) then ev R t else .ans m|none=>ct.wait q md) with|.go d=>ev R (k d)|l=>l
  cases R[m]? with
  |none=>rfl
  |some a=>
   dsimp only;cases decide (a.o.k=1)
   ·rfl
   ·exact eJ t
 |.done=>rfl
 |.fail er l x=>rfl
 |.go d=>rfl
theorem dP{ok:Nat->Nat->Bool}{G:Nat->Nat->Prop}{k:Nat->Tr}:∀(T:Tr)(j:Nat),cf ok G j T->(∀j d,G j d->cf ok (fun _ _=>False) j (k d))->cf ok (fun _ _=>False) j (dM k T)
 |.ite i m le c t f,j,h,hk=>⟨h.1,dP t j h.2.1 hk,dP f j h.2.2 hk⟩
 |.more m i t f,j,h,hk=>⟨h.1,dP t j h.2.1 hk,dP f j h.2.2 hk⟩
 |.sym m i t f,j,h,hk=>⟨h.1,dP t j h.2.1 hk,dP f j h.2.2 hk⟩
 |.ask q md m t,j,h,hk=>⟨h.1,h.2.1,dP t (j+1) h.2.2 hk⟩
 |.done,_,_,_=>trivial
 |.fail er l x,_,h,_=>h
 |.go d,j,h,hk=>hk j d h
theorem fI{ok:Nat->Nat->Bool}(n:Nat):∀(T:Tr)(j:Nat),cf ok (fun j d=>j=d) j T->cf ok (fun j d=>j=n+d) (n+j) (later n T)
 |.ite i m le c t f,j,h=>⟨by show n+m<n+j;have:=h.1;omega,fI n t j h.2.1,fI n f j h.2.2⟩
 |.more m i t f,j,h=>⟨by show n+m<n+j;have:=h.1;omega,fI n t j h.2.1,fI n f j h.2.2⟩
 |.sym m i t f,j,h=>⟨by show n+m<n+j;have:=h.1;omega,fI n t j h.2.1,fI n f j h.2.2⟩
 |.ask q md m t,j,h=>⟨by show n+m=n+j;rw[h.1],h.2.1,fI n t (j+1) h.2.2⟩
 |.done,_,_=>trivial
 |.fail er l x,_,h=>h
 |.go d,j,h=>by show n+j=n+d;rw[show j=d from h]
def pick(n:Nat)(a b:Bool):Bool:=Nat.rec (motive:=fun _=>Bool) false (fun m _=>Nat.rec (motive:=fun _=>Bool) a (fun _ _=>b) m) n
theorem iu{a b:Bool}(h:pick n a b=true):(n=1∧a=true)∨(2<=n∧b=true):=by
 match n,h with
 |0,h=>cases h
 |1,h=>exact .inl ⟨rfl,h⟩
 |n+2,h=>exact .inr ⟨by omega,h⟩
def zi(m:Nat):SE:=.li .i64 (.ofNat m)
def HY(i m:Nat)(le:Bool)(c:Nat):SE:=bif le then .cmp .leq (jv (zi m) i) (.li .u8 (.ofNat c)) else .cmp .eql (jv (zi m) i) (.li .u8 (.ofNat c))
def sw(m:Nat):SE:=.cmp .lss (zi m) (.sy 2)
def WX(i:Nat):Bool:=match i with
 |0|1|5|6|7|8|12|16|20|21|22|23=>true
 |_=>false
theorem Sz{o:iB}(h:WX i=true):∃n,o.syms[i]? =some (.int .u8 n):=by
 unfold WX at h;split at h<;>first|exact⟨_,rfl⟩|cases h
def qb(fs:aB)(k:ct->Bool)(T:Tr):Bool:=Tr.rec (motive:=fun _=>Bool)
 (fun i m le c _ _ t f=>bc (bc (Nat.beq (cr fs (sw m)) 1) (WX i) false) (pick (cr fs (HY i m le c)) t f) false)
 (fun m i _ _ t f=>false)
 (fun m i _ _ t f=>false)
 (fun q md m _ t=>pick (cr fs (sw m)) (pick (cr fs (HY 0 m false 1)) t (k (.ans m))) (k (.wait q md)))
 (k .done) (fun er l x=>k (.fail er l x)) (fun d=>k (.go d)) T
section
variable{E0 E:Env}{w0:World}{ba cap:Nat}{R:List An}(X:Ctx E0 w0 ba cap R)
include X
theorem tz(hle:E0.le E)(m:Nat):den E (sw m)=some (.bool (decide (m<R.length))):=by
 have dN:den E (.sy 2)=some (.int .i64 R.length):=an hle _ _ X.many;have d2:den E (sw m)=(bu .lss (.int .i64 m) (.int .i64 R.length)).map Value.bool:=by
  show(match den E (zi m),den E (.sy 2) with|some X,some Y=>(bu .lss X Y).map Value.bool|_,_=>none)=_;rw[dN];rfl
 rw[d2];show some (Value.bool (decide ((m:Int)<(R.length:Int))))=_;rw[show decide ((m:Int)<(R.length:Int))=decide (m<R.length) from decide_eq_decide.2 Int.ofNat_lt]
theorem E5(hle:E0.le E){a:An}(hi:WX i=true)(ha:R[m]? =some a)(le:Bool)(c:Nat):den E (HY i m le c)=some (.bool (gG le (a.u8 i) c)):=by
 obtain⟨n,hn⟩:=Sz (o:=a.o) hi;have BX:=(bR.1 hn).1;have d:den E (jv (zi m) i)=some (.int .u8 n):=eI (an hle _ _ X.rows) rfl ha (by rw[iA BX];exact hn) (gO a.o _ (gq hn));have e1:a.u8 i=n:=by unfold An.u8;rw[hn]
 rw[e1];cases le
 ·show den E (.cmp .eql (jv (zi m) i) (.li .u8 (.ofNat c)))=_
  exact(bx (k:=.u8) (c:=(c:Int)) d)
 ·show den E (.cmp .leq (jv (zi m) i) (.li .u8 (.ofNat c)))=_
  exact(az (k:=.u8) (c:=(c:Int)) d)
theorem lC(hle:E0.le E){fs:aB}(hf:Holds E fs){k:ct->Bool}:∀{T:Tr},qb fs k T=true->k (ev R T)=true
 |.ite i m le c t f,he=>by
  have he:bc (bc (Nat.beq (cr fs (sw m)) 1) (WX i) false) (pick (cr fs (HY i m le c)) (qb fs k t) (qb fs k f)) false=true:=he;obtain⟨h1,h2⟩:=aa he;obtain⟨h1,h3⟩:=aa h1;have hm:m<R.length:=gD ((aX hf (tz X hle m)).1 (aN h1));have hR:=cN hm;have da:=E5 X hle h3 hR le c;show k (match R[m]? with|some a=>bif gG le (a.u8 i) c then ev R t else ev R f|none=>ct.bad)=true;rw[hR];dsimp only;rcases iu h2 with⟨h4,h5⟩|⟨h4,h5⟩
  ·rw[(aX hf da).1 h4]
   exact lC hle hf h5
  ·rw[(aX hf da).2 h4]
   exact lC hle hf h5
 |.more m i t f,he=>by cases he
 |.sym m i t f,he=>by cases he
 |.ask q md m t,he=>by
  have he:pick (cr fs (sw m)) (pick (cr fs (HY 0 m false 1)) (qb fs k t) (k (.ans m))) (k (.wait q md))=true:=he;show k (match R[m]? with|some a=>bif decide (a.o.k=1) then ev R t else .ans m|none=>ct.wait q md)=true;rcases iu he with⟨h4,h5⟩|⟨h4,h5⟩
  ·have hm:m<R.length:=gD ((aX hf (tz X hle m)).1 h4)
   have hR:=cN hm;have da:=E5 X hle (i:=0) rfl hR false 1;have ea:gG false ((R[m]).u8 0) 1=decide ((R[m]).o.k=1):=rfl;rw[ea] at da;rw[hR];dsimp only;rcases iu h5 with⟨h6,h7⟩|⟨h6,h7⟩
   ·rw[(aX hf da).1 h6]
    exact lC hle hf h7
   ·rw[(aX hf da).2 h6]
    exact h7
  ·have hm:¬m<R.length:=of_decide_eq_false ((aX hf (tz X hle m)).2 h4)
   rw[List.getElem?_eq_none (by omega)];exact h5
 |.done,he=>he
 |.fail er l x,he=>he
 |.go d,he=>he
end
def bO:Value:=.slice none 0 0
def ou(er l x:Nat):iB:=⟨3,z4,false,false,0,z4,z4,z4,false,false,false,er,str l x⟩
def Wants(w:World)(bp q md:Nat):Prop:=∃arr:Array Value,w.heap[bp]? =some (.cells arr 124 (0,0))∧89<=arr.size∧arr.getD 2 undef=.int .u8 q∧arr.getD 3 undef=.int .u8 md∧
 ∀j,j<87->(arr.getD (j+2) undef).oneCell'=true∧(arr.getD (j+2) undef).cells=#[arr.getD (j+2) undef]
def Junk(s0:Nat)(w:World):Prop:=∃(b:Nat)(arr:Array Value)(el:TypeId)(fr:Nat×Nat),s0<=b∧w.heap[b]? =some (.cells arr el fr)
def Cls(w:World)(b:Nat):Prop:=∃(arr:Array Value)(el:TypeId),w.heap[b]? =some (.cells arr el (0,0))
def cU(R:List An)(s0 bp:Nat)(V:Value)(w':World):ct->Prop
 |.wait q md=>V=.agg (zO.cells bO).toArray∧Wants w' bp q md
 |.done=>∃o:iB,o.ok∧o.k=1∧V=.agg (o.cells bO).toArray
 |.fail er l x=>V=.agg ((ou er l x).cells bO).toArray
 |.ans m=>∃a K,R[m]? =some a∧V=.agg (a.o.cells K).toArray∧fE w' K a.ks∧(∀b,cn K b->s0<=b)∧Junk s0 w'∧Cls w' bp
 |.go _=>False
 |.bad=>False
def jw(er l x:Nat):List AV:=.i .u8 3::zV++[.b false,.b false,.i .u8 0]++zV++zV++zV++[.b false,.b false,.b false,.sn,.i .u8 (.ofNat er),.s l x]
theorem pw{er l x:Nat}{vs:List Value}(h:aP E (jw er l x) vs):vs=(ou er l x).cells bO:=by
 have h2:aP E (jw er l x) ((ou er l x).cells bO):=by
  have z:aP E zV z4.cells:=ad (by rw[Rv]<;>rfl) (ad (by rw[Rv]<;>rfl) (ad (by rw[Rv]<;>rfl) (ad (by rw[Rv]<;>rfl) aF)))
  exact aY (aY (aY (aY (aY (ad (by rw[Rv]<;>rfl) z) (ad (by rw[Rv]<;>rfl) (ad (by rw[Rv]<;>rfl) (ad (by rw[Rv]<;>rfl) aF)))) z) z) z)
   (ad (by rw[Rv]<;>rfl) (ad (by rw[Rv]<;>rfl) (ad (by rw[Rv]<;>rfl) (ad (by rw[Rv]<;>rfl) (ad (by rw[Rv]<;>rfl) (ad (by rw[Rv]<;>rfl) aF))))))
 exact aP.exact (Env.le_refl E) _ _ _ (by rfl) h2 h
def isN(v:AV)(n:Nat):Bool:=match v with
 |.i .u8 (.ofNat m)=>Nat.beq m n
 |_=>false
def isSn(v:AV):Bool:=match v with
 |.sn=>true
 |_=>false
def plW(F q md:Nat)(h:Heap):Bool:=match T.get .gone h F with
 |.cells 89 ⟨0,some 124,true⟩ c=>bc (isN (c.get 2) q) (bc (isN (c.get 3) md) (cj ((List.range 87).map fun j=>c.get (Nat.add j 2))) false) false
 |_=>false
def sE(F:Nat)(h:Heap):Bool:=match T.get .gone h F with
 |.cells _ _ _=>true
 |_=>false
def qC(v:AV)(k:List AV->Bool):Bool:=match v with
 |.ag l=>k l
 |_=>false
def dZ(F:Nat)(v:AV)(h:Heap):ct->Bool
 |.wait q md=>qC v fun l=>bc (cH l jL) (plW F q md h) false
 |.done=>qC v fun l=>bc (Bn tys l) (bc (isN (cV l 0) 1) (isSn (cV l 23)) false) false
 |.fail er l x=>qC v fun m=>cH m (jw er l x)
 |.ans m=>qC v fun l=>Dq l (au h) fun e id S=>bc (eE e (zi m)) (match T.get .gone h id with
  |.glob g _ _=>bc (bc (Nat.beq g (Nat.add 3000001 (Nat.mul 10 S))) (bc (Nat.ble id 2999999) (Nat.ble S 99998) false) false) (bc (Nat.ble (Nat.succ F) id) (sE F h) false) false
  |_=>false) false
 |.go _=>false
 |.bad=>false
theorem qc(h:isN v n=true)(r:Rv E v V):V=.int .u8 n:=by
 unfold isN at h;split at h<;>try (cases h;done)
 rw[aN h,Rv] at r;exact r
theorem E6(h:isSn v=true)(r:Rv E v V):V=bO:=by
 unfold isSn at h;split at h<;>try (cases h;done)
 rw[Rv] at r;exact r
theorem uU{id S c:Nat}{t:T AV}{K:Value}{b:Nat}(dU:RO E w id (.glob (3000000+10*S+1) c t))(hid:id<3000000)(hS:S<=99998)(r:Rv E (.sz id (.fn 20 (.sy S))) K)(hb:cn K b):∃L,E id=some L∧L.aH=b:=by
 obtain⟨L2,arr,el,fr,Cp,_,_,_,_,ht⟩:=dU;rw[Rv] at r;obtain⟨L,n,eL,_,_,_,rfl⟩:=r;rw[eL] at Cp;cases Cp;obtain⟨R,_,_,hlen,_⟩:=ht.2.1 ⟨by omega,by omega,by omega⟩;obtain⟨off,n',c',e⟩:=hb;split at e
 ·rename_i h0
  rw[hlen.2 h0] at e;cases e
 ·refine⟨_,eL,?_⟩
  injection e with e;injection e with e;injection e
theorem WY{E0 E':Env}{h h':Heap}{n':Nat}{w' w0:World}{ba cap bp F:Nat}(X:Ctx E0 w0 ba cap R)(hle:E0.le E')(hr:HR E h n w)(cO:HR E' h' n' w')(gs:bk E h w E' h' w')
  (eF:E F=some ⟨bp,0,0⟩) (hF:bM h=F) (qa:∀k,fp E h k->k=bp) (rv:Rv E' v V) {lf:ct} (he:dZ F v h' lf=true):cU R w.heap.size bp V w' lf:=by
 have ag:∀{k:List AV->Bool},qC v k=true->∃l vs,v=.ag l∧V=.agg vs∧aP E' l vs.toList∧k l=true:=fun {k} hk=>by
  unfold qC at hk;split at hk<;>try (cases hk;done)
  rename_i l;rw[Rv] at rv;obtain⟨vs,rfl,rl⟩:=rv;exact⟨l,_,rfl,rfl,by simpa using rl,hk⟩
 cases lf with
 |wait q md=>
  obtain⟨l,vs,rfl,rfl,rl,hk⟩:=ag he;obtain⟨h1,h2⟩:=aa hk;rw[bb h1] at rl;refine⟨by rw[show zO.cells bO=vs.toList from(tq rl).symm],?_⟩;unfold plW at h2;split at h2<;>try (cases h2;done)
  rename_i c hc;obtain⟨b2,h2⟩:=aa h2;obtain⟨b3,b4⟩:=aa h2;have fG:=cO.obj F;rw[hc] at fG;obtain⟨L,arr,el,eL,hb,cC,dr,dz⟩:=fG;rw[gs.ext _ _ eF] at eL;cases eL
  have fo:=dr.2.1 _ rfl;subst fo;have BY:=qc b2 (dz 2 (by decide));have xh:=qc b3 (dz 3 (by decide));rw[Nat.zero_add] at BY xh;refine⟨arr,hb,by have:0+89<=arr.size:=cC;omega,BY,xh,fun j hj=>?_⟩;have oV:=dz (j+2) (by omega);rw[Nat.zero_add] at oV;have dh:leaf (c.get (j+2))=true:=cM b4 _ (bU.2 ⟨j,List.mem_range.2 hj,rfl⟩);exact bY dh oV
 |done=>
  obtain⟨l,vs,rfl,rfl,rl,hk⟩:=ag he;obtain⟨h1,h2⟩:=aa hk;obtain⟨h2,h3⟩:=aa h2;obtain⟨o,ok,ho⟩:=Bo (lQ h1 rl);have a0:=qc h2 (rl.nth 0);have a23:=E6 h3 (rl.nth 23);refine⟨o,ok,?_,?_⟩
  ·rw[ho] at a0
   have a0:Value.int .u8 o.k=.int .u8 1:=a0;injection a0
  ·rw[a23] at ho
   rw[←ho]
 |fail er l x=>
  obtain⟨m,vs,rfl,rfl,rl,hk⟩:=ag he;rw[bb hk] at rl;show Value.agg vs=_;rw[←pw rl]
 |ans m=>
  obtain⟨l,vs,rfl,rfl,rl,hk⟩:=ag he;obtain⟨e,id,S,m',a,hx,hR,de,qY,rk,_,hS⟩:=sv X hle hk (aD cO) rl (fun e h=>wc rl e h);obtain⟨h1,hy⟩:=aa hx;clear hx;have:=cq h1;subst this;obtain rfl:m=m':=by
   have de:some (Value.int .i64 (m:Int))=some (.int .i64 m'):=de;injection de with de;injection de with _ de;omega
  split at hy<;>try (cases hy;done)
  rename_i g c t hg;obtain⟨h2,h3⟩:=aa hy;obtain⟨b1,b2⟩:=aa h2;obtain⟨b2,b3⟩:=aa b2;obtain⟨b4,b5⟩:=aa h3;have b1:g=3000001+10*S:=aN b1;have b2:=aU b2;have b3:=aU b3;have b4:F+1<=id:=aU b4;obtain rfl:g=3000000+10*S+1:=by omega
  have dU:=cO.obj id;rw[hg] at dU;obtain⟨yS,_⟩:=lB dU (by omega) b3 hS rk;have ll:∀L:aZ,E' id=some L->w.heap.size<=L.aH:=fun L eL=>by
   rcases gC L.aH w.heap.size with cL|ll
   ·exfalso
    have bD:(T.get .gone h' id).live=true:=by rw[hg];rfl
    have jI:bM h'=F:=gs.bM.trans hF;have:=qa L.aH (gs.CE L.aH cL ⟨id,L,by rw[jI];omega,bD,eL,rfl⟩);unfold sE at b5;split at b5<;>try (cases b5;done)
    rename_i cc hc;have:=cO.inj id F L ⟨bp,0,0⟩ bD (by rw[hc];rfl) eL (gs.ext _ _ eF) this;omega
   ·exact ll
  refine⟨a,_,hR,by rw[←qY],yS,fun b hb=>?_,?_,?_⟩
  ·obtain⟨L,eL,rfl⟩:=uU dU (by omega) b3 rk hb
   exact ll L eL
  ·obtain⟨L,arr,el,fr,eL,_,hb,_⟩:=dU
   exact⟨L.aH,arr,el,fr,ll L eL,hb⟩
  ·unfold sE at b5
   split at b5<;>try (cases b5;done)
   rename_i cc hc;have fG:=cO.obj F;rw[hc] at fG;obtain⟨L,arr,el,eL,hb,_⟩:=fG;rw[gs.ext _ _ eF] at eL;cases eL;exact⟨arr,el,hb⟩
 |go d=>cases he
 |bad=>cases he
def E7(w:World)(ab:Nat)(S:Value)(l:List V4):Prop:=(S=bO∧l=[])∨
 ∃(arr:Array Value)(el:TypeId)(fr:Nat×Nat)(c:Nat),S=.slice (some ⟨ab,0,none⟩) l.length c∧w.heap[ab]? =some (.cells arr el fr)∧4*l.length<=arr.size∧
  (∀j v,l[j]? =some v->∀i,i<4->arr.getD (4*j+i) undef=v.cells.getD i undef)∧l.length<=c
structure St(w:World)(bp ba cap ab:Nat)(R:List An)(A S:Value)(l:List V4):Prop where
 pl:∃want,dE w bp A (.int .i64 0) want
 ans:∀(i:Nat)(a:An),R[i]? =some a->a.ok w ba i
 len:R.length<=40
 fits:∀(i:Nat)(a:An),R[i]? =some a->mH a
 row:(A=.slice (some ⟨ba,0,none⟩) R.length cap)∨(R=[]∧A=bO)
 wJ:ba<w.heap.size
 abs:ab<w.heap.size
 O8:ba≠bp
 WZ:ba≠ab
 KM:ab≠bp
 kb:∀a∈R,∀b,cn a.K b->b≠bp∧b≠ab
 args:E7 w ab S l
 P7:∀v∈l,v.ok
 al:l.length<=64
 mh:fq w
 SB:2≠bp
 P8:2≠ab
def MZ:AO:=.cells 89 BZ (fu ([pq,.i .i64 0]++di 87) ⟨89,fZ⟩ 0)
def hS(ao:AO):Heap:=jq ([.gone,.gone,.gone,.gone,.gone,ao]++(List.range 23).map (fun _=>AO.gone)++[MZ]) 30
def aoN(n:Nat):AO:=.glob 1000000 (Nat.mul 4 n) (gw (List.take (Nat.mul 4 n) (vS 9++vS 13++vS 17)) fc 0)
def slN(n:Nat):AV:=.sx 6 n (.sy 7) (.sy 8)
def fN(n:Nat):aB:=match n with
 |0=>[(.cmp .leq (.sy 7) (.li .i64 0),true)]
 |1=>[(.cmp .leq (.sy 7) (.li .i64 1),true),(.cmp .leq (.sy 7) (.li .i64 0),false)]
 |2=>[(.cmp .leq (.sy 7) (.li .i64 2),true),(.cmp .leq (.sy 7) (.li .i64 1),false)]
 |_=>[(.cmp .leq (.sy 7) (.li .i64 2),false)]
def kF(l:List (Nat×Nat×Bool)):aB:=l.map fun p=>(.cmp .leq (.sy (Nat.add 9 (Nat.mul 4 p.1))) (.li .u8 (Int.ofNat p.2.1)),p.2.2)
def Cq(l:List V4)(q:List (Nat×Nat×Bool)):Prop:=∀p∈q,p.1<3∧decide ((l.getD p.1 z4).k<=(p.2.1:Int))=p.2.2
def f2:aB:=[(.cmp .leq (.sy 2) (.li .i64 40),true)]
def rT(g:FuncId)(sl:AV)(ao:AO)(fs:aB)(T:Tr):Bool:=bQ fs (hS ao) fun h=>c2 g [.ag [.p 30 0,sl]] h 31 fun v h' _=>qC v fun _=>qb (au h') (dZ 30 v h') T
def sC(R:List An)(A:Value)(ba cap ab bp n c:Nat)(l:List V4):List aZ:=
 [aw (.int .i64 (aG (jU R))),aw (.int .i64 R.length),(match A with|.slice none _ _=>⟨ba,0,0⟩|_=>⟨ba,0,cap+1⟩),⟨bp,0,0⟩,⟨bp,0,0⟩,⟨ab,0,0⟩,aw (.int .i64 n),aw (.int .i64 c)]++
 ((l.getD 0 z4).cells++(l.getD 1 z4).cells++(l.getD 2 z4).cells).map aw++(List.range 9).map (fun _=>⟨bp,0,0⟩)++[⟨bp,0,0⟩]
theorem Bp(v:V4):∀V∈v.cells,jk V:=by
 intro V hV;simp only[V4.cells,mcQ,mnQ,or_false] at hV;rcases hV with rfl|rfl|rfl|rfl<;>first|exact ax _ _|exact lN _|exact eV _
theorem ow:z4.ok:=⟨by decide,by decide,by decide,by decide⟩
section
variable{w:World}{bp ba cap ab:Nat}{R:List An}{A S:Value}{l:List V4}(s:St w bp ba cap ab R A S l)
include s
theorem St.Bq:bp<w.heap.size:=by obtain⟨_,_,h,_⟩:=s.pl;exact(cW.1 h).1
theorem St.ctx(n c:Nat):Ctx (ae (sC R A ba cap ab bp n c l)) w ba cap R:=by
 refine⟨s.ans,s.len,s.fits,aj (i:=0) rfl (ax _ _),aj (i:=1) rfl (ax _ _),?_,s.mh⟩;rcases s.row with rfl|⟨h,rfl⟩
 ·exact .inl rfl
 ·exact .inr ⟨h,ba,rfl⟩
theorem St.pq(n c:Nat):Rv (ae (sC R A ba cap ab bp n c l)) Ob.pq A:=by
 unfold Ob.pq;rw[Rv];have d:den (ae (sC R A ba cap ab bp n c l)) (.sy 2)=some (.int .i64 R.length):=aj (i:=1) rfl (ax _ _);have hl:=s.len;rcases s.row with rfl|⟨rfl,rfl⟩
 ·exact⟨⟨ba,0,cap+1⟩,R.length,rfl,d,by omega,fun h=>absurd (show cap+1=0 from h) (by omega),by show _=(if cap+1=0 then _ else _);rw[if_neg (by omega)];rfl⟩
 ·exact⟨⟨ba,0,0⟩,0,rfl,d,by omega,fun _=>rfl,rfl⟩
theorem St.cell(n c:Nat){j:Nat}(hj:j<3)(hi:(l.getD j z4).cells[i]? =some V):den (ae (sC R A ba cap ab bp n c l)) (.sy (9+4*j+i))=some V:=by
 have ok:=Bp _ V (gq hi);have yG:i<4:=(bR.1 hi).1;have e:(sC R A ba cap ab bp n c l)[8+4*j+i]? =some (aw V):=by
  match j,hj,i,yG,hi with
  |0,_,0,_,hi=>cases hi;rfl
  |0,_,1,_,hi=>cases hi;rfl
  |0,_,2,_,hi=>cases hi;rfl
  |0,_,3,_,hi=>cases hi;rfl
  |1,_,0,_,hi=>cases hi;rfl
  |1,_,1,_,hi=>cases hi;rfl
  |1,_,2,_,hi=>cases hi;rfl
  |1,_,3,_,hi=>cases hi;rfl
  |2,_,0,_,hi=>cases hi;rfl
  |2,_,1,_,hi=>cases hi;rfl
  |2,_,2,_,hi=>cases hi;rfl
  |2,_,3,_,hi=>cases hi;rfl
 rw[show 9+4*j+i=(8+4*j+i)+1 by omega];exact aj e ok
theorem St.Zd(n c:Nat){q:List (Nat×Nat×Bool)}(hq:Cq l q):Holds (ae (sC R A ba cap ab bp n c l)) (kF q):=by
 intro p hp;obtain⟨x,hx,rfl⟩:=bU.1 hp;obtain⟨h1,h2⟩:=hq x hx;have d:=s.cell n c (i:=0) (V:=.int .u8 (l.getD x.1 z4).k) h1 rfl;show den _ (.cmp .leq (.sy (9+4*x.1)) (.li .u8 (x.2.1:Int)))=some (.bool x.2.2);rw[show 9+4*x.1=9+4*x.1+0 by omega,az d,h2]
theorem St.ib(n c:Nat)(hl:l.length<=64)(m:Nat)(hm:m<=3)(hml:m<=l.length):∀i a,(List.take (4*m) (vS 9++vS 13++vS 17))[i]? =some a->∃V,(l.getD (i/4) z4).cells[i%4]? =some V∧Rv (ae (sC R A ba cap ab bp n c l)) a V∧i/4<m:=by
 intro i a h;have hi:i<4*m:=by
  have:=(bR.1 h).1;rw[List.length_take] at this;omega
 rw[List.getElem?_take_of_lt hi] at h;have r3:aP (ae (sC R A ba cap ab bp n c l)) (vS 9++vS 13++vS 17) ((l.getD 0 z4).cells++(l.getD 1 z4).cells++(l.getD 2 z4).cells):=by
  have ok:∀j,(l.getD j z4).ok:=fun j=>by
   rw[cB];cases hj:l[j]? with
   |none=>exact ow
   |some v=>exact s.P7 v (gq hj)
  exact aY (aY (iM (ok 0) fun i V hi=>by have:=s.cell n c (j:=0) (by decide) hi;rw[show 9+4*0+i=9+i by omega] at this;exact this)
   (iM (ok 1) fun i V hi=>by have:=s.cell n c (j:=1) (by decide) hi;rw[show 9+4*1+i=13+i by omega] at this;exact this))
   (iM (ok 2) fun i V hi=>by have:=s.cell n c (j:=2) (by decide) hi;rw[show 9+4*2+i=17+i by omega] at this;exact this)
 obtain⟨V,h1,h2⟩:=xf r3 i a h;refine⟨V,?_,h2,by omega⟩;have h12:i<12:=by omega
 match i,h12,h1 with
 |0,_,h1=>exact h1
 |1,_,h1=>exact h1
 |2,_,h1=>exact h1
 |3,_,h1=>exact h1
 |4,_,h1=>exact h1
 |5,_,h1=>exact h1
 |6,_,h1=>exact h1
 |7,_,h1=>exact h1
 |8,_,h1=>exact h1
 |9,_,h1=>exact h1
 |10,_,h1=>exact h1
 |11,_,h1=>exact h1
theorem St.go(n c:Nat){g:FuncId}{sl:AV}{ao:AO}{fs:aB}{T:Tr}(hk:rT g sl ao fs T=true)(hf:Holds (ae (sC R A ba cap ab bp n c l)) fs)(jg:Rv (ae (sC R A ba cap ab bp n c l)) sl S)
  (nQ:RO (ae (sC R A ba cap ab bp n c l)) w 6 ao) (oU:ao=.gone∨ao.live=true):
  Calls P g #[.agg #[.pointer (some ⟨bp,0,none⟩),S]] w fun e w'=>∃V,e=.returned V∧qS bp w w'∧cU R w.heap.size bp V w' (ev R T):=by
 have zh:=s.Bq;obtain⟨want,bn,yP,Ck,wY,yQ,Bj,_⟩:=s.pl;have jX:ae (sC R A ba cap ab bp n c l) 30=some ⟨bp,0,0⟩:=rfl;have e6:ae (sC R A ba cap ab bp n c l) 6=some ⟨ab,0,0⟩:=rfl;have nv:aP (ae (sC R A ba cap ab bp n c l)) ([Ob.pq,.i .i64 0]++di 87) (A::.int .i64 0::(List.range 87).map fun j=>bn.getD (j+2) undef):=
  ad (s.pq n c) (ad (by rw[Rv]) (fX 87 _ (by rw[gp,ot]) fun V hV=>by
   obtain⟨j,hj,rfl⟩:=bU.1 hV;exact Bj j (List.mem_range.1 hj)))
 have wg:∀(b:AO)(i:Nat),([AO.gone,.gone,.gone,.gone,.gone,ao]++(List.range 23).map (fun _=>AO.gone)++[MZ])[i]? =some b->b.live=true->(i=5∧ao.live=true)∨i=29:=by
  intro b i hb hl;have hi:i<30:=(bR.1 hb).1;by_cases h5:i=5
  ·subst h5;cases hb;exact .inl ⟨rfl,hl⟩
  by_cases SC:i=29
  ·exact .inr SC
  have:b=.gone:=by
   have:i∈(List.range 30).filter fun i=>i !=5&&i !=29:=by simp[List.mem_filter];omega
   have pM:∀i∈(List.range 30).filter fun i=>i !=5&&i !=29,([AO.gone,.gone,.gone,.gone,.gone,ao]++(List.range 23).map (fun _=>AO.gone)++[MZ])[i]? =some .gone:=by
    intro i hi;have hi:i∈[0,1,2,3,4,6,7,8,9,10,11,12,13,14,15,16,17,18,19,20,21,22,23,24,25,26,27,28]:=hi;simp only[mcQ,mnQ,or_false] at hi;rcases hi with rfl|rfl|rfl|rfl|rfl|rfl|rfl|rfl|rfl|rfl|rfl|rfl|rfl|rfl|rfl|rfl|rfl|rfl|rfl|rfl|rfl|rfl|rfl|rfl|rfl|rfl|rfl|rfl<;>rfl
   have:=pM i this;rw[hb] at this;cases this;rfl
  subst this;cases hl
 have hr:HR (ae (sC R A ba cap ab bp n c l)) (hS ao) 31 w:=by
  refine cX (C:=sC R A ba cap ab bp n c l) rfl (show 30<=31 from by decide) (.append (.append (l:=[AO.gone,.gone,.gone,.gone,.gone,ao]) ⟨trivial,trivial,trivial,trivial,trivial,nQ,trivial⟩ (.dead _ _ fun a ha=>by obtain⟨_,_,rfl⟩:=bU.1 ha;rfl)) ⟨?_,trivial⟩) (fun L hL=>?_) ?_
  ·refine⟨⟨bp,0,0⟩,bn,124,jX,yP,by show 0+89<=_;omega,nV.gJ _ _ _ _ _,fun j hj=>?_⟩
   have:=ef 89 _ _ nv j hj;rw[show(0:Nat)+j=j by omega];have e:(A::Value.int .i64 0::(List.range 87).map fun j=>bn.getD (j+2) undef).getD j undef=bn.getD j undef:=by
    match j,hj with
    |0,_=>exact wY.symm
    |1,_=>exact yQ.symm
    |j+2,hj=>exact eQ bn 87 j (by omega)
   rw[←e];exact this
  ·have s0:∀V,(aw V).aH<w.heap.size:=fun V=>by rw[bH];omega
   have ux:=s.wJ;have yR:=s.abs;unfold sC at hL;simp only[List.mem_append,bU] at hL;rcases hL with((hL|⟨_,_,rfl⟩)|⟨_,_,rfl⟩)|hL
   ·simp only[mcQ,mnQ,or_false] at hL
    rcases hL with rfl|rfl|rfl|rfl|rfl|rfl|rfl|rfl<;>first|exact s0 _|assumption|(split<;>exact ux)
   ·exact s0 _
   ·exact zh
   ·simp only[mcQ,mnQ,or_false] at hL
    subst hL;exact zh
  ·have cR:=s.KM
   rcases oU with rfl|oU
   ·show[bp].Nodup
    simp
   ·show(if ao.live then ab::[bp] else[bp]).Nodup
    rw[if_pos oU];simp[cR]
 have ra:aP (ae (sC R A ba cap ab bp n c l)) [.ag [.p 30 0,sl]] (#[.agg #[.pointer (some ⟨bp,0,none⟩),S]]:Array Value).toList:=
  ad (by rw[Rv];exact⟨[.pointer (some ⟨bp,0,none⟩),S],rfl,ad (by rw[Rv];exact⟨⟨bp,0,0⟩,jX,rfl⟩) (ad jg aF)⟩) aF
 have X:=s.ctx n c;have cG:bM (hS ao)=30:=bX _ _;have hj:bL (ae (sC R A ba cap ab bp n c l)) w (cg ba R) (ae (sC R A ba cap ab bp n c l)) (hS ao) w:=by
  refine⟨Env.le_refl _,nrQ _,fun k hk=>⟨rfl,?_,fun i L hl hL e=>?_⟩⟩
  ·rcases hk with rfl|⟨a,ha,off,n',c',hK⟩|rfl
   ·exact s.wJ
   ·obtain⟨i,hi⟩:=List.getElem?_of_mem ha
    rcases(s.ans i a hi).keys with⟨h1,_⟩|⟨b,tX,bz,arr,el,fr,h1,h2,_⟩
    ·rw[hK] at h1;cases h1
    ·rw[hK] at h1;cases h1
     exact(cW.1 h2).1
   ·exact s.mh.lt
  ·obtain⟨j,b,rfl,h1,h2⟩:=bT (a:=.gone) hl
   rcases wg b j h1 h2 with⟨rfl,_⟩|rfl
   ·have:ae (sC R A ba cap ab bp n c l) 6=some L:=hL
    rw[e6] at this;cases this;rcases hk with rfl|⟨a,ha,hb⟩|rfl
    ·exact s.WZ e.symm
    ·exact(s.kb a ha k hb).2 e.symm
    ·exact s.P8 e.symm
   ·have:ae (sC R A ba cap ab bp n c l) 30=some L:=hL
    rw[jX] at this;cases this;rcases hk with rfl|⟨a,ha,hb⟩|rfl
    ·exact s.O8 e.symm
    ·exact(s.kb a ha k hb).1 e.symm
    ·exact s.SB e.symm
 have qa:∀k,fp (ae (sC R A ba cap ab bp n c l)) (hS ao) k->k=bp:=by
  rintro k ⟨i,L,a1,a2,a3,rfl⟩;rw[cG] at a1;obtain⟨j,b,rfl,h1,h2⟩:=bT (a:=.gone) a2;rcases wg b j h1 h2 with⟨rfl,_⟩|rfl
  ·exact absurd a1 (by decide)
  ·have:ae (sC R A ba cap ab bp n c l) 30=some L:=a3
   rw[jX] at this;cases this;rfl
 refine(@jK (KJ (ae (sC R A ba cap ab bp n c l)) w (cg ba R)) P c2 (yq X) _ _ _ _ fs g _ _ (fun v h'=>qC v fun _=>qb (au h') (dZ 30 v h') T) hk hr (fun h' fk=>bL.fk hj fk) hf ra (fun v h=>rfl)).mono ?_;rintro e w' ⟨V,v,h',n',E',rfl,rv,cO,gQ,gs,xg,hk⟩;refine⟨V,rfl,⟨gs.size,fun k hk cR=>gs.fr k hk fun Cn=>cR (qa k Cn),gs.os,gs.output,gs.tape⟩,?_⟩;have sq:qb (au h') (dZ 30 v h') T=true:=by
  unfold qC at hk;split at hk
  ·exact hk
  ·cases hk
 exact WY X gQ.1 hr cO gs jX cG qa rv (lC X gQ.1 xg sq)
end
end
end Go.Proofs.YtngagklmbbogiaaGreatDoor.Ob
