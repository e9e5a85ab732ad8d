/- Parts of one proof (Ob98 to Ob99). No condition. -/
import Derived.Test.YtngagklmbbogiaaGreatDoorE5
set_option linter.all false
namespace Go.Proofs.YtngagklmbbogiaaGreatDoor.Ob
open Go Go.RowKit Vx
set_option maxRecDepth 100000
noncomputable section
variable{b:Bool}{v:V4}{w:World}
def Uw:Heap:=jq [.gone,.gone,.gone,.gone] 5
def sU(b:Bool)(v:AV)(h:Heap):Bool:=match v with
 |.b c=>bc b c (bc c false true)
 |.x .b e=>pick (cr (au h) e) b (bc b false true)
 |_=>false
theorem wG{v:AV}{E:Env}{h:Heap}{V:Value}(hk:sU b v h=true)(hf:Holds E (au h))(rv:Rv E v V):V=.bool b:=by
 unfold sU at hk;split at hk
 ·rw[Rv] at rv
  rename_i c;rw[rv];revert hk;cases c<;>cases b<;>intro hk<;>first|rfl|cases hk
 ·rename_i e
  rw[Rv] at rv;obtain⟨d,c,rfl⟩:=rv;obtain⟨d1,d2⟩:=aX hf d;revert hk;match hd:cr (au h) e with
  |0=>intro hk;cases hk
  |1=>intro hk;have:b=true:=hk;rw[this,d1 hd]
  |n+2=>
   intro hk;have:bc b false true=true:=hk;have hb:c=false:=d2 (by omega);rw[hb];revert this;cases b<;>intro this<;>first|rfl|cases this
 ·cases hk
def eqF:aB:=[(.cmp .eql (.sy 3) (.sy 3),true),(.cmp .eql (.sy 4) (.sy 4),true),(.cmp .eql (.sy 1) (.sy 1),true)]
def svF(j:Nat):aB:=(.cmp .eql (.sy 2) (.sy 2),true)::(.cmp .eql (.sy 1) (.li .u8 (.ofNat j)),true)::eqF
def svN:aB:=(.cmp .eql (.sy 2) (.sy 2),false)::(.cmp .eql (.sy 1) (.li .u8 3),true)::eqF
def svT(fs:aB):Bool:=bQ fs Uw fun h=>c0 18 [.ag (vS 1),.ag (vS 1)] h 5 fun v h _=>sU true v h
theorem sv_all:((List.range 9).all fun j=>svT (svF j))=true:=by kernel_rfl
theorem sv_nan:svT svN=true:=by kernel_rfl
theorem BS{x c:Nat}(h:nU x c=true):nU x x=true:=by
 unfold nU at h⊢;rcases KB x with h1|h1
 ·rw[h1];rfl
 ·rw[pR (.inl h1)] at h;cases h
theorem Ux(h:v.may=true):v.k<=8∧(nU v.x v.x=true∨v.k=3):=by
 have h:gI v.k v.x v.s v.r=true:=h;unfold gI at h;simp only[Bool.and_eq_true] at h;refine⟨gD h.1.1.1,?_⟩;have h2:=h.2;split at h2
 ·simp only[Bool.and_eq_true,Bool.or_eq_true] at h2
  rcases h2.1.1 with h|h
  ·exact .inl (BS h)
  ·exact .inl (BS h.1)
 ·split at h2
  ·exact .inr ‹_›
  ·simp only[Bool.and_eq_true] at h2
   exact .inl (BS h2.1.1.1)
theorem sameVV(ok:v.ok)(hm:v.may=true)(hz:0<w.heap.size):Calls P 18 #[.agg v.cells.toArray,.agg v.cells.toArray] w fun e w'=>e=.returned (.bool true)∧Below w.heap.size w w':=by
 obtain⟨h8,hx⟩:=Ux hm;let C:List aZ:=[aw (.int .u8 v.k),aw (.float .f64 v.x),aw (.string v.s),aw (.int .i64 v.r)];have cell:∀j V,v.cells[j]? =some V->den (ae C) (.sy (1+j))=some V:=fun j V hj=>by
  have:j<4:=(bR.1 hj).1;match j,this,hj with
  |0,_,hj=>cases hj;exact aj (i:=0) rfl (ax _ _)
  |1,_,hj=>cases hj;exact aj (i:=1) rfl (lN _)
  |2,_,hj=>cases hj;exact aj (i:=2) rfl (eV _)
  |3,_,hj=>cases hj;exact aj (i:=3) rfl (ax _ _)
 have d1:den (ae C) (.sy 1)=some (.int .u8 v.k):=cell 0 _ rfl;have d2:den (ae C) (.sy 2)=some (.float .f64 v.x):=cell 1 _ rfl;have d3:den (ae C) (.sy 3)=some (.string v.s):=cell 2 _ rfl;have d4:den (ae C) (.sy 4)=some (.int .i64 v.r):=cell 3 _ rfl;have eqI:∀{e:SE}{k:IntKind}{z:Int},den (ae C) e=some (.int k z)->den (ae C) (.cmp .eql e e)=some (.bool true):=fun {e k z} d=>by
  show(match den (ae C) e,den (ae C) e with|some X,some Y=>(bu .eql X Y).map Value.bool|_,_=>none)=_;rw[d];simp[bu,jY]
 have eqS:den (ae C) (.cmp .eql (.sy 3) (.sy 3))=some (.bool true):=by
  show(match den (ae C) (.sy 3),den (ae C) (.sy 3) with|some X,some Y=>(bu .eql X Y).map Value.bool|_,_=>none)=_;rw[d3];simp[bu,zA]
 have heq:Holds (ae C) eqF:=ah eqS (ah (eqI d4) (ah (eqI d1) holds_nil));have hr:HR (ae C) Uw 5 w:=by
  refine cX (C:=C) rfl (show 5<=5 from by decide) ⟨trivial,trivial,trivial,trivial,trivial⟩ (fun L hL=>?_) (show([]:List Nat).Nodup by simp)
  have s0:∀V,(aw V).aH<w.heap.size:=fun V=>by rw[bH];omega
  simp only[C,mcQ,mnQ,or_false] at hL;rcases hL with rfl|rfl|rfl|rfl<;>exact s0 _
 have go:∀fs,svT fs=true->Holds (ae C) fs->Calls P 18 #[.agg v.cells.toArray,.agg v.cells.toArray] w fun e w'=>e=.returned (.bool true)∧Below w.heap.size w w':=fun fs hk dX=>by
  have rl:aP (ae C) (vS 1) v.cells:=iM ok cell;have ra:aP (ae C) [.ag (vS 1),.ag (vS 1)] (#[.agg v.cells.toArray,.agg v.cells.toArray]:Array Value).toList:=ad (vX rl) (ad (vX rl) aF);refine(@jK JC.qP P c0 (@iL JC.qP) _ _ _ _ fs 18 _ _ (sU true) hk hr (fun _ _=>trivial) dX ra (fun v h=>rfl)).mono ?_;rintro e w' ⟨V,u,h',n',E',rfl,rv,cO,_,gs,xg,hk⟩;refine⟨by rw[wG hk xg rv],{size:=gs.size,block:=fun k hk=>gs.fr k hk fun hf=>?_,os:=gs.os,output:=gs.output,tape:=gs.tape}⟩;obtain⟨i,L,a1,a2,_⟩:=hf;obtain⟨j,x,rfl,g1,g2⟩:=bT (a:=.gone) a2;have:=(bR.1 g1).1;have:j<4:=this;rw[show bM Uw=5 from bX _ _] at a1;omega
 have feqd:den (ae C) (.cmp .eql (.sy 2) (.sy 2))=some (.bool (nU v.x v.x)):=p8 d2 d2;cases hf:nU v.x v.x with
 |true=>
  have h0:=ok.k.1;have hj:v.k.toNat<9:=by omega
  refine go _ (Aad.1 sv_all _ (List.mem_range.2 hj)) (ah (feqd.trans (by rw[hf])) (ah ((bx d1).trans ?_) heq));rw[show(Int.ofNat v.k.toNat:Int)=v.k from Int.toNat_of_nonneg h0,eX rfl]
 |false=>
  rcases hx with h|h
  ·rw[hf] at h;cases h
  ·exact go _ sv_nan (ah (feqd.trans (by rw[hf])) (ah ((bx d1).trans (by rw[eX h])) heq))
def isQ(g:Nat):Bool:=[93,94,95,96,97,98,99,100].any (Nat.beq g)
def quT:Bool:=mq.all fun x=>bQ [] Uw fun h=>c0 16 [nmS x] h 5 fun v h _=>sU (isQ x.1) v h
theorem qu_all:quT=true:=by kernel_rfl
def alT:Bool:=bQ [] Uw fun h=>c0 13 [] h 5 fun v h _=>sU true v h
theorem al_yes:alT=true:=by kernel_rfl
theorem DK{g:FuncId}{args:List AV}{ARGS:Array Value}(hk:bQ [] Uw (fun h=>c0 g args h 5 fun v h _=>sU b v h)=true)(hz:0<w.heap.size)(ra:∀E,aP E args ARGS.toList):
  Calls P g ARGS w fun e w'=>e=.returned (.bool b)∧Below w.heap.size w w':=by
 let C:List aZ:=[⟨0,0,0⟩,⟨0,0,0⟩,⟨0,0,0⟩,⟨0,0,0⟩];have hr:HR (ae C) Uw 5 w:=by
  refine cX (C:=C) rfl (show 5<=5 from by decide) ⟨trivial,trivial,trivial,trivial,trivial⟩ (fun L hL=>?_) (show([]:List Nat).Nodup by simp)
  simp only[C,mcQ,mnQ,or_false] at hL;rcases hL with rfl|rfl|rfl|rfl<;>exact hz
 refine(@jK JC.qP P c0 (@iL JC.qP) _ _ _ _ [] g _ _ (sU b) hk hr (fun _ _=>trivial) holds_nil (ra _) (fun v h=>rfl)).mono ?_;rintro e w' ⟨V,u,h',n',E',rfl,rv,cO,_,gs,xg,hk⟩;refine⟨by rw[wG hk xg rv],{size:=gs.size,block:=fun k hk=>gs.fr k hk fun hf=>?_,os:=gs.os,output:=gs.output,tape:=gs.tape}⟩;obtain⟨i,L,a1,a2,_⟩:=hf;obtain⟨j,x,rfl,g1,g2⟩:=bT (a:=.gone) a2;have:=(bR.1 g1).1;have:j<4:=this;rw[show bM Uw=5 from bX _ _] at a1;omega
theorem Uy(hz:0<w.heap.size):Calls P 13 #[] w fun e w'=>e=.returned (.bool true)∧Below w.heap.size w w':=DK al_yes hz fun _=>aF
theorem Yq(hz:0<w.heap.size){x:Nat×Nat×Nat}(hx:x∈mq):Calls P 16 #[.string (str x.2.1 x.2.2)] w fun e w'=>e=.returned (.bool (isQ x.1))∧Below w.heap.size w w':=
 DK (Aad.1 qu_all x hx) hz fun E=>ad (by unfold nmS;rw[Rv]) aF
def Yr(P:Program)(nt:Nat)(o:Oper):Nat:=match o.op with
 |.indexAddr ..=>1
 |_=>Rw P nt o
def u0(P:Program)(nt:Nat)(ops:Array Oper):List (gE×Nat):=Ka (uL P nt) ops.size 0 0 0 (V7 (Yr P nt) ops.toList 0 [])
section
variable[JC]
variable{DD:List Deferred}
def NU(P:Program)(ext:iG)(call:aO):jS:=fun ops nt kq kn regs h aq=>
 bc (Nat.beq (List.length (u0 P nt ops)) ops.size) (bc (Region.noSelect ops) (bc (Vx.cf P nt ops (2 ^ ops.size-1) (u0 P nt ops) 0 0 0)
  (si (u0 P nt ops) regs fun regs=>fh P call ext nt ops (u0 P nt ops) kq kn (some []) regs h aq) false) false) false
theorem u5{P:Program}{ext:iG}(hm:P.follows .mixedOrders=true)(fO:om P ext)(call:aO)(aQ:bj P call):fz P (NU P ext call):=by
 intro DD id ops nt kn kx kr E regs h aq a w he st;obtain⟨e1,he⟩:=aa he;obtain⟨e2,he⟩:=aa he;obtain⟨e3,he⟩:=aa he;obtain⟨av,he,hc,hny⟩:=wZ _ he;have e1:=aN e1;refine wp_mono (Q:=cz (Ch ops) DD E h w nt kn kx kr) (wp_region_any hm ?_) fun e a w hh=>hh.weak
 refine vL.any (F:=fun _ _=>False) ?_
 have Cj:∀p∈u0 P nt ops,pc ops p.1:=fun p hp=>by
  obtain⟨x,hx,l,e⟩:=sd _ _ _ _ _ _ p hp;rw[e];exact(Et _ 0 [] (by simp) (by simp) x hx).yk l
 have:=fC (kx:=kx) (kr:=kr) (E0:=E) (h0:=h) (w0:=w) aQ fO e2 st.heap st.j _ (u0 P nt ops) 0 0 0 (some []) (fun _=>none) (Array.replicate ops.size false) (fun _ _=>False) E av h aq a {w with drawn:=w.drawn+1} (nrQ _) e3 Cj
  ⟨by simp,fun j=>by by_cases hj:j<ops.size<;>simp[hj]⟩ (fun j i hj _=>by by_cases h:j<ops.size<;>simp[h] at hj) (fun _ _ hh=>hh.elim) he
  ⟨fun t=>by
   rcases hc t with h|h<;>rw[h]
   ·simp[Rv]
   ·exact st.regs t,st.size,st.defers,st.heap.drew,JC.goes st.heap st.j (bk.drew _ _ _) st.heap.drew⟩ (bk.drew _ _ _)
  ⟨fun _ _ h=>(by cases h),fun _ _ _ h=>(by cases h),fun _ _ h=>(by cases h),fun _ _ _ h=>(by cases h)⟩ hny (fun y _ _ hr=>by
   unfold hP at hr;have:pb 0 y.1.i=false:=by
    cases hb:pb 0 y.1.i
    ·rfl
    ·have:=jt.1 hb;simp at this
   rw[this] at hr;exact .lazy hr a)
 have e4:((u0 P nt ops).filter fun p=>((fun _=>none:Nat->Option Ev) p.1.i).isNone).length=ops.size:=by
  rw[←e1];simp
 rw[e4] at this;exact this
end
def LI:Ct:=fun args h n k=>match args with
 |[]=>k (.b true) h n
 |_=>false
def LJ(b:Bool):Ct:=fun args h n k=>match args with
 |[.x .s (.sy 7)]=>k (.b b) h n
 |_=>false
def vE1:List AV:=[.x (.i .u8) (aE 1),.x .f (aE 2),.x .s (aE 3),.x (.i .i64) (aE 4)]
def Uz:Ct:=fun args h n k=>match args with
 |[.ag a,.ag b]=>bc (bc (cH a vE1) (bc (cH b vE1) (nT (au h) [(wv 1,true)]) false) false) (k (.b true) h n) false
 |_=>false
def SL(b:Bool):fV:=fun g=>match g with
 |13=>some LI
 |16=>some (LJ b)
 |18=>some Uz
 |_=>none
def Ys(b:Bool):aO:=Vx.run (SL b) 40
def dL4(b:Bool):jS:=NU P XT (Ys b)
abbrev lx:=List (Nat×Option Nat)
def UA:lx:=[(4,some 0),(1,some 1),(1,some 3),(1,some 5),(1,some 11)]
def UB:lx:=[(1,none),(2,none),(4,none)]
def BU(p:Nat×Option Nat):List AV:=.i .u8 (.ofNat p.1)::(match p.2 with
 |some m=>.i .u8 (.ofNat m)
 |none=>.any)::di 85
def UC(cs:lx)(h:Heap)(n:Nat)(k:K):Bool:=bc (bc (cs.all fun p=>k (Jd (BU p) 0) h n) (k (Jd NO 0) h n) false) (sP.all fun f=>k (Jd (NP f) 0) h n) false
def UD(cs:lx)(b:Bool)(h:Heap)(n:Nat)(k:K):Bool:=bc b (UC cs h n k)
 (bc (bc (k (Jd (di 87) 160) h n) (bQ (k1F::au h) h fun h1=>UC cs h1 n k) false) (bQ (k2F++au h) h fun h1=>k (Jd Yo 0) h1 n) false)
def isW4(cs:lx)(l:List AV):Bool:=cs.any fun p=>bc (cY (cV l 0) (.i .u8 (.ofNat p.1))) (match p.2 with
 |some m=>cY (cV l 1) (.i .u8 (.ofNat m))
 |none=>true) false
def Z6(cs:lx)(l:List AV):Bool:=bc (isW4 cs l) true
 (bc (cY (cV l 0) (.i .u8 7)) (bc (cY (cV l 61) (.i .u8 1)) true (sP.any fun f=>cH (List.drop 61 l) (jw f.1 f.2.1 f.2.2))) false)
def hkM(cs:lx):wz:=fun ph g args h n k=>bc (Nat.beq g 14) (match args with
    |[.x .s (.sy 7),.sz 9 (.sy 8)]=>bc (bc (Nat.beq ph 0) (bc (Nat.beq n 14) (nT (au h) [(.cmp .leq (.sy 8) (.li .i64 64),true)]) false) false)
     (bc (bQ ((.cmp .eql (.sy 14) (.li .i64 0),false)::(.cmp .leq (.sy 14) (.li .i64 0),false)::au h) h fun h1=>k 0 (.tu [.pn,.x (.i .i64) (.sy 14)]) h1 15) (k 1 (.tu [.p 14 0,.i .i64 0]) h 15) false) false
    |_=>false)
 (bc (Nat.beq g 15) (match args with
  |[.p 14 0,.ag l]=>bc (bc (Nat.beq ph 1) (cH l jL) false) (UD cs true h n (k 2)) false
  |_=>false) false)
def hkR(cs:lx):wz:=fun ph g args h n k=>bc (Nat.beq g 15) (match args with
    |[.p 14 0,.ag l]=>bc (bc (Nat.beq ph 2) (cH l (oL 5)) false) (UD cs false h n (k 3)) false
    |_=>false) false
def slA:AV:=.sz 9 (.sy 8)
def slL:AV:=.sz 11 (.sy 10)
def nmL:AV:=.x .s (.sy 7)
def Gc(idx:AV):List (Nat×AV):=[(0,nmL),(1,slA),(2,slL),(6,.b false),(7,.b true),(8,.p 14 0),(9,.i .i64 0),(10,.p 15 0),(11,idx)]
def hL0:Heap:=jq ((List.range 13).map (fun _=>AO.gone)) 14
def elL:AO:=.glob 5101226 26 (gw (oL 5) fc 0)
def wBox(c:List AV):AO:=.cells 87 ⟨0,some 45,true⟩ (fu c ⟨87,fZ⟩ 0)
def hLr(el:AO)(c:List AV):Heap:=jq ((List.range 12).map (fun _=>AO.gone)++[el,.gone,wBox c]) 14
def wThr:List AV:=.i .u8 7::di 60++(.i .u8 2::di 25)
def UE(cs:lx)(l:List AV)(h:Heap):Bool:=bc (bc (Nat.beq (List.length l) 87) (cj l) false)
 (bc (Z6 cs l) true (bc (cY (cV l 0) (.i .u8 7)) (bc (cY (cV l 61) (.i .u8 2)) true (bc (cY (cV l 61) (.x (.i .u8) (aE 0))) (nT (au h) [(.cmp .eql (aE 0) (.li .u8 2),true)]) false)) false)) false
def IP(cs:lx)(h:Heap):Bool:=match T.get .gone h 15 with
 |.cells 87 ⟨0,some 45,true⟩ c=>UE cs ((List.range 87).map fun j=>c.get j) h
 |_=>false
def wI(hs:List Nat)(cl:Code)(b:Bool)(cs:lx)(el:AO)(c:List AV)(fs:aB)(kn:SP)(kx:Nat->SP)(kr:SP):Bool:=bQ fs (hLr el c) fun h=>BM P (Ys b) (hkR cs) XT (dL4 b) Tryz.f4.ntmps hs (fun _ _ _=>qH) cl kn kx kr 2 (gd (Gc (.x (.i .i64) (.sy 12)))) h 16
def FQ:aB:=[(.cmp .leq (.sy 12) (.li .i64 (-1)),false),(.cmp .leq (.sy 12) (.li .i64 100),true),(.cmp .leq (.fn 20 (.sy 6)) (.li .i64 (-1)),false)]
def midL:aB:=[(.cmp .lss (.sy 12) (.sy 10),true),(.cmp .leq (.sy 10) (.sy 12),false),(.cmp .lss (.sy 12) (.li .i64 40),true),(.cmp .leq (.li .i64 40) (.sy 12),false),(.cmp .leq (.sy 12) (.li .i64 39),true)]
def NV:aB:=[(.cmp .lss (.sy 12) (.sy 10),false),(.cmp .leq (.sy 10) (.sy 12),true)]
def FR:aB:=[(.cmp .lss (.sy 12) (.sy 10),true),(.cmp .leq (.sy 10) (.sy 12),false),(.cmp .lss (.sy 12) (.li .i64 40),false),(.cmp .leq (.li .i64 40) (.sy 12),true),(.cmp .leq (.sy 12) (.li .i64 39),false)]
def NW(cs:lx)(ph:Nat)(regs:aI)(h:Heap):Bool:=bc (Nat.beq ph 3) (bc (fi (Gc (.x (.i .i64) (.cD 4 (.sy 12) (.li .i64 1)))) regs) (IP cs h) false) false
def DL:List (List AV):=NO::wThr::sP.map NP
def UF(ph:Nat)(v:AV)(h:Heap):Bool:=sU true v h
def Yt(kx:Nat->SP):Nat->SP:=fun i _=>kx i 9
def zt(cl:Code)(b:Bool)(cs:lx)(kx:Nat->SP)(kr:SP):Bool:=
 bc (bc (cs.all fun p=>wI [14,15] cl b cs elL (BU p) (FQ++midL) (fun ph regs h _=>NW cs ph regs h) (fun _=>qH) qH)
  (cs.all fun p=>bc (wI [] cl b cs .gone (BU p) (FQ++NV) qH (Yt kx) qH) (wI [] cl b cs .gone (BU p) (FQ++FR) qH (Yt kx) qH) false) false)
  (DL.all fun c=>bc (wI [] cl b cs .gone c (FQ++NV) qH (Yt kx) qH) (bc (wI [] cl b cs .gone c (FQ++FR) qH (Yt kx) qH) (wI [] cl b cs .gone c (FQ++midL) qH (Yt kx) qH) false) false) false
def JL(b:Bool)(cs:lx)(cl:Code):SP->(Nat->SP)->SP->SP:=fun kn kx kr ph regs h n=>
 bc (bc (Nat.beq ph 2) (bc (fi (Gc (.i .i64 0)) regs) (IP cs h) false) false) (zt cl b cs kx kr) false
def argF:aB:=[(.cmp .leq (.sy 8) (.li .i64 (-1)),false),(.cmp .leq (.sy 10) (.li .i64 (-1)),false)]
def yC(b:Bool)(cs:lx)(fs:aB):Bool:=match Tryz.f4.body with
 |some c=>(match aS c with
  |[cl]=>(match aS cl with
   |[]=>bc (Nat.ble 3 Tryz.f4.ntmps) (bQ (argF++fs) hL0 fun h=>BM P (Ys b) (hkM cs) XT (dL4 b) Tryz.f4.ntmps [14,15] (JL b cs cl) c (ui P Tryz.f4 UF) (fun _=>qH) (ui P Tryz.f4 UF) 0 (gw [nmL,slA,slL] fc 0) h 14) false
   |_=>false)
  |_=>false)
 |none=>false
def f64(b:Bool):aB:=[(.cmp .leq (.sy 8) (.li .i64 64),b)]
theorem es_q:yC true UA (f64 true)=true:=by kernel_rfl
theorem es_a:yC false UB (f64 true)=true:=by kernel_rfl
theorem es_q0:yC true UA (f64 false)=true:=by kernel_rfl
theorem es_a0:yC false UB (f64 false)=true:=by kernel_rfl
end
end Go.Proofs.YtngagklmbbogiaaGreatDoor.Ob
