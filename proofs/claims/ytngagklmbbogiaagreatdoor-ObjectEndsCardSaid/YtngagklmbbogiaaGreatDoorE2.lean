/- Parts of one proof (Ob80 to Ob81). No condition. -/
import Derived.Test.YtngagklmbbogiaaGreatDoorE1
import Derived.Test.YtngagklmbbogiaaGreatDoorD5
set_option linter.all false
namespace Go.Proofs.YtngagklmbbogiaaGreatDoor.Ob
open Go Go.RowKit Vx
set_option maxRecDepth 100000
noncomputable section
def SF:fV:=fun g=>match g with
 |46=>some R7
 |179=>some chkC
 |_=>none
theorem SF_ok[JC]:fg P SF:=by
 intro g C hC;unfold SF at hC;split at hC
 ·cases hC;exact zg Con.EW
 ·cases hC;exact Wt Rf.yp
 ·cases hC
def cF:aO:=Vx.run SF 40
theorem ZT[JC]:bj P cF:=eH SF_ok 40
def dF:jS:=fD P XT cF
def hF0:Heap:=jq ((List.range 11).map (fun _=>AO.gone)) 12
def uC:AO:=.cells 26 ⟨0,some 36,true⟩ (fu (oL 5) ⟨26,fZ⟩ 0)
def X9:AO:=.glob 4500902 2 (gw [.x .s (.cD 200 (.sy 6) (.sy 9)),.x (.i .i64) (.cD 201 (.sy 6) (.sy 9))] fc 0)
def hFr(el:AO):Heap:=jq ((List.range 9).map (fun _=>AO.gone)++[el,uC]) 12
def B4(i:AV)(p:Nat):List (Nat×AV):=[(0,.x (.i .u8) (.sy 7)),(1,.x (.i .u8) (.sy 8)),(5,.p p 0),(6,.b false),(40,I6 5 6),(41,xk 6),(42,i)]
def aE(i:Nat):SE:=jv (zi 0) i
def wv(i:Nat):SE:=.fn 10 (sk (aE i) (aE (Nat.add i 1)) (aE (Nat.add i 2)) (aE (Nat.add i 3)))
def bF(i:Nat):SE:=.cmp .eql (aE i) (.li .u8 1)
def ZU:SE:=.fn 14 (Di [aE 7,aE 8,aE 9,aE 10,aE 11,aE 12,aE 13,aE 14,aE 15,aE 16,aE 17,aE 18,aE 19,bF 20,bF 21,bF 22])
def Ln(one:Bool):aB:=bif one then[(.cmp .eql (aE 0) (.li .u8 1),true)] else[(.cmp .eql (aE 0) (.li .u8 1),false),(.cmp .eql (aE 0) (.li .u8 2),true)]
def F2:aB:=[(.cmp .eql (aE 23) (.li .u8 0),true),(.cmp .eql (aE 24) (.ls 0 0),true),(wv 1,true),(.cmp .leq (.fn 20 (.sy 6)) (.li .i64 1024),true)]
def zF(i:Nat):aB:=[(.cmp .eql (aE i) (.li .u8 0),true),(.cmp .eql (aE (Nat.add i 1)) (.lf 0),true),(.cmp .eql (aE (Nat.add i 2)) (.ls 0 0),true),(.cmp .eql (aE (Nat.add i 3)) (.li .i64 0),true)]
def nbF(i:Nat):SE×Bool:=(.cmp .eql (bF i) (.lb false),true)
def gF(g:Nat):aB:=match g with
 |0=>[(bF 6,false),(.cmp .eql (aE 7) (.li .u8 0),true)]++(zF 8++(zF 12++(zF 16++[nbF 20,nbF 21,nbF 22,(wv 8,true),(wv 12,true),(wv 16,true)])))
 |1=>[(bF 6,true),(ZU,true),(.cmp .eql (aE 7) (.li .u8 51),true)]
 |_=>[(bF 6,true),(ZU,true),(.cmp .eql (aE 7) (.li .u8 51),false),(.cmp .eql (aE 7) (.li .u8 60),true)]
def T'(s:Bool):aB:=[(.cmp .leq (.cD 201 (.sy 6) (.sy 9)) (.li .i64 (-1)),false),(.cmp .leq (.len (.cD 200 (.sy 6) (.sy 9))) (.li .i64 4096),true)]++
 (bif s then[(.cmp .leq (.cD 201 (.sy 6) (.sy 9)) (.li .i64 0),false),(.cmp .eql (.cD 200 (.sy 6) (.sy 9)) (.ls 0 0),true)] else[(.cmp .leq (.cD 201 (.sy 6) (.sy 9)) (.li .i64 0),true)])
def wF(i:Nat):aB:=match i with
 |0=>[(.cmp .eql (.sy 7) (.li .u8 4),true)]
 |1=>[(.cmp .eql (.sy 7) (.li .u8 4),false),(.cmp .eql (.sy 7) (.li .u8 3),true)]
 |2=>[(.cmp .eql (.sy 7) (.li .u8 4),false),(.cmp .eql (.sy 7) (.li .u8 3),false),(.cmp .eql (.sy 7) (.li .u8 1),true),(.cmp .eql (.sy 8) (.li .u8 13),true)]
 |3=>[(.cmp .eql (.sy 7) (.li .u8 4),false),(.cmp .eql (.sy 7) (.li .u8 3),false),(.cmp .eql (.sy 7) (.li .u8 1),true),(.cmp .eql (.sy 8) (.li .u8 13),false),(.cmp .eql (.sy 8) (.li .u8 1),true)]
 |4=>[(.cmp .eql (.sy 7) (.li .u8 4),false),(.cmp .eql (.sy 7) (.li .u8 3),false),(.cmp .eql (.sy 7) (.li .u8 1),true),(.cmp .eql (.sy 8) (.li .u8 13),false),(.cmp .eql (.sy 8) (.li .u8 1),false)]
 |_=>[(.cmp .eql (.sy 7) (.li .u8 4),false),(.cmp .eql (.sy 7) (.li .u8 3),false),(.cmp .eql (.sy 7) (.li .u8 1),false)]
def vF(i:Nat):aB:=match i with
 |0=>[(.cmp .leq (aE 1) (.li .u8 5),false),(.cmp .leq (aE 1) (.li .u8 8),true)]
 |1=>[(.cmp .eql (aE 1) (.li .u8 1),true),(.cmp .leq (aE 1) (.li .u8 5),true)]
 |_=>[(.cmp .leq (aE 1) (.li .u8 5),true),(.cmp .eql (aE 1) (.li .u8 1),false)]
def nF(one:Bool)(i v:Nat):Bool:=match one,i,v with
 |false,_,_=>true
 |true,0,0=>true
 |true,1,0=>true
 |true,2,0=>true
 |true,3,0=>true
 |true,3,1=>true
 |true,4,_=>true
 |true,5,_=>true
 |_,_,_=>false
def yV:aB:=[(.cmp .leq (.sy 9) (.li .i64 1024),true),(.cmp .leq (.sy 9) (.li .i64 (-1)),false)]
def ZV:aB:=[(.cmp .lss (.sy 9) (.fn 20 (.sy 6)),true),(.cmp .leq (.fn 20 (.sy 6)) (.sy 9),false)]
def ZW:aB:=[(.cmp .leq (.fn 20 (.sy 6)) (.sy 9),true)]
def Ya(fs:aB)(p:SE×Bool):Bool:=List.rec (motive:=fun _=>Bool) false (fun q _ ih=>bc (bc (eE q.1 p.1) (bc q.2 p.2 (bc p.2 false true)) false) true ih) fs
def nT(fs need:aB):Bool:=List.rec (motive:=fun _=>Bool) true (fun p _ ih=>bc (Ya fs p) ih false) need
theorem NC{E:Env}{p:SE×Bool}:∀{fs:aB},Holds E fs->Ya fs p=true->den E p.1=some (.bool p.2)
 |[],_,h=>by cases h
 |q::fs,hf,h=>by
  have h:bc (bc (eE q.1 p.1) (bc q.2 p.2 (bc p.2 false true)) false) true (Ya fs p)=true:=h;rcases aR h with⟨h1,_⟩|⟨_,h1⟩
  ·obtain⟨h2,h3⟩:=aa h1
   have e:=cq h2;have e2:q.2=p.2:=by cases hq:q.2<;>cases hp:p.2<;>rw[hq,hp] at h3<;>first|rfl|cases h3
   rw[←e,←e2];exact hf q List.mem_cons_self
  ·exact NC (fun x hx=>hf x (List.mem_cons_of_mem _ hx)) h1
theorem iz{E:Env}{fs:aB}(hf:Holds E fs):∀{need:aB},nT fs need=true->Holds E need
 |[],_=>fun _ h=>by cases h
 |p::need,h=>by
  have h:bc (Ya fs p) (nT fs need) false=true:=h;obtain⟨h1,h2⟩:=aa h;intro x hx;rcases mcQ.1 hx with rfl|hx
  ·exact NC hf h1
  ·exact iz hf h2 x hx
def wx(h:Heap):Bool:=match T.get .gone h 11 with
 |.gone=>false
 |_=>true
def xP(regs:aI)(h:Heap):Bool:=bc (bc (wx h) false true) (bc (fi (B4 (.i .i64 0) 12) regs) (dA 12 26 36 (oL 5) h) false) false
def qo(regs:aI)(h:Heap):Bool:=bc (wx h) (fi (B4 (.x (.i .i64) (.cD 4 (.sy 9) (.li .i64 1))) 11) regs) false
def jG(cl:Code)(el:AO)(fs:aB)(kn:S)(kx:Nat->S)(kr:S):Bool:=bQ fs (hFr el) fun h=>zj P cF XT dF Tryz.f68.ntmps (fun _ _ _=>fj) cl kn kx kr (gd (B4 (.x (.i .i64) (.sy 9)) 11)) h 12
def Yb(fs:aB):Bool:=bc (nT fs (gF 0)) true (bc (nT fs (gF 1)) true (nT fs (gF 2)))
def BJ(one:Bool)(v:AV)(h:Heap):Bool:=match v with
 |.b false=>true
 |.b true=>bc (bc (wx h) (nT (au h) ZW) false) (Yb (au h)) false
 |.x .b _=>bc (bc (wx h) (nT (au h) ZW) false) (Yb (au h)) false
 |_=>false
def PA(b:Bool)(v:AV)(h:Heap):Bool:=match v with
 |.b c=>bc b c (bc c false true)
 |.x .b e=>pick (cr (au h) e) b (bc b false true)
 |_=>false
def nG(fin:AV->Heap->Bool):S:=nB P Tryz.f68 fin
def JA(one:Bool)(cl:Code):S->(Nat->S)->S->S:=fun kn kx kr regs h n=>
 bc (bc (xP regs h) (nT (au h) (Ln one++F2)) false) (bc (jG cl X9 (ZV++(yV++(Ln one++F2))) (fun regs h _=>bc (qo regs h) (bc (nT (au h) (T' true)) true (nT (au h) (T' false))) false) (fun _=>fj) kr)
  (jG cl .gone (ZW++(yV++(Ln one++F2))) fj kx kr) false) false
def Lu(one:Bool):aB:=bif one then[(.cmp .eql (aE 0) (.li .u8 1),true)] else[(.cmp .eql (aE 0) (.li .u8 1),false)]
def Ua(one:Bool):Bool:=match Tryz.f68.body with
 |some c=>(match aS c with
  |[cl]=>(match aS cl with
   |[]=>bc (Nat.ble 3 Tryz.f68.ntmps) (bQ (Lu one) hF0 fun h=>zj P cF XT dF Tryz.f68.ntmps (JA one cl) c (nG (BJ one)) (fun _=>fj) (nG (BJ one)) (gw [.x (.i .u8) (.sy 7),.x (.i .u8) (.sy 8),.ag (oL 5)] fc 0) h 12) false
   |_=>false)
  |_=>false)
 |none=>false
def yW(one:Bool)(g i v:Nat):aB:=wF i++(vF v++(gF g++(Ln one++F2)))
def JB(fs:aB)(cl:Code):S->(Nat->S)->S->S:=fun kn kx kr regs h n=>
 bc (xP regs h) (bc (jG cl X9 (T' true++(ZV++(yV++fs))) (fun regs h _=>qo regs h) (fun _=>fj) fj) (bc (jG cl X9 (T' false++(ZV++(yV++fs))) (fun regs h _=>qo regs h) (fun _=>fj) fj) (jG cl .gone (ZW++(yV++fs)) fj kx kr) false) false) false
def Iy(fs:aB)(b:Bool):Bool:=match Tryz.f68.body with
 |some c=>(match aS c with
  |[cl]=>(match aS cl with
   |[]=>bc (Nat.ble 3 Tryz.f68.ntmps) (bQ fs hF0 fun h=>zj P cF XT dF Tryz.f68.ntmps (JB fs cl) c (nG (PA b)) (fun _=>fj) (nG (PA b)) (gw [.x (.i .u8) (.sy 7),.x (.i .u8) (.sy 8),.ag (oL 5)] fc 0) h 12) false
   |_=>false)
  |_=>false)
 |none=>false
def Lv(one:Bool)(g:Nat):Bool:=(List.range 6).all fun i=>(List.range 3).all fun v=>Iy (yW one g i v) (nF one i v)
theorem fA_t:Ua true=true:=by kernel_rfl
theorem fA_f:Ua false=true:=by kernel_rfl
theorem fB_t0:Lv true 0=true:=by kernel_rfl
theorem fB_t1:Lv true 1=true:=by kernel_rfl
theorem fB_t2:Lv true 2=true:=by kernel_rfl
theorem fB_f0:Lv false 0=true:=by kernel_rfl
theorem fB_f1:Lv false 1=true:=by kernel_rfl
theorem fB_f2:Lv false 2=true:=by kernel_rfl
end
end Go.Proofs.YtngagklmbbogiaaGreatDoor.Ob
