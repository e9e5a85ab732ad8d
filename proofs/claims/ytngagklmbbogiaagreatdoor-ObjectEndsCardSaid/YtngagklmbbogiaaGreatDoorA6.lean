/- Parts of one proof (VxZ to VxY). No condition. -/
import Derived.Test.YtngagklmbbogiaaGreatDoorA5
import Derived.Lib.IndexMore
import Derived.OpenShut
import Derived.ProofKit
import Derived.Carry
import Derived.Laws.Cover2
import Derived.Lib.SmallJoins
import Derived.Lib.IndexBytes
set_option linter.all false
namespace Go.Proofs.YtngagklmbbogiaaGreatDoor.Vx
open Go
noncomputable section
variable{a:AO}{ARGS:Array Value}{x y:Bool}{E:Env}{g:FuncId}{c n:Int}{k:IntKind}{args:List AV}{Vs vs:List Value}{Ls:List aZ}{i m n0 nn:Nat}{P:Program}{b e:SE}{V:Value}{w:World}{fs:aB}{call:aO}
section
variable{E:Env}{h:Heap}{aq:Nat}{w w':World}
theorem tn{x:Obj}{k:Nat}(hb:RowKit.Below w.heap.size w w')(hx:w.heap[k]? =some x):w'.heap[k]? =some x:=by
 have:k<w.heap.size:=by
  rcases gC k w.heap.size with hh|hh
  ·exact hh
  ·rw[Array.getElem?_eq_none hh] at hx;cases hx
 rw[hb.block k this];exact hx
theorem RO.below(hb:RowKit.Below w.heap.size w w')(r:RO E w i a):RO E w' i a:=by
 cases a with
 |gone=>trivial
 |floor n=>trivial
 |facts fs=>exact r
 |ali p off q cap=>exact r
 |cells n e c=>obtain⟨L,arr,el,h1,h2,h3⟩:=r;exact⟨L,arr,el,h1,tn hb h2,h3⟩
 |map es c=>obtain⟨L,ms,h1,h2,h3⟩:=r;exact⟨L,ms,h1,tn hb h2,h3⟩
 |siter l n p=>obtain⟨L,h1,h2,h3⟩:=r;exact⟨L,h1,h2,tn hb h3⟩
 |glob g n c=>obtain⟨L,arr,el,fr,h1,h2,h3,h4⟩:=r;exact⟨L,arr,el,fr,h1,h2,tn hb h3,h4⟩
 |rows el len=>obtain⟨L,arr,n,h1,h0,h2,h3⟩:=r;exact⟨L,arr,n,h1,h0,tn hb h2,h3⟩
 |blob el sz S l len=>obtain⟨L,arr,n,h1,h0,h2,h3⟩:=r;exact⟨L,arr,n,h1,h0,tn hb h2,h3⟩
theorem HR.below(hr:HR E h aq w)(hb:RowKit.Below w.heap.size w w'):HR E h aq w':=
 ⟨fun i=>(hr.obj i).below hb,hr.inj,hr.lt,hr.fresh,fun i L hi=>dV (hr.kT i L hi) hb.size,hr.pos,hr.kU,hr.zero⟩
theorem bk.below(hb:RowKit.Below w.heap.size w w'):bk E h w E h w':=
 ⟨Env.le_refl _,hb.size,fun k hk _=>hb.block k hk,fun _ _ h=>h,rfl,fun _ _=>rfl,hb.os,hb.output,hb.tape⟩
end
abbrev Ct:=List AV->Heap->Nat->K->Bool
def gL[JC](P:Program)(g:FuncId)(C:Ct):Prop:=∀(args:List AV)(ARGS:Array Value)(E:Env)(h:Heap)(aq:Nat)(w:World)(k:K),
 C args h aq k=true->aP E args ARGS.toList->HR E h aq w->JC.J E h w->Calls P g ARGS w (Ends E h w k)
theorem gL.of[JC]{C:Ct}(H:∀(args:List AV)(ARGS:Array Value)(E:Env)(h:Heap)(aq:Nat)(w:World)(k:K),
  C args h aq k=true->aP E args ARGS.toList->HR E h aq w->Calls P g ARGS w fun e w'=>∃V,e=.returned V∧ng E h w k V w'):gL P g C:=
 fun args ARGS E h aq w k he ra hr _=>(H args ARGS E h aq w k he ra hr).mono fun _ _ hh=>.inl hh
def orC(C D:Ct):Ct:=fun args h aq k=>bc (C args h aq k) true (D args h aq k)
theorem xc[JC]{C D:Ct}(hC:gL P g C)(hD:gL P g D):gL P g (orC C D):=by
 intro args ARGS E h aq w k he ra hr hj;rcases aR he with⟨he,_⟩|⟨_,he⟩
 ·exact hC args ARGS E h aq w k he ra hr hj
 ·exact hD args ARGS E h aq w k he ra hr hj
section
variable{E E':Env}{h:Heap}{aq:Nat}{w w':World}
def RZ(a b:AV):Bool:=match a,b with
 |.ag l,.ag l'=>cH l l'
 |a,b=>cY a b
theorem R0{a b:AV}(h:RZ a b=true):a=b:=by
 unfold RZ at h;split at h
 ·rw[bb h]
 ·exact bV h
theorem RO.wide{E':Env}(hle:E.le E')(r:RO E w i a):RO E' w i a:=by
 cases a with
 |gone=>trivial
 |floor=>trivial
 |facts fs=>exact fun p hp=>an hle _ _ (r p hp)
 |ali p off q cap=>obtain⟨L,M,c,h1,h2,h3,h4⟩:=r;exact⟨L,M,c,hle _ _ h1,hle _ _ h2,an hle _ _ h3,h4⟩
 |cells n e c=>obtain⟨M,ar,e',h1,h2,h3,h4,h5⟩:=r;exact⟨M,ar,e',hle _ _ h1,h2,h3,h4,fun j hj=>(h5 j hj).mono hle⟩
 |map es ck=>obtain⟨M,ms,h1,h2,h3⟩:=r;exact⟨M,ms,hle _ _ h1,h2,Env.G' hle _ _ h3⟩
 |siter l n p=>obtain⟨M,h1,h2,h3⟩:=r;exact⟨M,hle _ _ h1,h2,h3⟩
 |glob g n c=>obtain⟨M,ar,e',fr,h1,h2,h3,h4,h5,h6⟩:=r;exact⟨M,ar,e',fr,hle _ _ h1,h2,h3,h4,fun j hj=>(h5 j hj).mono hle,h6.wide hle⟩
 |rows el len=>obtain⟨M,ar,n,h1,h0,h2,h3,h4⟩:=r;exact⟨M,ar,n,hle _ _ h1,h0,h2,an hle _ _ h3,h4⟩
 |blob el sz S l len=>obtain⟨M,ar,n,h1,h0,h2,h3,h4,h5,c0,h6,h7,h8,h9⟩:=r;exact⟨M,ar,n,hle _ _ h1,h0,h2,an hle _ _ h3,h4,h5,c0,an hle _ _ h6,h7,h8,fun j a hj=>(h9 j a hj).mono hle⟩
end
def ku(gl:List (Nat×List AV))(n0:Nat)(Ls:List aZ):Env:=fun i=>if n0<=i then Ls[i-n0]? else mf gl i
theorem R2{gl:List (Nat×List AV)}(hn:gl.all (fun p=>Nat.ble (p.1+2) n0)=true)(h1:Nat.ble 1 n0=true)(hw:Kp w gl)(hm:Ls.length=m)(hL:∀L∈Ls,L.aH=0)(hs:0<w.heap.size):
  HR (ku gl n0 Ls) (dY gl n0) (n0+m) w:=by
 have hr:=Dd hn h1 hw;have z:=lJ gl n0;have fl:bM (dY gl n0)=n0:=by unfold bM;rw[z]
 have cL:∀i,(T.get .gone (dY gl n0) i).live=true->i<n0:=fun i hi=>by
  rcases gC i n0 with h|h
  ·exact h
  ·rw[hr.lt i h] at hi;cases hi
 have old:∀i,i<n0->ku gl n0 Ls i=mf gl i:=fun i hi=>by unfold ku;rw[if_neg (by omega)]
 have hle:(mf gl).le (ku gl n0 Ls):=fun i L hi=>by
  rcases gC i n0 with h|h
  ·rw[old i h];exact hi
  ·rw[hr.fresh i h] at hi;cases hi
 refine⟨fun i=>(hr.obj i).wide hle,fun i j L M hi hj hLi hMj e=>?_,fun i hi=>hr.lt i (by omega),fun i hi=>?_,fun i L hi=>?_,by have:=hr.pos;omega,by rw[fl];omega,hr.zero⟩
 ·rw[old i (cL i hi)] at hLi
  rw[old j (cL j hj)] at hMj;exact hr.inj i j L M hi hj hLi hMj e
 ·unfold ku
  rw[if_pos (by omega)];exact List.getElem?_eq_none (by omega)
 ·rcases gC i n0 with h|h
  ·rw[old i h] at hi;exact hr.kT i L hi
  ·unfold ku at hi
   rw[if_pos h] at hi;rw[hL L (gq hi)];exact hs
theorem zf(hc:bj P call){gl:List (Nat×List AV)}{fin:AV->Heap->Bool}
  (hn:gl.all (fun p=>Nat.ble (p.1+2) n0)=true) (h1:Nat.ble 1 n0=true) (hm:Ls.length=m) (Vd:n0+m=nn) (hL:∀L∈Ls,L.aH=0) (hf:Holds (ku gl n0 Ls) fs) (ra:aP (ku gl n0 Ls) args ARGS.toList)
  (hp:∀v h,fin (.pk v) h=false)
  (he:bQ fs (dY gl n0) (fun h=>call g args h nn (fun v h _=>fin v h))=true) (w:World) (hs:0<w.heap.size) (hw:Kp w gl):
  Calls P g ARGS w fun e w'=>∃V v h' E' n',e=.returned V∧Rv E' v V∧HR E' h' n' w'∧(ku gl n0 Ls).le E'∧fin v h'=true∧RowKit.Below w.heap.size w w':=by
 subst Vd;have Ci:=Dd hn h1 hw;have hr:=R2 hn h1 hw hm hL hs;obtain⟨OP,he,fw,fk⟩:=bZ he hr hf;have z:=lJ gl n0;have fl:bM (dY gl n0)=n0:=by unfold bM;rw[z]
 have iq:∀k,¬fp (ku gl n0 Ls) OP k:=by
  rintro k ⟨i,L,a1,a2,_,_⟩;rw[fk.bM,fl] at a1;rw[fk.live,Ci.lt i a1] at a2;cases a2
 refine(hc g args ARGS _ _ _ w _ he ra fw trivial).mono ?_;rintro e w' (⟨V,rfl,v,h',aL,E',rv,cO,gs,hk⟩|⟨V,rfl,v,h',aL,E',rv,_,gs,hk⟩)
 ·exact⟨V,v,h',E',aL,rfl,rv,cO,gs.ext,hk,AM gs iq⟩
 ·have hk:fin (.pk v) h'=true:=hk
  rw[hp] at hk;cases hk
theorem OW(x:Nat):oD ⟨0,0,x⟩=.float .f64 x:=rfl
theorem Wm(s:ByteArray):oD ⟨0,3*s.size+2,pack s.data.toList⟩=.string s:=by
 have e1:(3*s.size+2)%3=2:=by omega
 have e2:(3*s.size+2)/3=s.size:=by omega
 unfold oD;simp only[e1,e2];congr 1;have:s.size=s.data.toList.length:=Array.length_toList.symm;rw[this];unfold str;rw[ya]
theorem Wn(k:IntKind)(n:Int):oD ⟨0,3*kc k+1,if 0<=n then 2*n.toNat else 2*(-n-1).toNat+1⟩=.int k n:=by
 have e1:(3*kc k+1)%3=1:=by omega
 have e2:(3*kc k+1)/3=kc k:=by omega
 unfold oD;simp only[e1,e2];have e3:nN (kc k)=k:=by cases k<;>rfl
 rw[e3];congr 1;by_cases h:0<=n
 ·simp only[h,if_true]
  have a1:2*n.toNat%2=0:=by omega
  have a2:2*n.toNat/2=n.toNat:=by omega
  rw[if_pos a1,a2];omega
 ·simp only[h,if_false]
  have a1:¬(2*(-n-1).toNat+1)%2=0:=by omega
  have a2:(2*(-n-1).toNat+1)/2=(-n-1).toNat:=by omega
  rw[if_neg a1,a2];omega
def aw(V:Value):aZ:=match V with
 |.float _ x=>⟨0,0,x⟩
 |.string s=>⟨0,3*s.size+2,pack s.data.toList⟩
 |.int k n=>⟨0,3*kc k+1,if 0<=n then 2*n.toNat else 2*(-n-1).toNat+1⟩
 |_=>⟨0,0,0⟩
def jk(V:Value):Prop:=(∃x,V=.float .f64 x)∨(∃s,V=.string s)∨∃k n,V=.int k n
theorem pj(h:jk V):oD (aw V)=V:=by
 rcases h with⟨x,rfl⟩|⟨s,rfl⟩|⟨k,n,rfl⟩
 ·exact OW x
 ·exact Wm s
 ·exact Wn k n
theorem bH(V:Value):(aw V).aH=0:=by cases V<;>rfl
abbrev ew(gl:List (Nat×List AV))(n0:Nat)(Vs:List Value):Env:=ku gl n0 (Vs.map aw)
theorem iZ{gl:List (Nat×List AV)}(j:Nat)(h:Vs[j]? =some V)(ok:jk V):den (ew gl n0 Vs) (.sy (n0+j))=some V:=by
 show(ku gl n0 (Vs.map aw) (n0+j)).map oD=some V;unfold ku;rw[if_pos (by omega),Nat.add_sub_cancel_left,fL,h];show some (oD (aw V))=some V;rw[pj ok]
theorem jJ{gl:List (Nat×List AV)}{s:Ge}(j:Nat)(h:Vs[j]? =some V)(ok:jk V)(hs:jZ s V):Rv (ew gl n0 Vs) (.x s (.sy (n0+j))) V:=by
 rw[Rv];exact⟨iZ j h ok,hs⟩
theorem lN(x:Nat):jk (.float .f64 x):=.inl ⟨x,rfl⟩
theorem eV(s:ByteArray):jk (.string s):=.inr (.inl ⟨s,rfl⟩)
theorem ax(k:IntKind)(n:Int):jk (.int k n):=.inr (.inr ⟨k,n,rfl⟩)
theorem bx(h:den E e=some (.int k n)):den E (.cmp .eql e (.li k c))=some (.bool (decide (n=c))):=by
 simp only[den,h,bu,if_true,Option.map];show some (Value.bool (n==c))=_;congr 2
theorem az(h:den E e=some (.int k n)):den E (.cmp .leq e (.li k c))=some (.bool (decide (n<=c))):=by
 simp only[den,h,bu,if_true,Option.map];rfl
theorem KA(d:Ieee.Datum):d.order d=some .eq∨∃s m,d=.nan s m:=by
 cases d with
 |nan s m=>exact .inr ⟨s,m,rfl⟩
 |infinity s=>left;cases s<;>rfl
 |number s m i=>
  left;show some (compare (Ieee.signed s m (i-min i i).toNat) (Ieee.signed s m (i-min i i).toNat))=some .eq;congr 1;show compareOfLessAndEq _ _=.eq;unfold compareOfLessAndEq;rw[if_neg (Int.lt_irrefl _),if_pos rfl]
theorem KB(x:Nat):FloatKind.f64.format.order x x=some .eq∨zD x:=by
 rcases KA (FloatKind.f64.format.read x) with h|⟨s,m,h⟩
 ·exact .inl h
 ·exact .inr ⟨s,m,h⟩
theorem AY{x:Nat}(h:(Lit.float .f64 x).wf=true):x<18446744073709551616:=by simpa[Lit.wf] using h
theorem holds_nil:Holds E []:=fun _ h=>by cases h
theorem ah{p:SE×Bool}(h:den E p.1=some (.bool p.2))(k:Holds E fs):Holds E (p::fs):=fun q hq=>by
 rcases mcQ.1 hq with rfl|hq
 ·exact h
 ·exact k q hq
theorem aF:aP E [] []:=by simp[aP]
theorem ad{a:AV}{v:Value}{as0:List AV}(h:Rv E a v)(k:aP E as0 vs):aP E (a::as0) (v::vs):=by
 rw[aP];exact⟨v,vs,rfl,h,k⟩
theorem vX{cs:List AV}(h:aP E cs vs):Rv E (.ag cs) (.agg vs.toArray):=by
 rw[Rv];exact⟨vs,rfl,h⟩
def noPk(v:AV)(b:Bool):Bool:=match v with
 |.pk _=>false
 |_=>b
def vY(call:aO)(g:FuncId):Ct:=fun args h aq k=>call g args h aq fun v h n=>noPk v (k v h n)
theorem ja[JC]{P:Program}{call:aO}(hc:bj P call)(g:FuncId):gL P g (vY call g):=by
 intro args ARGS E h aq w k he ra hr hj;refine(hc g args ARGS E h aq w _ he ra hr hj).mono ?_;rintro e w' (⟨V,rfl,v,h',n',E',rv,cO,gs,hh⟩|⟨V,rfl,v,h',n',E',rv,cO,gs,hh⟩)
 ·refine .inl ⟨V,rfl,v,h',n',E',rv,cO,gs,?_⟩
  have hh:noPk v (k v h' n')=true:=hh;cases v<;>first|exact hh|(cases hh;done)
 ·cases hh
def vZ(e:SE):Bool:=SE.rec (motive:=fun _=>Bool) (fun _=>true) (fun _=>false) (fun _ _=>false) (fun _=>false) (fun _ _=>false)
 (fun _ ih=>ih) (fun _ ih=>ih) (fun _ _ ih=>ih) (fun _ _ ih=>ih) (fun _ _ ih=>ih) (fun _ _ _ a b=>bc a true b) (fun _ _ _ a b=>bc a true b) (fun _ _ a b=>bc a true b) e
theorem R3:∀{e:SE}{V:Value},vZ e=true->den E e=some V->∃n L,E n=some L:=by
 have two:∀{a b:SE}{U W:Value},(∀{V:Value},vZ a=true->den E a=some V->∃n L,E n=some L)->(∀{V:Value},vZ b=true->den E b=some V->∃n L,E n=some L)->
   den E a=some U->den E b=some W->bc (vZ a) true (vZ b)=true->∃n L,E n=some L:=by
  intro a b U W nK mu ha hb h;rcases aR h with⟨h,_⟩|⟨_,h⟩
  ·exact nK h ha
  ·exact mu h hb
 intro e;induction e with
 |sy n=>
  intro V _ hV;simp only[den] at hV;cases hn:E n with
  |none=>rw[hn] at hV;cases hV
  |some L=>exact⟨n,L,hn⟩
 |lb|li|lf|ls=>intro V h;cases h
 |len e ih|not e ih|conv k e ih|rem m e ih|fn c e ih=>
  intro V h hV;simp only[den] at hV;cases he:den E e with
  |none=>rw[he] at hV;cases hV
  |some W=>exact ih h he
 |cmp op a b nK mu|and a b nK mu|cD c a b nK mu=>
  intro V h hV;simp only[den] at hV;cases ha:den E a with
  |none=>rw[ha] at hV;cases hV
  |some U=>
   cases hb:den E b with
   |none=>rw[ha,hb] at hV;cases U<;>cases hV
   |some W=>exact two nK mu ha hb h
theorem HR.size_pos{h:Heap}{aq:Nat}(hr:HR E h aq w)(hs:vZ e=true)(hd:den E e=some V):0<w.heap.size:=by
 obtain⟨n,L,hn⟩:=R3 hs hd;have:=hr.kT n L hn;omega
theorem KC[JC]{C:Ct}(H:∀(args:List AV)(ARGS:Array Value)(E:Env)(h:Heap)(aq:Nat)(w:World)(k:K),C args h aq k=true->aP E args ARGS.toList->HR E h aq w->
  ∃v h1 U,k v h1 aq=true∧Rv E v U∧HR E h1 aq w∧Fk h h1∧Calls P g ARGS w fun e w'=>e=.returned U∧RowKit.Below w.heap.size w w'):gL P g C:=by
 refine gL.of ?_;intro args ARGS E h aq w k he ra hr;obtain⟨v,h1,U,hk,rv,fw,fk,hc⟩:=H args ARGS E h aq w k he ra hr;refine hc.mono ?_;rintro e w' ⟨rfl,hb⟩;exact⟨U,rfl,v,h1,aq,E,rv,fw.below hb,fk.goes.trans (bk.below hb),hk⟩
def srtE(a b:Ge):Bool:=match a,b with
 |.b,.b=>true
 |.i k,.i k'=>Nat.beq (kc k) (kc k')
 |.f,.f=>true
 |.s,.s=>true
 |_,_=>false
theorem Wo{a b:Ge}(h:srtE a b=true):a=b:=by
 cases a<;>cases b<;>first|rfl|(cases h;done)|(rw[pN h])
def HA(s0 s1:Ge)(c:Nat):Ct:=fun args h aq k=>match args with
 |[.x s e]=>bc (srtE s s0) (bc (vZ e) (k (.x s1 (.fn c e)) h aq) false) false
 |_=>false
theorem AZ[JC]{s0 s1:Ge}{c:Nat}(H:∀(V:Value)(w:World),jZ s0 V->0<w.heap.size->∃U,FW c V=some U∧jZ s1 U∧Calls P g #[V] w fun e w'=>e=.returned U∧RowKit.Below w.heap.size w w'):gL P g (HA s0 s1 c):=by
 apply KC;intro args ARGS E h aq w k he ra hr;unfold HA at he;split at he<;>try (cases he;done)
 rename_i s e;obtain⟨h1,jD⟩:=aa he;obtain⟨h2,qu⟩:=aa jD;clear he jD;obtain rfl:=Wo h1;obtain⟨V,hA,rx⟩:=ra.one;have hA:ARGS=#[V]:=by apply Array.ext';simpa using hA
 subst hA;rw[Rv] at rx;obtain⟨U,hU,hs,hc⟩:=H V w rx.2 (hr.size_pos h2 rx.1);refine⟨_,h,U,qu,?_,hr,Fk.refl h,hc⟩;rw[Rv];exact⟨by simp only[den,rx.1,hU],hs⟩
def yM(spec:SE)(v:AV)(h:Heap):Bool:=qt v h (fun h=>d3 (cr (au h) spec) false true false) (fun h=>d3 (cr (au h) spec) false false true)
theorem EJ(hc:bj P call){spec:SE}{b:Bool}
  (Vd:1+Vs.length=nn) (hf:Holds (ew [] 1 Vs) fs) (ra:aP (ew [] 1 Vs) args ARGS.toList) (hd:den (ew [] 1 Vs) spec=some (.bool b))
  (he:bQ fs (dY [] 1) (fun h=>call g args h nn (fun v h _=>yM spec v h))=true) (w:World) (hs:0<w.heap.size):
  Calls P g ARGS w fun e w'=>e=.returned (.bool b)∧RowKit.Below w.heap.size w w':=by
 refine(zf hc rfl rfl (gp _) Vd (fun L hL=>by obtain⟨V,_,rfl⟩:=bU.1 hL;exact bH V) hf ra (fun v h=>rfl) he w hs (fun p hp=>by cases hp)).mono ?_;rintro e w' ⟨V,v,h',E',n',rfl,rv,cO,hle,hk,hb⟩;obtain⟨x,h1,rfl,fw,_,hx⟩:=rM hk rv cO;have qw:=an hle _ _ hd;have P2:=aX (aD fw) qw;refine⟨?_,hb⟩;congr 2;rcases hx with⟨rfl,hx⟩|⟨rfl,hx⟩
 ·match FZ:cr (au h1) spec with
  |0=>rw[FZ] at hx;cases hx
  |1=>exact(P2.1 FZ).symm
  |n+2=>rw[FZ] at hx;cases hx
 ·match FZ:cr (au h1) spec with
  |0=>rw[FZ] at hx;cases hx
  |1=>rw[FZ] at hx;cases hx
  |n+2=>exact(P2.2 (by omega)).symm
def EK(a b:SE):SE:=.not (.and (.not a) (.not b))
theorem uQ{a:SE}(ha:den E a=some (.bool x))(hb:den E b=some (.bool y)):den E (EK a b)=some (.bool (x||y)):=by
 unfold EK;simp only[den,ha,hb];cases x<;>cases y<;>rfl
theorem cJ{a:SE}(ha:den E a=some (.bool x))(hb:den E b=some (.bool y)):den E (.and a b)=some (.bool (x&&y)):=by simp only[den,ha,hb]
end
end Go.Proofs.YtngagklmbbogiaaGreatDoor.Vx
namespace Go.Proofs.YtngagklmbbogiaaGreatDoor.Vx
open Go Go.RowKit Go.ChangeShapes Go.WideShapes Go.ChangeAt Go.Joins
noncomputable section
def uR(d:TypeDesc)(v:Value):Prop:=match d with
 |.bool=>∃b,v=.bool b
 |.int k=>∃n,v=.int k n∧(Lit.int k n).wf=true
 |.float .f64=>∃x,v=.float .f64 x∧(Lit.float .f64 x).wf=true
 |.string=>∃s:ByteArray,v=.string s∧s.size<=maxLen
 |_=>False
def R4(d:TypeDesc):Bool:=match d with
 |.bool=>true
 |.int _=>true
 |.float .f64=>true
 |.string=>true
 |_=>false
def uc{α β:Type}(R:α->β->Prop):List α->List β->Prop
 |[],[]=>True
 |a::as0,b::bs=>R a b∧uc R as0 bs
 |_,_=>False
theorem uc.length{α β:Type}{R:α->β->Prop}:∀{as0:List α}{bs:List β},uc R as0 bs->as0.length=bs.length
 |[],[],_=>rfl
 |_::_,_::_,h=>by simp[h.2.length]
 |[],_::_,h=>h.elim
 |_::_,[],h=>h.elim
theorem uc.append{α β:Type}{R:α->β->Prop}:∀{as0:List α}{bs:List β}{cs:List α}{ds:List β},uc R as0 bs->uc R cs ds->uc R (as0++cs) (bs++ds)
 |[],[],_,_,_,k=>k
 |_::_,_::_,_,_,h,k=>⟨h.1,h.2.append k⟩
 |[],_::_,_,_,h,_=>h.elim
 |_::_,[],_,_,h,_=>h.elim
def HB(P:Program)(go:TypeId->Option (List TypeDesc)):List Field->Nat->Nat->Option (List TypeDesc)
 |[],off,n=>if off=n then some [] else none
 |f::fs,off,n=>if f.offset=off then(match go f.type with
  |some l=>if l.length=P.cellsOf f.type then(match HB P go fs (off+P.cellsOf f.type) n with
   |some r=>some (l++r)
   |none=>none) else none
  |none=>none) else none
def MH(P:Program):Nat->TypeId->Option (List TypeDesc)
 |0,_=>none
 |d+1,t=>match P.underlying t with
  |some (.struct fs)=>HB P (MH P d) fs.toList 0 (P.cellsOf t)
  |some d=>if R4 d then some [d] else none
  |none=>none
section
variable{H:Type}{enc:TypeId×Value->H}{P:Program}{w:World}{base:Nat}{spare:Nat->Bool}{held:Bool}
theorem EL{t:TypeId}{k:FloatKind}{fuel:Nat}{cs:List Value}{x:DataW H×List MemPlace}(ht:P.underlying t=some (.float k))(h:DataW.trod enc P w base spare held fuel t cs=some x):∃n,cs=[.float k n]∧x=(.lit (.float k n),[])∧(Lit.float k n).wf=true:=by
 cases fuel with
 |zero=>simp[DataW.trod] at h
 |succ n=>
  unfold DataW.trod at h;rw[ht] at h;split at h<;>simp_all
theorem HD{go:TypeId->Option (List TypeDesc)}{cs:List Value}{n:Nat}(hn:cs.length=n)
  (hgo:∀t l cs' fuel x,go t=some l->DataW.trod enc P w base spare held fuel t cs'=some x->uc uR l cs'∧x.2=[]):
  ∀(fs:List Field)(off:Nat)(l:List TypeDesc)(xs:List (DataW H×List MemPlace))(fuel:Nat),HB P go fs off n=some l->xs.length=fs.length->
   (∀(i:Nat)(f:Field),fs[i]? =some f->DataW.trod enc P w base spare held fuel f.type ((cs.drop f.offset).take (P.cellsOf f.type))=xs[i]?)->uc uR l (cs.drop off)∧xs.flatMap (·.2)=[]
 |[],off,l,xs,fuel,h,hl,hf=>by
  simp only[HB] at h;split at h<;>cases h
  rename_i ho;have:xs=[]:=List.length_eq_zero_iff.1 hl;subst this;have:cs.drop off=[]:=List.drop_eq_nil_of_le (by omega);rw[this];exact⟨trivial,rfl⟩
 |f::fs,off,l,xs,fuel,h,hl,hf=>by
  simp only[HB] at h;split at h<;>try (cases h;done)
  rename_i ho;split at h<;>try (cases h;done)
  rename_i l1 hg;split at h<;>try (cases h;done)
  rename_i hlen;split at h<;>try (cases h;done)
  rename_i r hr;cases h
  obtain⟨x0,xs,rfl⟩:∃x0 xs',xs=x0::xs':=by
   cases xs with
   |nil=>simp at hl
   |cons a b=>exact⟨a,b,rfl⟩
  have h0:=hf 0 f rfl;simp only[List.getElem?_cons_zero] at h0;obtain⟨a1,a2⟩:=hgo _ _ _ _ _ hg h0;obtain⟨b1,b2⟩:=HD hn hgo fs (off+P.cellsOf f.type) r xs fuel hr (by simpa using hl) fun i f' hi=>by
   have:=hf (i+1) f' (by simpa using hi);simpa using this
  rw[ho] at a1;refine⟨?_,by simp[a2,b2]⟩;have e:cs.drop off=(cs.drop off).take (P.cellsOf f.type)++cs.drop (off+P.cellsOf f.type):=by
   rw[←List.drop_drop,List.take_append_drop]
  rw[e];exact a1.append b1
theorem iJ:∀(d:Nat)(t:TypeId)(l:List TypeDesc)(cs:List Value)(fuel:Nat)(x:DataW H×List MemPlace),MH P d t=some l->DataW.trod enc P w base spare held fuel t cs=some x->uc uR l cs∧x.2=[]
 |0,_,_,_,_,_,h,_=>by cases h
 |d+1,t,l,cs,fuel,x,h,ht=>by
  unfold MH at h;split at h
  ·rename_i fs hu
   obtain⟨xs,n,rfl,rfl,hl,hlen,hf⟩:=DataW.trod_struct hu ht;have:=HD (cs:=cs) hl (fun t l cs' fuel x=>iJ d t l cs' fuel x) fs.toList 0 l xs n h (by simpa using hlen) fun i f hi=>hf i f (by simpa using hi)
   simpa using this
  ·rename_i dd _ hu
   split at h<;>cases h
   rename_i hd;cases dd<;>simp only[R4,ftQ] at hd
   ·obtain⟨b,rfl,rfl⟩:=DataW.trod_bool hu ht
    exact⟨⟨⟨b,rfl⟩,trivial⟩,rfl⟩
   ·obtain⟨n,rfl,rfl,hw⟩:=DataW.trod_int hu ht
    exact⟨⟨⟨n,rfl,hw⟩,trivial⟩,rfl⟩
   ·rename_i k _
    cases k
    ·cases hd
    obtain⟨n,rfl,rfl,hw⟩:=EL hu ht;exact⟨⟨⟨n,rfl,hw⟩,trivial⟩,rfl⟩
   ·obtain⟨s,rfl,rfl,hw⟩:=DataW.trod_string hu ht
    exact⟨⟨⟨s,rfl,hw⟩,trivial⟩,rfl⟩
  ·cases h
end
def HE(v:Value):Value:=match v with
 |.bool b=>.int .u8 (if b then 1 else 0)
 |v=>v
def leafAV(d:TypeDesc)(n:Nat):AV:=match d with
 |.bool=>.x .b (.cmp .eql (.sy n) (.li .u8 1))
 |.int k=>.x (.i k) (.sy n)
 |.float _=>.x .f (.sy n)
 |_=>.x .s (.sy n)
def EM:List TypeDesc->Nat->List AV
 |[],_=>[]
 |d::ds,n=>leafAV d n::EM ds (n+1)
theorem kv{k:IntKind}{n:Int}(h:(Lit.int k n).wf=true):k.min<=n∧n<=k.max:=by
 simpa[Lit.wf] using h
end
end Go.Proofs.YtngagklmbbogiaaGreatDoor.Vx
namespace Go.Proofs.YtngagklmbbogiaaGreatDoor.Vx
open Go
noncomputable section
variable{v:AV}{s:ByteArray}{E:Env}{g:FuncId}{n r:Int}{x y:Nat}{P:Program}{a b c d:SE}{V:Value}
def mayS(a:SE):SE:=.and (.cmp .eql (.fn 2 a) a) (.and (.cmp .leq (.fn 1 (.fn 4 (.fn 0 a))) (.lf 0x433fffffffffffff)) (EK (.not (.cmp .eql a (.lf 0))) (.not (.cmp .leq (.fn 3 (.fn 0 a)) (.li .i64 (-1))))))
section
variable{E:Env}
theorem p8(ha:den E a=some (.float .f64 x))(hb:den E b=some (.float .f64 y)):den E (.cmp .eql a b)=some (.bool (nU x y)):=by simp only[den,ha,hb,bu,rn,Option.map_some,nU]
theorem Wp(ha:den E a=some (.float .f64 x))(hb:den E b=some (.float .f64 y)):den E (.cmp .leq a b)=some (.bool (Z' x y)):=by simp only[den,ha,hb,bu,rn,Option.map_some,Z']
theorem OX(ha:den E a=some (.float .f64 x))(hs:nU x x=true):den E (.fn 2 a)=some (.float .f64 (DP x)):=by
 simp only[den,ha,FW];unfold DP;cases hd:FloatKind.f64.decode x with
 |nan s t=>
  unfold nU at hs;rw[pR (.inl ⟨s,t,hd⟩)] at hs;cases hs
 |_=>rfl
theorem R5(ha:den E a=some (.float .f64 x))(hs:nU x x=true):den E (mayS a)=some (.bool (tP x)):=by
 have e:tP x=(nU (DP x) x&&(Z' (Jf x) 0x433fffffffffffff&&(!nU x 0|| !sgnF x))):=by
  unfold tP;rw[hs];simp only[Bool.not_true,Bool.false_or,Bool.and_assoc]
 rw[e];have h0:den E (.fn 0 a)=some (.int .u64 x):=by simp only[den,ha,FW]
 have h4:den E (.fn 1 (.fn 4 (.fn 0 a)))=some (.float .f64 (Jf x)):=by
  simp only[den,ha,FW];rfl
 have h3:den E (.fn 3 (.fn 0 a))=some (.int .i64 (IntKind.i64.wrap (x:Int))):=by simp only[den,ha,FW]
 unfold mayS;refine cJ (p8 (OX ha hs) ha) (cJ (Wp h4 rfl) (uQ (jE (p8 ha rfl)) (jE ?_)));exact az h3
end
def R6(kk:IntKind)(v:AV)(k:SE->Bool):Bool:=match v with
 |.i k' n=>bc (Nat.beq (kc kk) (kc k')) (bc (bc (decide (kk.min<=n)) (decide (n<=kk.max)) false) (k (.li kk n)) false) false
 |.x (.i k') e=>bc (Nat.beq (kc kk) (kc k')) (k e) false
 |_=>false
def asF(v:AV)(k:SE->Bool):Bool:=match v with
 |.f .f64 x=>bc (Nat.ble (x+1) 18446744073709551616) (k (.lf x)) false
 |.x .f e=>k e
 |_=>false
def asS(v:AV)(k:SE->Bool):Bool:=match v with
 |.s l x=>bc (Nat.ble l 4611686018427387903) (k (.ls l x)) false
 |.x .s e=>k e
 |_=>false
section
variable{E:Env}
theorem p'{kk:IntKind}{k:SE->Bool}(he:R6 kk v k=true)(r:Rv E v V):∃e n,V=.int kk n∧kk.min<=n∧n<=kk.max∧den E e=some (.int kk n)∧k e=true:=by
 unfold R6 at he;split at he
 ·obtain⟨h1,jD⟩:=aa he
  obtain⟨h2,qu⟩:=aa jD;obtain⟨h2,h3⟩:=aa h2;clear he jD;have h1:=pN h1;subst h1;rw[Rv] at r;subst r;exact⟨_,_,rfl,gD h2,gD h3,rfl,qu⟩
 ·obtain⟨h1,jD⟩:=aa he
  clear he;have h1:=pN h1;subst h1;simp only[Rv,jZ] at r;obtain⟨hd,n,rfl,l1,l2⟩:=r;exact⟨_,_,rfl,l1,l2,hd,jD⟩
 ·cases he
theorem EN{k:SE->Bool}(he:asF v k=true)(r:Rv E v V):∃e x,V=.float .f64 x∧x<18446744073709551616∧den E e=some (.float .f64 x)∧k e=true:=by
 unfold asF at he;split at he
 ·obtain⟨h1,he⟩:=aa he
  rw[Rv] at r;subst r;exact⟨_,_,rfl,Nat.lt_of_succ_le (aU h1),rfl,he⟩
 ·simp only[Rv,jZ] at r
  obtain⟨hd,n,rfl,l1⟩:=r;exact⟨_,_,rfl,l1,hd,he⟩
 ·cases he
theorem EO{k:SE->Bool}(he:asS v k=true)(r:Rv E v V):∃(e:SE)(s:ByteArray),V=.string s∧(s.size:Int)<=9223372036854775807∧den E e=some (.string s)∧k e=true:=by
 unfold asS at he;split at he
 ·obtain⟨h1,he⟩:=aa he
  have h1:=aU h1;rw[Rv] at r;subst r;exact⟨_,_,rfl,by rw[oX];omega,rfl,he⟩
 ·simp only[Rv,jZ] at r
  obtain⟨hd,n,rfl,l1⟩:=r;exact⟨_,_,rfl,l1,hd,he⟩
 ·cases he
theorem Wq{a b c d:AV}(r:Rv E (.ag [a,b,c,d]) V):∃A B C D,V=.agg #[A,B,C,D]∧Rv E a A∧Rv E b B∧Rv E c C∧Rv E d D:=by
 rw[Rv] at r;obtain⟨vs,rfl,r⟩:=r;simp only[aP] at r;obtain⟨A,_,rfl,ra,B,_,rfl,rb,C,_,rfl,rc,D,_,rfl,rd,rfl⟩:=r;exact⟨A,B,C,D,rfl,ra,rb,rc,rd⟩
end
def sk(a b c d:SE):SE:=.cD 0 a (.cD 0 b (.cD 0 c d))
theorem jc(ha:den E a=some (.int .u8 n))(hb:den E b=some (.float .f64 x))(hc:den E c=some (.string s))(hd:den E d=some (.int .i64 r)):
  den E (.fn 10 (sk a b c d))=some (.bool (gI n x s r)):=by
 simp only[sk,den,ha,hb,hc,hd,js,FW,mayA,YL,YK]
def valK(v:AV)(k:SE->SE->SE->SE->Bool):Bool:=match v with
 |.ag [a,b,c,d]=>R6 .u8 a fun a=>asF b fun b=>asS c fun c=>R6 .i64 d fun d=>bc (vZ (sk a b c d)) (k a b c d) false
 |_=>false
theorem Wr{h:Heap}{aq:Nat}{w:World}{k:SE->SE->SE->SE->Bool}(he:valK v k=true)(r:Rv E v V)(hr:HR E h aq w):
  ∃a b c d n x s m,V=.agg #[.int .u8 n,.float .f64 x,.string s,.int .i64 m]∧(0<=n∧n<=255)∧x<18446744073709551616∧(s.size:Int)<=9223372036854775807∧(-9223372036854775808<=m∧m<=9223372036854775807)∧
   den E a=some (.int .u8 n)∧den E b=some (.float .f64 x)∧den E c=some (.string s)∧den E d=some (.int .i64 m)∧0<w.heap.size∧k a b c d=true:=by
 unfold valK at he;split at he<;>try (cases he;done)
 obtain⟨A,B,C,D,rfl,ra,rb,rc,rd⟩:=Wq r;obtain⟨a,n,rfl,n1,n2,da,he⟩:=p' he ra;obtain⟨b,x,rfl,x1,db,he⟩:=EN he rb;obtain⟨c,s,rfl,s1,dc,he⟩:=EO he rc;obtain⟨d,m,rfl,m1,m2,dd,he⟩:=p' he rd;obtain⟨h1,he⟩:=aa he;exact⟨a,b,c,d,n,x,s,m,rfl,⟨n1,n2⟩,x1,s1,⟨m1,m2⟩,da,db,dc,dd,hr.size_pos h1 (by simp only[sk,den,da,db,dc,dd,js];rfl),he⟩
def MI(P:Program)(g:FuncId)(f:Int->Nat->ByteArray->Int->Bool):Prop:=∀(n:Int)(x:Nat)(s:ByteArray)(m:Int)(w:World),0<=n∧n<=255->x<18446744073709551616->(s.size:Int)<=9223372036854775807->-9223372036854775808<=m∧m<=9223372036854775807->0<w.heap.size->
 Calls P g #[.agg #[.int .u8 n,.float .f64 x,.string s,.int .i64 m]] w fun e w'=>e=.returned (.bool (f n x s m))∧RowKit.Below w.heap.size w w'
def valF(mk:SE->SE->SE->SE->SE):Ct:=fun args h aq k=>match args with
 |[v]=>valK v fun a b c d=>k (.x .b (mk a b c d)) h aq
 |_=>false
theorem Ws[JC]{f:Int->Nat->ByteArray->Int->Bool}{mk:SE->SE->SE->SE->SE}(H:MI P g f)
  (hm:∀{E:Env}{a b c d:SE}{n r:Int}{x:Nat}{s:ByteArray},den E a=some (.int .u8 n)->den E b=some (.float .f64 x)->den E c=some (.string s)->den E d=some (.int .i64 r)->den E (mk a b c d)=some (.bool (f n x s r))):gL P g (valF mk):=by
 apply KC;intro args ARGS E h aq w k he ra hr;unfold valF at he;split at he<;>try (cases he;done)
 obtain⟨V,hA,rx⟩:=ra.one;have hA:ARGS=#[V]:=by apply Array.ext';simpa using hA
 subst hA;obtain⟨a,b,c,d,n,x,s,m,rfl,q1,q2,q3,q4,da,db,dc,dd,hs,he⟩:=Wr he rx hr;refine⟨_,h,.bool (f n x s m),he,?_,hr,Fk.refl h,H n x s m w q1 q2 q3 q4 hs⟩;rw[Rv];exact⟨hm da db dc dd,_,rfl⟩
def R7:Ct:=valF fun a b c d=>.fn 10 (sk a b c d)
theorem zg[JC](H:MI P g gI):gL P g R7:=Ws H jc
theorem jd(hc:den E c=some (.string s)):den E (.cmp .eql c (.ls 0 0))=some (.bool (decide (s.size=0))):=by
 simp only[den,hc,bu,zA,Option.map_some,siQ,Value.bool.injEq];rw[ByteArray.toList_eq,ByteArray.toList_eq,ek];have:unpack 0 0=[]:=rfl;rw[this,Bool.eq_iff_iff,beq_iff_eq,decide_eq_true_iff];constructor
 ·intro h
  have:=congrArg List.length h;simpa using this
 ·intro h
  apply List.eq_nil_of_length_eq_zero;simpa using h
def MJ(a b c d:SE):SE:=.and (.fn 10 (sk a b c d)) (.and (.cmp .eql a (.li .u8 0)) (.and (.cmp .eql b (.lf 0)) (.and (.cmp .eql c (.ls 0 0)) (.cmp .eql d (.li .i64 0)))))
def KD(b c d:SE)(m:SE):SE:=.and (.and (.not (.cmp .leq d (.li .i64 (-1)))) (.cmp .leq (.len c) (.li .i64 4096))) m
def uv(n:Nat)(b c d:SE):SE:=match n with
 |2=>KD b c d (.and (EK (.cmp .eql b (.lf 0x3ff0000000000000)) (.and (.cmp .eql b (.lf 0)) (.fn 7 b))) (.and (.cmp .eql c (.ls 0 0)) (.cmp .eql d (.li .i64 0))))
 |3=>KD b c d (.and (.fn 7 b) (.and (.cmp .eql c (.ls 0 0)) (.cmp .eql d (.li .i64 0))))
 |4=>KD b c d (.and (.and (.cmp .eql b (.lf 0)) (.fn 7 b)) (.cmp .eql d (.li .i64 0)))
 |0=>KD b c d (.and (.and (.cmp .eql b (.lf 0)) (.fn 7 b)) (.and (.cmp .eql c (.ls 0 0)) (.cmp .eql d (.li .i64 0))))
 |1=>KD b c d (.and (.and (.cmp .eql b (.lf 0)) (.fn 7 b)) (.and (.cmp .eql c (.ls 0 0)) (.cmp .eql d (.li .i64 0))))
 |_=>KD b c d (.and (.and (.cmp .eql b (.lf 0)) (.fn 7 b)) (.cmp .eql c (.ls 0 0)))
theorem OY(hb:den E b=some (.float .f64 x))(hc:den E c=some (.string s))(hd:den E d=some (.int .i64 r)):
  ∀n:Nat,n<=8->den E (uv n b c d)=some (.bool (gI n x s r)):=by
 have h7:den E (.fn 7 b)=some (.bool (tP x)):=by simp only[den,hb,FW]
 have hl:den E (.len c)=some (.int .i64 s.size):=by simp only[den,hc]
 have base:∀{m:SE}{z:Bool},den E m=some (.bool z)->den E (KD b c d m)=some (.bool ((!decide (r<=-1)&&decide ((s.size:Int)<=4096))&&z)):=fun hm=>
  cJ (cJ (jE (az hd)) (az hl)) hm
 have e0:(!decide (r<=-1))=decide (0<=r):=by rw[←decide_not,decide_eq_decide];omega
 have z0:den E (.and (.cmp .eql b (.lf 0)) (.fn 7 b))=some (.bool (nU x 0&&tP x)):=cJ (p8 hb rfl) h7;intro n hn;match n,hn with
 |0,_=>refine(base (cJ z0 (cJ (jd hc) (bx hd)))).trans ?_;rw[e0];unfold gI;simp[Bool.and_assoc]
 |1,_=>refine(base (cJ z0 (cJ (jd hc) (bx hd)))).trans ?_;rw[e0];unfold gI;simp[Bool.and_assoc]
 |2,_=>refine(base (cJ (uQ (p8 hb rfl) z0) (cJ (jd hc) (bx hd)))).trans ?_;rw[e0];unfold gI;simp[Bool.and_assoc]
 |3,_=>refine(base (cJ h7 (cJ (jd hc) (bx hd)))).trans ?_;rw[e0];unfold gI;simp[Bool.and_assoc]
 |4,_=>refine(base (cJ z0 (bx hd))).trans ?_;rw[e0];unfold gI;simp[Bool.and_assoc]
 |5,_=>refine(base (cJ z0 (jd hc))).trans ?_;rw[e0];unfold gI;simp[Bool.and_assoc]
 |6,_=>refine(base (cJ z0 (jd hc))).trans ?_;rw[e0];unfold gI;simp[Bool.and_assoc]
 |7,_=>refine(base (cJ z0 (jd hc))).trans ?_;rw[e0];unfold gI;simp[Bool.and_assoc]
 |8,_=>refine(base (cJ z0 (jd hc))).trans ?_;rw[e0];unfold gI;simp[Bool.and_assoc]
theorem den_fn{c:Nat}{e:SE}{U:Value}(h:den E e=some V)(k:FW c V=some U):den E (.fn c e)=some U:=by simp only[den,h,k]
theorem KE(h:8<n):gI n x s r=false:=by
 unfold gI;rw[gM (by omega)];rfl
end
end Go.Proofs.YtngagklmbbogiaaGreatDoor.Vx
namespace Go.Proofs.YtngagklmbbogiaaGreatDoor.Vx
open Go
set_option maxRecDepth 100000
noncomputable section
variable{v:AV}{b:Bool}{s:ByteArray}{E:Env}{g:FuncId}{h:Heap}{n r:Int}{aq c x:Nat}{P:Program}{a d e:SE}{V:Value}{w:World}{call:aO}
def asB(v:AV)(k:SE->Bool):Bool:=match v with
 |.b x=>k (.lb x)
 |.x .b e=>k e
 |_=>false
theorem KF{k:SE->Bool}(he:asB v k=true)(r:Rv E v V):∃e x,V=.bool x∧den E e=some (.bool x)∧k e=true:=by
 unfold asB at he;split at he
 ·rw[Rv] at r;subst r;exact⟨_,_,rfl,rfl,he⟩
 ·simp only[Rv,jZ] at r
  obtain⟨hd,n,rfl⟩:=r;exact⟨_,_,rfl,hd,he⟩
 ·cases he
def Di:List SE->SE
 |[]=>.lb false
 |[a]=>a
 |a::b::l=>.cD 0 a (Di (b::l))
def R8(c:Nat)(v1 b1 b2 c2 b3 c3 w e f:SE):SE:=
 .and (.lb (Nat.ble c 63)) (.and (.lb (!((hasB c 1||hasB c 2)&&(hasB c 4||hasB c 8)))) (.and (if hasB c 1 then v1 else b1) (.and (if hasB c 4 then c2 else b2) (.and (if hasB c 8 then c3 else b3)
  (.and (EK (.not w) (.lb (hasB c 2))) (.and (EK (.not e) (.lb (hasB c 16))) (EK (.not f) (.lb (hasB c 32)))))))))
theorem EP{x y:SE}{p q:Bool}(hx:den E x=some (.bool p))(hy:den E y=some (.bool q)):den E (if b then x else y)=some (.bool (if b then p else q)):=by cases b<;>simp[hx,hy]
theorem OZ{v1 b1 b2 c2 b3 c3 w f:SE}{V1 B1 B2 C2 B3 C3 W F G:Bool}(h1:den E v1=some (.bool V1))(h2:den E b1=some (.bool B1))(h3:den E b2=some (.bool B2))(h4:den E c2=some (.bool C2))(h5:den E b3=some (.bool B3))(h6:den E c3=some (.bool C3))
  (h7:den E w=some (.bool W)) (h8:den E e=some (.bool F)) (h9:den E f=some (.bool G)):den E (R8 c v1 b1 b2 c2 b3 c3 w e f)=some (.bool (Qg c V1 B1 B2 C2 B3 C3 W F G)):=by
 unfold R8 Qg;exact cJ rfl (cJ rfl (cJ (EP h1 h2) (cJ (EP h4 h3) (cJ (EP h6 h5) (cJ (uQ (jE h7) rfl) (cJ (uQ (jE h8) rfl) (uQ (jE h9) rfl)))))))
def ER(a b c d:SE):SE:=.and (.fn 10 (sk a b c d)) (EK (.cmp .eql a (.li .u8 0)) (EK (.cmp .eql a (.li .u8 7)) (.cmp .eql a (.li .u8 8))))
theorem Ba{b c:SE}(ha:den E a=some (.int .u8 n))(hb:den E b=some (.float .f64 x))(hc:den E c=some (.string s))(hd:den E d=some (.int .i64 r)):
  den E (ER a b c d)=some (.bool (pH n x s r)):=cJ (jc ha hb hc hd) (uQ (bx ha) (uQ (bx ha) (bx ha)))
theorem Bb{b c:SE}(ha:den E a=some (.int .u8 n))(hb:den E b=some (.float .f64 x))(hc:den E c=some (.string s))(hd:den E d=some (.int .i64 r)):
  den E (MJ a b c d)=some (.bool (uj n x s r)):=cJ (jc ha hb hc hd) (cJ (bx ha) (cJ (p8 hb rfl) (cJ (jd hc) (bx hd))))
def R9:List TypeDesc:=[.int .u8,.int .u8,.float .f64,.string,.int .i64,.int .u8,.float .f64,.string,.int .i64,.int .u8,.float .f64,.string,.int .i64,.bool,.bool,.bool]
structure mv where
 c:Int
 n1:Int
 x1:Nat
 s1:ByteArray
 r1:Int
 n2:Int
 x2:Nat
 s2:ByteArray
 r2:Int
 n3:Int
 x3:Nat
 s3:ByteArray
 r3:Int
 w:Bool
 e:Bool
 f:Bool
def mv.cells(d:mv):List Value:=[.int .u8 d.c,.int .u8 d.n1,.float .f64 d.x1,.string d.s1,.int .i64 d.r1,.int .u8 d.n2,.float .f64 d.x2,.string d.s2,.int .i64 d.r2,.int .u8 d.n3,.float .f64 d.x3,.string d.s3,.int .i64 d.r3,.bool d.w,.bool d.e,.bool d.f]
def mv.syms(d:mv):List Value:=[.int .u8 d.n1,.float .f64 d.x1,.string d.s1,.int .i64 d.r1,.int .u8 d.n2,.float .f64 d.x2,.string d.s2,.int .i64 d.r2,.int .u8 d.n3,.float .f64 d.x3,.string d.s3,.int .i64 d.r3,HE (.bool d.w),HE (.bool d.e),HE (.bool d.f)]
def mv.yp(d:mv):Bool:=Qg d.c.toNat (gI d.n1 d.x1 d.s1 d.r1) (uj d.n1 d.x1 d.s1 d.r1) (uj d.n2 d.x2 d.s2 d.r2) (pH d.n2 d.x2 d.s2 d.r2) (uj d.n3 d.x3 d.s3 d.r3) (pH d.n3 d.x3 d.s3 d.r3) d.w d.e d.f
structure mv.ok(d:mv):Prop where
 c:0<=d.c∧d.c<=255
 n1:0<=d.n1∧d.n1<=255
 x1:d.x1<18446744073709551616
 s1:(d.s1.size:Int)<=9223372036854775807
 r1: -9223372036854775808<=d.r1∧d.r1<=9223372036854775807
 n2:0<=d.n2∧d.n2<=255
 x2:d.x2<18446744073709551616
 s2:(d.s2.size:Int)<=9223372036854775807
 r2: -9223372036854775808<=d.r2∧d.r2<=9223372036854775807
 n3:0<=d.n3∧d.n3<=255
 x3:d.x3<18446744073709551616
 s3:(d.s3.size:Int)<=9223372036854775807
 r3: -9223372036854775808<=d.r3∧d.r3<=9223372036854775807
theorem mR{α β:Type}{R:α->β->Prop}{a:α}{as0:List α}{bs:List β}(h:uc R (a::as0) bs):∃b bs',bs=b::bs'∧R a b∧uc R as0 bs':=by
 cases bs with
 |nil=>exact h.elim
 |cons b bs=>exact⟨b,bs,rfl,h.1,h.2⟩
theorem mv.leaves{d:mv}(h:d.ok):aP (ew [] 1 d.syms) (.i .u8 d.c::EM R9.tail 1) d.cells:=by
 have bl:∀(b:Bool)(j:Nat),d.syms[j]? =some (HE (.bool b))->Rv (ew [] 1 d.syms) (.x .b (.cmp .eql (.sy (1+j)) (.li .u8 1))) (.bool b):=fun b j hj=>by
  rw[Rv];refine⟨?_,_,rfl⟩;rw[bx (iZ (gl:=[]) (n0:=1) j hj (ax _ _))];cases b<;>rfl
 have bi:∀(k:IntKind)(n:Int)(j:Nat),d.syms[j]? =some (.int k n)->k.min<=n∧n<=k.max->Rv (ew [] 1 d.syms) (.x (.i k) (.sy (1+j))) (.int k n):=fun k n j hj hn=>jJ (s:=.i k) j hj (ax _ _) ⟨_,rfl,hn⟩
 have bf:∀(n:Nat)(j:Nat),d.syms[j]? =some (.float .f64 n)->n<18446744073709551616->Rv (ew [] 1 d.syms) (.x .f (.sy (1+j))) (.float .f64 n):=fun n j hj hn=>jJ (s:=.f) j hj (lN _) ⟨_,rfl,hn⟩
 have bs:∀(n:ByteArray)(j:Nat),d.syms[j]? =some (.string n)->(n.size:Int)<=9223372036854775807->Rv (ew [] 1 d.syms) (.x .s (.sy (1+j))) (.string n):=fun n j hj hn=>jJ (s:=.s) j hj (eV _) ⟨_,rfl,hn⟩
 refine ad (by rw[Rv]) ?_;refine ad (bi _ _ 0 rfl h.n1) ?_;refine ad (bf _ 1 rfl h.x1) ?_;refine ad (bs _ 2 rfl h.s1) ?_;refine ad (bi _ _ 3 rfl h.r1) ?_;refine ad (bi _ _ 4 rfl h.n2) ?_;refine ad (bf _ 5 rfl h.x2) ?_;refine ad (bs _ 6 rfl h.s2) ?_;refine ad (bi _ _ 7 rfl h.r2) ?_;refine ad (bi _ _ 8 rfl h.n3) ?_;refine ad (bf _ 9 rfl h.x3) ?_;refine ad (bs _ 10 rfl h.s3) ?_;refine ad (bi _ _ 11 rfl h.r3) ?_;refine ad (bl _ 12 rfl) ?_;refine ad (bl _ 13 rfl) ?_;exact ad (bl _ 14 rfl) aF
def Y'(c:Nat):SE:=R8 c (.fn 10 (sk (.sy 1) (.sy 2) (.sy 3) (.sy 4))) (MJ (.sy 1) (.sy 2) (.sy 3) (.sy 4)) (MJ (.sy 5) (.sy 6) (.sy 7) (.sy 8)) (ER (.sy 5) (.sy 6) (.sy 7) (.sy 8)) (MJ (.sy 9) (.sy 10) (.sy 11) (.sy 12)) (ER (.sy 9) (.sy 10) (.sy 11) (.sy 12))
 (.cmp .eql (.sy 13) (.li .u8 1)) (.cmp .eql (.sy 14) (.li .u8 1)) (.cmp .eql (.sy 15) (.li .u8 1))
theorem mv.Sa(d:mv)(hc:d.c=c):den (ew [] 1 d.syms) (Y' c)=some (.bool d.yp):=by
 have i:∀{j:Nat}{k:IntKind}{n:Int},d.syms[j]? =some (.int k n)->den (ew [] 1 d.syms) (.sy (1+j))=some (.int k n):=fun h=>iZ _ h (ax _ _)
 have g:∀{j:Nat}{n:Nat},d.syms[j]? =some (.float .f64 n)->den (ew [] 1 d.syms) (.sy (1+j))=some (.float .f64 n):=fun h=>iZ _ h (lN _)
 have t:∀{j:Nat}{n:ByteArray},d.syms[j]? =some (.string n)->den (ew [] 1 d.syms) (.sy (1+j))=some (.string n):=fun h=>iZ _ h (eV _)
 have b:∀{j:Nat}{x:Bool},d.syms[j]? =some (HE (.bool x))->den (ew [] 1 d.syms) (.cmp .eql (.sy (1+j)) (.li .u8 1))=some (.bool x):=fun {j x} h=>by
  rw[bx (iZ (gl:=[]) (n0:=1) j h (ax _ _))];cases x<;>rfl
 have e:d.yp=Qg c (gI d.n1 d.x1 d.s1 d.r1) (uj d.n1 d.x1 d.s1 d.r1) (uj d.n2 d.x2 d.s2 d.r2) (pH d.n2 d.x2 d.s2 d.r2) (uj d.n3 d.x3 d.s3 d.r3) (pH d.n3 d.x3 d.s3 d.r3) d.w d.e d.f:=by
  unfold mv.yp;rw[hc];rfl
 rw[e];have a1:=i (j:=0) (show d.syms[0]? =some (.int .u8 d.n1) from rfl);have a2:=g (j:=1) (show d.syms[1]? =some (.float .f64 d.x1) from rfl);have a3:=t (j:=2) (show d.syms[2]? =some (.string d.s1) from rfl);have a4:=i (j:=3) (show d.syms[3]? =some (.int .i64 d.r1) from rfl);have b1:=i (j:=4) (show d.syms[4]? =some (.int .u8 d.n2) from rfl);have b2:=g (j:=5) (show d.syms[5]? =some (.float .f64 d.x2) from rfl);have b3:=t (j:=6) (show d.syms[6]? =some (.string d.s2) from rfl);have b4:=i (j:=7) (show d.syms[7]? =some (.int .i64 d.r2) from rfl);have c1:=i (j:=8) (show d.syms[8]? =some (.int .u8 d.n3) from rfl);have c2:=g (j:=9) (show d.syms[9]? =some (.float .f64 d.x3) from rfl);have c3:=t (j:=10) (show d.syms[10]? =some (.string d.s3) from rfl);have c4:=i (j:=11) (show d.syms[11]? =some (.int .i64 d.r3) from rfl)
 exact OZ (jc a1 a2 a3 a4) (Bb a1 a2 a3 a4) (Bb b1 b2 b3 b4) (Ba b1 b2 b3 b4) (Bb c1 c2 c3 c4) (Ba c1 c2 c3 c4)
  (b (j:=12) (x:=d.w) rfl) (b (j:=13) (x:=d.e) rfl) (b (j:=14) (x:=d.f) rfl)
def finE(spec:SE)(v:AV)(h:Heap):Bool:=match v with
 |.i .i64 (.ofNat 0)=>d3 (cr (au h) spec) false true false
 |.i .i64 (.ofNat 90)=>d3 (cr (au h) spec) false false true
 |_=>false
theorem errRun(hc:bj P call){Vs:List Value}{fs:aB}{args:List AV}{ARGS:Array Value}{nn:Nat}{spec:SE}
  (Vd:1+Vs.length=nn) (hf:Holds (ew [] 1 Vs) fs) (ra:aP (ew [] 1 Vs) args ARGS.toList) (hd:den (ew [] 1 Vs) spec=some (.bool b))
  (he:bQ fs (dY [] 1) (fun h=>call g args h nn (fun v h _=>finE spec v h))=true) (w:World) (hs:0<w.heap.size):
  Calls P g ARGS w fun e w'=>e=.returned (.int .i64 (if b then 0 else 90))∧RowKit.Below w.heap.size w w':=by
 refine(zf hc rfl rfl (gp _) Vd (fun L hL=>by obtain⟨V,_,rfl⟩:=bU.1 hL;exact bH V) hf ra (fun v h=>rfl) he w hs (fun p hp=>by cases hp)).mono ?_;rintro e w' ⟨V,v,h',E',n',rfl,rv,cO,hle,hk,hb⟩;have qw:=an hle _ _ hd;have P2:=aX (aD cO) qw;refine⟨?_,hb⟩;congr 1;unfold finE at hk;split at hk
 ·rw[Rv] at rv;subst rv
  match FZ:cr (au h') spec with
  |0=>rw[FZ] at hk;cases hk
  |1=>rw[P2.1 FZ];rfl
  |n+2=>rw[FZ] at hk;cases hk
 ·rw[Rv] at rv;subst rv
  match FZ:cr (au h') spec with
  |0=>rw[FZ] at hk;cases hk
  |1=>rw[FZ] at hk;cases hk
  |n+2=>rw[P2.2 (by omega)];rfl
 ·cases hk
def Sb(v:AV)(k:SE->Bool):Bool:=match v with
 |.ag [a0,a1,a2,a3,a4,a5,a6,a7,a8,a9,Vg,Vh,a12,Vi,Vj,Vk]=>
  R6 .u8 a0 fun a0=>R6 .u8 a1 fun a1=>asF a2 fun a2=>asS a3 fun a3=>R6 .i64 a4 fun a4=>R6 .u8 a5 fun a5=>asF a6 fun a6=>asS a7 fun a7=>R6 .i64 a8 fun a8=>
  R6 .u8 a9 fun a9=>asF Vg fun Vg=>asS Vh fun Vh=>R6 .i64 a12 fun a12=>asB Vi fun Vi=>asB Vj fun Vj=>asB Vk fun Vk=>
  bc (vZ (Di [a0,a1,a2,a3,a4,a5,a6,a7,a8,a9,Vg,Vh,a12,Vi,Vj,Vk])) (k (.fn 14 (Di [a0,a1,a2,a3,a4,a5,a6,a7,a8,a9,Vg,Vh,a12,Vi,Vj,Vk]))) false
 |_=>false
theorem Sc{k:SE->Bool}(he:Sb v k=true)(r:Rv E v V)(hr:HR E h aq w):
  ∃(d:mv)(e:SE),d.ok∧V=.agg d.cells.toArray∧den E e=some (.bool d.yp)∧0<w.heap.size∧k e=true:=by
 unfold Sb at he;split at he<;>try (cases he;done)
 rw[Rv] at r;obtain⟨vs,rfl,r⟩:=r;simp only[aP] at r;obtain⟨A0,_,rfl,r0,A1,_,rfl,r1,A2,_,rfl,r2,A3,_,rfl,r3,A4,_,rfl,r4,A5,_,rfl,r5,A6,_,rfl,r6,A7,_,rfl,r7,A8,_,rfl,r8,A9,_,rfl,r9,A10,_,rfl,O0,A11,_,rfl,r11,A12,_,rfl,r12,A13,_,rfl,r13,A14,_,rfl,r14,A15,_,rfl,r15,rfl⟩:=r;obtain⟨a0,c,rfl,c1,c2,d0,he⟩:=p' he r0;obtain⟨a1,n1,rfl,n11,n12,d1,he⟩:=p' he r1;obtain⟨a2,x1,rfl,x11,d2,he⟩:=EN he r2;obtain⟨a3,s1,rfl,s11,d3,he⟩:=EO he r3;obtain⟨a4,m1,rfl,m11,m12,d4,he⟩:=p' he r4;obtain⟨a5,n2,rfl,n21,n22,d5,he⟩:=p' he r5;obtain⟨a6,x2,rfl,x21,d6,he⟩:=EN he r6;obtain⟨a7,s2,rfl,s21,d7,he⟩:=EO he r7;obtain⟨a8,m2,rfl,m21,m22,d8,he⟩:=p' he r8;obtain⟨a9,n3,rfl,n31,n32,d9,he⟩:=p' he r9;obtain⟨Vg,x3,rfl,x31,d10,he⟩:=EN he O0;obtain⟨Vh,s3,rfl,s31,d11,he⟩:=EO he r11;obtain⟨a12,m3,rfl,m31,m32,d12,he⟩:=p' he r12;obtain⟨Vi,w1,rfl,d13,he⟩:=KF he r13;obtain⟨Vj,w2,rfl,d14,he⟩:=KF he r14;obtain⟨Vk,w3,rfl,d15,he⟩:=KF he r15;obtain⟨h1,he⟩:=aa he;have dp:den E (Di [a0,a1,a2,a3,a4,a5,a6,a7,a8,a9,Vg,Vh,a12,Vi,Vj,Vk])=some (.agg #[.int .u8 c,.agg #[.int .u8 n1,.agg #[.float .f64 x1,.agg #[.string s1,.agg #[.int .i64 m1,.agg #[.int .u8 n2,.agg #[.float .f64 x2,.agg #[.string s2,.agg #[.int .i64 m2,.agg #[.int .u8 n3,.agg #[.float .f64 x3,.agg #[.string s3,.agg #[.int .i64 m3,.agg #[.bool w1,.agg #[.bool w2,.bool w3]]]]]]]]]]]]]]]):=by
  simp only[Di,den,d0,d1,d2,d3,d4,d5,d6,d7,d8,d9,d10,d11,d12,d13,d14,d15,js]
 refine⟨⟨c,n1,x1,s1,m1,n2,x2,s2,m2,n3,x3,s3,m3,w1,w2,w3⟩,_,⟨⟨c1,c2⟩,⟨n11,n12⟩,x11,s11,⟨m11,m12⟩,⟨n21,n22⟩,x21,s21,⟨m21,m22⟩,⟨n31,n32⟩,x31,s31,⟨m31,m32⟩⟩,rfl,?_,hr.size_pos h1 dp,he⟩;exact den_fn dp rfl
def KG(P:Program)(g:FuncId):Prop:=∀(d:mv)(w:World),d.ok->0<w.heap.size->Calls P g #[.agg d.cells.toArray] w fun e w'=>e=.returned (.int .i64 (if d.yp then 0 else 90))∧RowKit.Below w.heap.size w w'
def D(call:aO)(g:FuncId)(c:Nat):Bool:=bQ [] (dY [] 1) (fun h=>call g [.ag (.i .u8 (Int.ofNat c)::EM R9.tail 1)] h 16 (fun v h _=>finE (Y' c) v h))
theorem ofDesc(hc:bj P call)(H:∀c,c<256->D call g c=true):KG P g:=by
 intro d w hd hs;obtain⟨c,Y2⟩:∃c:Nat,d.c=c:=⟨d.c.toNat,by have:=hd.c;omega⟩;have cL:c<256:=by have:=hd.c;omega
 have hl:=mv.leaves hd;rw[Y2] at hl;refine errRun hc (Vs:=d.syms) rfl holds_nil (ad (vX hl) aF) (d.Sa Y2) (H c cL) w hs
def chkC:Ct:=fun args h aq k=>match args with
 |[v]=>Sb v fun e=>o5 e (au h) (fun fs=>bQ fs h fun h1=>k (.i .i64 0) h1 aq) (fun fs=>bQ fs h fun h1=>k (.i .i64 90) h1 aq)
 |_=>false
theorem Wt[JC](H:KG P g):gL P g chkC:=by
 apply KC;intro args ARGS E h aq w k he ra hr;unfold chkC at he;split at he<;>try (cases he;done)
 obtain⟨V,hA,rx⟩:=ra.one;have hA:ARGS=#[V]:=by apply Array.ext';simpa using hA
 subst hA;obtain⟨d,e,hd,rfl,de,hs,he⟩:=Sc he rx hr;obtain⟨fs,hf,hx⟩:=gW e he (aD hr) de;have hc:=H d w hd hs;rcases hx with⟨hb,hx⟩|⟨hb,hx⟩
 ·obtain⟨h1,k1,k2,k3⟩:=bZ hx hr hf
  exact⟨_,h1,_,k1,by rw[Rv],k2,k3,by rw[hb] at hc;exact hc⟩
 ·obtain⟨h1,k1,k2,k3⟩:=bZ hx hr hf
  exact⟨_,h1,_,k1,by rw[Rv],k2,k3,by rw[hb] at hc;exact hc⟩
section
variable{Vs:List Value}{S V:Value}
theorem bC(h:den E e=some (.string s)):den E (.len e)=some (.int .i64 s.size):=by simp only[den,h]
end
theorem Wu{gl:List (Nat×List AV)}{n0 m:Nat}{Ls:List aZ}(hn:gl.all (fun p=>Nat.ble (p.1+2) n0)=true)(h1:Nat.ble 1 n0=true)(hbig:gl.all (fun p=>Nat.ble (p.1+1) 1000000)=true)
  (hw:∀p∈gl,∃arr el fr,w.heap[p.1]? =some (.cells arr el fr)∧aP (ku gl n0 Ls) p.2 (arr.toList.take p.2.length)) (hm:Ls.length=m) (hL:∀L∈Ls,L.aH=0) (hs:0<w.heap.size):
  HR (ku gl n0 Ls) (dY gl n0) (n0+m) w:=by
 have hn:∀p∈gl,p.1+2<=n0:=fun p hp=>aU (Aad.1 hn p hp)
 have h1:=aU h1;have z:=lJ gl n0;have fl:bM (dY gl n0)=n0:=by unfold bM;rw[z]
 have old:∀i,i<n0->ku gl n0 Ls i=mf gl i:=fun i hi=>by unfold ku;rw[if_neg (by omega)]
 have live:∀i,(T.get .gone (dY gl n0) i).live=true->∃p∈gl,i=p.1+1:=fun i hi=>by
  cases i with
  |zero=>rw[z] at hi;cases hi
  |succ i=>
   rcases nj gl n0 i with h|⟨p,hp,e,h⟩
   ·rw[h] at hi;cases hi
   ·exact⟨p,hp,by omega⟩
 refine⟨fun i=>?_,fun i j L M hi hj hLi hMj e=>?_,fun i hi=>?_,fun i hi=>?_,fun i L hi=>?_,by omega,by rw[fl];omega,by rw[z];rfl⟩
 ·cases i with
  |zero=>rw[z];trivial
  |succ i=>
   rcases nj gl n0 i with h|⟨p,hp,e,h⟩
   ·rw[h];trivial
   ·rw[h]
    obtain⟨arr,el,fr,k1,k2⟩:=hw p hp;have hlen:=k2.length;refine⟨⟨p.1,0,0⟩,arr,el,fr,by rw[old _ (by have:=hn p hp;omega),←e];exact tj hp,fun _=>⟨rfl,rfl⟩,k1,by simp at hlen;simp;omega,(fun j hj=>?_),by rw[←e];exact qL.CD⟩;have:=zJ p.2 (arr.toList.take p.2.length) k2 j hj;simpa[List.getElem?_take,hj] using this
 ·obtain⟨p,hp,rfl⟩:=live i hi
  obtain⟨q,hq,rfl⟩:=live j hj;rw[old _ (by have:=hn p hp;omega),tj hp] at hLi;rw[old _ (by have:=hn q hq;omega),tj hq] at hMj;cases hLi;cases hMj
  have e:p.1=q.1:=e;omega
 ·cases hl:(T.get .gone (dY gl n0) i).live
  ·rfl
  ·obtain⟨p,hp,rfl⟩:=live i hl
   have:=hn p hp;omega
 ·unfold ku
  rw[if_pos (by omega)];exact List.getElem?_eq_none (by omega)
 ·rcases gC i n0 with h|h
  ·rw[old i h] at hi
   obtain⟨p,hp,e1,rfl⟩:=lL hi;obtain⟨arr,el,fr,k1,_⟩:=hw p hp;exact(cW.1 k1).1
  ·unfold ku at hi
   rw[if_pos h] at hi;rw[hL L (gq hi)];exact hs
def df(E:Env)(n:Nat)(V:Value):Env:=fun i=>if i=n then some (aw V) else E i
theorem HR.Bc(hr:HR E h aq w)(V:Value):E.le (df E aq V):=fun i L hi=>by
 unfold df;by_cases e:i=aq
 ·rw[e,hr.fresh aq (nrQ _)] at hi;cases hi
 ·rw[if_neg e];exact hi
theorem HR.add(hr:HR E h aq w)(V:Value)(hs:0<w.heap.size):HR (df E aq V) h (aq+1) w:=by
 have live:∀i,(T.get .gone h i).live=true->df E aq V i=E i:=fun i hi=>by
  unfold df;rw[if_neg];rintro rfl;rw[hr.lt i (nrQ _)] at hi;cases hi
 refine⟨fun i=>(hr.obj i).wide (hr.Bc V),fun i j L M hi hj hL hM e=>?_,fun i hi=>hr.lt i (by omega),fun i hi=>?_,fun i L hi=>?_,by omega,by have:=hr.kU;omega,hr.zero⟩
 ·rw[live i hi] at hL
  rw[live j hj] at hM;exact hr.inj i j L M hi hj hL hM e
 ·unfold df
  rw[if_neg (by omega)];exact hr.fresh i (by omega)
 ·unfold df at hi
  split at hi
  ·cases hi;rw[bH];exact hs
  ·exact hr.kT i L hi
theorem HR.ju(hr:HR E h aq w)(V:Value):bk E h w (df E aq V) h w:=by
 refine⟨hr.Bc V,nrQ _,fun _ _ _=>rfl,?_,rfl,fun _ _=>rfl,rfl,rfl,rfl⟩;rintro k hk ⟨i,L,a1,a2,a3,a4⟩;refine⟨i,L,a1,a2,?_,a4⟩;unfold df at a3;split at a3
 ·rename_i e
  rw[e,hr.lt aq (nrQ _)] at a2;cases a2
 ·exact a3
theorem den_add{n:Nat}(ok:jk V):den (df E n V) (.sy n)=some V:=by
 show(df E n V n).map oD=some V;unfold df;rw[if_pos rfl];show some (oD (aw V))=some V;rw[pj ok]
end
end Go.Proofs.YtngagklmbbogiaaGreatDoor.Vx
namespace Go.Proofs.YtngagklmbbogiaaGreatDoor.Vx
open Go
theorem ES{E E':Env}(hle:E.le E'){w w':World}{i:Nat}{a:AO}(r:RO E w i a)(hl:a.live=false):RO E' w' i a:=by
 cases a with
 |gone|floor=>trivial
 |facts fs=>exact fun p hp=>an hle _ _ (r p hp)
 |ali p off q cap=>obtain⟨L,M,c,h1,h2,h3,h4⟩:=r;exact⟨L,M,c,hle _ _ h1,hle _ _ h2,an hle _ _ h3,h4⟩
 |cells n e c=>cases hl
 |map es c=>cases hl
 |siter l n p=>cases hl
 |glob g n c=>cases hl
 |rows el len=>cases hl
 |blob el sz S l len=>cases hl
end Go.Proofs.YtngagklmbbogiaaGreatDoor.Vx
namespace Go.Proofs.YtngagklmbbogiaaGreatDoor.Vx
open Go
set_option maxRecDepth 100000
noncomputable section
variable{E:Env}{h:Heap}{C:List aZ}{F i n:Nat}{w w':World}{L:aZ}
def kb(m:Nat):Nat:=m*2 ^ (52-m.log2)
def fb(m:Nat):Nat:=1021*2 ^ 52+kb m
def aS:Code->List Code
 |.seq a b=>aS a++aS b
 |.cond _ a b=>aS a++aS b
 |.block _ c=>aS c
 |.loop c=>[c]
 |_=>[]
def fj:S:=fun _ _ _=>false
def blkK(id:Nat)(kn:S)(kx:Nat->S):Nat->S:=fun i=>Cc (Nat.beq i (Nat.mul 2 (Nat.succ id))) kn (kx i)
def gd(rs:List (Nat×AV)):aI:=List.rec (motive:=fun _=>aI) fc (fun p _ ih=>T.set p.2 ih p.1) rs
def fi(rs:List (Nat×AV))(regs:aI):Bool:=List.rec (motive:=fun _=>Bool) true (fun p _ ih=>bc (cY (T.get .no regs p.1) p.2) ih false) rs
theorem iK(rs:List (Nat×AV))(t:Nat):T.get .no (gd rs) t=.no∨∃v,(t,v)∈rs∧T.get .no (gd rs) t=v:=by
 induction rs with
 |nil=>exact .inl (by show T.get AV.no fc t=.no;unfold fc;exact T.mV _ _ _)
 |cons p rs ih=>
  show T.get .no (T.set p.2 (gd rs) p.1) t=.no∨∃v,(t,v)∈p::rs∧T.get .no (T.set p.2 (gd rs) p.1) t=v;by_cases e:t=p.1
  ·subst e
   rcases T.bd AV.no p.2 (gd rs) p.1 with g|g
   ·exact .inr ⟨p.2,List.mem_cons_self,g⟩
   ·exact .inl g
  ·rw[T.ay _ _ _ _ _ e]
   rcases ih with g|⟨v,hv,g⟩
   ·exact .inl g
   ·exact .inr ⟨v,List.mem_cons_of_mem _ hv,g⟩
theorem cK{regs:aI}:∀{rs:List (Nat×AV)},fi rs regs=true->∀t v,(t,v)∈rs->T.get .no regs t=v
 |[],_,_,_,h=>by cases h
 |p::rs,he,t,v,h=>by
  have he:bc (cY (T.get .no regs p.1) p.2) (fi rs regs) false=true:=he;obtain⟨h1,he⟩:=aa he;rcases mcQ.1 h with e|h
  ·cases e;exact bV h1
  ·exact cK he t v h
def MK(a b:AV):Bool:=match a,b with
 |.fn (.method s) [.ifc t (.ag l)] [],.fn (.method s') [.ifc t' (.ag l')] []=>bc (s==s') (bc (Nat.beq t t') (cH l l') false) false
 |.sx i m e f,.sx i' m' e' f'=>bc (Nat.beq i i') (bc (Nat.beq m m') (bc (eE e e') (eE f f') false) false) false
 |a,b=>RZ a b
theorem HF{a b:AV}(h:MK a b=true):a=b:=by
 unfold MK at h;split at h
 ·obtain⟨h1,h⟩:=aa h
  obtain⟨h2,h3⟩:=aa h;rw[eq_of_beq h1,aN h2,bb h3]
 ·obtain⟨h1,h⟩:=aa h
  obtain⟨h2,h⟩:=aa h;obtain⟨h3,h4⟩:=aa h;rw[aN h1,aN h2,cq h3,cq h4]
 ·exact R0 h
def Bd(E:Env)(n:Nat):List Value->Env
 |[]=>E
 |V::Vs=>Bd (df E n V) (n+1) Vs
theorem HR.Sd{h:Heap}{w:World}(hs:0<w.heap.size):∀{E:Env}{n:Nat}(Vs:List Value),HR E h n w->HR (Bd E n Vs) h (n+Vs.length) w∧bk E h w (Bd E n Vs) h w
 |E,n,[],hr=>⟨hr,bk.refl _ _ _⟩
 |E,n,V::Vs,hr=>by
  obtain⟨h1,h2⟩:=HR.Sd hs Vs (hr.add V hs);refine⟨?_,(hr.ju V).trans h2⟩;have e:n+(V::Vs).length=n+1+Vs.length:=by simp only[List.length_cons];omega
  rw[e];exact h1
theorem tp{h:Heap}{w:World}(hs:0<w.heap.size):∀{E:Env}{n:Nat}(Vs:List Value),HR E h n w->(∀U∈Vs,jk U)->∀j U,Vs[j]? =some U->den (Bd E n Vs) (.sy (n+j))=some U
 |E,n,[],_,_,j,U,hj=>by cases hj
 |E,n,V::Vs,hr,ok,0,U,hj=>by
  cases hj
  have h2:=(HR.Sd hs Vs (hr.add V hs)).2;exact an h2.ext _ _ (den_add (ok V List.mem_cons_self))
 |E,n,V::Vs,hr,ok,j+1,U,hj=>by
  have:=tp hs Vs (hr.add V hs) (fun U hU=>ok U (List.mem_cons_of_mem _ hU)) j U hj;rw[show n+1+j=n+(j+1) from by omega] at this;exact this
def br(E:Env)(i:Nat)(L:aZ):Env:=fun j=>if j=i then some L else E j
theorem eW(hn:E i=none):E.le (br E i L):=fun j M hj=>by
 unfold br;by_cases e:j=i
 ·rw[e,hn] at hj;cases hj
 ·rw[if_neg e];exact hj
theorem HR.br(hr:HR E h n w)(hi:i<n)(hn:E i=none)(hd:(T.get .gone h i).live=false)(hb:L.aH<w.heap.size):HR (br E i L) h n w:=by
 have live:∀j,(T.get .gone h j).live=true->Vx.br E i L j=E j:=fun j hj=>by
  unfold Vx.br;rw[if_neg];rintro rfl;rw[hd] at hj;cases hj
 refine⟨fun j=>(hr.obj j).wide (eW hn),fun a b L M ha hb hL hM e=>?_,hr.lt,fun j hj=>?_,fun j M hj=>?_,hr.pos,hr.kU,hr.zero⟩
 ·rw[live a ha] at hL
  rw[live b hb] at hM;exact hr.inj a b L M ha hb hL hM e
 ·unfold Vx.br
  rw[if_neg (by omega)];exact hr.fresh j hj
 ·unfold Vx.br at hj
  split at hj
  ·cases hj;exact hb
  ·exact hr.kT j M hj
def Wv(P:Program)(call:aO)(ext:iG)(draw:jS)(nt:Nat)(W:Nat->S->S)(J:S->(Nat->S)->S->S)(c:Code):S->(Nat->S)->S->S:=
 Code.rec (motive:=fun _=>S->(Nat->S)->S->S)
  (fun kn _ _=>kn)
  (fun id ops d kn _ _=>W id fun regs h aq=>bc d (draw ops nt fj kn regs h aq) (vJ P call ext nt ops ops.toList fj kn regs h aq))
  (fun _ _ nK mu kn kx kr=>nK (mu kn kx kr) kx kr)
  (fun x _ _ At J8 kn kx kr regs h aq=>iC regs x fun v=>qt v h (fun h=>At kn kx kr regs h aq) (fun h=>J8 kn kx kr regs h aq))
  (fun id _ ih kn kx kr=>ih kn (blkK id kn kx) kr)
  (fun _ _ kn kx kr=>J kn kx kr)
  (fun _ _ _ _ _ _ _ _ _ _ _ _=>false)
  (fun id _ kx _=>kx (Nat.mul 2 (Nat.succ id)))
  (fun _ _ _ _ _ _ _ _=>false)
  (fun _ _ _ _ _ _ _=>false)
  (fun _ _ _ _ _ _ _=>false)
  (fun _ _ kr=>kr)
  (fun _ _ _ _ _ _ _=>false) c
theorem HR.newRow(hr:HR E h n w)(hb:RowKit.Below w.heap.size w w'){g b:Nat}{arr:Array Value}{el:TypeId}{fr:Nat×Nat}(Ah:w.heap.size<=b)(pP:w'.heap[b]? =some (.cells arr el fr))(hg:1000000<=g)
  (ht:qL (Vx.br E n ⟨b,0,0⟩) n g ⟨b,0,0⟩ arr):HR (Vx.br E n ⟨b,0,0⟩) (T.set (.glob g 0 fc) h n) (n+1) w'∧bk E h w (Vx.br E n ⟨b,0,0⟩) (T.set (.glob g 0 fc) h n) w':=by
 have fresh:=hr.fresh n (nrQ _);have cO:=hr.below hb;have hn0:n≠0:=by have:=hr.pos;omega
 have z:T.get .gone (T.set (.glob g 0 fc) h n) 0=T.get .gone h 0:=T.ay _ _ _ _ _ (Ne.symm hn0);have fl:bM (T.set (.glob g 0 fc) h n)=bM h:=by unfold bM;rw[z]
 have Se:Vx.br E n ⟨b,0,0⟩ n=some ⟨b,0,0⟩:=by unfold Vx.br;rw[if_pos rfl]
 have Be:∀i,i≠n->Vx.br E n ⟨b,0,0⟩ i=E i:=fun i hi=>by unfold Vx.br;rw[if_neg hi]
 have ML:b<w'.heap.size:=(cW.1 pP).1
 refine⟨⟨fun i=>?_,fun i j L M hi hj hL hM e=>?_,fun i hi=>?_,fun i hi=>?_,fun i L hL=>?_,by omega,by rw[fl];have:=hr.kU;omega,by rw[z];exact hr.zero⟩,
  ⟨eW fresh,hb.size,fun k hk _=>hb.block k hk,?_,fl,fun i hi=>T.ay _ _ _ _ _ (by have:=hr.kU;omega),hb.os,hb.output,hb.tape⟩⟩
 ·by_cases e:i=n
  ·subst e
   rcases T.bd AO.gone (.glob g 0 fc) h i with q|q<;>rw[q]
   ·exact⟨⟨b,0,0⟩,arr,el,fr,Se,fun cL=>absurd cL (by omega),pP,nzQ _,(fun j hj=>absurd hj (Nat.not_lt_zero _)),ht⟩
   ·trivial
  ·rw[T.ay _ _ _ _ _ e];exact(cO.obj i).wide (eW fresh)
 ·by_cases ei:i=n<;>by_cases ej:j=n
  ·rw[ei,ej]
  ·subst ei
   rw[Se] at hL;cases hL;rw[Be j ej] at hM;have:=hr.kT j M hM;have e:b=M.aH:=e;omega
  ·subst ej
   rw[Se] at hM;cases hM;rw[Be i ei] at hL;have:=hr.kT i L hL;have e:L.aH=b:=e;omega
  ·rw[T.ay _ _ _ _ _ ei] at hi
   rw[T.ay _ _ _ _ _ ej] at hj;rw[Be i ei] at hL;rw[Be j ej] at hM;exact hr.inj i j L M hi hj hL hM e
 ·rw[T.ay _ _ _ _ _ (by omega)];exact hr.lt i (by omega)
 ·rw[Be i (by omega)];exact hr.fresh i (by omega)
 ·by_cases e:i=n
  ·subst e
   rw[Se] at hL;cases hL;exact ML
  ·rw[Be i e] at hL
   have:=hr.kT i L hL;have:=hb.size;omega
 ·rintro k hk ⟨i,L,a1,a2,a3,a4⟩
  by_cases e:i=n
  ·subst e
   rw[Se] at a3;cases a3;have a4:b=k:=a4;omega
  ·rw[T.ay _ _ _ _ _ e] at a2
   rw[Be i e] at a3;rw[fl] at a1;exact⟨i,L,a1,a2,a3,a4⟩
def ET(P:Program)(g p:Nat):Prop:=(∀(w:World),Calls P g #[.slice none 0 0] w fun e w'=>e=.returned (.slice none 0 0)∧RowKit.Below w.heap.size w w')∧
 ∀(b off n c:Nat)(news:List Value)(w:World),news.length=n*N6 p->n<=1024->(∀j u,news[j]? =some u->w.cell? ⟨b,off+j,none⟩=some u)->(∀u∈news,u.oneCell'=true)->
  Calls P g #[.slice (some ⟨b,off,none⟩) n c] w fun e w'=>(∃(b' cap:Nat)(cur:Array Value)(el:TypeId),e=.returned (.slice (some ⟨b',0,none⟩) n cap)∧w.heap.size<=b'∧w'.heap[b']? =some (.cells cur el (0,0))∧n<=cap∧cap<=maxLen∧cur.size=cap*N6 p∧cur.toList.take (n*N6 p)=news)∧RowKit.Below w.heap.size w w'
def bL(E0:Env)(w0:World)(K:Nat->Prop)(E:Env)(h:Heap)(w:World):Prop:=
 E0.le E∧w0.heap.size<=w.heap.size∧∀k,K k->w.heap[k]? =w0.heap[k]?∧k<w0.heap.size∧∀i L,(T.get .gone h i).live=true->E i=some L->L.aH≠k
@[reducible] def KJ(E0:Env)(w0:World)(K:Nat->Prop):JC:=⟨bL E0 w0 K,fun {E E' h h' n n' w w'} hr j g cO=>by
  refine⟨Env.le_trans j.1 g.ext,Nat.le_trans j.2.1 g.size,fun k hk=>?_⟩;obtain⟨a1,a2,a3⟩:=j.2.2 k hk;have qR:k<w.heap.size:=dV a2 j.2.1;have nf:¬fp E h k:=fun⟨i,L,_,b2,b3,b4⟩=>a3 i L b2 b3 b4
  refine⟨(g.fr k qR nf).trans a1,a2,fun i L hl hL e=>?_⟩;by_cases hi:i<bM h
  ·have sq:=g.gT i hi
   rw[sq] at hl;obtain⟨M,hM⟩:=AH hr hl;have:=g.ext i M hM;rw[hL] at this;cases this;exact a3 i L hl hM e
  ·exact nf (g.CE k qR ⟨i,L,by rw[g.bM];omega,hl,hL,e⟩),fun {E h n w a} hr ha j=>by
  refine⟨j.1,j.2.1,fun k hk=>?_⟩;obtain⟨a1,a2,a3⟩:=j.2.2 k hk;refine⟨a1,a2,fun i L hl hL=>?_⟩;by_cases hi:i=0
  ·subst hi
   rcases T.bd AO.gone a h 0 with q|q<;>rw[q] at hl
   ·rw[ha] at hl;cases hl
   ·cases hl
  ·rw[T.ay _ _ _ _ _ hi] at hl
   exact a3 i L hl hL⟩
def HG(l:List AO):Nat->Heap:=List.rec (motive:=fun _=>Nat->Heap) (fun _=>T.full .gone 20) (fun a _ ih i=>T.set a (ih (Nat.succ i)) i) l
def jq(l:List AO)(F:Nat):Heap:=T.set (.floor F) (HG l 1) 0
def ae(C:List aZ):Env:=fun i=>match i with
 |0=>none
 |j+1=>C[j]?
theorem HH:∀(l:List AO)(i j:Nat),T.get .gone (HG l i) j=.gone∨∃k a,l[k]? =some a∧j=i+k∧T.get .gone (HG l i) j=a
 |[],i,j=>.inl (by show T.get AO.gone (T.full .gone 20) j=.gone;exact T.mV _ _ _)
 |a::l,i,j=>by
  show T.get .gone (T.set a (HG l (i+1)) i) j=.gone∨∃k b,(a::l)[k]? =some b∧j=i+k∧T.get .gone (T.set a (HG l (i+1)) i) j=b;by_cases e:j=i
  ·subst e
   rcases T.bd AO.gone a (HG l (j+1)) j with q|q
   ·exact .inr ⟨0,a,rfl,rfl,q⟩
   ·exact .inl q
  ·rw[T.ay _ _ _ _ _ e]
   rcases HH l (i+1) j with q|⟨k,b,h1,h2,h3⟩
   ·exact .inl q
   ·exact .inr ⟨k+1,b,by simpa using h1,by omega,h3⟩
theorem MM:∀(l:List AO)(i:Nat),HG l i≠.nil
 |[],_=>by intro e;cases e
 |a::l,i=>AN _ _ (MM l (i+1))
theorem xd(l:List AO)(F:Nat):T.get .gone (jq l F) 0=.floor F:=AA (MM l 1)
theorem ss(l:List AO)(F i:Nat):T.get .gone (jq l F) (i+1)=.gone∨∃a,l[i]? =some a∧T.get .gone (jq l F) (i+1)=a:=by
 have e:T.get .gone (jq l F) (i+1)=T.get .gone (HG l 1) (i+1):=T.ay _ _ _ _ _ (by omega);rw[e];rcases HH l 1 (i+1) with q|⟨k,b,h1,h2,h3⟩
 ·exact .inl q
 ·obtain rfl:k=i:=by omega
  exact .inr ⟨b,h1,h3⟩
theorem bX(l:List AO)(F:Nat):bM (jq l F)=F:=by unfold bM;rw[xd]
theorem lay_ok{l:List AO}(hlen:C.length=l.length)(hF:F<=l.length+1)(dU:∀i a,l[i]? =some a->RO (ae C) w (i+1) a)(vg:∀L∈C,L.aH<w.heap.size)
  (hinj:∀(i j:Nat)(a b:AO)(L M:aZ),l[i]? =some a->l[j]? =some b->a.live=true->b.live=true->C[i]? =some L->C[j]? =some M->L.aH=M.aH->i=j):HR (ae C) (jq l F) (l.length+1) w:=by
 have z:=xd l F;refine⟨fun i=>?_,fun i j L M hi hj hL hM e=>?_,fun i hi=>?_,fun i hi=>?_,fun i L hL=>?_,by omega,by rw[bX];exact hF,by rw[z];rfl⟩
 ·cases i with
  |zero=>rw[z];trivial
  |succ i=>
   rcases ss l F i with q|⟨a,h1,h2⟩
   ·rw[q];trivial
   ·rw[h2];exact dU i a h1
 ·cases i with
  |zero=>rw[z] at hi;cases hi
  |succ i=>
   cases j with
   |zero=>rw[z] at hj;cases hj
   |succ j=>
    rcases ss l F i with q|⟨a,h1,h2⟩
    ·rw[q] at hi;cases hi
    ·rcases ss l F j with q|⟨b,k1,k2⟩
     ·rw[q] at hj;cases hj
     ·rw[h2] at hi
      rw[k2] at hj;rw[hinj i j a b L M h1 k1 hi hj hL hM e]
 ·cases i with
  |zero=>omega
  |succ i=>
   rcases ss l F i with q|⟨a,h1,h2⟩
   ·rw[q];rfl
   ·have:=(bR.1 h1).1
    omega
 ·cases i with
  |zero=>omega
  |succ i=>exact List.getElem?_eq_none (by omega)
 ·cases i with
  |zero=>cases hL
  |succ i=>exact vg L (gq hL)
def su(E:Env)(w:World):List AO->Nat->Prop
 |[],_=>True
 |a::l,i=>RO E w i a∧su E w l (i+1)
theorem su.at:∀{l:List AO}{i:Nat},su E w l i->∀j a,l[j]? =some a->RO E w (i+j) a
 |[],_,_,j,a,h=>by cases h
 |b::l,i,h,0,a,hj=>by cases hj;exact h.1
 |b::l,i,h,j+1,a,hj=>by
  have:=h.2.at j a (by simpa using hj);rw[show i+(j+1)=i+1+j by omega];exact this
theorem su.append:∀{l m:List AO}{i:Nat},su E w l i->su E w m (i+l.length)->su E w (l++m) i
 |[],m,i,_,h=>h
 |a::l,m,i,h,k=>⟨h.1,h.2.append (by rw[show i+1+l.length=i+(a::l).length by rw[List.length_cons];omega];exact k)⟩
theorem su.dead{E:Env}{w:World}:∀(l:List AO)(i:Nat),(∀a∈l,a=.gone)->su E w l i
 |[],_,_=>trivial
 |a::l,i,h=>⟨by rw[h a List.mem_cons_self];trivial,su.dead l (i+1) fun b hb=>h b (List.mem_cons_of_mem _ hb)⟩
def jT:List AO->List aZ->List Nat
 |a::l,L::C=>if a.live then L.aH::jT l C else jT l C
 |_,_=>[]
theorem xe:∀{l:List AO}{C:List aZ}{i:Nat}{a:AO}{L:aZ},l[i]? =some a->C[i]? =some L->a.live=true->L.aH∈jT l C
 |[],_,_,_,_,h,_,_=>by cases h
 |_::_,[],_,_,_,_,h,_=>by cases h
 |b::l,M::C,0,a,L,h1,h2,h3=>by
  cases h1;cases h2
  unfold jT;rw[if_pos h3];exact List.mem_cons_self
 |b::l,M::C,i+1,a,L,h1,h2,h3=>by
  have:=xe (l:=l) (C:=C) (i:=i) (by simpa using h1) (by simpa using h2) h3;unfold jT;split
  ·exact List.mem_cons_of_mem _ this
  ·exact this
theorem Dj:∀{l:List AO}{C:List aZ},(jT l C).Nodup->∀(i j:Nat)(a b:AO)(L M:aZ),l[i]? =some a->l[j]? =some b->a.live=true->b.live=true->C[i]? =some L->C[j]? =some M->L.aH=M.aH->i=j
 |[],_,_,i,j,a,b,L,M,h,_,_,_,_,_,_=>by cases h
 |_::_,[],_,i,j,a,b,L,M,_,_,_,_,h,_,_=>by cases h
 |x::l,X::C,nd,i,j,a,b,L,M,h1,h2,h3,h4,h5,h6,h7=>by
  have tail:(jT l C).Nodup:=by
   unfold jT at nd;split at nd
   ·exact(List.nodup_cons.1 nd).2
   ·exact nd
  have head:x.live=true->X.aH∉jT l C:=fun hx=>by
   unfold jT at nd;rw[if_pos hx] at nd;exact(List.nodup_cons.1 nd).1
  match i,j with
  |0,0=>rfl
  |0,j+1=>
   cases h1;cases h5
   exact absurd (by rw[h7];exact xe (by simpa using h2) (by simpa using h6) h4) (head h3)
  |i+1,0=>
   cases h2;cases h6
   exact absurd (by rw[←h7];exact xe (by simpa using h1) (by simpa using h5) h3) (head h4)
  |i+1,j+1=>rw[Dj tail i j a b L M (by simpa using h1) (by simpa using h2) h3 h4 (by simpa using h5) (by simpa using h6) h7]
theorem cX{l:List AO}(hlen:C.length=l.length)(hF:F<=l.length+1)(dU:su (ae C) w l 1)(vg:∀L∈C,L.aH<w.heap.size)(Zb:(jT l C).Nodup):HR (ae C) (jq l F) (l.length+1) w:=
 lay_ok hlen hF (fun i a h=>by rw[show i+1=1+i by omega];exact dU.at i a h) vg (Dj Zb)
theorem aj{V:Value}(h:C[i]? =some (aw V))(ok:jk V):den (ae C) (.sy (i+1))=some V:=by
 show(ae C (i+1)).map oD=some V;show(C[i]?).map oD=some V;rw[h];show some (oD (aw V))=some V;rw[pj ok]
theorem jK[JC]{P:Program}{call:aO}(hc:bj P call){E:Env}{h:Heap}{n:Nat}{w:World}{fs:aB}{g:FuncId}{args:List AV}{ARGS:Array Value}{fin:AV->Heap->Bool}
  (he:bQ fs h (fun h=>call g args h n (fun v h _=>fin v h))=true) (hr:HR E h n w) (hj:∀h',Fk h h'->JC.J E h' w) (hf:Holds E fs) (ra:aP E args ARGS.toList) (hp:∀v h,fin (.pk v) h=false):
  Calls P g ARGS w fun e w'=>∃V v h' n' E',e=.returned V∧Rv E' v V∧HR E' h' n' w'∧JC.J E' h' w'∧bk E h w E' h' w'∧Holds E' (au h')∧fin v h'=true:=by
 obtain⟨h1,he,fw,fk⟩:=bZ he hr hf;refine(hc g args ARGS _ _ _ w _ he ra fw (hj h1 fk)).mono ?_;rintro e w' (⟨V,rfl,v,h',aL,E',rv,cO,gs,hk⟩|⟨V,rfl,v,h',aL,E',rv,_,gs,hk⟩)
 ·exact⟨V,v,h',aL,E',rfl,rv,cO,JC.goes fw (hj h1 fk) gs cO,fk.goes.trans gs,aD cO,hk⟩
 ·have hk:fin (.pk v) h'=true:=hk
  rw[hp] at hk;cases hk
theorem bL.fk{E0:Env}{w0:World}{K:Nat->Prop}{h':Heap}(j:bL E0 w0 K E h w)(f:Fk h h'):bL E0 w0 K E h' w:=
 ⟨j.1,j.2.1,fun k hk=>by
  obtain⟨a1,a2,a3⟩:=j.2.2 k hk;exact⟨a1,a2,fun i L hl hL=>a3 i L (by rw[←f.live];exact hl) hL⟩⟩
theorem HR.Bf(hr:HR E h n w){id:Nat}{ao:AO}(hold:(T.get .gone h id).live=true)(bD:ao.live=true)(hL:E id=some L)(cC:w.heap.size<=w'.heap.size)
  (jm:∀k,k<w.heap.size->k≠L.aH->w'.heap[k]? =w.heap[k]?) (dU:RO E w' id ao) (VZ:w'.os=w.os) (hou:w'.output=w.output) (hta:w'.tape=w.tape) (jI:bM h<=id):
  HR E (T.set ao h id) n w'∧bk E h w E (T.set ao h id) w':=by
 have h0:id≠0:=fun e=>by rw[e,hr.zero] at hold;cases hold
 have z:T.get .gone (T.set ao h id) 0=T.get .gone h 0:=T.ay _ _ _ _ _ (Ne.symm h0);have fl:bM (T.set ao h id)=bM h:=by unfold bM;rw[z]
 have aV:∀i,(T.get AO.gone (T.set ao h id) i).live=true->(T.get .gone h i).live=true:=fun i hi=>by
  by_cases e:i=id
  ·rw[e];exact hold
  ·rwa [T.ay _ _ _ _ _ e] at hi
 refine⟨⟨fun i=>?_,fun i j A B hi hj=>hr.inj i j A B (aV i hi) (aV j hj),fun i hi=>?_,hr.fresh,fun i M hM=>dV (hr.kT i M hM) cC,hr.pos,by rw[fl];exact hr.kU,by rw[z];exact hr.zero⟩,
  Env.le_refl _,cC,fun k hk hn=>jm k hk fun e=>hn ⟨id,L,jI,hold,hL,e.symm⟩,fun k hk⟨i,M,a1,a2,a3,a4⟩=>⟨i,M,by rw[←fl];exact a1,aV i a2,a3,a4⟩,fl,fun i hi=>T.ay _ _ _ _ _ (by omega),VZ,hou,hta⟩
 ·by_cases e:i=id
  ·subst e
   rcases T.bd AO.gone ao h i with q|q<;>rw[q]
   ·exact dU
   ·trivial
  ·rw[T.ay _ _ _ _ _ e]
   cases hl:(T.get .gone h i).live with
   |false=>exact ES (Env.le_refl _) (hr.obj i) hl
   |true=>
    refine RO.same (fun M hM=>jm M.aH (hr.kT i M hM) fun e2=>e ?_) (hr.obj i)
    exact hr.inj i id M L hl hold hM hL e2
 ·cases hl:(T.get .gone (T.set ao h id) i).live with
  |false=>rfl
  |true=>have:=aV i hl;rw[hr.lt i hi] at this;cases this
theorem MN{N:Int}:FW 20 (.int .i64 N)=some (.int .i64 (unR N.toNat).length):=rfl
def uS:Ct:=fun args h n k=>match args with
 |[.sn]=>k .sn h n
 |[.sx id _ (.fn 20 (.sy S)) _]=>(match T.get .gone h id with
  |.glob g _ _=>bc (bc (Nat.beq g (Nat.add (Nat.add 3000000 (Nat.mul 10 S)) 1)) (bc (Nat.ble id 2999999) (Nat.ble (Nat.succ g) 4000000) false) false) (bc (Nat.beq (cr (au h) (.cmp .leq (.fn 20 (.sy S)) (.li .i64 1024))) 1)
    (T.dj (.glob g 0 fc) h n fun h1=>aM (Nat.add n 2) fun q=>aM (Nat.succ n) fun q1=>k (.sx n 0 (.fn 20 (.sy S)) (.sy q1)) h1 q) false) false
  |_=>false)
 |_=>false
theorem O1(p:Nat×Nat):(ru p).oneCell'=true:=by
 unfold ru oD;split<;>rfl
theorem po[JC]{P:Program}{g:FuncId}(H:ET P g 1):gL P g uS:=by
 refine gL.of ?_;intro args ARGS E h n w k he ra hr;unfold uS at he;split at he<;>try (cases he;done)
 ·obtain⟨V,hA,rx⟩:=ra.one
  have hA:ARGS=#[V]:=by apply Array.ext';simpa using hA
  subst hA;rw[Rv] at rx;subst rx;refine(H.1 w).mono ?_;rintro e w' ⟨rfl,hb⟩;exact⟨_,rfl,.sn,h,n,E,by rw[Rv],hr.below hb,bk.below hb,he⟩
 ·rename_i id m S cp
  split at he<;>try (cases he;done)
  rename_i g' m' c' hg;obtain⟨h1,he⟩:=aa he;obtain⟨h1,h2⟩:=aa h1;obtain⟨h2,h2b⟩:=aa h2;obtain⟨h3,he⟩:=aa he;rw[T.bh,aC,aC] at he;have h1:g'=3000000+10*S+1:=aN h1;have h2:=aU h2;have h2b:=aU h2b;obtain⟨V,hA,rx⟩:=ra.one;have hA:ARGS=#[V]:=by apply Array.ext';simpa using hA
  subst hA;rw[Rv] at rx;obtain⟨L,N,C,eL,dN,dC,_,hN,rfl⟩:=rx;have h3:=gD ((aX (aD hr) (az (k:=.i64) (c:=1024) dN)).1 (aN h3));have ho:=hr.obj id;rw[hg] at ho;obtain⟨L',arr,el,fr,qM,_,hb,_,_,ht⟩:=ho;rw[eL] at qM;cases qM;obtain⟨R,dR,cC,hlen,CU⟩:=ht.2.1 ⟨by omega,by omega,by omega⟩;have eS:(g'-3000000)/10=S:=by omega
  have eP:Jh (g'%10)=2:=by rw[show g'%10=1 by omega];rfl
  rw[eS] at dR;rw[eP] at cC hlen CU;have eN:N=R.length:=by
   have d2:den E (.fn 20 (.sy S))=some (.int .i64 R.length):=by
    have e1:den E (.fn 20 (.sy S))=FW 20 (.int .i64 (aG R)):=by
     show(match den E (.sy S) with|some V=>FW 20 V|_=>none)=_;rw[dR]
    rw[e1,MN,Int.toNat_natCast,u']
   rw[dN] at d2;injection d2 with d2;injection d2 with _ d2;omega
  subst eN;have at_:∀j,j<2*R.length->∃p,arr.getD (L.base+j) undef=ru p:=fun j hj=>by
   have oV:j/2<R.length:=by omega
   have jF:=hlen.1 R[j/2] (List.getElem_mem oV);have hc:j%2<(R[j/2]).length:=by omega
   have:=CU (j/2) R[j/2] (cN oV) (j%2) (R[j/2])[j%2] (cN hc);rw[show 2*(j/2)+j%2=j by omega] at this;exact⟨_,this⟩
  have cell:∀j,j<2*R.length->w.cell? ⟨L.aH,L.base+j,none⟩=some (arr.getD (L.base+j) undef):=fun j hj=>by
   have cL:L.base+j<arr.size:=by omega
   simp only[World.cell?,hb];simp[cL]
  refine(H.2 L.aH L.base R.length C ((List.range (2*R.length)).map fun j=>arr.getD (L.base+j) undef) w (by rw[gp,ot,Nat.mul_comm];rfl) (by omega) (fun j u hj=>?_) (fun u hu=>?_)).mono ?_
  ·rw[fL] at hj
   by_cases cL:j<2*R.length
   ·rw[List.getElem?_range cL] at hj
    cases hj
    exact cell j cL
   ·rw[List.getElem?_eq_none (by simp;omega)] at hj
    cases hj
  ·obtain⟨j,hj,rfl⟩:=bU.1 hu
   obtain⟨p,hp⟩:=at_ j (List.mem_range.1 hj);rw[hp];exact O1 p
  ·rintro e w' ⟨⟨b',cap,cur,wP,rfl,Ah,pP,wQ,HJ,dz,uw⟩,Vl⟩
   have fresh:=hr.fresh n (nrQ _);have dz:cur.size=cap*2:=dz;have tb:qL (Vx.br E n ⟨b',0,0⟩) n g' ⟨b',0,0⟩ cur:=by
    refine⟨fun hg=>absurd hg.2.1 (by omega),fun _=>?_,fun hg=>absurd hg.1 (by omega)⟩;rw[eS,eP];refine⟨R,an (eW fresh) _ _ dR,?_,⟨hlen.1,fun _=>rfl⟩,fun j r hj c p hp=>?_⟩
    ·show 0+2*R.length<=cur.size
     omega
    ·have hj1:=(bR.1 hj).1
     have CS:=(bR.1 hp).1;have Aa:c<2:=by rw[hlen.1 r (gq hj)] at CS;exact CS
     have cL:2*j+c<2*R.length:=by omega
     have h5:(cur.toList.take (R.length*N6 1))[2*j+c]? =((List.range (2*R.length)).map fun j=>arr.getD (L.base+j) undef)[2*j+c]?:=by rw[uw]
     rw[List.getElem?_take_of_lt (by show 2*j+c<R.length*2;omega),fL,List.getElem?_range cL] at h5;show cur.getD (0+(2*j+c)) undef=ru p;rw[Nat.zero_add,Ai,←Array.getElem?_toList,h5];exact CU j r hj c p hp
   obtain⟨a1,a2⟩:=hr.newRow Vl (g:=g') Ah pP (by omega) tb;have vQ:0<w'.heap.size:=by have:=(cW.1 pP).1;omega
   have jF:=a1.add (.int .i64 cap) vQ;refine⟨_,rfl,.sx n 0 (.fn 20 (.sy S)) (.sy (n+1)),T.set (.glob g' 0 fc) h n,n+2,df (Vx.br E n ⟨b',0,0⟩) (n+1) (.int .i64 cap),?_,jF,a2.trans (a1.ju _),he⟩;rw[Rv];have le2:=a1.Bc (.int .i64 cap);exact⟨⟨b',0,0⟩,R.length,cap,le2 _ _ (by unfold Vx.br;rw[if_pos rfl]),an le2 _ _ (an (eW fresh) _ _ dN),den_add (ax _ _),nzQ _,hN,rfl⟩
end
end Go.Proofs.YtngagklmbbogiaaGreatDoor.Vx
namespace Go.Proofs.YtngagklmbbogiaaGreatDoor.Vx
open Go
noncomputable section
def run(SP:fV)(n:Nat):aO:=frun SP n
theorem eH[JC]{SP:fV}(za:fg Tryz.prog SP)(n:Nat):bj Tryz.prog (run SP n):=by
 unfold run;rw[MG];exact Hk mixed za dv
end
end Go.Proofs.YtngagklmbbogiaaGreatDoor.Vx
