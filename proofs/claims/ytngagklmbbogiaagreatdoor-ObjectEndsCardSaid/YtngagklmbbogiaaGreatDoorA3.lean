/- Parts of one proof (VxM to VxK). No condition. -/
import Derived.Test.YtngagklmbbogiaaGreatDoorA2
import Derived.LoopN
import Derived.Scope
import Derived.Recover
set_option linter.all false
namespace Go.Proofs.YtngagklmbbogiaaGreatDoor.Vx
open Go
noncomputable section
section
variable{E:Env}{h:Heap}{aq:Nat}{w:World}
theorem HR.put(hr:HR E h aq w){id:Nat}{a':AO}{o':Obj}(bD:(T.get .gone h id).live=true){L:aZ}(hL:E id=some L)
  (dU:RO E {w with heap:=w.heap.setIfInBounds L.aH o'} id a') (jI:bM h<=id):
  HR E (T.set a' h id) aq {w with heap:=w.heap.setIfInBounds L.aH o'}∧
  bk E h w E (T.set a' h id) {w with heap:=w.heap.setIfInBounds L.aH o'}:=by
 have aV:∀i,(T.get AO.gone (T.set a' h id) i).live=true->(T.get .gone h i).live=true:=by
  intro i hi;by_cases e:i=id
  ·rw[e];exact bD
  ·rwa [T.ay _ _ _ _ _ e] at hi
 have dX:bM (T.set a' h id)=bM h:=pJ fun e=>by subst e;rw[hr.zero] at bD;cases bD
 refine⟨⟨fun i=>?_,fun i j A B hi hj=>hr.inj i j A B (aV i hi) (aV j hj),fun i hi=>?_,hr.fresh,fun i M hM=>by simpa using hr.kT i M hM,hr.pos,by rw[dX];exact hr.kU,by cases hl:(T.get AO.gone (T.set a' h id) 0).live with|false=>rfl|true=>(have:=aV 0 hl;rw[hr.zero] at this;cases this)⟩,
  Env.le_refl _,by simp,fun k hk hn=>?_,fun k hk⟨i,M,Qs,hi,hM,lA⟩=>⟨i,M,by rw[←dX];exact Qs,aV i hi,hM,lA⟩,dX,
  fun i hi=>T.ay _ _ _ _ _ (by omega),rfl,rfl,rfl⟩
 ·by_cases e:i=id
  ·subst e
   rcases T.bd AO.gone a' h i with g|g<;>rw[g]
   ·exact dU
   ·trivial
  ·rw[T.ay _ _ _ _ _ e]
   have im:=hr.obj i;cases ho:T.get AO.gone h i<;>rw[ho] at im
   case gone=>trivial
   case floor=>trivial
   case facts=>exact im
   case ali=>exact im
   all_goals
    have cR:∀M,E i=some M->L.aH≠M.aH:=fun M hM hbe=>e (hr.inj i id M L (by rw[ho];rfl) bD hM hL hbe.symm)
   case cells=>
    obtain⟨M,ar,e',h1,h2,h3⟩:=im;exact⟨M,ar,e',h1,by simp only[j9 (cR M h1)];exact h2,h3⟩
   case map=>
    obtain⟨M,ms,h1,h2,h3⟩:=im;exact⟨M,ms,h1,by simp only[j9 (cR M h1)];exact h2,h3⟩
   case siter=>
    obtain⟨M,h1,h2,h3⟩:=im;exact⟨M,h1,h2,by simp only[j9 (cR M h1)];exact h3⟩
   case glob=>
    obtain⟨M,ar,e',fr,h1,h2,h3,h4,h5⟩:=im;exact⟨M,ar,e',fr,h1,h2,by simp only[j9 (cR M h1)];exact h3,h4,h5⟩
   case rows=>
    obtain⟨M,ar,n9,h1,gi,h2,h3⟩:=im;exact⟨M,ar,n9,h1,gi,by simp only[j9 (cR M h1)];exact h2,h3⟩
   case blob=>
    obtain⟨M,ar,n9,h1,gi,h2,h3⟩:=im;exact⟨M,ar,n9,h1,gi,by simp only[j9 (cR M h1)];exact h2,h3⟩
 ·cases hl:(T.get AO.gone (T.set a' h id) i).live with
  |false=>rfl
  |true=>have:=aV i hl;rw[hr.lt i hi] at this;cases this
 ·simp only[Array.getElem?_setIfInBounds]
  split
  ·rename_i lA;exact absurd ⟨id,L,jI,bD,hL,lA⟩ hn
  ·rfl
def keyD(d:TypeDesc):Bool:=match d with|.int _=>true|.string=>true|.bool=>true|_=>false
def Aj(d:TypeDesc)(x y:AV)(k:Bool->Bool):Bool:=match d with
 |.bool=>(match x,y with
  |.b a,.b b=>j7 (bc a b (bc b false true)) k
  |_,_=>false)
 |.int _=>(match x,y with
  |.i j a,.i j' b=>bc (Nat.beq (FY j) (FY j')) (j7 (um a b) k) false
  |_,_=>false)
 |.string=>(match x,y with
  |.s a x,.s b y=>j7 (rN a x b y) k
  |_,_=>false)
 |_=>false
theorem ta(a b:ByteArray):(a==b)=(a.toList==b.toList):=by
 have:(a==b)=(a.data==b.data):=rfl;rw[this,ByteArray.toList_eq,ByteArray.toList_eq,Bool.eq_iff_iff,beq_iff_eq,beq_iff_eq];exact⟨fun h=>by rw[h],fun h=>Array.ext' h⟩
theorem GP{d:TypeDesc}{x y:AV}{X Y:Value}{k:Bool->Bool}(he:Aj d x y k=true)(rx:Rv E x X)(ry:Rv E y Y):
  ∃r,Instr.sameNow d X Y=some r∧k r=true∧(r=true->Instr.sameBits 10000 Y X=true):=by
 unfold Aj at he;split at he<;>try (cases he;done)
 ·split at he<;>try (cases he;done)
  rename_i a b;rw[Rv] at rx ry;subst rx;subst ry;rw[ft] at he;have e:bc a b (bc b false true)=(a==b):=by cases a<;>cases b<;>rfl
  rw[e] at he;refine⟨_,rfl,he,fun hr=>?_⟩;cases a<;>cases b<;>first|rfl|cases hr
 ·split at he<;>try (cases he;done)
  rename_i j a j' b;obtain⟨h1,h2⟩:=aa he;have:=s5 h1;subst this;rw[Rv] at rx ry;subst rx;subst ry;rw[ft,GF] at h2;refine⟨a==b,by simp[Instr.sameNow],h2,fun hr=>?_⟩;have:a=b:=by simpa using hr
  subst this;simp[Instr.sameBits]
 ·split at he<;>try (cases he;done)
  rename_i a x b y;rw[Rv] at rx ry;subst rx;subst ry;rw[ft,z',←ta] at he;refine⟨_,rfl,he,fun hr=>?_⟩;rw[ta] at hr;have:(str b y==str a x)=true:=by
   rw[ta];have:=eq_of_beq hr;rw[this];simp
  simpa[Instr.sameBits] using this
theorem iX{P:Program}{kt:TypeId}{d:TypeDesc}(hd:P.underlying kt=some d)(hk:keyD d=true)(b:Bool)(K:Value):(Instr.checkKey b 10000 kt K).run P w=.ok () w:=by
 show((Instr.checkKey b (9999+1) kt K).run P w)=_;unfold Instr.checkKey;rw[Sem.run_bind,ai hd];cases d<;>first|(cases hk;done)|rfl
def Mj(d:TypeDesc)(key:AV)(es:List FX)(k:Option AV->Bool):Bool:=
 List.rec (motive:=fun _=>Bool) (k none) (fun e _ ih=>Aj d key e.key fun r=>bc r (force e.val fun v=>k (some v)) ih) es
theorem GQ{d:TypeDesc}{key:AV}{K:Value}{k:Option AV->Bool}(rk:Rv E key K):∀(es:List FX)(ms:List MapEntry)(i:Nat),Mj d key es k=true->j6 E es ms->
  (Instr.findNow d K ms i=some none∧k none=true)∨∃j v V,Instr.findNow d K ms i=some (some (j,V))∧Rv E v V∧k (some v)=true
 |[],ms,i,he,r=>by
  have:ms=[]:=r;subst this;exact .inl ⟨rfl,he⟩
 |e::es,ms,i,he,r=>by
  obtain⟨m,y0,rfl,⟨r1,r2,_⟩,r4⟩:=r;have he:Aj d key e.key (fun r=>bc r (force e.val fun v=>k (some v)) (Mj d key es k))=true:=he;obtain⟨b,h1,h2,_⟩:=GP he rk r1;rcases aR h2 with⟨rfl,h2⟩|⟨rfl,h2⟩
  ·rw[force_eq] at h2
   exact .inr ⟨i,e.val,m.val,by simp[Instr.findNow,h1],r2,h2⟩
  ·simp only[Instr.findNow,h1]
   exact GQ rk es y0 (i+1) h2 r4
def nc(P:Program)(el:TypeId)(ok:Bool)(k:AV->Bool):Bool:=match P.info? el with
 |some j=>(match j.zero with
  |some z=>force (DV z) fun z=>bc ok (k (.tu [z,.b false])) (k z)
  |none=>false)
 |none=>false
def lE(P:Program)(t:TypeId)(x ix:AV)(ok:Bool)(h:Heap)(k:AV->Bool):Bool:=match P.underlying t with
 |some (.map kt el)=>(match P.underlying kt with
  |some d=>bc (keyD d) (match x with
   |.mp id=>(match T.get .gone h id with
    |.map es _=>Mj d ix es fun r=>(match r with
     |some v=>bc ok (k (.tu [v,.b true])) (k v)
     |none=>nc P el ok k)
    |_=>false)
   |.mpn=>nc P el ok k
   |_=>false) false
  |none=>false)
 |_=>false
theorem rW{P:Program}{el:TypeId}{ok:Bool}{k:AV->Bool}(he:nc P el ok k=true):
  ∃z v,(zeroValue el).run P w=.ok z w∧Rv E v (if ok=true then .tuple #[z,.bool false] else z)∧k v=true:=by
 unfold nc at he;split at he<;>try (cases he;done)
 rename_i j hj;split at he<;>try (cases he;done)
 rename_i z hz;rw[force_eq] at he;rcases aR he with⟨rfl,he⟩|⟨rfl,he⟩
 ·exact⟨z,_,dJ hj hz,by simp only[if_true];rw[Rv];exact⟨[z,.bool false],rfl,.cons (vc E z) (.cons (by rw[Rv]) .nil)⟩,he⟩
 ·exact⟨z,_,dJ hj hz,by simpa using vc E z,he⟩
theorem run_findKey{P:Program}{kt:TypeId}{d:TypeDesc}(hd:P.underlying kt=some d){K:Value}{ms:List MapEntry}{r:Option (Nat×Value)}(hf:Instr.findNow d K ms 0=some r):(Instr.findKey kt K ms).run P w=.ok r w:=by
 unfold Instr.findKey;rw[Sem.run_bind,ai hd];simp only[Result.andThen_ok,hf];rfl
theorem GR{P:Program}{t:TypeId}{x ix:AV}{X IX:Value}{ok:Bool}{k:AV->Bool}(he:lE P t x ix ok h k=true)(rx:Rv E x X)(ri:Rv E ix IX)(hr:HR E h aq w):
  ∃v W,(Instr.lookup t X IX ok).run P w=.ok W w∧Rv E v W∧k v=true:=by
 unfold lE at he;split at he<;>try (cases he;done)
 rename_i kt el ht;split at he<;>try (cases he;done)
 rename_i d hd;obtain⟨hk,jD⟩:=aa he;clear he;split at jD<;>try (cases jD;done)
 ·rename_i id
  split at jD<;>try (cases jD;done)
  rename_i es clock QL;have ho:=hr.obj id;rw[QL] at ho;obtain⟨L,ms,hL,hb,hms⟩:=ho;rw[Rv] at rx;obtain⟨L',tY,rfl⟩:=rx;rw[hL] at tY;cases tY;have Ak:(getObj L.aH).run P w=.ok (.map ms clock) w:=by
   simp only[getObj,Sem.run,hb]
  rcases GQ ri es ms.toList 0 jD hms with⟨h1,h2⟩|⟨j,v,V,h1,h2,h3⟩
  ·obtain⟨z,v,e1,e2,e3⟩:=rW (E:=E) (w:=w) h2
   refine⟨v,_,?_,e2,e3⟩;simp only[Instr.lookup,Sem.run_bind,ai ht,Result.andThen_ok,Ak,Sem.run_pure,iX hd hk,run_findKey hd h1,e1]
  ·have:∃v',Rv E v' (if ok=true then Value.tuple #[V,.bool true] else V)∧k v'=true:=by
    rcases aR h3 with⟨rfl,h3⟩|⟨rfl,h3⟩
    ·exact⟨_,by simp only[if_true];rw[Rv];exact⟨[V,.bool true],rfl,.cons h2 (.cons (by rw[Rv]) .nil)⟩,h3⟩
    ·exact⟨_,by simpa using h2,h3⟩
   obtain⟨v',e2,e3⟩:=this;refine⟨v',_,?_,e2,e3⟩;simp only[Instr.lookup,Sem.run_bind,ai ht,Result.andThen_ok,Ak,Sem.run_pure,iX hd hk,run_findKey hd h1]
 ·rw[Rv] at rx;subst rx
  obtain⟨z,v,e1,e2,e3⟩:=rW (E:=E) (w:=w) jD;refine⟨v,_,?_,e2,e3⟩;simp only[Instr.lookup,Sem.run_bind,ai ht,Result.andThen_ok,Sem.run_pure,iX hd hk,run_findKey hd (show Instr.findNow d IX (#[]:Array MapEntry).toList 0=some none from rfl),e1]
def tZ(d:TypeDesc)(key val:AV)(clock:Nat)(es:List FX):(List FX->Nat->Bool)->Bool:=
 List.rec (motive:=fun _=>(List FX->Nat->Bool)->Bool) (fun k=>aM (Nat.succ clock) fun c=>k [⟨key,val,clock⟩] c)
  (fun e es ih k=>Aj d key e.key fun r=>bc r (k (⟨key,val,e.born⟩::es) clock) (ih fun l c=>k (e::l) c)) es
theorem Mk{d:TypeDesc}{key val:AV}{K V:Value}{clock:Nat}(rk:Rv E key K)(rv:Rv E val V):∀(es:List FX)(ms:List MapEntry)(i:Nat){k:List FX->Nat->Bool},tZ d key val clock es k=true->j6 E es ms->
  (Instr.findNow d K ms i=some none∧∃CV,j6 E CV (ms++[⟨K,V,clock⟩])∧k CV (clock+1)=true)∨
  ∃j U old CV,Instr.findNow d K ms i=some (some (i+j,U))∧ms[j]? =some old∧Instr.sameBits 10000 old.key K=true∧j6 E CV (ms.modify j fun e=>{e with key:=K,val:=V})∧k CV clock=true
 |[],ms,i,k,he,r=>by
  have:ms=[]:=r;subst this;have he:aM (Nat.succ clock) (fun c=>k [⟨key,val,clock⟩] c)=true:=he;rw[aC] at he;exact .inl ⟨rfl,[⟨key,val,clock⟩],⟨⟨K,V,clock⟩,[],rfl,⟨rk,rv,rfl⟩,rfl⟩,he⟩
 |e::es,ms,i,k,he,r=>by
  obtain⟨m,y0,rfl,⟨r1,r2,r3⟩,r4⟩:=r;have he:Aj d key e.key (fun r=>bc r (k (⟨key,val,e.born⟩::es) clock) (tZ d key val clock es fun l c=>k (e::l) c))=true:=he;obtain⟨b,h1,h2,h3⟩:=GP he rk r1;rcases aR h2 with⟨rfl,h2⟩|⟨rfl,h2⟩
  ·refine .inr ⟨0,m.val,m,_,by simp[Instr.findNow,h1],rfl,h3 rfl,?_,h2⟩
   exact⟨_,y0,rfl,⟨rk,rv,r3⟩,r4⟩
  ·simp only[Instr.findNow,h1]
   rcases Mk rk rv es y0 (i+1) h2 r4 with⟨k1,CV,k2,k3⟩|⟨j,U,old,CV,k1,k2,k3,k4,k5⟩
   ·exact .inl ⟨k1,e::CV,⟨m,_,rfl,⟨r1,r2,r3⟩,k2⟩,k3⟩
   ·refine .inr ⟨j+1,U,old,e::CV,by rw[k1];congr 3;omega,by simpa using k2,k3,?_,k5⟩
    exact⟨m,_,rfl,⟨r1,r2,r3⟩,k4⟩
def vv(P:Program)(t:TypeId)(x key val:AV)(h:Heap)(k:Heap->Bool):Bool:=match P.underlying t with
 |some (.map kt _)=>(match P.underlying kt with
  |some d=>bc (keyD d) (match x with
   |.mp id=>(match T.get .gone h id with
    |.map es clock=>tZ d key val clock es fun CV c=>jO h id (T.dj (.map CV c) h id k)
    |_=>false)
   |_=>false) false
  |none=>false)
 |_=>false
theorem yg{P:Program}{t:TypeId}{x key val:AV}{X K V:Value}{k:Heap->Bool}(he:vv P t x key val h k=true)(rx:Rv E x X)(rk:Rv E key K)(rv:Rv E val V)(hr:HR E h aq w):
  ∃h' w',(Instr.mapUpdate t X K V).run P w=.ok () w'∧HR E h' aq w'∧bk E h w E h' w'∧k h'=true:=by
 unfold vv at he;split at he<;>try (cases he;done)
 rename_i kt el ht;split at he<;>try (cases he;done)
 rename_i d hd;obtain⟨hk,jD⟩:=aa he;clear he;split at jD<;>try (cases jD;done)
 rename_i id;split at jD<;>try (cases jD;done)
 rename_i es clock QL;have ho:=hr.obj id;rw[QL] at ho;obtain⟨L,ms,hL,hb,hms⟩:=ho;rw[Rv] at rx;obtain⟨L',tY,rfl⟩:=rx;rw[hL] at tY;cases tY;have cL:=hr.kT id L hL;have bD:(T.get .gone h id).live=true:=by rw[QL];rfl
 have Ak:(getObj L.aH).run P w=.ok (.map ms clock) w:=by
  simp only[getObj,Sem.run,hb]
 have hset:∀o,(setObj L.aH o).run P w=.ok () {w with heap:=w.heap.setIfInBounds L.aH o}:=fun o=>by
  simp only[setObj,Sem.run,hb]
 have fin:∀(CV:List FX)(y0:Array MapEntry)(c':Nat),j6 E CV y0.toList->jO h id (T.dj (.map CV c') h id k)=true->
   ∃h',HR E h' aq {w with heap:=w.heap.setIfInBounds L.aH (.map y0 c')}∧bk E h w E h' {w with heap:=w.heap.setIfInBounds L.aH (.map y0 c')}∧k h'=true:=by
  intro CV y0 c' hm hf;obtain⟨h1,h2⟩:=gU hf;rw[T.bh] at h2;obtain⟨g1,g2⟩:=hr.put (a':=.map CV c') (o':=.map y0 c') bD hL ⟨L,y0,hL,by simp[cL],hm⟩ h1;exact⟨_,g1,g2,h2⟩
 rcases Mk rk rv es ms.toList 0 jD hms with⟨h1,CV,h2,h3⟩|⟨j,U,old,CV,h1,h2,h3,h4,h5⟩
 ·obtain⟨h',g1,g2,g3⟩:=fin CV (ms.push ⟨K,V,clock⟩) (clock+1) (by simpa using h2) h3
  refine⟨h',_,?_,g1,g2,g3⟩;simp only[Instr.mapUpdate,Sem.run_bind,ai ht,Result.andThen_ok,Ak,iX hd hk,run_findKey hd h1,hset]
 ·obtain⟨h',g1,g2,g3⟩:=fin CV (ms.modify j fun e=>{e with key:=K,val:=V}) clock (by rw[Array.toList_modify];exact h4) h5
  refine⟨h',_,?_,g1,g2,g3⟩;have QE:(Instr.keyThatStays (((ms[j]?).map (·.key)).getD K) K).run P w=.ok K w:=by
   have:ms[j]? =some old:=by rw[←Array.getElem?_toList];exact h2
   simp[this,Instr.keyThatStays,h3]
  rw[Nat.zero_add] at h1;simp only[Instr.mapUpdate,Sem.run_bind,ai ht,Result.andThen_ok,Ak,iX hd hk,run_findKey hd h1,QE,hset]
def mM(h:Heap)(aq:Nat)(k:K):Bool:=T.dj (.map [] 0) h aq fun h'=>aM (Nat.succ aq) fun n=>k (.mp aq) h' n
theorem D'{P:Program}{t:TypeId}{k:K}(he:mM h aq k=true)(hr:HR E h aq w):rH P (Instr.makeMap t none) E h w k:=by
 unfold mM at he;rw[T.bh,aC] at he;obtain⟨g1,g2⟩:=hr.alloc (.map #[] 0) (by rintro c e f h;cases h) ⟨w.heap.size,0,0⟩ rfl (.map [] 0) ⟨⟨w.heap.size,0,0⟩,#[],by simp,by simp,rfl⟩;refine⟨_,_,_,_,_,.map (some w.heap.size),?_,?_,g1,g2,he⟩
 ·simp[Instr.makeMap]
 ·rw[Rv];exact⟨⟨w.heap.size,0,0⟩,by simp,rfl⟩
end
section
variable{E:Env}{h:Heap}{aq:Nat}{w:World}
def leK(a b:SE)(fs:aB):Bool:=match a with
 |.li _ n=>ki b (n-1) fs
 |a=>bc (eE a b) true (Nat.beq (look (.cmp .leq a b) fs) 1)
def rY(P:Program)(t:TypeId)(x:AV)(lo hi mx:Option AV)(h:Heap)(k:AV->Bool):Bool:=match x with
 |.sx id m len cap=>(match lo,hi,mx with
  |some (.i .i64 (.ofNat q)),none,none=>(match P.underlying t with
   |some (.slice el)=>(match P.info? el with
    |some i=>(match T.get .gone h 29 with
     |.ali p off q' bz=>bc (bc (Nat.beq p id) (bc (Nat.beq off (Nat.mul q i.size)) (bc (Nat.beq q' q) (eE bz cap) false) false) false) (bc (Nat.ble q m) (bc (leK len cap (au h)) (k (.sz 29 (.cD 5 len (.li .i64 (.ofNat q))))) false) false) false
     |_=>false)
    |none=>false)
   |_=>false)
  |_,_,_=>false)
 |_=>false
theorem leK_ok{a b:SE}{fs:aB}{A B:Int}(he:leK a b fs=true)(hf:Holds E fs)(ha:den E a=some (.int .i64 A))(hb:den E b=some (.int .i64 B)):A<=B:=by
 unfold leK at he;split at he
 ·rename_i kk n
  simp only[den,siQ,Value.int.injEq] at ha;obtain⟨_,rfl⟩:=ha;have:=iV hf b hb he;omega
 ·rcases aR he with⟨h1,_⟩|⟨_,h1⟩
  ·have:=cq h1
   subst this;rw[ha] at hb;cases hb;exact Int.le_refl _
  ·have h2:=(look_ok hf).1 (aN h1)
   simp only[den,ha,hb,bu,jY,Option.map_some,siQ,Value.bool.injEq] at h2;simpa using h2
theorem GS{P:Program}{t:TypeId}{x:AV}{X:Value}{lo hi mx:Option AV}{LO HI MX:Option Value}{k:AV->Bool}(he:rY P t x lo hi mx h k=true)
  (hx:Rv E x X) (rl:Rvo E lo LO) (rh:Rvo E hi HI) (rm:Rvo E mx MX) (hr:HR E h aq w):∃v W,(Instr.sliceAt t X LO HI MX).run P w=.ok W w∧Rv E v W∧k v=true:=by
 unfold rY at he;split at he
 ·rename_i id m len cap
  rw[Rv] at hx;obtain⟨L,n,c,hL,YQ,hdc,hmn,hn,rfl⟩:=hx;split at he<;>try (cases he;done)
  rename_i q;split at he<;>try (cases he;done)
  rename_i el hu;split at he<;>try (cases he;done)
  rename_i i hi';split at he<;>try (cases he;done)
  rename_i p off q' bz hg;obtain⟨g1,g2⟩:=aa he;obtain⟨g3,g4⟩:=aa g1;obtain⟨g5,g6⟩:=aa g4;obtain⟨g7,g8⟩:=aa g6;obtain⟨g9,hk⟩:=aa g2;obtain⟨g10,hk⟩:=aa hk;have g3:=aN g3;have g5:=aN g5;have g7:=aN g7;have g8:=cq g8;have g9:=aU g9;have im:=hr.obj 29;rw[hg,g3,g8,g7] at im;obtain⟨L9,M9,c9,h1,h2,h3,h4,h5,h6,h7⟩:=im;obtain rfl:L=M9:=mL (hL.symm.trans h2);obtain rfl:c=c9:=by rw[hdc] at h3;injection h3 with h3;injection h3 with _ h3;omega
  obtain⟨LOv,hLO,rlo⟩:=rl;rw[Rv] at rlo;subst rlo;subst hLO;rw[show HI=none from rh,show MX=none from rm];have hq:off=q*i.size:=g5;have dsub:den E (.cD 5 len (.li .i64 (.ofNat q)))=some (.int .i64 (n-q:Nat)):=by
   simp only[den,YQ,js];rw[if_pos (by constructor<;>(show _<=_)<;>simp only[Int.ofNat_eq_natCast]<;>omega)];simp only[Int.ofNat_eq_natCast];rw[show((n:Int)-(q:Int))=((n-q:Nat):Int) by omega]
  refine⟨_,.slice (some ⟨L9.aH,L9.base,none⟩) (n-q) (c-q),?_,?_,hk⟩
  ·have hnc:n<=c:=by have:=leK_ok g10 (aD hr) YQ hdc;omega
   have hqn:q<=n:=Nat.le_trans g9 hmn
   obtain⟨l,m',e1,e2,e3,e4⟩:=VB (E:=E) (w:=w) P (isS:=true) (len:=n) (cap:=c) (lo:=some (.i .i64 (.ofNat q))) (hi:=none) (LO:=some (.int .i64 (.ofNat q))) (HI:=none) (k:=fun l m=>bc (Nat.beq l q) (Nat.beq m n) false) ⟨_,rfl,by rw[Rv]⟩ rfl hnc (nrQ c)
    (by show bc (Nat.ble q n) (bc (Nat.ble n c) (bc (Nat.beq q q) (Nat.beq n n) false) false) false=true
        rw[Nat.ble_eq_true_of_le hqn,Nat.ble_eq_true_of_le hnc,Nat.beq_refl,Nat.beq_refl];rfl)
   obtain⟨e5,e6⟩:=aa e4;have e5:=aN e5;have e6:=aN e6;subst e5 e6;have e1:(Instr.sliceBounds true m' c (some (.int .i64 (l:Int))) none none).run P w=.ok (l,m',c) w:=e1;rw[h5,h6];by_cases hcq:c=l
   ·rw[if_pos hcq]
    subst hcq;simp[Instr.sliceAt,Instr.slice,ai hu,e1,bG hi']
   ·rw[if_neg hcq,hq]
    simp[Instr.sliceAt,Instr.slice,ai hu,e1,bG hi',hcq,eC]
  ·rw[Rv]
   refine⟨L9,n-q,h1,dsub,by omega,fun h=>by omega,?_⟩;rw[if_neg (by omega),h7,Nat.add_sub_cancel]
 ·cases he
end
section
variable{E:Env}{h:Heap}{aq:Nat}{w:World}{regs:aI}{a:Act}
def yh(regs:aI)(ps:List (Nat×Operand)):(List (Nat×AV)->Bool)->Bool:=
 List.rec (motive:=fun _=>(List (Nat×AV)->Bool)->Bool) (fun k=>k []) (fun p _ ih k=>iC regs p.2 fun v=>ih fun l=>k ((p.1,v)::l)) ps
theorem vw(r:Rr E regs a.tmps):∀(ps:List (Nat×Operand)){k:List (Nat×AV)->Bool},yh regs ps k=true->∃l,RvP E l (ps.map fun(i,x)=>(i,a.eval x))∧k l=true
 |[],_,h=>⟨[],rfl,h⟩
 |(i,x)::ps,k,h=>by
  obtain⟨v,hv,h⟩:=bN (x:=x) (k:=fun v=>yh regs ps fun l=>k ((i,v)::l)) h r;obtain⟨l,hl,h⟩:=vw r ps h;exact⟨(i,v)::l,⟨_,_,rfl,hv,hl⟩,h⟩
def QV(regs:aI)(x:Option Operand)(k:Option AV->Bool):Bool:=match x with
 |none=>k none
 |some x=>iC regs x fun v=>k (some v)
theorem Ea(r:Rr E regs a.tmps){x:Option Operand}{k:Option AV->Bool}(h:QV regs x k=true):∃v,Rvo E v (x.map a.eval)∧k v=true:=by
 cases x with
 |none=>exact⟨none,rfl,h⟩
 |some x=>
  obtain⟨v,hv,h⟩:=bN (x:=x) h r;exact⟨some v,⟨_,rfl,hv⟩,h⟩
def Ml(v:AV)(b:Bool):Bool:=match v with
 |.p _ _=>b
 |.pg _ _=>b
 |.ifc _ _=>b
 |.fn (.func _) _ _=>b
 |_=>false
def mO(x:AV)(i:Nat)(k:AV->Bool):Bool:=match x with
 |.tu vs=>(match List.drop i vs with
  |v::_=>force v k
  |[]=>false)
 |_=>false
theorem Eb{P:Program}{x:AV}{X:Value}{i:Nat}{k:AV->Bool}(he:mO x i k=true)(rx:Rv E x X):∃v W,(Instr.extract X i).run P w=.ok W w∧Rv E v W∧k v=true:=by
 unfold mO at he;split at he<;>try (cases he;done)
 rename_i vs;split at he<;>try (cases he;done)
 rename_i v rest hd;rw[force_eq] at he;rw[Rv] at rx;obtain⟨ws,rfl,r⟩:=rx;have hg:vs[i]? =some v:=by
  have:=congrArg (fun l=>l[0]?) hd;simpa using this
 obtain⟨V,hV,hr⟩:=r.get i v hg;exact⟨v,V,by simp[Instr.extract,hV],hr,he⟩
def lG(P:Program)(b:Builtin)(ts:List TypeId)(args:List AV)(h:Heap)(k:AV->Bool):Bool:=match b with
 |.len=>(match ts with
  |[t]=>(match args with|[x]=>GK P t x h k|_=>false)
  |_=>false)
 |_=>false
def QW(v:AV):Bool:=match v with
 |.x _ _=>true
 |_=>false
def symI(e:SE)(fs:aB):Option Nat:=match e with
 |.sy l=>some l
 |e=>List.rec (motive:=fun _=>Option Nat) none (fun p _ ih=>match p with
  |(.cmp .eql a (.sy l),true)=>bif eE e a then some l else ih
  |_=>ih) fs
theorem Mm{E:Env}{fs:aB}(hf:Holds E fs){e:SE}{l:Nat}{n:Int}(he:symI e fs=some l)(hn:den E e=some (.int .i64 n)):den E (.sy l)=some (.int .i64 n):=by
 have key:∀gs:aB,(∀p∈gs,p∈fs)->List.rec (motive:=fun _=>Option Nat) none (fun p _ ih=>match p with
  |(.cmp .eql a (.sy l),true)=>bif eE e a then some l else ih
  |_=>ih) gs=some l->den E (.sy l)=some (.int .i64 n):=by
  intro gs;induction gs with
  |nil=>intro _ h;cases h
  |cons p gs ih=>
   intro hs h;have ih:=ih (fun q hq=>hs q (List.mem_cons_of_mem _ hq));dsimp only at h;split at h
   ·rename_i a m
    cases hq:eE e a with
    |false=>rw[hq] at h;exact ih h
    |true=>
     rw[hq] at h;cases h
     have e1:=cq hq;subst e1;have h2:=hf _ (hs _ List.mem_cons_self);simp only[den,hn] at h2⊢;cases hl:E l with
     |none=>rw[hl] at h2;cases h2
     |some L=>
      rw[hl] at h2;simp only[Option.map_some] at h2⊢;cases hv:oD L<;>rw[hv] at h2<;>simp only[bu,Option.map_none] at h2<;>try (cases h2;done)
      rename_i k m;by_cases hk:IntKind.i64=k
      ·subst hk
       simp[jY] at h2;rw[h2]
      ·simp[hk] at h2
   ·exact ih h
 cases e<;>first|exact key fs (fun _ h=>h) he|(cases he;exact hn)
def rZ(P:Program)(t:TypeId)(x i:AV)(h:Heap)(k:AV->Bool):Bool:=match i with
 |.x (.i .i64) e=>match symI e (au h) with
  |some l=>match P.underlying t with
   |some (.slice el)=>match P.info? el with
    |some inf=>match x with
     |.sx S _ len _=>match T.get .gone h (Nat.succ l) with
      |.glob g _ _=>bc (bc (Nat.ble 4000000 g) (bc (Nat.beq (Nat.div (Nat.sub g 4000000) 100000) S) (bc (Nat.beq (Nat.mod (Nat.div (Nat.sub g 4000000) 100) 1000) l) (Nat.beq (Nat.mod g 100) inf.size) false) false) false)
        (bc (Nat.beq (cr (au h) (.cmp .lss (.sy l) len)) 1) (k (.p (Nat.succ l) 0)) false) false
      |_=>false
     |.sz S len=>match T.get .gone h (Nat.succ l) with
      |.glob g _ _=>bc (bc (Nat.ble 4000000 g) (bc (Nat.beq (Nat.div (Nat.sub g 4000000) 100000) S) (bc (Nat.beq (Nat.mod (Nat.div (Nat.sub g 4000000) 100) 1000) l) (Nat.beq (Nat.mod g 100) inf.size) false) false) false)
        (bc (Nat.beq (cr (au h) (.cmp .lss (.sy l) len)) 1) (k (.p (Nat.succ l) 0)) false) false
      |_=>false
     |_=>false
    |none=>false
   |_=>false
  |none=>false
 |_=>false
theorem Ox{P:Program}{t:TypeId}{x ix:AV}{X I:Value}{k:AV->Bool}(he:rZ P t x ix h k=true)(hx:Rv E x X)(hI:Rv E ix I)(hr:HR E h aq w):
  ∃v W,(Instr.indexAt t X I).run P w=.ok W w∧Rv E v W∧k v=true:=by
 unfold rZ at he;split at he<;>try (cases he;done)
 rename_i e;split at he<;>try (cases he;done)
 rename_i l hl;split at he<;>try (cases he;done)
 rename_i el hu;split at he<;>try (cases he;done)
 rename_i inf hi;have main:∀(S:Nat)(len:SE)(L:aZ)(N C:Nat),E S=some L->den E len=some (.int .i64 N)->X=.slice (some ⟨L.aH,L.base,none⟩) N C->
   (match T.get .gone h (Nat.succ l) with
      |.glob g _ _=>bc (bc (Nat.ble 4000000 g) (bc (Nat.beq (Nat.div (Nat.sub g 4000000) 100000) S) (bc (Nat.beq (Nat.mod (Nat.div (Nat.sub g 4000000) 100) 1000) l) (Nat.beq (Nat.mod g 100) inf.size) false) false) false)
        (bc (Nat.beq (cr (au h) (.cmp .lss (.sy l) len)) 1) (k (.p (Nat.succ l) 0)) false) false
      |_=>false)=true->∃v W,(Instr.indexAt t X I).run P w=.ok W w∧Rv E v W∧k v=true:=by
  intro S len L N C eL dN hX he;subst hX;split at he<;>try (cases he;done)
  rename_i g m c hg;obtain⟨h1,he⟩:=aa he;obtain⟨h2,he⟩:=aa he;obtain⟨g1,h1⟩:=aa h1;obtain⟨g2,h1⟩:=aa h1;obtain⟨g3,g4⟩:=aa h1;have g1:=aU g1;have g2:(g-4000000)/100000=S:=aN g2;have g3:(g-4000000)/100%1000=l:=aN g3;have g4:g%100=inf.size:=aN g4;rw[Rv] at hI;obtain⟨dI,n,rfl,_,_⟩:=hI;have dl:=Mm (aD hr) hl dI;have ho:=hr.obj (l+1);rw[hg] at ho;obtain⟨L',arr,wP,fr,qM,_,_,_,_,ht⟩:=ho;obtain⟨M,q,eM,dq,b1,b2⟩:=ht.2.2 ⟨g1,by omega⟩;rw[g2] at eM;rw[g3,dl] at dq;cases dq
  rw[eL] at eM;obtain rfl:L=M:=mL eM;have cL:q<N:=by
   have d:den E (.cmp .lss (.sy l) len)=some (.bool (decide ((q:Int)<N))):=by
    simp only[den] at dl⊢;rw[dl,dN];rfl
   have:=(aX (aD hr) d).1 (aN h2);have:=gD this;omega
  refine⟨_,.pointer (some ⟨L.aH,L.base+q*inf.size,none⟩),?_,?_,he⟩
  ·simp[Instr.indexAt,asIntOf,ai hu,cL,bG hi,eC]
  ·rw[Rv]
   refine⟨L',qM,?_⟩;rw[b1,b2,g4];rfl
 split at he<;>try (cases he;done)
 ·rename_i S low len cap
  rw[Rv] at hx;obtain⟨L,N,C,eL,dN,dC,_,hN,rfl⟩:=hx;exact main S len L N C eL dN rfl he
 ·rename_i S len
  rw[Rv] at hx;obtain⟨L,N,eL,dN,hN,hz,rfl⟩:=hx;by_cases h0:L.room=0
  ·exfalso
   have:=hz h0;subst this;split at he<;>try (cases he;done)
   rename_i g m c hg;obtain⟨h1,he⟩:=aa he;obtain⟨h2,he⟩:=aa he;obtain⟨g1,h1⟩:=aa h1;obtain⟨g2,h1⟩:=aa h1;obtain⟨g3,g4⟩:=aa h1;have g1:=aU g1;have g3:(g-4000000)/100%1000=l:=aN g3;rw[Rv] at hI;obtain⟨dI,n,rfl,_,_⟩:=hI;have dl:=Mm (aD hr) hl dI;have ho:=hr.obj (l+1);rw[hg] at ho;obtain⟨L',arr,wP,fr,qM,_,_,_,_,ht⟩:=ho;obtain⟨M,q,eM,dq,b1,b2⟩:=ht.2.2 ⟨g1,by omega⟩;rw[g3,dl] at dq;cases dq
   have d:den E (.cmp .lss (.sy l) len)=some (.bool (decide ((q:Int)<(0:Nat)))):=by
    simp only[den] at dl⊢;rw[dl,dN];rfl
   have:=(aX (aD hr) d).1 (aN h2);have:=gD this;omega
  ·exact main S len L N _ eL dN (if_neg h0) he
def Mn(P:Program)(t:TypeId)(x i:AV)(h:Heap)(k:AV->Bool):Bool:=bc (QW i) (rZ P t x i h k) (iF P t x i k)
theorem QX{P:Program}{t:TypeId}{x ix:AV}{X I:Value}{k:AV->Bool}(he:Mn P t x ix h k=true)(hx:Rv E x X)(hI:Rv E ix I)(hr:HR E h aq w):
  ∃v W,(Instr.indexAt t X I).run P w=.ok W w∧Rv E v W∧k v=true:=by
 rcases aR he with⟨_,he⟩|⟨_,he⟩
 ·exact Ox he hx hI hr
 ·exact zL he hx hI
def qN(P:Program)(op:Op)(regs:aI)(h:Heap)(k:AV->Bool):Bool:=match op with
 |.move x=>iC regs x k
 |.assign x=>iC regs x k
 |.pick c x y=>iC regs c fun c=>zU (au h) c (iC regs x k) (iC regs y k)
 |.build t ps=>yh regs ps.toList fun l=>oe P t l k
 |.load t x=>iC regs x fun x=>iD P t x h k
 |.nilCheck x=>iC regs x fun v=>Ml v (k v)
 |.binOp op t x y _=>iC regs x fun a=>iC regs y fun b=>eU P op t x y a b h k
 |.unOp op _ x=>iC regs x fun a=>JP P op a k
 |.convert s d x=>iC regs x fun a=>pT P s d a h k
 |.makeInterface t x=>iC regs x fun a=>o8 P t a k
 |.makeFunc g first captured=>yD regs first.toList fun l=>yD regs captured.toList fun m=>k (.fn g l m)
 |.slice t x lo hi mx=>iC regs x fun x=>QV regs lo fun lo=>QV regs hi fun hi=>QV regs mx fun mx=>rY P t x lo hi mx h k
 |.fieldAddr s x f=>iC regs x fun x=>iE P s x f k
 |.field t x f=>iC regs x fun x=>pL P t x f k
 |.indexAddr t x i=>iC regs x fun x=>iC regs i fun i=>Mn P t x i h k
 |.index t x i=>iC regs x fun x=>iC regs i fun i=>oc P t x i k
 |.typeAssert x _ t ok=>iC regs x fun x=>rR P x t ok k
 |.extract x i=>iC regs x fun x=>mO x i k
 |.lookup t x i ok=>iC regs x fun x=>iC regs i fun i=>lE P t x i ok h k
 |.call c=>(match c.callee with
  |.builtin b=>yD regs c.args.toList fun args=>lG P b c.argTypes.toList args h k
  |_=>false)
 |_=>false
def Ec(P:Program)(op:Op)(regs:aI)(h:Heap)(aq:Nat)(k:K):Bool:=match op with
 |.alloc t=>od P t h aq k
 |.box t x=>iC regs x fun v=>CJ t v h aq k
 |.buildSlice t n ps=>yh regs ps.toList fun l=>fT P t n l h aq k
 |.store t x y=>iC regs x fun x=>iC regs y fun y=>mC P t x y h fun h'=>k .un h' aq
 |.makeSlice t l c=>iC regs l fun l=>iC regs c fun c=>og P t l c h aq k
 |.makeMap _ none=>mM h aq k
 |.mapUpdate t m x y=>iC regs m fun m=>iC regs x fun x=>iC regs y fun y=>vv P t m x y h fun h'=>k .un h' aq
 |.insert t m x y=>iC regs m fun m=>iC regs x fun x=>iC regs y fun y=>vv P t m x y h fun h'=>k .un h' aq
 |op=>qN P op regs h fun v=>k v h aq
theorem Gf.tc{P:Program}{s:Sem Value}{k:K}(hh:rH P s E h w k):Gf P (do pure (.value (←s))) E h w k:=by
 obtain⟨v,h',aL,E',w',V,h1,h2,h3,h4,h5⟩:=hh;exact⟨v,h',aL,E',w',V,.inl (by simp[h1]),h2,h3,h4,h5⟩
theorem aP.one{x:AV}{vs:List Value}(r:aP E [x] vs):∃X,vs=[X]∧Rv E x X:=by
 rw[aP] at r;obtain⟨X,tT,rfl,h1,h2⟩:=r;rw[aP] at h2;subst h2;exact⟨X,rfl,h1⟩
theorem aP.two{x y:AV}{vs:List Value}(r:aP E [x,y] vs):∃X Y,vs=[X,Y]∧Rv E x X∧Rv E y Y:=by
 rw[aP] at r;obtain⟨X,tT,rfl,h1,h2⟩:=r;obtain⟨Y,rfl,h3⟩:=h2.one;exact⟨X,Y,rfl,h1,h3⟩
theorem sa{P:Program}{b:Builtin}{ts:Array TypeId}{ty:TypeId}{consts:Array Bool}{args:List AV}{ARGS:Array Value}{k:AV->Bool}(he:lG P b ts.toList args h k=true)
  (ra:aP E args ARGS.toList) (hr:HR E h aq w):∃v V,(builtin b ts ty consts ARGS).run P w=.ok (.value V) w∧Rv E v V∧k v=true:=by
 have wrap:∀{s:Sem Value},(∃v V,s.run P w=.ok V w∧Rv E v V∧k v=true)->∃v V,(do pure (.value (←s)):Sem Next).run P w=.ok (.value V) w∧Rv E v V∧k v=true:=by
  rintro s ⟨v,V,h1,h2,h3⟩;exact⟨v,V,by simp[h1],h2,h3⟩
 unfold lG at he;split at he
 ·split at he<;>try (cases he;done)
  rename_i t hts;split at he<;>try (cases he;done)
  obtain⟨X,hX,rx⟩:=ra.one;have e1:ts=#[t]:=by apply Array.ext';simpa using hts
  have e2:ARGS=#[X]:=by apply Array.ext';simpa using hX
  rw[e1,e2];exact wrap (QK he rx hr)
 ·cases he
def Rd(P:Program)(s:Sem Next)(E:Env)(w:World)(k:AV->Bool):Prop:=
 ∃v V w',s.run P w=.ok (.value V) w'∧(w'=w∨(v=.nan∧w'={w with drawn:=w.drawn+1}))∧Rv E v V∧k v=true
theorem Rd.same{P:Program}{s:Sem Next}{k:AV->Bool}{v:AV}{V:Value}(e:s.run P w=.ok (.value V) w)(r:Rv E v V)(hk:k v=true):Rd P s E w k:=⟨v,V,w,e,.inl rfl,r,hk⟩
theorem Rd.lg{P:Program}{s:Sem Value}{k:AV->Bool}(hh:∃v W,s.run P w=.ok W w∧Rv E v W∧k v=true):Rd P (do pure (.value (←s))) E w k:=by
 obtain⟨v,W,h1,h2,h3⟩:=hh;exact Rd.same (V:=W) (by simp[h1]) h2 h3
theorem Gf.of_rd{P:Program}{s:Sem Next}{k:K}(hr:HR E h aq w)(hh:Rd P s E w fun v=>k v h aq):Gf P s E h w k:=by
 obtain⟨v,V,w',h1,h2,h3,h4⟩:=hh;rcases h2 with rfl|⟨_,rfl⟩
 ·exact⟨v,h,aq,E,w',V,.inl h1,h3,hr,bk.refl _ _ _,h4⟩
 ·exact⟨v,h,aq,E,_,V,.inl h1,h3,hr.drew,bk.drew _ _ _,h4⟩
set_option maxHeartbeats 1000000 in
theorem Mo{P:Program}{o:Oper}{k:AV->Bool}(he:qN P o.op regs h k=true)(r:Rr E regs a.tmps)(hr:HR E h aq w):Rd P (execOp a.eval o) E w k:=by
 unfold execOp;unfold qN at he;split at he<;>rename_i hop<;>simp only[hop]
 ·rename_i x
  obtain⟨v,hv,he⟩:=bN he r;exact Rd.same (V:=a.eval x) rfl hv he
 ·rename_i x
  obtain⟨v,hv,he⟩:=bN he r;exact Rd.same (V:=a.eval x) rfl hv he
 ·rename_i c x y
  obtain⟨cv,hc,jD⟩:=bN he r;clear he;rcases Gy jD hc (aD hr) with⟨hc,he⟩|⟨hc,he⟩
  ·obtain⟨v,hv,he⟩:=bN he r
   exact Rd.same (V:=a.eval x) (by simp[hc,asBool]) hv he
  ·obtain⟨v,hv,he⟩:=bN he r
   exact Rd.same (V:=a.eval y) (by simp[hc,asBool]) hv he
 ·rename_i t ps
  obtain⟨l,hl,he⟩:=vw r _ he;exact Rd.lg (Jt he (by simpa using hl))
 ·obtain⟨v,hv,he⟩:=bN he r
  exact Rd.lg (CH he hv hr)
 ·rename_i x
  obtain⟨v,hv,he⟩:=bN he r;have Al:=hv;unfold Ml at he;split at he<;>try (cases he;done)
  ·rw[Rv] at Al
   obtain⟨L,_,e⟩:=Al;exact Rd.same (V:=a.eval x) (by rw[e];rfl) hv he
  ·rw[Rv] at Al
   exact Rd.same (V:=a.eval x) (by rw[Al];rfl) hv he
  ·rw[Rv] at Al
   obtain⟨W,e,_⟩:=Al;exact Rd.same (V:=a.eval x) (by rw[e];rfl) hv he
  ·rw[Rv] at Al
   obtain⟨_,_,e,_⟩:=Al;exact Rd.same (V:=a.eval x) (by rw[e];rfl) hv he
 ·rename_i op t x y yt
  obtain⟨v,hv,he⟩:=bN he r;obtain⟨u,hu,he⟩:=bN he r;obtain⟨z,W,w',h1,h2,h3,h4⟩:=QI he hv hu hr;have gY:(do pure (.value (←o7 P op t x y (a.eval x) (a.eval y))):Sem Next).run P w=.ok (.value W) w':=by simp[h1]
  exact⟨z,W,w',gY,h2,h3,h4⟩
 ·obtain⟨v,hv,he⟩:=bN he r
  exact Rd.lg (VQ he hv)
 ·obtain⟨v,hv,he⟩:=bN he r
  exact Rd.lg (JT he hv hr)
 ·obtain⟨v,hv,he⟩:=bN he r
  exact Rd.lg (D7 he hv)
 ·rename_i g first captured
  obtain⟨l,hl,he⟩:=sX r _ he;obtain⟨m,hm,he⟩:=sX r _ he;refine Rd.same (V:=.func g (first.map a.eval) (captured.map a.eval)) (by simp[Instr.makeFunc]) ?_ he
  rw[Rv];refine⟨_,_,?_,hl,hm⟩;have e1:first.map a.eval=(first.toList.map a.eval).toArray:=by apply Array.ext';simp
  have e2:captured.map a.eval=(captured.toList.map a.eval).toArray:=by apply Array.ext';simp
  rw[e1,e2]
 ·obtain⟨v,hv,he⟩:=bN he r
  obtain⟨lo,Ah,he⟩:=Ea r he;obtain⟨hi,hhi,he⟩:=Ea r he;obtain⟨mx,hmx,he⟩:=Ea r he;exact Rd.lg (GS he hv Ah hhi hmx hr)
 ·obtain⟨v,hv,he⟩:=bN he r
  exact Rd.lg (zK he hv)
 ·obtain⟨v,hv,he⟩:=bN he r
  exact Rd.lg (Jm he hv)
 ·obtain⟨v,hv,he⟩:=bN he r
  obtain⟨u,hu,he⟩:=bN he r;exact Rd.lg (QX he hv hu hr)
 ·obtain⟨v,hv,he⟩:=bN he r
  obtain⟨u,hu,he⟩:=bN he r;exact Rd.lg (Jn he hv hu)
 ·obtain⟨v,hv,he⟩:=bN he r
  exact Rd.lg (GJ he hv)
 ·obtain⟨v,hv,he⟩:=bN he r
  exact Rd.lg (Eb he hv)
 ·obtain⟨v,hv,he⟩:=bN he r
  obtain⟨u,hu,he⟩:=bN he r;exact Rd.lg (GR he hv hu hr)
 ·rename_i c
  split at he<;>try (cases he;done)
  rename_i b hc;obtain⟨args,ra,he⟩:=sX r _ he;have ra:aP E args (c.args.map a.eval).toList:=by simpa using ra
  obtain⟨v,V,h1,h2,h3⟩:=sa (ty:=o.type) (consts:=c.args.map fun|.const _=>true|_=>false) he ra hr;refine Rd.same (V:=V) ?_ h2 h3;rw[←h1];simp only[resolve,hc];rfl
 ·cases he
theorem JU{P:Program}{o:Oper}{k:K}(he:Ec P o.op regs h aq k=true)(r:Rr E regs a.tmps)(hr:HR E h aq w):Gf P (execOp a.eval o) E h w k:=by
 unfold Ec at he;split at he
 ·rename_i hop
  unfold execOp;simp only[hop];exact Gf.tc (Js he hr)
 ·rename_i hop
  unfold execOp;simp only[hop];obtain⟨v,hv,he⟩:=bN he r;exact Gf.tc (Gu he hv hr)
 ·rename_i t n ps hop
  unfold execOp;simp only[hop];obtain⟨l,hl,he⟩:=vw r _ he;exact Gf.tc (yE he (by simpa using hl) hr)
 ·rename_i hop
  unfold execOp;simp only[hop];obtain⟨v,hv,he⟩:=bN he r;obtain⟨u,hu,he⟩:=bN he r;obtain⟨h',w',h1,h2,h3,h4⟩:=Jl he hv hu hr;exact⟨.un,h',aq,E,w',undef,.inr ⟨by simp[h1],rfl⟩,by rw[Rv],h2,h3,h4⟩
 ·rename_i hop
  unfold execOp;simp only[hop];obtain⟨v,hv,he⟩:=bN he r;obtain⟨u,hu,he⟩:=bN he r;exact Gf.tc (zP he hv hu hr)
 ·rename_i hop
  unfold execOp;simp only[hop];exact Gf.tc (D' he hr)
 ·rename_i hop
  unfold execOp;simp only[hop];obtain⟨m,hm,he⟩:=bN he r;obtain⟨v,hv,he⟩:=bN he r;obtain⟨u,hu,he⟩:=bN he r;obtain⟨h',w',h1,h2,h3,h4⟩:=yg he hm hv hu hr;exact⟨.un,h',aq,E,w',undef,.inr ⟨by simp[h1],rfl⟩,by rw[Rv],h2,h3,h4⟩
 ·rename_i hop
  unfold execOp;simp only[hop];obtain⟨m,hm,he⟩:=bN he r;obtain⟨v,hv,he⟩:=bN he r;obtain⟨u,hu,he⟩:=bN he r;obtain⟨h',w',h1,h2,h3,h4⟩:=yg he hm hv hu hr;exact⟨.un,h',aq,E,w',undef,.inr ⟨by simp[h1],rfl⟩,by rw[Rv],h2,h3,h4⟩
 ·exact Gf.of_rd hr (Mo he r hr)
abbrev aO:=FuncId->List AV->Heap->Nat->K->Bool
abbrev iG:=FuncId->Option (List AV->Heap->Nat->K->Bool)
class JC where
 J:Env->Heap->World->Prop
 goes:∀{E E':Env}{h h':Heap}{n n':Nat}{w w':World},HR E h n w->J E h w->bk E h w E' h' w'->HR E' h' n' w'->J E' h' w'
 Ve:∀{E:Env}{h:Heap}{n:Nat}{w:World}{a:AO},HR E h n w->a.live=false->J E h w->J E (T.set a h 0) w
instance(priority:=low) JC.qP:JC:=⟨fun _ _ _=>True,fun _ _ _ _=>trivial,fun _ _ _=>trivial⟩
def ng(E:Env)(h:Heap)(w:World)(k:K)(V:Value)(w':World):Prop:=
 ∃v h' aL E',Rv E' v V∧HR E' h' aL w'∧bk E h w E' h' w'∧k v h' aL=true
def Ends(E:Env)(h:Heap)(w:World)(k:K)(e:Ending)(w':World):Prop:=
 (∃V,e=.returned V∧ng E h w k V w')∨∃V,e=.panicked [{v:=V,recovered:=false}]∧ng E h w (fun v=>k (.pk v)) V w'
def pkK(k kp:K):K:=fun v h aq=>match v with
 |.pk x=>kp x h aq
 |v=>k v h aq
theorem VU{k kp:K}{v:AV}{h:Heap}{aq:Nat}{E:Env}{V:Value}(hk:pkK k kp v h aq=true)(r:Rv E v V):k v h aq=true:=by
 cases v<;>first|exact hk|(simp[Rv] at r;done)
theorem ng.of_pkK{E:Env}{h:Heap}{w:World}{k kp:K}{V:Value}{w':World}(g:ng E h w (pkK k kp) V w'):ng E h w k V w':=by
 obtain⟨v,h',aL,E',r,h1,h2,h3⟩:=g;exact⟨v,h',aL,E',r,h1,h2,VU h3 r⟩
def bj[JC](P:Program)(call:aO):Prop:=∀(g:FuncId)(args:List AV)(ARGS:Array Value)(E:Env)(h:Heap)(aq:Nat)(w:World)(k:K),
 call g args h aq k=true->aP E args ARGS.toList->HR E h aq w->JC.J E h w->Calls P g ARGS w (Ends E h w k)
def om(P:Program)(ext:iG):Prop:=∀(g:FuncId)(C:List AV->Heap->Nat->K->Bool),ext g=some C->∀(args:List AV)(ARGS:Array Value)(E:Env)(h:Heap)(aq:Nat)(w:World)(k:K),
 C args h aq k=true->aP E args ARGS.toList->HR E h aq w->∃V w',(callFunc g ARGS).run P w=.ok (.value V) w'∧ng E h w k V w'
def JV(P:Program)(o:Oper)(a:Act)(E:Env)(h:Heap)(w:World)(k kp:K):Prop:=
 ∀(Q:Exit->Act->World->Prop),(∀V w',ng E h w kp V w'->Q (.panic [{v:=V,recovered:=false}]) a w')->o.wp P a w (fun a' w'=>∃V,a'=a.put o.dst V∧ng E h w k V w') Q
theorem JV.QY{P:Program}{o:Oper}{k kp:K}(hh:Gf P (execOp a.eval o) E h w k):JV P o a E h w k kp:=by
 obtain⟨v,h',aL,E',w',V,h1,h2,h3,h4,h5⟩:=hh;intro Q _;unfold Oper.wp;rcases h1 with h1|⟨h1,rfl⟩
 ·rw[h1];exact⟨V,rfl,v,h',aL,E',h2,h3,h4,h5⟩
 ·rw[h1];exact⟨undef,rfl,v,h',aL,E',h2,h3,h4,h5⟩
def Ed(P:Program)(call:aO)(ext:iG)(kp:K)(g:FuncId)(args:List AV)(h:Heap)(aq:Nat)(k:K):Bool:=match P.funcs[g]? with
 |some fn=>(match fn.body with
  |some _=>bc (fn.name== "runtime.NumGoroutine") false (call g args h aq (pkK k kp))
  |none=>(match ext g with
   |some C=>C args h aq k
   |none=>false))
 |none=>false
theorem Mp[JC]{P:Program}{call:aO}{ext:iG}(aQ:bj P call)(fO:om P ext){o:Oper}{g:FuncId}{args:List AV}{ARGS:Array Value}{k kp:K}(he:Ed P call ext kp g args h aq k=true)
  (ra:aP E args ARGS.toList) (hr:HR E h aq w) (hj:JC.J E h w) (gY:(execOp a.eval o).run P w=(callFunc g ARGS).run P w):JV P o a E h w k kp:=by
 unfold Ed at he;split at he<;>try (cases he;done)
 rename_i fn mP;split at he
 ·rename_i c hb
  rcases aR he with⟨_,hh⟩|⟨hn,he⟩
  ·cases hh
  intro Q hp;unfold Oper.wp;have hn':¬(fn.name= "runtime.NumGoroutine"):=by
   intro e;rw[e] at hn;simp at hn
  have:(callFunc g ARGS).run P w=.ok (.enter g ARGS) w:=by
   simp[callFunc,mP,hb,hn']
  rw[gY,this];simp only[Oper.upon];refine(aQ g args ARGS E h aq w _ he ra hr hj).mono ?_;rintro e w' (⟨V,rfl,hg⟩|⟨V,rfl,hg⟩)
  ·exact⟨V,rfl,hg.of_pkK⟩
  ·exact hp V w' hg
 ·split at he<;>try (cases he;done)
  rename_i C hf;obtain⟨V,w',h1,h2⟩:=fO g C hf args ARGS E h aq w k he ra hr;intro Q _;unfold Oper.wp;rw[gY,h1];exact⟨V,rfl,h2⟩
def lH(P:Program)(call:aO)(ext:iG)(kp:K)(recv:AV)(name:String)(args:List AV)(h:Heap)(aq:Nat)(k:K):Bool:=match recv with
 |.ifc t v=>(match P.info? t with
  |some i=>(match i.methods.find? (·.name==name) with
   |some m=>(match m.func with
    |some (f,ptr)=>(match P.underlying t with
     |some d=>bc m.path.isEmpty (bc (match d with|.pointer _=>ptr|_=> !ptr) (Ed P call ext kp f (v::args) h aq k) false) false
     |none=>false)
    |none=>false)
   |none=>false)
  |none=>false)
 |_=>false
theorem yi[JC]{P:Program}{call:aO}{ext:iG}(aQ:bj P call)(fO:om P ext){o:Oper}{recv:AV}{RECV:Value}{name:String}{args:List AV}{ARGS:Array Value}{k kp:K}(he:lH P call ext kp recv name args h aq k=true)
  (rr:Rv E recv RECV) (ra:aP E args ARGS.toList) (hr:HR E h aq w) (hj:JC.J E h w) (gY:(execOp a.eval o).run P w=(callMethod RECV name ARGS).run P w):JV P o a E h w k kp:=by
 unfold lH at he;split at he<;>try (cases he;done)
 rename_i t v;rw[Rv] at rr;obtain⟨V,rfl,rv⟩:=rr;split at he<;>try (cases he;done)
 rename_i i hi;split at he<;>try (cases he;done)
 rename_i m hm;split at he<;>try (cases he;done)
 rename_i f ptr hf;split at he<;>try (cases he;done)
 rename_i d hu;obtain⟨hp,he⟩:=aa he;obtain⟨hd,he⟩:=aa he;have hp:m.path=#[]:=by simpa using hp
 have hrecv:(receiverAt t (.val V) ptr (if m.path.isEmpty=true then some ((name.splitOn ".").getLastD name) else none)).run P w=.ok V w:=by
  simp only[receiverAt,Sem.run_bind,ai hu,Result.andThen_ok];cases d<;>cases ptr<;>simp at hd<;>simp[Place.get]
 have hmeth:(method (P.types.size+Made.depth) t V name).run P w=.ok (f,V) w:=by
  obtain⟨dd,e⟩:∃dd,P.types.size+Made.depth=dd+1:=⟨P.types.size+99,rfl⟩;rw[e];simp only[method,Sem.run_bind,ly hi,Result.andThen_ok,hm,Sem.run_pure,hp,follow,hf];rw[hp] at hrecv;simp only[hrecv,Result.andThen_ok]
 refine Mp aQ fO (ARGS:=#[V]++ARGS) he ?_ hr hj ?_
 ·simpa using aP.cons rv ra
 ·rw[gY]
  show((program>>=fun p=>method (p.types.size+Made.depth) t V name>>=fun x=>callFunc x.1 (#[x.2]++ARGS)):Sem Next).run P w=_;rw[Sem.run_bind,run_program];show((method (P.types.size+Made.depth) t V name>>=fun x=>callFunc x.1 (#[x.2]++ARGS)):Sem Next).run P w=_;rw[Sem.run_bind,hmeth];rfl
def td(P:Program)(b:Builtin)(ts:List TypeId)(args:List AV)(h:Heap)(aq:Nat)(k:K):Bool:=match b with
 |.append=>(match ts with
  |[st,xt]=>(match args with|[s,x]=>Af P st xt s x h aq k|_=>false)
  |_=>false)
 |b=>lG P b ts args h fun v=>k v h aq
theorem Ee{P:Program}{b:Builtin}{ts:Array TypeId}{ty:TypeId}{consts:Array Bool}{args:List AV}{ARGS:Array Value}{k:K}(he:td P b ts.toList args h aq k=true)
  (ra:aP E args ARGS.toList) (hr:HR E h aq w):Gf P (builtin b ts ty consts ARGS) E h w k:=by
 unfold td at he;split at he
 ·split at he<;>try (cases he;done)
  rename_i st xt hts;split at he<;>try (cases he;done)
  obtain⟨X,Y,hX,rx,ry⟩:=ra.two;have e1:ts=#[st,xt]:=by apply Array.ext';simpa using hts
  have e2:ARGS=#[X,Y]:=by apply Array.ext';simpa using hX
  rw[e1,e2];exact Gf.tc (GM he rx ry hr)
 ·obtain⟨v,V,h1,h2,h3⟩:=sa (ty:=ty) (consts:=consts) he ra hr
  exact Gf.same hr h1 h2 h3
def vz(P:Program)(call:aO)(ext:iG)(kp:K)(c:Call)(regs:aI)(h:Heap)(aq:Nat)(k:K):Bool:=
 yD regs c.args.toList fun args=>match c.callee with
  |.builtin b=>td P b c.argTypes.toList args h aq k
  |.invoke recv name=>iC regs recv fun r=>lH P call ext kp r name args h aq k
  |.value f=>iC regs f fun f=>match f with
   |.fn (.func g) first captured=>ke (first++(args++captured)) fun l=>Ed P call ext kp g l h aq k
   |.fn (.method name) (recv::first) _=>ke (first++args) fun l=>lH P call ext kp recv name l h aq k
   |_=>false
def Ef(v:AV)(h:Heap)(aq:Nat)(kp:K):Bool:=match v with
 |.ifc t u=>kp (.ifc t u) h aq
 |_=>false
def pU(P:Program)(call:aO)(ext:iG)(kp:K)(op:Op)(regs:aI)(h:Heap)(aq:Nat)(k:K):Bool:=match op with
 |.call c=>vz P call ext kp c regs h aq k
 |.panic x=>iC regs x fun v=>Ef v h aq kp
 |op=>Ec P op regs h aq k
theorem y9[JC]{P:Program}{call:aO}{ext:iG}(aQ:bj P call)(fO:om P ext){o:Oper}{k kp:K}(he:pU P call ext kp o.op regs h aq k=true)(r:Rr E regs a.tmps)(hr:HR E h aq w)(hj:JC.J E h w):
  JV P o a E h w k kp:=by
 unfold pU at he;split at he
 ·rename_i c hop
  unfold vz at he;obtain⟨args,ra,he⟩:=sX r _ he;have ra:aP E args (c.args.map a.eval).toList:=by simpa using ra
  split at he
  ·rename_i b hc
   refine JV.QY ?_;have gY:execOp a.eval o=builtin b c.argTypes o.type (c.args.map fun|.const _=>true|_=>false) (c.args.map a.eval):=by
    simp only[execOp,hop,resolve,hc];rfl
   rw[gY];exact Ee he ra hr
  ·rename_i recv name hc
   obtain⟨rv,hrv,he⟩:=bN he r;refine yi aQ fO he hrv ra hr hj ?_;have e1:(#[a.eval recv]++c.args.map a.eval)[0]? =some (a.eval recv):=by
    rw[Array.getElem?_append_left (by simp)];rfl
   have e2:(#[a.eval recv]++c.args.map a.eval).extract 1 (#[a.eval recv]++c.args.map a.eval).size=c.args.map a.eval:=by
    apply Array.ext';simp only[Array.toList_extract,Array.toList_append,Array.toList_map,List.extract_eq_take_drop];simp;exact List.take_of_length_le (by simp)
   have e3:execOp a.eval o=invoke (.fn (.method name) #[]) (#[a.eval recv]++c.args.map a.eval):=by
    simp only[execOp,hop,resolve,hc];rfl
   rw[e3];simp only[invoke,e1,e2]
  ·rename_i f hc
   obtain⟨fv,hfv,he⟩:=bN he r;split at he<;>try (cases he;done)
   ·rename_i g first captured
    rw[Rv] at hfv;obtain⟨vs,ws,hf,h1,h2⟩:=hfv;rw[kX] at he;refine Mp aQ fO (ARGS:=vs.toArray++c.args.map a.eval++ws.toArray) he ?_ hr hj ?_
    ·have:=h1.append (ra.append h2)
     simpa[Array.toList_append] using this
    ·simp[execOp,hop,resolve,hc,hf,Deferred.ofValue,invoke]
   ·rename_i name recv first captured
    rw[Rv] at hfv;obtain⟨vs,ws,hf,h1,h2⟩:=hfv;rw[aP] at h1;obtain⟨V,tT,rfl,rv,h1⟩:=h1;rw[kX] at he;refine yi aQ fO (ARGS:=tT.toArray++c.args.map a.eval) he rv ?_ hr hj ?_
    ·have:=h1.append ra
     simpa[Array.toList_append] using this
    ·have e3:execOp a.eval o=invoke (.fn (.method name) ws.toArray) ((V::tT).toArray++c.args.map a.eval):=by
      simp only[execOp,hop,resolve,hc,hf,Deferred.ofValue];rfl
     have e1:((V::tT).toArray++c.args.map a.eval)[0]? =some V:=by
      rw[Array.getElem?_append_left (by simp)];rfl
     have e2:((V::tT).toArray++c.args.map a.eval).extract 1 ((V::tT).toArray++c.args.map a.eval).size=tT.toArray++c.args.map a.eval:=by
      apply Array.ext';simp only[Array.toList_extract,Array.toList_append,Array.toList_map,List.extract_eq_take_drop];simp;exact List.take_of_length_le (by simp)
     rw[e3];simp only[invoke,e1,e2]
 ·rename_i x hop
  obtain⟨v,hv,he⟩:=bN he r;unfold Ef at he;split at he<;>try (cases he;done)
  rename_i t u;intro Q hp;have Al:=hv;rw[Rv] at Al;obtain⟨U,e,_⟩:=Al;have gY:(execOp a.eval o).run P w=.halt (.panic (a.eval x)) w:=by
   simp only[execOp,hop,e];rfl
  unfold Oper.wp;rw[gY,Oper.upon_panic];exact hp _ _ ⟨_,h,aq,E,hv,hr,bk.refl _ _ _,he⟩
 ·exact JV.QY (JU he r hr)
end
def bK{A:Type}(f:(A->Bool)->Bool):Prop:=(∀k,f k=false)∨∃x,∀k,f k=k x
section
variable{A B:Type}
theorem bK.no:bK (fun _:A->Bool=>false):=.inl fun _=>rfl
theorem bK.ret(x:A):bK (fun k=>k x):=.inr ⟨x,fun _=>rfl⟩
theorem bK.bind{f:(A->Bool)->Bool}{g:A->(B->Bool)->Bool}(hf:bK f)(hg:∀x,bK (g x)):bK (fun k=>f fun x=>g x k):=by
 rcases hf with hf|⟨x,hf⟩
 ·exact .inl fun k=>hf _
 ·rcases hg x with hx|⟨y,hx⟩
  ·exact .inl fun k=>(hf _).trans (hx k)
  ·exact .inr ⟨y,fun k=>(hf _).trans (hx k)⟩
theorem bK.bc{b:Bool}{f g:(A->Bool)->Bool}(hf:bK f)(hg:bK g):bK (fun k=>bc b (f k) (g k)):=by
 cases b
 ·exact hg
 ·exact hf
theorem bK.guard{b:Bool}{f:(A->Bool)->Bool}(hf:bK f):bK (fun k=>Vx.bc b (f k) false):=bK.bc hf .no
theorem bK.JY{b:Bool}{f:(A->Bool)->Bool}(hf:bK f):bK (fun k=>Vx.bc b false (f k)):=bK.bc .no hf
theorem bK.congr{f g:(A->Bool)->Bool}(h:bK f)(e:∀k,g k=f k):bK g:=by
 rcases h with h|⟨x,h⟩
 ·exact .inl fun k=>(e k).trans (h k)
 ·exact .inr ⟨x,fun k=>(e k).trans (h k)⟩
theorem bK.val{f:(A->Bool)->Bool}(h:bK f){k:A->Bool}(he:f k=true):∃x,(∀k,f k=k x)∧k x=true:=by
 rcases h with h|⟨x,h⟩
 ·rw[h] at he;cases he
 ·exact⟨x,h,(h k).symm.trans he⟩
end
theorem jR(v:AV):bK (force v):=.inr ⟨v,force_eq v⟩
theorem iH(n:Nat):bK (aM n):=.inr ⟨n,aC n⟩
theorem JZ(n:Int):bK (DT n):=.inr ⟨n,wM n⟩
theorem fy(n:Bool):bK (j7 n):=.inr ⟨n,ft n⟩
theorem Am(l:List AV):bK (ke l):=.inr ⟨l,kX l⟩
theorem VV(c:T AV)(n off:Nat):bK (rdN c n off):=.inr ⟨_,DY c n off⟩
theorem VW(c:Cs)(n off:Nat):bK (Gl c n off):=.inr ⟨_,kW c n off⟩
theorem wR(n:Int):bK (yd n):=by
 cases n with
 |ofNat m=>exact .inr ⟨m,fun _=>rfl⟩
 |negSucc m=>exact .inl fun _=>rfl
theorem cI(regs:aI)(x:Operand):bK (iC regs x):=by
 cases x
 ·exact jR _
 ·exact jR _
 ·exact .ret _
 ·exact .ret _
theorem vB(regs:aI):∀xs,bK (yD regs xs)
 |[]=>.ret []
 |x::xs=>(cI regs x).bind fun v=>(vB regs xs).bind fun l=>.ret (v::l)
theorem CW(regs:aI):∀xs,bK (yh regs xs)
 |[]=>.ret []
 |(i,x)::xs=>(cI regs x).bind fun v=>(CW regs xs).bind fun l=>.ret ((i,v)::l)
theorem Ao(regs:aI)(x:Option Operand):bK (QV regs x):=by
 cases x
 ·exact .ret none
 ·exact(cI regs _).bind fun v=>.ret (some v)
theorem Ap(v:AV):bK (mY v):=by
 by_cases hag:∃cs,v=.ag cs
 ·obtain⟨cs,rfl⟩:=hag
  exact bK.guard (b:=cj cs) (.ret cs)
 ·refine bK.congr (f:=fun k=>bc (leaf v) (k [v]) false) (bK.guard (.ret _)) fun k=>?_
  cases v<;>first|rfl|exact absurd ⟨_,rfl⟩ hag
theorem Oy(l c:List AV)(o:Nat):bK (CK l c o):=Am _
theorem wS(place:Nat->Option (Nat×Nat)):∀(ps:List (Nat×AV))(cells:List AV),bK (zN place ps cells)
 |[],cells=>.ret cells
 |(i,v)::ps,cells=>by
  show bK (fun k=>match place i with
   |some (off,size)=>mY v fun l=>bc (vh l size) (bc (Nat.ble (off+size) (List.length cells)) (CK l cells off fun ma=>zN place ps ma k) false) false
   |none=>false)
  cases place i with
  |none=>exact .no
  |some p=>exact(Ap v).bind fun l=>bK.guard (bK.guard ((Oy _ _ _).bind fun c=>wS place ps c))
theorem GU(P:Program)(t:TypeId)(ps:List (Nat×AV)):bK (oe P t ps):=by
 unfold oe;try dsimp only
 cases P.info? t with
 |none=>exact .no
 |some i=>
  obtain⟨d0,s0,sz,by0,hp,al,fa,zero,cm,ms⟩:=i;cases zero with
  |none=>exact .no
  |some z=>
   cases P.underlying t with
   |none=>exact .no
   |some d=>
    cases d with
    |struct fs=>exact bK.guard ((wS _ _ _).bind fun l=>.ret _)
    |array n el=>
     dsimp only;try dsimp only
     cases P.info? el with
     |none=>exact .no
     |some j=>exact(wS _ _ _).bind fun l=>.ret _
    |_=>exact .no
theorem GV(P:Program)(t:TypeId)(n:Nat)(c:Cs)(off:Nat):bK (oa P t n c off):=by
 unfold oa;cases P.underlying t with
 |none=>exact .no
 |some d=>
  cases P.info? t with
  |none=>exact .no
  |some i=>exact bK.bc (bK.guard ((VW _ _ _).bind fun l=>.ret _)) (bK.guard (jR _))
theorem vC(P:Program)(t:TypeId)(n:Nat)(c:T AV)(off:Nat):bK (mX P t n c off):=by
 unfold mX;cases P.underlying t with
 |none=>exact .no
 |some d=>
  cases P.info? t with
  |none=>exact .no
  |some i=>exact bK.bc (bK.guard ((VV _ _ _).bind fun l=>.ret _)) (bK.guard (jR _))
theorem J0(P:Program)(t:TypeId)(x:AV)(h:Heap):bK (iD P t x h):=by
 cases x with
 |p id off=>
  unfold iD;try dsimp only
  cases T.get AO.gone h id with
  |cells n gB c=>exact GV _ _ _ _ _
  |glob g' n c=>exact vC _ _ _ _ _
  |_=>exact .no
 |pg g off=>
  unfold iD;try dsimp only
  cases T.get AO.gone h (Nat.succ g) with
  |glob g' n c=>exact bK.guard (bK.guard (vC _ _ _ _ _))
  |_=>exact .no
 |_=>exact .no
theorem Oz(v:Value):bK (vn v):=by
 cases v with
 |bool b=>exact(fy _).bind fun x=>.ret _
 |int k n=>exact(JZ _).bind fun x=>.ret _
 |float k n=>exact(iH _).bind fun x=>.ret _
 |_=>exact .no
theorem tf(P:Program)(f:Value->Sem Value)(x:AV):bK (vo P f x):=by
 unfold vo;cases Od x with
 |none=>exact .no
 |some X=>
  cases hp:vm P (f X) with
  |none=>exact bK.no.congr fun k=>by simp only[hp]
  |some V=>exact(Oz V).congr fun k=>by simp only[hp]
theorem CX(P:Program)(f:Value->Value->Sem Value)(x y:AV):bK (dK P f x y):=by
 unfold dK;cases Od x with
 |none=>exact .no
 |some X=>exact tf _ _ _
theorem tg(P:Program)(t:TypeId)(cs:List AV)(off:Nat):bK (uk P t cs off):=by
 unfold uk;cases P.underlying t with
 |none=>exact .no
 |some d=>
  cases P.info? t with
  |none=>exact .no
  |some i=>
   refine bK.bc ((Am _).bind fun l=>.ret _) ?_
   cases List.drop off cs with
   |nil=>exact .no
   |cons v l=>exact jR v
theorem CY(h:Heap)(id:Nat){A:Type}{f:(A->Bool)->Bool}(hf:bK f):bK (fun k=>CR h id (f k)):=by
 unfold CR;cases T.get AO.gone h id with
 |cells n e c=>exact hf
 |_=>exact .no
theorem GW(P:Program)(h:Heap)(d:TypeDesc)(x y:AV):bK (vq P h d x y):=by
 cases d<;>try exact .no
 case pointer el=>
  cases x<;>try exact .no
  case pn=>cases y<;>first|exact .no|exact .ret _
  case p i a=>
   cases y<;>try exact .no
   case pn=>exact .ret _
   case p j b=>
    unfold vq;try dsimp only
    try dsimp only
    cases P.info? el with
    |none=>exact .no
    |some inf=>exact bK.guard (bK.bc (fy _) (CY _ _ (CY _ _ (.ret _))))
 case float kk=>
  cases x<;>try exact .no
  case f k1 a=>
   cases k1
   ·cases y<;>exact .no
   ·cases y<;>try exact .no
    case f k2 b=>cases k2;exact .no;exact fy _
    case nan=>exact .ret _
  case nan=>
   cases y<;>try exact .no
   case f k2 b=>cases k2;exact .no;exact .ret _
   case nan=>exact .ret _
 all_goals
  cases x<;>try exact .no
  all_goals
   cases y<;>first|exact .no|exact .ret _|exact fy _|exact bK.guard (fy _)|exact bK.JY (.ret _)
theorem Mq(v:AV):bK (fun k:Nat×SE->Bool=>seK v fun c e=>k (c,e)):=by
 cases v<;>try exact .no
 case x s e=>cases s<;>exact .ret _
 case b=>exact .ret (0,_)
 case i=>exact .ret (1,_)
 case f k x=>cases k;exact .no;exact .ret (2,_)
 case s=>exact .ret (3,_)
theorem Aq(op:BinOp)(a:SE)(kb:IntKind)(c:Int):bK (zW op a kb c):=by
 cases op<;>first|exact .no|exact .ret _
theorem J2(op:BinOp)(a b:SE):bK (Jx op a b):=by
 cases op<;>first|exact .no|exact .ret _|exact bK.bc (.ret _) (.ret _)
theorem uK(op:BinOp)(a b:SE):bK (oG op a b):=by
 cases b<;>first
  |exact Aq _ _ _ _
  |(cases a<;>first|exact Aq _ _ _ _|exact J2 _ _ _)
theorem vD(fl:Bool)(op:BinOp)(a b:SE):bK (mZ fl op a b):=by
 have m1:bK (fun k:SE->Bool=>match a with|.ls _ _=>k (.cmp .eql b a)|a=>k (.cmp .eql a b)):=by cases a<;>exact .ret _
 have m2:bK (fun k:SE->Bool=>match (generalizing:=false) a with|.ls _ _=>k (.not (.cmp .eql b a))|a=>k (.not (.cmp .eql a b))):=by cases a<;>exact .ret _
 cases op
 case eql=>exact bK.bc (.ret _) m1
 case neq=>exact bK.bc (.ret _) m2
 all_goals exact .ret _
theorem bK.pV{f:(SE->Bool)->Bool}(hf:bK f)(n:Nat):bK (fun k:Nat×SE->Bool=>f fun e=>k (n,e)):=by
 rcases hf with hf|⟨x,hf⟩
 ·exact .inl fun k=>hf _
 ·exact .inr ⟨(n,x),fun k=>hf _⟩
theorem GX(op:BinOp)(x y:AV):bK (fun k:Nat×SE->Bool=>B7 op x y fun c e=>k (c,e)):=by
 have key:∀(c d:Nat)(a b:SE),bK (fun k:Nat×SE->Bool=>bc (Nat.beq c d)
   (match c with
    |0=>(match op with|.eql=>bc (eE a b) (k (0,.lb true)) (k (0,.cmp .eql a b))|_=>false)
    |1=>(match x,y with
     |.x (.i k1) _,.x (.i k2) _=>bc (Nat.beq (kc k1) (kc k2)) (oG op a b fun e=>k (1,e)) false
     |.x (.i k1) _,.i k2 _=>bc (Nat.beq (kc k1) (kc k2)) (oG op a b fun e=>k (1,e)) false
     |.i k1 _,.x (.i k2) _=>bc (Nat.beq (kc k1) (kc k2)) (oG op a b fun e=>k (1,e)) false
     |_,_=>false)
    |2=>mZ true op a b fun e=>k (2,e)
    |3=>mZ false op a b fun e=>k (3,e)
    |_=>false) false):=by
  intro c d a b;refine bK.guard ?_;match c with
  |0=>cases op<;>first|exact .no|exact bK.bc (.ret _) (.ret _)
  |1=>
   cases x<;>try exact .no
   case i=>cases y<;>try exact .no
           rename_i s e;cases s<;>first|exact .no|exact bK.guard ((uK op a b).pV 1)
   case x s e=>
    cases s<;>try exact .no
    cases y<;>try exact .no
    case i=>exact bK.guard ((uK op a b).pV 1)
    case x s e=>cases s<;>first|exact .no|exact bK.guard ((uK op a b).pV 1)
  |2=>exact(vD true op a b).pV 2
  |3=>exact(vD false op a b).pV 3
  |_+4=>exact .no
 exact bK.guard ((Mq x).bind fun p=>(Mq y).bind fun q=>key p.1 q.1 p.2 q.2)
theorem J3(op:BinOp)(x y:AV):bK (Jz op x y):=by
 refine bK.bind (g:=fun(p:Nat×SE)(k:AV->Bool)=>Nat.rec (motive:=fun _=>Bool) false (fun _ _=>k (AV.x Ge.b p.2)) p.1) (GX op x y) fun p=>?_
 obtain⟨c,e⟩:=p;cases c
 ·exact .no
 ·exact .ret _
theorem J5(P:Program)(h:Heap)(d:TypeDesc)(x y:AV):bK (JI P h d x y):=
 bK.bc (bK.bind (g:=fun(p:Nat×SE)(k:SE->Bool)=>bc (VD d p.1) (k p.2) false) (GX _ _ _) fun p=>bK.guard (.ret p.2)) ((GW _ _ _ _ _).bind fun r=>.ret _)
theorem QZ{r:SE}{rest:(SE->Bool)->Bool}(hr:bK rest):bK (VL r rest):=by
 have two:∀e:SE,bK (fun k:SE->Bool=>rest fun r2=>match r2 with
   |.lb x=>bc x (k e) (k (.lb false))
   |e2=>k (.and e e2)):=fun e=>hr.bind (g:=fun r2 k=>match r2 with
   |.lb x=>bc x (k e) (k (.lb false))
   |e2=>k (.and e e2)) fun r2=>by cases r2<;>first|exact .ret _|exact bK.bc (.ret _) (.ret _)
 cases r<;>first|exact two _|exact bK.bc hr (.ret _)
theorem oI(P:Program){ih:TypeId->AV->AV->(SE->Bool)->Bool}(hi:∀t x y,bK (ih t x y))(xs ys:List AV):∀fs,bK (s6 P ih xs ys fs)
 |[]=>.ret _
 |f::fs=>bK.bc (oI P hi xs ys fs) ((tg P _ _ _).bind fun a=>(tg P _ _ _).bind fun b=>(hi _ _ _).bind fun r=>QZ (oI P hi xs ys fs))
theorem Ar(P:Program)(h:Heap):∀d t x y,bK (D1 P h d t x y)
 |0,_,_,_=>.no
 |d+1,t,x,y=>by
  show bK (vr P h (D1 P h d) t x y);unfold vr;cases P.underlying t with
  |none=>exact .no
  |some dd=>
   cases dd<;>try exact J5 _ _ _ _ _
   refine bK.JY ?_;cases x<;>try exact .no
   cases y<;>try exact .no
   exact oI P (Ar P h d) _ _ _
theorem Eg(op:BinOp)(a x b y:Nat):bK (vu op a x b y):=by
 cases op<;>try exact .no
 case add=>exact bK.guard ((iH _).bind fun n=>(iH _).bind fun m=>.ret _)
 case eql=>exact(fy _).bind fun r=>.ret _
 case neq=>exact bK.bc (.ret _) (.ret _)
 case lss=>exact(fy _).bind fun r=>.ret _
 case leq=>exact bK.bc (.ret _) ((fy _).bind fun r=>.ret _)
 case gtr=>exact bK.bc (.ret _) (bK.bc (.ret _) (.ret _))
 case geq=>exact bK.bc (.ret _) (.ret _)
theorem GY(op:BinOp)(a b:Nat):bK (oh op a b):=by
 have key:∀o:Option Nat,bK (fun k:AV->Bool=>match o with|none=>k .nan|some r=>aM r fun r=>k (.f .f64 r)):=by
  intro o;cases o
  ·exact .ret _
  ·exact(iH _).bind fun r=>.ret _
 cases op<;>first|exact .no|exact key _
theorem pW(op:BinOp):bK (pQ op):=by
 cases op<;>first|exact .no|exact .ret _
theorem Q0(P:Program)(op:BinOp)(t:TypeId)(a b:Nat):bK (QF P op t a b):=by
 cases op<;>(unfold QF;dsimp only;first|exact GY _ _ _|exact CX _ _ _ _)
theorem mF(P:Program)(op:BinOp)(t:TypeId)(h:Heap)(x y:AV):bK (eG P op t h x y):=by
 cases op<;>try exact .no
 ·exact bK.bind (g:=fun(r:SE)(k:AV->Bool)=>match r with|.lb r=>k (AV.b r)|e=>k (AV.x Ge.b e)) (Ar P h 10000 t x y) fun r=>by cases r<;>exact .ret _
 ·exact bK.bind (g:=fun(r:SE)(k:AV->Bool)=>match r with|.lb r=>bc r (k (AV.b false)) (k (AV.b true))|e=>k (AV.x Ge.b (.not e))) (Ar P h 10000 t x y) fun r=>by cases r<;>first|exact .ret _|exact bK.bc (.ret _) (.ret _)
theorem J6(P:Program)(op:BinOp)(t:TypeId)(xo yo:Operand)(x y:AV)(h:Heap):bK (Ad P op t xo yo x y h):=by
 cases x<;>try exact .no
 case s=>cases y<;>first|exact .no|exact Eg _ _ _ _ _
 case f kk a=>
  cases kk
  ·exact .no
  ·cases y<;>try exact .no
   case f k2 b=>cases k2;exact .no;exact Q0 _ _ _ _ _
   case nan=>exact pW _
 case nan=>
  cases y<;>try exact .no
  case f k2 b=>cases k2;exact .no;exact pW _
  case nan=>exact pW _
 case inil=>
  cases y<;>try exact .no
  ·exact mF _ _ _ _ _ _
  ·exact bK.guard (mF _ _ _ _ _ _)
 case ag=>
  cases y<;>try exact .no
  exact bK.JY (mF _ _ _ _ _ _)
 all_goals (unfold Ad;dsimp only;first|exact mF _ _ _ _ _ _|exact CX _ _ _ _)
theorem Mr(op:BinOp)(a b:SE)(fs:aB):bK (arF op a b fs):=by
 unfold arF;split
 ·exact bK.bc (bK.bc (.ret _) (bK.guard (.ret _))) (bK.bc (.ret _) (bK.guard (.ret _)))
 ·exact bK.bc (bK.bc (.ret _) (bK.guard (.ret _))) (bK.bc (.ret _) (bK.guard (.ret _)))
 ·exact .no
theorem VX(op:BinOp)(a b:SE)(fs:aB):bK (arS op a b fs):=by
 unfold arS;split
 ·exact bK.guard (bK.guard (.ret _))
 ·exact .no
theorem VY(op:BinOp)(a b:SE)(fs:aB):bK (arI op a b fs):=by
 unfold arI;split
 ·exact bK.guard (.ret _)
 ·exact bK.guard (.ret _)
 ·exact .no
theorem J7(op:BinOp)(x y:AV)(h:Heap):bK (QG op x y h):=by
 refine bK.bc ?_ (bK.bc (J3 _ _ _) ?_)
 ·unfold Ma
  split<;>first|exact pW _|exact VX _ _ _ _|exact VY _ _ _ _|exact Mr _ _ _ _|exact bK.guard (Mr _ _ _ _)|exact .no
 ·unfold D4
  split
  ·exact bK.guard (.ret _)
  ·exact .ret _
  ·exact bK.guard (bK.guard (bK.guard (.ret _)))
  ·exact .no
theorem OA(P:Program)(op:BinOp)(t:TypeId)(xo yo:Operand)(x y:AV)(h:Heap):bK (eU P op t xo yo x y h):=bK.bc (by unfold VO;split;exact bK.bc (.ret _) (.ret _);exact J7 _ _ _ _) (J6 _ _ _ _ _ _ _ _)
theorem sc(P:Program)(ds dd:TypeDesc)(s:Ge)(e:SE):bK (pS P ds dd s e):=by
 unfold pS;split
 ·exact .ret _
 ·exact .ret _
 ·exact bK.guard (bK.guard (.ret _))
 ·exact .ret _
 ·exact .no
theorem Q1(P:Program)(op:UnOp)(x:AV):bK (JP P op x):=by
 unfold JP;split
 ·rename_i e
  cases op<;>first|exact .no|exact .ret _
 ·exact tf _ _ _
theorem nh(P:Program)(src dst:TypeId)(x:AV):bK (uH P src dst x):=by
 unfold uH;try dsimp only
 cases P.underlying src with
 |none=>exact .no
 |some ds=>
  cases P.underlying dst with
  |none=>exact .no
  |some dd=>
   cases dd<;>try exact .no
   case int=>cases x<;>first|exact sc _ _ _ _ _|exact tf _ _ _
   case float=>cases x<;>first|exact sc _ _ _ _ _|exact tf _ _ _
   case string=>
    cases x<;>try exact .no
    case s=>exact .ret _
    case x=>exact sc _ _ _ _ _
    case i=>
     cases ds<;>try exact .no
     exact(wR _).bind fun m=>bK.guard (.ret _)
theorem GZ(P:Program)(src dst:TypeId)(x:AV)(h:Heap):bK (pT P src dst x h):=by
 unfold pT;cases P.underlying src with
 |none=>exact nh _ _ _ _
 |some ds=>
  cases ds<;>try exact nh _ _ _ _
  dsimp only;cases x<;>try exact nh _ _ _ _
  rename_i s e;cases s<;>try exact nh _ _ _ _
  dsimp only;refine bK.bc (nh _ _ _ _) ?_;unfold Mi;cases P.underlying dst with
  |none=>exact .no
  |some dd=>
   cases dd<;>try exact .no
   rename_i kk;cases kk<;>first|exact .no|exact bK.guard (.ret _)
theorem Ca(P:Program)(t:TypeId)(x:AV):bK (o8 P t x):=by
 unfold o8;try dsimp only
 cases P.underlying t with
 |none=>exact .no
 |some d=>
  cases d<;>first
   |exact .no
   |(cases x<;>first|exact .no|exact .ret _)
theorem Eh(P:Program)(t:TypeId)(x:AV)(lo hi mx:Option AV)(h:Heap):bK (rY P t x lo hi mx h):=by
 unfold rY;split
 ·split<;>try exact .no
  cases P.underlying t with
  |none=>exact .no
  |some d=>
   cases d<;>try exact .no
   rename_i el;dsimp only;cases P.info? el with
   |none=>exact .no
   |some i=>
    dsimp only;split
    ·exact bK.guard (bK.guard (bK.guard (.ret _)))
    ·exact .no
 ·exact .no
theorem yH(P:Program)(s:TypeId)(x:AV)(f:Nat):bK (iE P s x f):=by
 cases x<;>try exact .no
 all_goals
  unfold iE;cases P.underlying s with
  |none=>exact .no
  |some d=>?_
 all_goals
  cases d<;>try exact .no
  rename_i fs;dsimp only;cases fs[f]? with
  |none=>exact .no
  |some uG=>?_
 all_goals
  dsimp only;cases P.info? uG.type with
  |none=>exact .no
  |some i=>exact bK.guard ((iH _).bind fun o=>.ret _)
theorem G0(P:Program)(t:TypeId)(x:AV)(f:Nat):bK (pL P t x f):=by
 cases x<;>try exact .no
 unfold pL;cases P.underlying t with
 |none=>exact .no
 |some d=>
  cases d<;>try exact .no
  rename_i fs;dsimp only;cases fs[f]? with
  |none=>exact .no
  |some uG=>exact tg P _ _ _
theorem yI(P:Program)(t:TypeId)(x ix:AV):bK (iF P t x ix):=by
 cases ix<;>try exact .no
 unfold iF;try dsimp only
 refine(wR _).bind fun m=>?_
 cases P.underlying t with
 |none=>exact .no
 |some d=>
  cases d<;>try exact .no
  all_goals
   rename_i el;try dsimp only
   cases P.info? el with
   |none=>exact .no
   |some i=>
    cases x<;>first|exact .no|exact bK.guard ((iH _).bind fun o=>.ret _)
theorem OB(P:Program)(t:TypeId)(x ix:AV)(h:Heap):bK (Mn P t x ix h):=by
 unfold Mn;cases QW ix with
 |false=>exact yI P t x ix
 |true=>
  show bK (rZ P t x ix h);cases ix<;>try exact .no
  rename_i s e;cases s<;>try exact .no
  rename_i kk;cases kk<;>try exact .no
  unfold rZ;try dsimp only
  cases symI e (au h) with
  |none=>exact .no
  |some l=>
   try dsimp only
   cases P.underlying t with
   |none=>exact .no
   |some d=>
    cases d<;>try exact .no
    rename_i el;try dsimp only
    cases P.info? el with
    |none=>exact .no
    |some i=>
     cases x<;>try exact .no
     all_goals
      try dsimp only
      cases T.get AO.gone h (Nat.succ l)<;>first|exact .no|exact bK.guard (bK.guard (.ret _))
theorem G1(P:Program)(t:TypeId)(x ix:AV):bK (oc P t x ix):=by
 cases ix<;>try exact .no
 unfold oc;try dsimp only
 refine(wR _).bind fun m=>?_
 cases P.underlying t with
 |none=>exact .no
 |some d=>
  cases d<;>try exact .no
  case array n el=>
   try dsimp only
   cases P.info? el with
   |none=>exact .no
   |some i=>cases x<;>first|exact .no|exact bK.guard (tg _ _ _ _)
  case string=>cases x<;>first|exact .no|exact bK.guard ((iH _).bind fun o=>.ret _)
theorem Ei(P:Program)(x:AV)(t:TypeId)(c:Bool):bK (rR P x t c):=.no
theorem Cb(x:AV)(i:Nat):bK (mO x i):=by
 cases x<;>try exact .no
 rename_i vs;unfold mO;try dsimp only
 cases List.drop i vs with
 |nil=>exact .no
 |cons v l=>exact jR v
theorem OC(P:Program)(t:TypeId)(x:AV)(h:Heap):bK (GK P t x h):=by
 unfold GK;try dsimp only
 cases P.underlying t with
 |none=>exact .no
 |some d=>
  cases d<;>try exact .no
  case array=>exact .ret _
  case map=>
   cases x<;>first|exact .no|exact .ret _|skip
   rename_i id;dsimp only;cases T.get AO.gone h id with
   |map es c=>exact(iH _).bind fun n=>.ret _
   |_=>exact .no
  all_goals cases x<;>first|exact .no|exact .ret _|(rename_i s e;cases s<;>first|exact .no|exact .ret _)
theorem yJ(P:Program)(b:Builtin)(ts:List TypeId)(args:List AV)(h:Heap):bK (lG P b ts args h):=by
 cases b<;>try exact .no
 case len=>
  match ts,args with
  |[t],[x]=>exact OC _ _ _ _
  |[t],[]=>exact .no
  |[t],_::_::_=>exact .no
  |[],_=>exact .no
  |_::_::_,_=>exact .no
theorem OD(d:TypeDesc)(x y:AV):bK (Aj d x y):=by
 cases d<;>try exact .no
 case bool=>cases x<;>try exact .no
            cases y<;>first|exact .no|exact fy _
 case int=>cases x<;>try exact .no
           cases y<;>first|exact .no|exact bK.guard (fy _)
 case string=>cases x<;>try exact .no
              cases y<;>first|exact .no|exact fy _
theorem CZ(d:TypeDesc)(key:AV):∀es,bK (Mj d key es)
 |[]=>.ret none
 |e::es=>(OD d key e.key).bind fun r=>bK.bc ((jR _).bind fun v=>.ret (some v)) (CZ d key es)
theorem vG(P:Program)(el:TypeId)(ok:Bool):bK (nc P el ok):=by
 unfold nc;cases P.info? el with
 |none=>exact .no
 |some j=>
  cases hz:j.zero with
  |none=>exact bK.no.congr fun k=>by simp only[hz]
  |some z=>exact bK.congr ((jR (DV z)).bind fun z=>bK.bc (b:=ok) (.ret (.tu [z,.b false])) (.ret z)) fun k=>by simp only[hz]
theorem Ej(P:Program)(t:TypeId)(x ix:AV)(ok:Bool)(h:Heap):bK (lE P t x ix ok h):=by
 unfold lE;cases P.underlying t with
 |none=>exact .no
 |some dd=>
  cases dd<;>try exact .no
  rename_i kt el;dsimp only;cases P.underlying kt with
  |none=>exact .no
  |some d=>
   refine bK.guard ?_;cases x<;>try exact .no
   ·rename_i id
    dsimp only;cases T.get AO.gone h id with
    |map es c=>
     refine(CZ d ix es).bind fun r=>?_
     cases r with
     |none=>exact vG _ _ _
     |some v=>exact bK.bc (.ret _) (.ret _)
    |_=>exact .no
   ·exact vG _ _ _
theorem OE(fs:aB)(c:AV){A:Type}{f g:(A->Bool)->Bool}(hf:bK f)(hg:bK g):bK (fun k=>zU fs c (f k) (g k)):=by
 cases c<;>try exact .no
 ·exact bK.bc hf hg
 ·rename_i s e
  cases s<;>try exact .no
  show bK fun k=>d3 (cr fs e) false (f k) (g k)
  match cr fs e with
  |0=>exact .no
  |1=>exact hf
  |_+2=>exact hg
theorem Q2(P:Program)(op:Op)(regs:aI)(h:Heap):bK (qN P op regs h):=by
 cases op<;>try exact .no
 case move x=>exact cI _ _
 case assign x=>exact cI _ _
 case pick c x y=>
  exact(cI _ _).bind fun c=>OE _ _ (cI _ _) (cI _ _)
 case build=>exact(CW _ _).bind fun l=>GU _ _ _
 case load=>exact(cI _ _).bind fun x=>J0 _ _ _ _
 case nilCheck=>
  refine(cI _ _).bind fun v=>?_
  cases v<;>first|exact .no|exact .ret _|skip
  rename_i f l m;cases f<;>first|exact .no|exact .ret _
 case binOp=>exact(cI _ _).bind fun x=>(cI _ _).bind fun y=>OA _ _ _ _ _ _ _ _
 case unOp=>exact(cI _ _).bind fun x=>Q1 _ _ _
 case convert=>exact(cI _ _).bind fun x=>GZ _ _ _ _ _
 case makeInterface=>exact(cI _ _).bind fun x=>Ca _ _ _
 case makeFunc=>exact(vB _ _).bind fun l=>(vB _ _).bind fun m=>.ret _
 case slice=>exact(cI _ _).bind fun x=>(Ao _ _).bind fun lo=>(Ao _ _).bind fun hi=>(Ao _ _).bind fun mx=>Eh _ _ _ _ _ _ _
 case fieldAddr=>exact(cI _ _).bind fun x=>yH _ _ _ _
 case field=>exact(cI _ _).bind fun x=>G0 _ _ _ _
 case indexAddr=>exact(cI _ _).bind fun x=>(cI _ _).bind fun i=>OB _ _ _ _ _
 case index=>exact(cI _ _).bind fun x=>(cI _ _).bind fun i=>G1 _ _ _ _
 case typeAssert=>exact(cI _ _).bind fun x=>Ei _ _ _ _
 case extract=>exact(cI _ _).bind fun x=>Cb _ _
 case lookup=>exact(cI _ _).bind fun x=>(cI _ _).bind fun i=>Ej _ _ _ _ _ _
 case call c=>
  unfold qN;try dsimp only
  cases hc:c.callee with
  |builtin b=>exact bK.congr ((vB _ _).bind fun l=>yJ _ _ _ _ _) fun k=>by simp only[hc];rfl
  |_=>exact bK.no.congr fun k=>by simp only[hc]
variable[JC]
abbrev S:=aI->Heap->Nat->Bool
structure St(D:List Deferred)(E:Env)(regs:aI)(h:Heap)(aq nt:Nat)(a:Act)(w:World):Prop where
 regs:Rr E regs a.tmps
 size:a.tmps.size=nt
 defers:a.defers=D
 heap:HR E h aq w
 j:JC.J E h w
variable{D:List Deferred}
theorem St.put{E:Env}{regs:aI}{h:Heap}{aq nt:Nat}{a:Act}{w:World}(s:St D E regs h aq nt a w){d:Nat}{v:AV}{V:Value}(hd:d+1<=nt)(rv:Rv E v V):
  St D E (T.set v regs d) h aq nt (a.put (some d) V) w:=by
 refine⟨fun t=>?_,by simpa[Act.put] using s.size,by simpa[Act.put] using s.defers,s.heap,s.j⟩;by_cases e:t=d
 ·subst e
  have cL:t<a.tmps.size:=by rw[s.size];omega
  rcases T.bd AV.no v regs t with g|g<;>rw[g]
  ·simpa[Act.put,cL] using rv
  ·simp[Rv]
 ·rw[T.ay _ _ _ _ _ e]
  have:(a.put (some d) V).tmps.getD t undef=a.tmps.getD t undef:=by
   simp[Act.put,j9 (Ne.symm e)]
  rw[this];exact s.regs t
theorem St.mono{E E':Env}{regs:aI}{h h':Heap}{aq aL nt:Nat}{a:Act}{w w':World}(s:St D E regs h aq nt a w)(g:bk E h w E' h' w')(hr:HR E' h' aL w'):St D E' regs h' aL nt a w':=
 ⟨s.regs.mono g.ext,s.size,s.defers,hr,JC.goes s.heap s.j g hr⟩
def cz(C:aI->Prop)(D:List Deferred)(E:Env)(h:Heap)(w:World)(nt:Nat)(kn:S)(kx:Nat->S)(kr:S):Exit->Act->World->Prop:=fun e a' w'=>
 ∃E' av h' aL,St D E' av h' aL nt a' w'∧bk E h w E' h' w'∧(match e with
  |.normal=>kn av h' aL=true
  |.exit i=>kx (Nat.mul 2 (Nat.succ i)) av h' aL=true
  |.goto l=>kx (Nat.succ (Nat.mul 2 l)) av h' aL=true
  |.ret=>kr av h' aL=true
  |.panic c=>C av∧∃V v,c=[{v:=V,recovered:=false}]∧Rv E' v V∧kx 0 (.node v av .nil) h' aL=true
  |_=>False)
abbrev Leaves:=cz fun _=>True
theorem cz.before{C:aI->Prop}{E E1:Env}{h h1:Heap}{w w1:World}{nt:Nat}{kn:S}{kx:Nat->S}{kr:S}{e:Exit}{a':Act}{w':World}(g:bk E h w E1 h1 w1)(l:cz C D E1 h1 w1 nt kn kx kr e a' w'):
  cz C D E h w nt kn kx kr e a' w':=by
 obtain⟨E',av,h',aL,s,g',r⟩:=l;exact⟨E',av,h',aL,s,g.trans g',r⟩
theorem Leaves.before{E E1:Env}{h h1:Heap}{w w1:World}{nt:Nat}{kn:S}{kx:Nat->S}{kr:S}{e:Exit}{a':Act}{w':World}(g:bk E h w E1 h1 w1)(l:Leaves D E1 h1 w1 nt kn kx kr e a' w'):
  Leaves D E h w nt kn kx kr e a' w':=cz.before g l
theorem cz.weak{C:aI->Prop}{E:Env}{h:Heap}{w:World}{nt:Nat}{kn:S}{kx:Nat->S}{kr:S}{e:Exit}{a':Act}{w':World}(l:cz C D E h w nt kn kx kr e a' w'):Leaves D E h w nt kn kx kr e a' w':=by
 obtain⟨E',av,h',aL,s,g',r⟩:=l;refine⟨E',av,h',aL,s,g',?_⟩;cases e<;>first|exact r|exact⟨trivial,r.2⟩
def YR(kx0:S)(regs:aI):K:=fun v h aq=>kx0 (.node v regs .nil) h aq
theorem Leaves.Ek{E:Env}{regs:aI}{h:Heap}{aq nt:Nat}{a:Act}{w:World}{kn:S}{kx:Nat->S}{kr:S}(st:St D E regs h aq nt a w){V:Value}{w':World}(g:ng E h w (YR (kx 0) regs) V w'):
  Leaves D E h w nt kn kx kr (.panic [{v:=V,recovered:=false}]) a w':=by
 obtain⟨v,h',aL,E',r,hr,gs,hk⟩:=g;exact⟨E',regs,h',aL,st.mono gs hr,gs,trivial,V,v,rfl,r,hk⟩
def qv(ops:Array Oper)(o:Oper)(regs:aI)(h:Heap)(yes no:Heap->Bool):Bool:=match o.guard with
 |none=>yes h
 |some (j,b)=>match (ops[j]?).bind (·.dst) with
  |some d=>(match T.get .no regs d with
   |.b x=>bc x (bc b (yes h) (no h)) (bc b (no h) (yes h))
   |.un=>no h
   |.x .b e=>qt (.x .b e) h (fun h=>bc b (yes h) (no h)) (fun h=>bc b (no h) (yes h))
   |_=>false)
  |none=>no h
theorem wU{regs:aI}{E:Env}{a:Act}{ops:Array Oper}{o:Oper}{j:Nat}{b x:Bool}{d:Tmp}(hg:o.guard=some (j,b))(hd:(ops[j]?).bind (·.dst)=some d)(rd:a.tmps.getD d undef=.bool x):
  Region.wanted o (yielded ops a.tmps)=(x==b):=by
 have cL:d<a.tmps.size:=by
  rcases gC d a.tmps.size with hh|hh
  ·exact hh
  ·simp[Array.getElem?_eq_none hh,undef] at rd
 have Ak:a.tmps[d]? =some (.bool x):=by
  simp[cL] at rd⊢;exact rd
 have hy:yielded ops a.tmps j=some x:=by simp[yielded,hd,Ak]
 simp only[Region.wanted,hg,hy];cases x<;>cases b<;>rfl
theorem uq{a:Act}{ops:Array Oper}{o:Oper}{j:Nat}{b:Bool}{d:Tmp}(hg:o.guard=some (j,b))(hd:(ops[j]?).bind (·.dst)=some d)(rd:a.tmps.getD d undef=undef):
  Region.wanted o (yielded ops a.tmps)=false:=by
 have hy:yielded ops a.tmps j=none:=by
  simp only[yielded,hd,Option.bind_some];cases Ak:a.tmps[d]? with
  |none=>rfl
  |some v=>
   have:v=undef:=by simpa[Ak] using rd
   subst this;rfl
 simp[Region.wanted,hg,hy]
theorem vH{E:Env}{regs:aI}{h:Heap}{aq:Nat}{w:World}{a:Act}{ops:Array Oper}{o:Oper}{yes no:Heap->Bool}(he:qv ops o regs h yes no=true)(r:Rr E regs a.tmps)(hr:HR E h aq w):
  ∃h1,HR E h1 aq w∧Fk h h1∧((Region.wanted o (yielded ops a.tmps)=true∧yes h1=true)∨(Region.wanted o (yielded ops a.tmps)=false∧no h1=true)):=by
 unfold qv at he;split at he
 ·rename_i hg
  exact⟨h,hr,Fk.refl h,.inl ⟨by simp[Region.wanted,hg],he⟩⟩
 ·rename_i j b hg
  split at he
  ·rename_i d hd
   have rd:=r d;split at he
   ·rename_i x hx
    rw[hx,Rv] at rd;have hw:=wU (regs:=regs) (E:=E) hg hd rd;refine⟨h,hr,Fk.refl h,?_⟩;rw[hw];cases x<;>cases b<;>simp_all[bc]
   ·rename_i hx
    rw[hx,Rv] at rd;exact⟨h,hr,Fk.refl h,.inr ⟨uq hg hd rd,he⟩⟩
   ·rename_i e hx
    rw[hx] at rd;obtain⟨x,h1,hv,fw,fk,hk⟩:=rM he rd hr;have hw:=wU (regs:=regs) (E:=E) hg hd hv;refine⟨h1,fw,fk,?_⟩;rw[hw];cases x<;>cases b<;>simp_all[bc]
   ·cases he
  ·rename_i hd
   have hy:yielded ops a.tmps j=none:=by simp[yielded,hd]
   exact⟨h,hr,Fk.refl h,.inr ⟨by simp[Region.wanted,hg,hy],he⟩⟩
def Ms(ops:Array Oper)(o:Oper)(regs:aI)(yes no:Bool):Bool:=match o.guard with
 |none=>yes
 |some (j,b)=>match (ops[j]?).bind (·.dst) with
  |some d=>(match T.get .no regs d with
   |.b x=>bc x (bc b yes no) (bc b no yes)
   |.un=>no
   |.x .b _=>bc yes no false
   |_=>false)
  |none=>no
theorem Q3{E:Env}{regs:aI}{a:Act}{ops:Array Oper}{o:Oper}{yes no:Bool}(he:Ms ops o regs yes no=true)(r:Rr E regs a.tmps):
  (Region.wanted o (yielded ops a.tmps)=true∧yes=true)∨(Region.wanted o (yielded ops a.tmps)=false∧no=true):=by
 unfold Ms at he;split at he
 ·rename_i hg
  exact .inl ⟨by simp[Region.wanted,hg],he⟩
 ·rename_i j b hg
  split at he
  ·rename_i d hd
   have rd:=r d;split at he
   ·rename_i x hx
    rw[hx,Rv] at rd;have hw:=wU (regs:=regs) (E:=E) hg hd rd;rw[hw];cases x<;>cases b<;>simp_all[bc]
   ·rename_i hx
    rw[hx,Rv] at rd;exact .inr ⟨uq hg hd rd,he⟩
   ·obtain⟨h1,h2⟩:=aa he
    cases Region.wanted o (yielded ops a.tmps)
    ·exact .inr ⟨rfl,h2⟩
    ·exact .inl ⟨rfl,h1⟩
   ·cases he
  ·rename_i hd
   have hy:yielded ops a.tmps j=none:=by simp[yielded,hd]
   exact .inr ⟨by simp[Region.wanted,hg,hy],he⟩
def iI(dst:Option Tmp)(nt:Nat)(v:AV)(regs:aI)(k:aI->Bool):Bool:=match dst with
 |none=>k regs
 |some d=>bc (Nat.ble (d+1) nt) (T.dj v regs d k) false
theorem th{E:Env}{regs:aI}{h:Heap}{aq nt:Nat}{a:Act}{w:World}{dst:Option Tmp}{v:AV}{V:Value}{k:aI->Bool}(he:iI dst nt v regs k=true)(s:St D E regs h aq nt a w)(rv:Rv E v V):
  ∃av,St D E av h aq nt (a.put dst V) w∧k av=true:=by
 cases dst with
 |none=>exact⟨regs,s,he⟩
 |some d=>
  obtain⟨h1,h2⟩:=aa he;rw[T.bh] at h2;exact⟨_,s.put (aU h1) rv,h2⟩
theorem vI{P:Program}{ops:Array Oper}{Q Q':Exit->Act->World->Prop}(hq:∀e a w,Q e a w->Q' e a w):∀(l:List Nat)(a1:Act)(w2:World),wpOps P ops Q l a1 w2->wpOps P ops Q' l a1 w2:=by
 intro l;induction l with
 |nil=>intro a1 w2 hh;exact hq _ _ _ hh
 |cons i l ih=>
  intro a1 w2 hh;rw[wpOps_cons] at *;unfold wpOp at *;split
  ·rename_i hn;simp only[hn] at hh;exact ih _ _ hh
  ·rename_i o' El
   simp only[El] at hh;split
   ·rename_i D9
    simp only[D9,if_true] at hh;rcases hh with hh|⟨h1,a2,w3,h2⟩
    ·refine .inl ?_
     have h3:=Oper.wp_mono ih hh;unfold Oper.wp at *;generalize (execOp a1.eval o').run P w2=r at *;cases r with
     |ok n w4=>
      cases n<;>simp only[Oper.upon] at h3⊢<;>first
       |exact h3
       |(refine Calls.mono h3 ?_
         intro e w5 QA;cases e with
         |returned v=>exact QA
         |panicked c=>exact hq _ _ _ QA
         |outgrown=>obtain⟨a6,w6,h6⟩:=QA;exact⟨a6,w6,hq _ _ _ h6⟩)
     |halt x w4=>cases x<;>simp only[Oper.upon] at h3⊢<;>first|exact hq _ _ _ h3|exact h3
    ·exact .inr ⟨h1,a2,w3,hq _ _ _ h2⟩
   ·rename_i D9
    simp only[D9] at hh;exact ih _ _ hh
def vJ(P:Program)(call:aO)(ext:iG)(nt:Nat)(ops:Array Oper)(l:List Oper)(kq:S):S->S:=
 List.rec (motive:=fun _=>S->S) (fun kn=>kn)
  (fun o _ ih kn regs h aq=>qv ops o regs h
   (fun h=>pU P call ext (YR kq regs) o.op regs h aq fun v h' aL=>iI o.dst nt v regs fun av=>ih kn av h' aL)
   (fun h=>iI o.dst nt .un regs fun av=>ih kn av h aq)) l
theorem vK{P:Program}{call:aO}{ext:iG}(aQ:bj P call)(fO:om P ext){nt:Nat}{ops:Array Oper}{kn:S}{kx:Nat->S}{kr:S}:
  ∀(l:List Oper)(s:Nat),l=ops.toList.drop s->∀{E:Env}{regs:aI}{h:Heap}{aq:Nat}{a:Act}{w:World},vJ P call ext nt ops l (kx 0) kn regs h aq=true->St D E regs h aq nt a w->
   wpOps P ops (Leaves D E h w nt kn kx kr) (List.range' s l.length) a w
 |[],s,_,E,regs,h,aq,a,w,he,st=>⟨E,regs,h,aq,st,bk.refl _ _ _,he⟩
 |o::l,s,hl,E,regs,h,aq,a,w,he,st=>by
  have VZ:ops[s]? =some o:=by
   have:=congrArg (fun l=>l[0]?) hl;simpa using this.symm
  have Em:l=ops.toList.drop (s+1):=by
   have:=congrArg List.tail hl;simpa using this
  have he:qv ops o regs h
   (fun h=>pU P call ext (YR (kx 0) regs) o.op regs h aq fun v h' aL=>iI o.dst nt v regs fun av=>vJ P call ext nt ops l (kx 0) kn av h' aL)
   (fun h=>iI o.dst nt .un regs fun av=>vJ P call ext nt ops l (kx 0) kn av h aq)=true:=he
  obtain⟨h,fw,fk,he⟩:=vH he st.regs st.heap;refine vI (fun e a w hh=>Leaves.before fk.goes hh) _ _ _ ?_
  have st:St D E regs h aq nt a w:=⟨st.regs,st.size,st.defers,fw,JC.goes st.heap st.j fk.goes fw⟩;rw[List.length_cons,List.range'_succ,wpOps_cons];unfold wpOp;simp only[VZ];rcases he with⟨h1,he⟩|⟨h1,he⟩
  ·rw[if_pos h1]
   refine .inl ?_;refine Oper.wp_mono ?_ (y9 aQ fO he st.regs st.heap st.j (Leaves D E h w nt kn kx kr) fun V w' g=>Leaves.Ek st g)
   rintro a' w' ⟨V,rfl,v,h',aL,E',rv,cO,g,hk⟩;obtain⟨av,dB,hk⟩:=th hk (st.mono g cO) rv;exact vI (fun e a w hh=>Leaves.before g hh) _ _ _ (vK aQ fO l (s+1) Em hk dB)
  ·rw[if_neg (by simp[h1])]
   obtain⟨av,dB,hk⟩:=th he st (V:=undef) (by rw[Rv]);exact vK aQ fO l (s+1) Em hk dB
abbrev jS:=Array Oper->Nat->S->S->S
def fz(P:Program)(draw:jS):Prop:=∀(D:List Deferred)(id:Nat)(ops:Array Oper)(nt:Nat)(kn:S)(kx:Nat->S)(kr:S)(E:Env)(regs:aI)(h:Heap)(aq:Nat)(a:Act)(w:World),
 draw ops nt (kx 0) kn regs h aq=true->St D E regs h aq nt a w->(Code.region id ops true).wp P (Leaves D E h w nt kn kx kr) a w
def As(body:S->S)(kn:Nat):S:=
 Nat.rec (motive:=fun _=>S) (fun _ _ _=>false) (fun _ ih=>body ih) kn
def fU(en:Nat)(s:S):S:=Nat.rec (motive:=fun _=>S) s (fun _ _ _ _ _=>false) en
theorem kj{en:Nat}{s:S}{regs:aI}{h:Heap}{aq:Nat}(he:fU en s regs h aq=true):en=0∧s regs h aq=true:=by
 cases en with
 |zero=>exact⟨rfl,he⟩
 |succ n=>cases he
def qQ(c:Code)(l:Nat):Bool:=(findLabel c l).isSome
def Cc(b:Bool)(x y:S):S:=Bool.rec (motive:=fun _=>S) y x b
theorem wV(b:Bool)(x y:S)(regs:aI)(h:Heap)(aq:Nat):Cc b x y regs h aq=bc b (x regs h aq) (y regs h aq):=by cases b<;>rfl
def yj(c:Code)(go:Nat->(Nat->S)->S)(kx:Nat->S)(n:Nat):Nat->S:=
 Nat.rec (motive:=fun _=>Nat->S) (fun i=>Cc (bc (Nat.beq (Nat.mod i 2) 1) (qQ c (Nat.div i 2)) false) (fun _ _ _=>false) (kx i))
  (fun _ ih i=>Cc (bc (Nat.beq (Nat.mod i 2) 1) (qQ c (Nat.div i 2)) false) (go (Nat.succ (Nat.div i 2)) ih) (kx i)) n
def dD(P:Program)(call:aO)(ext:iG)(draw:jS)(lf nt:Nat)(c:Code):Nat->S->(Nat->S)->S->S:=
 Code.rec (motive:=fun _=>Nat->S->(Nat->S)->S->S)
  (fun en kn _ _=>fU en kn)
  (fun _ ops d en kn kx _=>fU en fun regs h aq=>bc d (draw ops nt (kx 0) kn regs h aq) (vJ P call ext nt ops ops.toList (kx 0) kn regs h aq))
  (fun a _ nK mu en kn kx kr=>Nat.rec (motive:=fun _=>S) (nK 0 (mu 0 kn kx kr) kx kr) (fun l _=>Cc (qQ a l) (nK (Nat.succ l) (mu 0 kn kx kr) kx kr) (mu (Nat.succ l) kn kx kr)) en)
  (fun x _ _ At J8 en kn kx kr=>fU en fun regs h aq=>iC regs x fun v=>qt v h (fun h=>At 0 kn kx kr regs h aq) (fun h=>J8 0 kn kx kr regs h aq))
  (fun id _ ih en kn kx kr=>fU en (ih 0 kn (fun i regs h aq=>bc (Nat.beq i (Nat.mul 2 (Nat.succ id))) (kn regs h aq) (kx i regs h aq)) kr))
  (fun _ ih en _ kx kr=>fU en (As (fun kn=>ih 0 kn kx kr) lf))
  (fun _ _ _ _ _ _ _ _ _ _ _ _ _=>false)
  (fun id en _ kx _=>fU en (kx (Nat.mul 2 (Nat.succ id))))
  (fun c ih en kn kx kr=>fU en (ih 0 kn (yj c (fun e k=>ih e kn k kr) kx lf) kr))
  (fun l en kn _ _=>Nat.rec (motive:=fun _=>S) kn (fun l' _=>Cc (Nat.beq l l') kn (fun _ _ _=>false)) en)
  (fun l en _ kx _=>fU en (kx (Nat.succ (Nat.mul 2 l))))
  (fun en _ _ kr=>fU en kr)
  (fun _ _ _ _ _ _ _ _=>false) c
def En(P:Program)(c:Code)(Q:Exit->Act->World->Prop):Nat->Exit->Act->World->Prop
 |0,.goto l,a,w=>findLabel c l=none∧Q (.goto l) a w
 |n+1,.goto l,a,w=>(findLabel c l=none∧Q (.goto l) a w)∨∃rest,findLabel c l=some rest∧rest.wp P (En P c Q n) a w
 |_,e,a,w=>Q e a w
theorem Cd{P:Program}{c:Code}{Q:Exit->Act->World->Prop}(n:Nat){a:Act}{w:World}(first:c.wp P (En P c Q n) a w):(Code.scope c).wp P Q a w:=by
 intro b k cs;have key:∀n e a w,En P c Q n e a w->∀{s:Machine},Arrives P s b (.inScope c::k) cs e a w->∃e' a' w',Q e' a' w'∧Arrives P s b k cs e' a' w':=by
  intro n;induction n with
  |zero=>
   intro e a w hq s ua;cases e with
   |normal=>exact⟨.normal,a,w,hq,Steps.trans ua (.one step_inScope)⟩
   |exit id=>exact⟨.exit id,a,w,hq,fun k' hk=>ua k' (by simp[exitTo,hk])⟩
   |goto l=>exact⟨.goto l,a,w,hq.2,fun k' hk=>ua k' (by simp[gotoIn,hq.1,hk])⟩
   |ret=>exact⟨_,a,w,hq,ua⟩
   |panic ch=>exact⟨_,a,w,hq,ua⟩
   |outgrown=>exact⟨_,a,w,hq,ua⟩
  |succ n ih=>
   intro e a w hq s ua;cases e with
   |normal=>exact⟨.normal,a,w,hq,Steps.trans ua (.one step_inScope)⟩
   |exit id=>exact⟨.exit id,a,w,hq,fun k' hk=>ua k' (by simp[exitTo,hk])⟩
   |goto l=>
    rcases hq with⟨hl,hq⟩|⟨rest,hl,hr⟩
    ·exact⟨.goto l,a,w,hq,fun k' hk=>ua k' (by simp[gotoIn,hl,hk])⟩
    ·obtain⟨e1,a1,w1,hq1,harr1⟩:=hr b (.inScope c::k) cs
     have hs:=ua (.code rest::.inScope c::k) (by simp[gotoIn,hl]);exact ih e1 a1 w1 hq1 (.of_steps hs harr1)
   |ret=>exact⟨_,a,w,hq,ua⟩
   |panic ch=>exact⟨_,a,w,hq,ua⟩
   |outgrown=>exact⟨_,a,w,hq,ua⟩
 obtain⟨e,a1,w1,hq,ua⟩:=first b (.inScope c::k) cs
 obtain⟨e',a',w',hq',harr'⟩:=key n e a1 w1 hq ua;exact⟨e',a',w',hq',.of_steps (.one step_scope) harr'⟩
def Eo(c:Code):Nat->Option Code
 |0=>some c
 |l+1=>findLabel c l
theorem OF{P:Program}{call:aO}{ext:iG}{draw:jS}(aQ:bj P call)(fO:om P ext)(cE:fz P draw){lf nt:Nat}:
  ∀(c:Code)(en:Nat)(kn:S)(kx:Nat->S)(kr:S)(E:Env)(regs:aI)(h:Heap)(aq:Nat)(a:Act)(w:World),dD P call ext draw lf nt c en kn kx kr regs h aq=true->St D E regs h aq nt a w->
   ∀c',Eo c en=some c'->c'.wp P (Leaves D E h w nt kn kx kr) a w:=by
 intro c;induction c with
 |skip=>
  intro en kn kx kr E regs h aq a w he st c' hc;obtain⟨rfl,he⟩:=kj he;cases hc
  exact wp_skip ⟨E,regs,h,aq,st,bk.refl _ _ _,he⟩
 |region id ops d=>
  intro en kn kx kr E regs h aq a w he st c' hc;obtain⟨rfl,he⟩:=kj he;cases hc
  rcases aR he with⟨rfl,he⟩|⟨rfl,he⟩
  ·exact cE D id ops nt kn kx kr E regs h aq a w he st
  ·refine wp_region ?_
   have:=vK aQ fO (kx:=kx) (kr:=kr) ops.toList 0 (by simp) he st
   rwa [←List.range_eq_range',Array.length_toList] at this
 |seq x y Qv P1=>
  intro en kn kx kr E regs h aq a w he st c' hc;have both:∀{e1:Nat}{x':Code},Eo x e1=some x'->dD P call ext draw lf nt x e1 (dD P call ext draw lf nt y 0 kn kx kr) kx kr regs h aq=true->(Code.seq x' y).wp P (Leaves D E h w nt kn kx kr) a w:=by
   intro e1 x' hx he;refine wp_seq (wp_mono (Qv e1 (dD P call ext draw lf nt y 0 kn kx kr) kx kr E regs h aq a w he st x' hx) ?_);intro e a' w' hl;cases e with
   |normal=>
    obtain⟨E',av,h',aL,dB,g,hk⟩:=hl;exact wp_mono (P1 0 kn kx kr E' av h' aL a' w' hk dB y rfl) fun e a2 w2 h2=>h2.before g
   |_=>exact hl
  cases en with
  |zero=>
   cases hc
   exact both (e1:=0) rfl he
  |succ l=>
   have he:Cc (qQ x l) (dD P call ext draw lf nt x (l+1) (dD P call ext draw lf nt y 0 kn kx kr) kx kr) (dD P call ext draw lf nt y (l+1) kn kx kr) regs h aq=true:=he;have hc:findLabel (.seq x y) l=some c':=hc;rw[wV] at he;unfold findLabel at hc;rcases aR he with⟨hl,he⟩|⟨hl,he⟩
   ·unfold qQ at hl
    cases hf:findLabel x l with
    |none=>rw[hf] at hl;cases hl
    |some x'=>
     rw[hf] at hc;cases hc
     exact both (e1:=l+1) hf he
   ·unfold qQ at hl
    cases hf:findLabel x l with
    |some x'=>rw[hf] at hl;cases hl
    |none=>
     rw[hf] at hc;exact P1 (l+1) kn kx kr E regs h aq a w he st c' hc
 |cond x t e At J8=>
  intro en kn kx kr E regs h aq a w he st c' hc;obtain⟨rfl,he⟩:=kj he;cases hc
  have he:iC regs x (fun v=>qt v h (fun h=>dD P call ext draw lf nt t 0 kn kx kr regs h aq) (fun h=>dD P call ext draw lf nt e 0 kn kx kr regs h aq))=true:=he;obtain⟨v,rv,he⟩:=bN he st.regs;obtain⟨b,h1,hv,fw,fk,he⟩:=rM he rv st.heap;refine wp_mono (wp_cond (Q:=Leaves D E h1 w nt kn kx kr) hv ?_) fun e a w hh=>Leaves.before fk.goes hh
  rcases he with⟨rfl,he⟩|⟨rfl,he⟩
  ·exact At 0 kn kx kr E regs h1 aq a w he ⟨st.regs,st.size,st.defers,fw,JC.goes st.heap st.j fk.goes fw⟩ t rfl
  ·exact J8 0 kn kx kr E regs h1 aq a w he ⟨st.regs,st.size,st.defers,fw,JC.goes st.heap st.j fk.goes fw⟩ e rfl
 |block id c ih=>
  intro en kn kx kr E regs h aq a w he st c' hc;obtain⟨rfl,he⟩:=kj he;cases hc
  refine wp_block (wp_mono (ih 0 kn (fun i regs h aq=>bc (Nat.beq i (Nat.mul 2 (Nat.succ id))) (kn regs h aq) (kx i regs h aq)) kr E regs h aq a w he st c rfl) ?_)
  intro e a' w' hl;cases e with
  |exit i=>
   obtain⟨E',av,h',aL,dB,g,hk⟩:=hl;simp only[Exit.inBlock];rcases aR hk with⟨hi,hk⟩|⟨hi,hk⟩
   ·have hi:2*(i+1)=2*(id+1):=aN hi
    rw[if_pos (by omega)];exact⟨E',av,h',aL,dB,g,hk⟩
   ·have hi:2*(i+1)≠2*(id+1):=Nat.ne_of_beq_eq_false hi
    rw[if_neg (by omega)];exact⟨E',av,h',aL,dB,g,hk⟩
  |goto l=>
   obtain⟨E',av,h',aL,dB,g,hk⟩:=hl;rcases aR hk with⟨hi,hk⟩|⟨hi,hk⟩
   ·have hi:2*l+1=2*(id+1):=aN hi
    omega
   ·exact⟨E',av,h',aL,dB,g,hk⟩
  |panic ch=>
   obtain⟨E',av,h',aL,dB,g,_,V,v,hc,rv,hk⟩:=hl;rcases aR hk with⟨hi,hk⟩|⟨hi,hk⟩
   ·have hi:0=2*(id+1):=aN hi
    omega
   ·exact⟨E',av,h',aL,dB,g,trivial,V,v,hc,rv,hk⟩
  |_=>exact hl
 |loop c ih=>
  intro en kn kx kr E regs h aq a w he st c' hc;obtain⟨rfl,he⟩:=kj he;cases hc
  have he:As (fun kn=>dD P call ext draw lf nt c 0 kn kx kr) lf regs h aq=true:=he;refine wp_loop_rounds lf ?_;have key:∀(n:Nat)(E1:Env)(regs:aI)(h1:Heap)(aq:Nat)(a:Act)(w1:World),bk E h w E1 h1 w1->As (fun kn=>dD P call ext draw lf nt c 0 kn kx kr) n regs h1 aq=true->St D E1 regs h1 aq nt a w1->
    Code.rounds P c (Leaves D E h w nt kn kx kr) n a w1:=by
   intro n;induction n with
   |zero=>intro E1 regs h1 aq a w1 _ he _;cases he
   |succ n ihn=>
    intro E1 regs h1 aq a w1 g he st;rw[rounds_succ];refine wp_mono (ih 0 (As (fun kn=>dD P call ext draw lf nt c 0 kn kx kr) n) kx kr E1 regs h1 aq a w1 he st c rfl) ?_
    intro e a' w' hl;cases e with
    |normal=>
     obtain⟨E',av,h',aL,dB,g',hk⟩:=hl;exact ihn E' av h' aL a' w' (g.trans g') hk dB
    |exit i=>obtain⟨E',av,h',aL,dB,g',hk⟩:=hl;exact⟨E',av,h',aL,dB,g.trans g',hk⟩
    |ret=>obtain⟨E',av,h',aL,dB,g',hk⟩:=hl;exact⟨E',av,h',aL,dB,g.trans g',hk⟩
    |goto l=>obtain⟨E',av,h',aL,dB,g',hk⟩:=hl;exact⟨E',av,h',aL,dB,g.trans g',hk⟩
    |panic l=>obtain⟨E',av,h',aL,dB,g',hk⟩:=hl;exact⟨E',av,h',aL,dB,g.trans g',hk⟩
    |outgrown=>obtain⟨_,_,_,_,_,_,hk⟩:=hl;exact hk.elim
  exact key lf E regs h aq a w (bk.refl _ _ _) he st
 |exit id=>
  intro en kn kx kr E regs h aq a w he st c' hc;obtain⟨rfl,he⟩:=kj he;cases hc
  exact wp_exit ⟨E,regs,h,aq,st,bk.refl _ _ _,he⟩
 |scope c ih=>
  intro en kn kx kr E regs h aq a w he st c' hc;obtain⟨rfl,he⟩:=kj he;cases hc
  have key:∀(n:Nat)(en:Nat)(E1:Env)(regs:aI)(h1:Heap)(aq:Nat)(a:Act)(w1:World)(c1:Code),bk E h w E1 h1 w1->
    dD P call ext draw lf nt c en kn (yj c (fun e k=>dD P call ext draw lf nt c e kn k kr) kx n) kr regs h1 aq=true->St D E1 regs h1 aq nt a w1->Eo c en=some c1->
    c1.wp P (En P c (Leaves D E h w nt kn kx kr) n) a w1:=by
   intro n;induction n with
   |zero=>
    intro en E1 regs h1 aq a w1 c1 g he st hc;refine wp_mono (ih en kn _ kr E1 regs h1 aq a w1 he st c1 hc) ?_;intro e a' w' hl;cases e with
    |normal=>exact hl.before g
    |exit i=>
     obtain⟨E',av,h',aL,dB,g',hk⟩:=hl;have hk:Cc (bc (Nat.beq (Nat.mod (Nat.mul 2 (Nat.succ i)) 2) 1) (qQ c (Nat.div (Nat.mul 2 (Nat.succ i)) 2)) false) (fun _ _ _=>false) (kx (Nat.mul 2 (Nat.succ i))) av h' aL=true:=hk;rw[show Nat.mod (Nat.mul 2 (Nat.succ i)) 2=0 from Nat.mul_mod_right 2 (i+1)] at hk;exact⟨E',av,h',aL,dB,g.trans g',hk⟩
    |goto l=>
     obtain⟨E',av,h',aL,dB,g',hk⟩:=hl;have hk:Cc (bc (Nat.beq (Nat.mod (Nat.succ (Nat.mul 2 l)) 2) 1) (qQ c (Nat.div (Nat.succ (Nat.mul 2 l)) 2)) false) (fun _ _ _=>false) (kx (Nat.succ (Nat.mul 2 l))) av h' aL=true:=hk;rw[show Nat.mod (Nat.succ (Nat.mul 2 l)) 2=1 from(by show(2*l+1)%2=1;omega),show Nat.div (Nat.succ (Nat.mul 2 l)) 2=l from(by show(2*l+1)/2=l;omega)] at hk;have hk:Cc (qQ c l) (fun _ _ _=>false) (kx (Nat.succ (Nat.mul 2 l))) av h' aL=true:=hk;rw[wV] at hk;rcases aR hk with⟨_,hk⟩|⟨hl,hk⟩
     ·cases hk
     ·refine⟨?_,E',av,h',aL,dB,g.trans g',hk⟩
      unfold qQ at hl;cases hf:findLabel c l with
      |none=>rfl
      |some _=>rw[hf] at hl;cases hl
    |ret=>exact hl.before g
    |panic l=>
     obtain⟨E',av,h',aL,dB,g',_,V,v,hc,rv,hk⟩:=hl;exact⟨E',av,h',aL,dB,g.trans g',trivial,V,v,hc,rv,hk⟩
    |outgrown=>obtain⟨_,_,_,_,_,_,hk⟩:=hl;exact hk.elim
   |succ n ihn=>
    intro en E1 regs h1 aq a w1 c1 g he st hc;refine wp_mono (ih en kn _ kr E1 regs h1 aq a w1 he st c1 hc) ?_;intro e a' w' hl;cases e with
    |normal=>exact hl.before g
    |exit i=>
     obtain⟨E',av,h',aL,dB,g',hk⟩:=hl;have hk:Cc (bc (Nat.beq (Nat.mod (Nat.mul 2 (Nat.succ i)) 2) 1) (qQ c (Nat.div (Nat.mul 2 (Nat.succ i)) 2)) false) (dD P call ext draw lf nt c (Nat.succ (Nat.div (Nat.mul 2 (Nat.succ i)) 2)) kn (yj c (fun e k=>dD P call ext draw lf nt c e kn k kr) kx n) kr) (kx (Nat.mul 2 (Nat.succ i))) av h' aL=true:=hk;rw[show Nat.mod (Nat.mul 2 (Nat.succ i)) 2=0 from Nat.mul_mod_right 2 (i+1)] at hk;exact⟨E',av,h',aL,dB,g.trans g',hk⟩
    |goto l=>
     obtain⟨E',av,h',aL,dB,g',hk⟩:=hl;have hk:Cc (bc (Nat.beq (Nat.mod (Nat.succ (Nat.mul 2 l)) 2) 1) (qQ c (Nat.div (Nat.succ (Nat.mul 2 l)) 2)) false) (dD P call ext draw lf nt c (Nat.succ (Nat.div (Nat.succ (Nat.mul 2 l)) 2)) kn (yj c (fun e k=>dD P call ext draw lf nt c e kn k kr) kx n) kr) (kx (Nat.succ (Nat.mul 2 l))) av h' aL=true:=hk;rw[show Nat.mod (Nat.succ (Nat.mul 2 l)) 2=1 from(by show(2*l+1)%2=1;omega),show Nat.div (Nat.succ (Nat.mul 2 l)) 2=l from(by show(2*l+1)/2=l;omega)] at hk;have hk:Cc (qQ c l) (dD P call ext draw lf nt c (l+1) kn (yj c (fun e k=>dD P call ext draw lf nt c e kn k kr) kx n) kr) (kx (Nat.succ (Nat.mul 2 l))) av h' aL=true:=hk;rw[wV] at hk;rcases aR hk with⟨hl,hk⟩|⟨hl,hk⟩
     ·unfold qQ at hl
      cases hf:findLabel c l with
      |none=>rw[hf] at hl;cases hl
      |some rest=>exact .inr ⟨rest,hf,ihn (l+1) E' av h' aL a' w' rest (g.trans g') hk dB hf⟩
     ·refine .inl ⟨?_,E',av,h',aL,dB,g.trans g',hk⟩
      unfold qQ at hl;cases hf:findLabel c l with
      |none=>rfl
      |some _=>rw[hf] at hl;cases hl
    |ret=>exact hl.before g
    |panic l=>
     obtain⟨E',av,h',aL,dB,g',_,V,v,hc,rv,hk⟩:=hl;exact⟨E',av,h',aL,dB,g.trans g',trivial,V,v,hc,rv,hk⟩
    |outgrown=>obtain⟨_,_,_,_,_,_,hk⟩:=hl;exact hk.elim
  exact Cd lf (key lf 0 E regs h aq a w c (bk.refl _ _ _) he st rfl)
 |label l=>
  intro en kn kx kr E regs h aq a w he st c' hc;cases en with
  |zero=>cases hc;exact wp_label ⟨E,regs,h,aq,st,bk.refl _ _ _,he⟩
  |succ l'=>
   have he:Cc (Nat.beq l l') kn (fun _ _ _=>false) regs h aq=true:=he;rw[wV] at he;have hc:findLabel (.label l) l'=some c':=hc;rcases aR he with⟨_,he⟩|⟨_,he⟩
   ·unfold findLabel at hc
    split at hc
    ·cases hc;exact wp_skip ⟨E,regs,h,aq,st,bk.refl _ _ _,he⟩
    ·cases hc
   ·cases he
 |goto l=>
  intro en kn kx kr E regs h aq a w he st c' hc;obtain⟨rfl,he⟩:=kj he;cases hc
  exact wp_goto ⟨E,regs,h,aq,st,bk.refl _ _ _,he⟩
 |ret=>
  intro en kn kx kr E regs h aq a w he st c' hc;obtain⟨rfl,he⟩:=kj he;cases hc
  exact wp_ret ⟨E,regs,h,aq,st,bk.refl _ _ _,he⟩
 |_=>intro en kn kx kr E regs h aq a w he;cases he
def Er(P:Program)(r:ResultVar)(regs:aI)(h:Heap)(k:AV->Bool):Bool:=match r with
 |.tmp t=>force (T.get .no regs t) k
 |.cell t ty=>iD P ty (T.get .no regs t) h k
def Au(P:Program)(l:List ResultVar)(regs:aI)(h:Heap):(List AV->Bool)->Bool:=
 List.rec (motive:=fun _=>(List AV->Bool)->Bool) (fun k=>k []) (fun r _ ih k=>Er P r regs h fun v=>ih fun l=>k (v::l)) l
def C0(P:Program)(fn:Func)(regs:aI)(h:Heap)(k:AV->Bool):Bool:=
 Au P fn.results.toList regs h fun l=>match l with
  |[v]=>k v
  |l=>k (.tu l)
theorem OG{P:Program}{r:ResultVar}{regs:aI}{h:Heap}{k:AV->Bool}{E:Env}{aq nt:Nat}{a:Act}{w:World}(he:Er P r regs h k=true)(st:St D E regs h aq nt a w):
  ∃v V,(match r with|.tmp t=>pure (a.tmps.getD t undef)|.cell b t=>do loadVar t (←asAddr (a.tmps.getD b undef)):Sem Value).run P w=.ok V w∧Rv E v V∧k v=true:=by
 cases r with
 |tmp t=>
  have he:force (T.get .no regs t) k=true:=he;rw[force_eq] at he;exact⟨_,a.tmps.getD t undef,rfl,st.regs t,he⟩
 |cell t ty=>
  have he:iD P ty (T.get .no regs t) h k=true:=he;obtain⟨v,V,h1,h2,h3⟩:=CH he (st.regs t) st.heap;refine⟨v,V,?_,h2,h3⟩;rw[←h1];have:∃A,a.tmps.getD t undef=.pointer (some A):=by
   have rt:=st.regs t;unfold iD at he;split at he<;>try (cases he;done)
   ·rename_i id off heq
    rw[heq,Rv] at rt;obtain⟨L,_,e⟩:=rt;exact⟨_,e⟩
   ·rename_i g off heq
    rw[heq,Rv] at rt;exact⟨_,rt⟩
  obtain⟨A,e⟩:=this;show(do loadVar ty (←asAddr (a.tmps.getD t undef)):Sem Value).run P w=_;rw[e];rfl
theorem C1{P:Program}{regs:aI}{h:Heap}{E:Env}{aq nt:Nat}{a:Act}{w:World}(st:St D E regs h aq nt a w):∀(l:List ResultVar){k:List AV->Bool},Au P l regs h k=true->
  ∃vs VS,(l.mapM fun r=>(match r with|.tmp t=>pure (a.tmps.getD t undef)|.cell b t=>do loadVar t (←asAddr (a.tmps.getD b undef)):Sem Value)).run P w=.ok VS w∧aP E vs VS∧k vs=true
 |[],k,he=>⟨[],[],by simp,.nil,he⟩
 |r::l,k,he=>by
  have he:Er P r regs h (fun v=>Au P l regs h fun l=>k (v::l))=true:=he;obtain⟨v,V,h1,h2,he⟩:=OG he st;obtain⟨vs,VS,h3,h4,he⟩:=C1 st l he;refine⟨v::vs,V::VS,?_,.cons h2 h4,he⟩;rw[List.mapM_cons,Sem.run_bind,h1];simp only[Result.andThen_ok,Sem.run_bind,h3,Sem.run_pure]
theorem Av{P:Program}{fn:Func}{regs:aI}{h:Heap}{k:AV->Bool}{E:Env}{aq nt:Nat}{a:Act}{w:World}(he:C0 P fn regs h k=true)(st:St D E regs h aq nt a w):
  ∃v V,(results fn a.tmps).run P w=.ok V w∧Rv E v V∧k v=true:=by
 obtain⟨vs,VS,h1,h2,he⟩:=C1 st _ he;have hm:(results fn a.tmps).run P w=.ok (if h:VS.toArray.size=1 then VS.toArray[0] else .tuple VS.toArray) w:=by
  unfold results;rw[Sem.run_bind];have e:∀(f:ResultVar->Sem Value),(fn.results.mapM f).run P w=((fn.results.toList.mapM f).run P w).andThen fun l w'=>.ok l.toArray w':=by
   intro f;rw[Array.mapM_eq_mapM_toList,Sem.run_map]
  rw[e];exact(congrArg (fun r:Result (List Value)=>(r.andThen fun l w'=>Result.ok l.toArray w').andThen fun vs w'=>(pure (if h:vs.size=1 then vs[0] else .tuple vs):Sem Value).run P w') h1).trans rfl
 have hlen:=h2.length;split at he
 ·rename_i v
  obtain⟨V,rfl,rv⟩:=h2.one;exact⟨v,V,by rw[hm];simp,rv,he⟩
 ·rename_i cR
  have:VS.length≠1:=by
   intro hl;rw[hl] at hlen;match vs,hlen with
   |[v],_=>exact cR v rfl
  exact⟨_,.tuple VS.toArray,by rw[hm];simp[this],by rw[Rv];exact⟨VS,rfl,h2⟩,he⟩
def Mt(o:Oper):Bool:=match o.op with
 |.defer _=>true
 |_=>false
def anyOp(p:Oper->Bool):Code->Bool
 |.region _ ops _=>ops.toList.any p
 |.seq a b=>anyOp p a||anyOp p b
 |.cond _ a b=>anyOp p a||anyOp p b
 |.block _ c=>anyOp p c
 |.loop c=>anyOp p c
 |.scope c=>anyOp p c
 |_=>false
theorem Aw{args:List AV}{ARGS:Array Value}{E:Env}{h:Heap}{aq:Nat}{w:World}{nt:Nat}(ra:aP E args ARGS.toList)(hle:args.length<=nt)(hr:HR E h aq w)(hj:JC.J E h w):
  St [] E (gw args fc 0) h aq nt {tmps:=ARGS++Array.replicate (nt-ARGS.size) undef,defers:=[]} w:=by
 have hla:=ra.length;have hlen:ARGS.size=args.length:=by simpa using hla
 refine⟨fun t=>?_,by simp;omega,rfl,hr,hj⟩;by_cases ht:t<args.length
 ·have:=zJ args ARGS.toList ra t ht
  have e:(ARGS++Array.replicate (nt-ARGS.size) undef).getD t undef=ARGS.toList.getD t undef:=by
   have:t<ARGS.size:=by omega
   simp[Array.getElem?_append,this]
  rw[e];exact this
 ·have:T.get .no (gw args fc 0) t=.no:=by
   have aux:∀(l:List AV)(c:T AV)(o:Nat),o+l.length<=t->T.get .no (gw l c o) t=T.get .no c t:=by
    intro l;induction l with
    |nil=>intro c o _;rfl
    |cons v l tO=>
     intro c o ho;show T.get .no (gw l (T.set v c o) (o+1)) t=_;rw[tO _ _ (by simp at ho;omega),T.ay _ _ _ _ _ (by simp at ho;omega)]
   rw[aux _ _ _ (by omega),fc,T.mV]
  rw[this];simp[Rv]
def YS{α:Type}(x y:α)(i:Nat):α:=Nat.rec (motive:=fun _=>α) x (fun _ _=>y) i
def YT(k:K):S:=fun regs h aq=>match regs with
 |.node v _ _=>k (.pk v) h aq
 |.nil=>false
def wW(P:Program)(call:aO)(ext:iG)(draw:aO->jS)(lf:Nat)(g:FuncId)(args:List AV)(h:Heap)(aq:Nat)(k:K):Bool:=match P.funcs[g]? with
 |some fn=>(match fn.body with
  |some c=>bc (Nat.ble (List.length args) fn.ntmps) (wrL args fc 0 fun regs=>bc (anyOp Mt c) false
    (dD P call ext (draw call) lf fn.ntmps c 0 (fun regs h aq=>C0 P fn regs h fun v=>k v h aq) (YS (YT k) fun _ _ _=>false) (fun regs h aq=>C0 P fn regs h fun v=>k v h aq) regs h aq)) false
  |none=>false)
 |none=>false
abbrev fV:=FuncId->Option (List AV->Heap->Nat->K->Bool)
def fg(P:Program)(sp:fV):Prop:=∀(g:FuncId)(C:List AV->Heap->Nat->K->Bool),sp g=some C->∀(args:List AV)(ARGS:Array Value)(E:Env)(h:Heap)(aq:Nat)(w:World)(k:K),
 C args h aq k=true->aP E args ARGS.toList->HR E h aq w->JC.J E h w->Calls P g ARGS w (Ends E h w k)
theorem fg.none{P:Program}:fg P fun _=>none:=fun _ _ h=>by cases h
def J9(P:Program)(sp:fV)(ext:iG)(draw:aO->jS)(lf:Nat)(n:Nat):aO:=
 Nat.rec (motive:=fun _=>aO) (fun _ _ _ _ _=>false) (fun _ ih g args h aq k=>match sp g with
  |some C=>C args h aq k
  |none=>wW P ih ext draw lf g args h aq k) n
theorem C4{P:Program}{sp:fV}{ext:iG}{draw:aO->jS}(za:fg P sp)(fO:om P ext)(cE:∀call,bj P call->fz P (draw call)){lf:Nat}:∀n,bj P (J9 P sp ext draw lf n)
 |0=>fun g args ARGS E h aq w k he=>by cases he
 |n+1=>by
  intro g args ARGS E h aq w k he ra hr hj;have ih:=C4 za fO cE (lf:=lf) n;have he:(match sp g with
   |some C=>C args h aq k
   |none=>wW P (J9 P sp ext draw lf n) ext draw lf g args h aq k)=true:=he
  split at he
  ·rename_i C hC
   exact za g C hC args ARGS E h aq w k he ra hr hj
  unfold wW at he;split at he<;>try (cases he;done)
  rename_i fn mP;split at he<;>try (cases he;done)
  rename_i c hb;obtain⟨hle,he⟩:=aa he;have hle:=aU hle;rw[Qr] at he;rcases aR he with⟨_,he⟩|⟨_,he⟩
  ·cases he
  have st:=Aw ra hle hr hj;refine calls_of_wp mP hb (wp_mono (OF ih fO (cE _ ih) c 0 _ _ _ E _ h aq _ w he st c rfl) ?_);intro e a' w' hl;obtain⟨E',av,h',aL,dB,g',hk⟩:=hl;have fin:C0 P fn av h' (fun v=>k v h' aL)=true->a'.defers=[]∧∃v,(results fn a'.tmps).run P w'=.ok v w'∧Ends E h w k (.returned v) w':=by
   intro hk;obtain⟨v,V,h1,h2,h3⟩:=Av hk dB;exact⟨dB.defers,V,h1,.inl ⟨V,rfl,v,h',aL,E',h2,dB.heap,g',h3⟩⟩
  cases e with
  |normal=>exact fin hk
  |ret=>exact fin hk
  |exit i=>cases hk
  |goto l=>cases hk
  |panic l=>
   obtain⟨_,V,v,rfl,rv,hk⟩:=hk;exact⟨dB.defers,.inr ⟨V,rfl,v,h',aL,E',rv,dB.heap,g',hk⟩⟩
  |outgrown=>exact hk.elim
end
end Go.Proofs.YtngagklmbbogiaaGreatDoor.Vx
