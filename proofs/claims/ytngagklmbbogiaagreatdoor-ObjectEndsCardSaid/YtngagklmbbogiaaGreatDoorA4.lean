/- Parts of one proof (VxO to VxR). No condition. -/
import Derived.Test.YtngagklmbbogiaaGreatDoorA3
set_option linter.all false
namespace Go.Proofs.YtngagklmbbogiaaGreatDoor.Vx
open Go
noncomputable section
variable{a:Act}{ops:Array Oper}{E E' E0:Env}{g h h' h0 h1:Heap}{k:K}{l:List Nat}{Pr R aq b d full i id j m n n0 nt off sz t:Nat}{o oi:Oper}{P:Program}{V v:Value}{w w' w0:World}{regs:aI}{ext:iG}
section
variable{P:Program}{ops:Array Oper}{Q:Exit->Act->World->Prop}
def Dir(ops:Array Oper)(j i:Nat):Prop:=∃o,ops[j]? =some o∧∃e∈o.after,Region.binds .any e=true∧e.on=i
inductive Reach(ops:Array Oper):Nat->Nat->Prop
 |one {j i:Nat}:Dir ops j i->Reach ops j i
 |more {j k i:Nat}:Dir ops j k->Reach ops k i->Reach ops j i
def pX(ops:Array Oper)(listed:Array Bool):Prop:=∀j i,listed.getD j false=true->Dir ops j i->listed.getD i false=true
abbrev Es(ops:Array Oper)(listed:Array Bool):List Nat:=Region.ready .any ops listed
theorem zb{listed:Array Bool}(h:j∈Es ops listed)(d:Dir ops j i):listed.getD i false=true:=by
 obtain⟨_,o,ho,pM⟩:=mem_ready.1 h;obtain⟨o',El,e,he,hb,rfl⟩:=d;rw[ho] at El;cases El;exact pM e he hb
theorem pX.reach{listed:Array Bool}(c:pX ops listed)(r:Reach ops j i):listed.getD j false=true->listed.getD i false=true:=by
 induction r with
 |one d=>exact fun h=>c _ _ h d
 |more d _ ih=>exact fun h=>ih (c _ _ h d)
theorem pX.Es{listed:Array Bool}(c:pX ops listed)(h:j∈Es ops listed)(r:Reach ops j i):listed.getD i false=true:=by
 cases r with
 |one d=>exact zb h d
 |more d r=>exact c.reach r (zb h d)
theorem pX.set{listed:Array Bool}(c:pX ops listed)(h:j∈Vx.Es ops listed):pX ops (listed.setIfInBounds j true):=by
 intro k i hk d;refine getD_set_true ?_;by_cases e:j=k
 ·subst e;exact zb h d
 ·rw[getD_set_ne false e] at hk;exact c _ _ hk d
theorem Ax{listed:Array Bool}(h:i∈Es ops listed):listed.getD i false=false:=by
 have h0:=(mem_ready.1 h).1;rcases gC i listed.size with h'|h'
 ·simp[h'] at h0⊢;exact h0
 ·simp[Array.getElem?_eq_none h']
abbrev Fr:=Nat->(World->Prop)->Prop
def Fr.rest(ops:Array Oper)(j:Nat)(F:Fr):Fr:=fun i I=>F i I∧¬Reach ops j i
def Fr.kept(F:Fr)(w w':World):Prop:=∀i I,F i I->I w->I w'
def Fr.add(F:Fr)(i:Nat)(I:World->Prop):Fr:=fun k J=>F k J∨(k=i∧J=I)
def vL(P:Program)(ops:Array Oper)(Q:Exit->Act->World->Prop):Nat->Fr->Array Bool->Act->World->Prop
 |0,_,listed,a,w=>Es ops listed=[]∧Q .normal a w
 |n+1,F,listed,a,w=>(Es ops listed=[]->Q .normal a w)∧∀i∈Es ops listed,
   wpOp P ops Q i (fun a' w'=>(F.rest ops i).kept w w'∧vL P ops Q n (F.rest ops i) (listed.setIfInBounds i true) a' w') a w
theorem vL.any:∀{n:Nat}{F:Fr}{listed:Array Bool}{a:Act}{w:World},vL P ops Q n F listed a w->wpAny P .any ops Q n listed a w
 |0,_,_,_,_,h=>h
 |_+1,_,_,_,_,h=>⟨h.1,fun i hi=>wpOp_mono (fun _ _ hh=>hh.2.any) (h.2 i hi)⟩
theorem vL.sub:∀{n:Nat}{F F':Fr}{listed:Array Bool}{a:Act}{w:World},(∀i I,F' i I->F i I)->vL P ops Q n F listed a w->vL P ops Q n F' listed a w
 |0,_,_,_,_,_,_,h=>h
 |_+1,_,_,_,_,_,s,h=>⟨h.1,fun i hi=>wpOp_mono (fun _ _ hh=>⟨fun k I hk hI=>hh.1 k I ⟨s _ _ hk.1,hk.2⟩ hI,hh.2.sub fun k I hk=>⟨s _ _ hk.1,hk.2⟩⟩) (h.2 i hi)⟩
def YI(P:Program)(ops:Array Oper)(I:World->Prop)(o:Oper)(v:Value)(a:Act):Prop:=
 (Region.wanted o (yielded ops a.tmps)=true∧∀w,I w->(execOp a.eval o).run P w=.ok (.value v) w)∨
 (Region.wanted o (yielded ops a.tmps)=false∧v=undef)
theorem YI.wpOp{I:World->Prop}(hi:ops[i]? =some o)(hy:YI P ops I o v a)
  {K:Act->World->Prop} (hI:I w) (h:K (a.put o.dst v) w):wpOp P ops Q i K a w:=by
 unfold Go.wpOp;simp only[hi];rcases hy with⟨hw,hv⟩|⟨hw,rfl⟩
 ·simp only[hw,if_true,Oper.wp,hv w hI,Oper.upon];exact .inl h
 ·simp only[hw,ftQ,if_false];exact h
theorem YI.same{I:World->Prop}{a':Act}(hy:YI P ops I o v a)(he:execOp a'.eval o=execOp a.eval o)
  (hw:Region.wanted o (yielded ops a'.tmps)=Region.wanted o (yielded ops a.tmps)):YI P ops I o v a':=by
 unfold YI at *;rw[he,hw];exact hy
theorem OH{I:World->Prop}{oj:Oper}(hj:ops[j]? =some oj)(hap:oi.apart ops oj=true)
  (hsi:∀cs b,oi.op≠.select cs b) (hsj:∀cs b,oj.op≠.select cs b)
  (hQ:∀c a w,Q (.panic c) (a.put oi.dst v) w->Q (.panic c) a w) (hL:¬LetsOut Q) {K:Act->World->Prop}
  (hy:YI P ops I oi v a) (h:wpOp P ops Q j K (a.put oi.dst v) w):
  wpOp P ops Q j (fun a' w'=>YI P ops I oi v a'∧K (a'.put oi.dst v) w') a w:=by
 obtain⟨h1,h2,h3⟩:=Oper.apart_spec hap;have gT:∀(a:Act),YI P ops I oi v a->∀u,YI P ops I oi v (a.put oj.dst u):=fun a hy u=>
  hy.same (execOp_put oi hsi a oj.dst u h3) (wanted_put oi a oj.dst u h3)
 have keepD:∀d,YI P ops I oi v {a with defers:=d::a.defers}:=fun d=>hy.same rfl rfl
 unfold wpOp at *;simp only[hj] at *;rw[wanted_put oj a oi.dst v h1] at h;by_cases hw:Region.wanted oj (yielded ops a.tmps)=true
 ·rw[if_pos hw] at *
  rcases h with h|⟨_,hlets⟩
  case inr=>exact absurd hlets hL
  refine .inl ?_;unfold Oper.wp at *;rw[execOp_put oj hsj a oi.dst v h1] at h;generalize (execOp a.eval oj).run P w=r at *;cases r with
  |ok n w'=>
   cases n<;>simp only[Oper.upon] at h⊢
   case value u=>exact⟨gT a hy u,by rw[←Act.put_comm a v u h2];exact h⟩
   case skip=>exact⟨gT a hy _,by rw[←Act.put_comm a v undef h2];exact h⟩
   case defer d=>
    refine⟨gT _ (keepD d) _,?_⟩;rw[←Act.put_comm _ v undef h2,←Act.put_defers];exact h
   case enter f args=>
    refine Calls.mono h fun e w'' he=>?_
    cases e with
    |returned u=>exact⟨gT a hy u,by rw[←Act.put_comm a v u h2];exact he⟩
    |panicked c=>exact hQ _ _ _ he
    |outgrown=>exact he
   case row row args=>exact Rows.mono h fun u w'' he=>⟨gT a hy u,by rw[←Act.put_comm a v u h2];exact he⟩
  |halt x w'=>
   cases x<;>simp only[Oper.upon] at h⊢
   case panic u=>exact hQ _ _ _ h
 ·rw[if_neg hw] at *
  exact⟨gT a hy _,by rw[←Act.put_comm a v undef h2];exact h⟩
theorem vL.take{I:World->Prop}(hi:ops[i]? =some oi)(hs:Region.noSelect ops=true)(hQ:∀c a w,Q (.panic c) (a.put oi.dst v) w->Q (.panic c) a w)(hL:¬LetsOut Q):
  ∀(n:Nat)(F:Fr)(listed:Array Bool)(a:Act)(w:World),pX ops listed->
   (∀j oj,ops[j]? =some oj->j≠i->listed.getD j true=false->¬Reach ops j i->oi.apart ops oj=true)->
   i∈Es ops listed->YI P ops I oi v a->I w->vL P ops Q n (F.add i I) (listed.setIfInBounds i true) (a.put oi.dst v) w->vL P ops Q (n+1) F listed a w:=by
 intro n;induction n with
 |zero=>
  intro F listed a w _ _ hr hy hI H;refine⟨fun h=>(by rw[h] at hr;cases hr),fun j hj=>?_⟩;by_cases Q4:j=i
  ·subst Q4;exact hy.wpOp hi hI ⟨fun _ _ _ hh=>hh,H⟩
  ·have:=ready_mono hj Q4
   have h0:Region.ready .any ops (listed.setIfInBounds i true)=[]:=H.1;rw[h0] at this;cases this
 |succ n ih=>
  intro F listed a w hc YU hr hy hI H;refine⟨fun h=>(by rw[h] at hr;cases hr),fun j hj=>?_⟩;by_cases Q4:j=i
  ·subst Q4
   exact hy.wpOp hi hI ⟨fun _ _ _ hh=>hh,H.sub fun k J hk=>.inl hk.1⟩
  ·have h1:=H.2 j (ready_mono hj Q4)
   obtain⟨hjun,oj,YV,pM⟩:=mem_ready.1 hj;have hnot:¬Reach ops j i:=fun r=>by
    have e:=hc.Es hj r;rw[Ax hr] at e;cases e
   have h2:=OH YV (YU j oj YV Q4 hjun hnot) (fun cs b=>Region.noSelect_spec hs i oi cs b hi) (fun cs b=>Region.noSelect_spec hs j oj cs b YV) hQ hL hy h1;refine wpOp_mono (fun a' w' h3=>?_) h2
   obtain⟨h4,h5,h6⟩:=h3;refine⟨fun k J hk hJ=>h5 k J ⟨.inl hk.1,hk.2⟩ hJ,?_⟩;refine ih _ _ a' w' (hc.set hj) ?_ (ready_mono hr (Ne.symm Q4)) h4 (h5 i I ⟨.inr ⟨rfl,rfl⟩,hnot⟩ hI) ?_
   ·intro k ok hk Ce Q5 G2
    refine YU k ok hk Ce ?_ G2;by_cases hjk:j=k
    ·subst hjk;exact hjun
    ·rw[getD_set_ne true hjk] at Q5;exact Q5
   ·rw[Array.setIfInBounds_comm _ _ Q4]
    refine h6.sub fun k J hk=>?_
    rcases hk with hk|⟨rfl,rfl⟩
    ·exact⟨.inl hk.1,hk.2⟩
    ·exact⟨.inr ⟨rfl,rfl⟩,hnot⟩
end
structure gE where
 i:Nat
 o:Oper
 k:Nat
 d:Nat
 b:Nat
 pre:List Nat
def pb(m i:Nat):Bool:=Nat.beq (Nat.mod (Nat.shiftRight m i) 2) 1
def nO(x y:Nat):Bool:=Nat.beq (Nat.land x y) x
def ko(m i:Nat):Nat:=Nat.lor m (Nat.shiftLeft 1 i)
theorem jt:pb m i=true↔m.testBit i=true:=by
 unfold pb;rw[Nat.beq_eq,Nat.testBit_eq_decide_div_mod_eq,decide_eq_true_iff];show m>>>i%2=1↔_;rw[Nat.shiftRight_eq_div_pow]
theorem vM{x y:Nat}:nO x y=true↔∀t,x.testBit t=true->y.testBit t=true:=by
 unfold nO;rw[Nat.beq_eq];show x&&&y=x↔_;constructor
 ·intro h t ht
  have:=congrArg (fun n=>n.testBit t) h;simp only[Nat.testBit_and,ht,Bool.true_and] at this;exact this
 ·intro h
  apply Nat.eq_of_testBit_eq;intro t;rw[Nat.testBit_and];cases hx:x.testBit t
  ·rfl
  ·rw[h t hx];rfl
theorem fW:(ko m i).testBit j=(m.testBit j||decide (i=j)):=by
 unfold ko;show(m|||1<<<i).testBit j=_;rw[Nat.testBit_or,Nat.one_shiftLeft,Nat.testBit_two_pow]
def OI(es:List Edge):Nat:=es.foldr (fun e s=>bif Region.binds .any e then ko s e.on else s) 0
def C5(l:List gE)(t:Nat):Nat:=l.foldr (fun x s=>bif Nat.beq x.i t then x.b else s) 0
def OJ(prev:List gE)(es:List Edge):Nat:=es.foldr (fun e s=>bif Region.binds .any e then Nat.lor (ko s e.on) (C5 prev e.on) else s) 0
def V7(kd:Oper->Nat):List Oper->Nat->List gE->List gE
 |[],_,prev=>prev
 |o::l,j,prev=>V7 kd l (j+1) (⟨j,o,kd o,OI o.after.toList,OJ prev o.after.toList,[]⟩::prev)
structure pc(ops:Array Oper)(x:gE):Prop where
 op:ops[x.i]? =some x.o
 dir:∀t,x.d.testBit t=true↔Dir ops x.i t
 bef:∀t,x.b.testBit t=true->Reach ops x.i t
theorem Q6{es:List Edge}:(OI es).testBit t=true↔∃e∈es,Region.binds .any e=true∧e.on=t:=by
 induction es with
 |nil=>simp[OI]
 |cons e es ih=>
  show(bif Region.binds .any e then ko (OI es) e.on else OI es).testBit t=true↔_;cases hb:Region.binds .any e
  ·simp only[cond_false,ih,mcQ]
   constructor
   ·rintro⟨e',h1,h2,h3⟩;exact⟨e',.inr h1,h2,h3⟩
   ·rintro⟨e',h1|h1,h2,h3⟩
    ·subst h1;rw[hb] at h2;cases h2
    ·exact⟨e',h1,h2,h3⟩
  ·simp only[cond_true,fW,Bool.or_eq_true,ih,mcQ,decide_eq_true_iff]
   constructor
   ·rintro(⟨e',h1,h2,h3⟩|h)
    ·exact⟨e',.inr h1,h2,h3⟩
    ·exact⟨e,.inl rfl,hb,h⟩
   ·rintro⟨e',h1|h1,h2,h3⟩
    ·subst h1;exact .inr h3
    ·exact .inl ⟨e',h1,h2,h3⟩
theorem G3{l:List gE}(hl:∀x∈l,pc ops x){k:Nat}(h:(C5 l k).testBit t=true):Reach ops k t:=by
 induction l with
 |nil=>simp[C5] at h
 |cons x l ih=>
  have h:(bif Nat.beq x.i k then x.b else C5 l k).testBit t=true:=h;cases hb:Nat.beq x.i k
  ·rw[hb] at h;exact ih (fun y hy=>hl y (by simp[hy])) h
  ·rw[hb] at h
   have:=aN hb;subst this;exact(hl x (by simp)).bef t h
theorem J'{l:List gE}(hl:∀x∈l,pc ops x){es:List Edge}(QL:∀e∈es,Region.binds .any e=true->Dir ops j e.on)(h:(OJ l es).testBit t=true):Reach ops j t:=by
 induction es with
 |nil=>simp[OJ] at h
 |cons e es ih=>
  have h:(bif Region.binds .any e then Nat.lor (ko (OJ l es) e.on) (C5 l e.on) else OJ l es).testBit t=true:=h;have ih:=ih (fun e he=>QL e (by simp[he]));cases hb:Region.binds .any e
  ·rw[hb] at h;exact ih h
  ·rw[hb] at h
   have h:(ko (OJ l es) e.on|||C5 l e.on).testBit t=true:=h;rw[Nat.testBit_or,Bool.or_eq_true,fW,Bool.or_eq_true,decide_eq_true_iff] at h;have d:=QL e (by simp) hb;rcases h with(h|h)|h
   ·exact ih h
   ·subst h;exact .one d
   ·exact .more d (G3 hl h)
theorem Et{kd:Oper->Nat}{ops:Array Oper}:∀(l:List Oper)(j:Nat)(prev:List gE),l=ops.toList.drop j->(∀x∈prev,pc ops x)->∀x∈V7 kd l j prev,pc ops x
 |[],_,prev,_,hp=>hp
 |o::l,j,prev,hl,hp=>by
  have YV:ops[j]? =some o:=by
   have:=congrArg (fun l=>l[0]?) hl;simpa using this.symm
  have Em:l=ops.toList.drop (j+1):=by
   have:=congrArg List.tail hl;simpa using this
  refine Et l (j+1) _ Em ?_;intro x hx;rcases mcQ.1 hx with rfl|hx
  ·refine⟨YV,fun t=>?_,fun t h=>?_⟩
   ·show(OI o.after.toList).testBit t=true↔_
    rw[Q6];constructor
    ·rintro⟨e,h1,h2,h3⟩;exact⟨o,YV,e,by simpa using h1,h2,h3⟩
    ·rintro⟨o',El,e,h1,h2,h3⟩
     rw[YV] at El;cases El;exact⟨e,by simpa using h1,h2,h3⟩
   ·exact J' hp (fun e he hb=>⟨o,YV,e,by simpa using he,hb,rfl⟩) h
  ·exact hp x hx
def uL(P:Program)(nt:Nat)(o:Oper):Bool:=match o.op with
 |.alloc t=>(match P.info? t with
  |some i=>i.zero.isSome&&(o.guard.isNone&&(match o.dst with|some d=>Nat.ble (d+1) nt|none=>false))
  |none=>false)
 |_=>false
theorem OK(h:uL P nt o=true):∃t i z d,o.op=.alloc t∧P.info? t=some i∧i.zero=some z∧o.guard=none∧o.dst=some d∧d<nt:=by
 unfold uL at h;split at h<;>try (cases h;done)
 rename_i t ht;split at h<;>try (cases h;done)
 rename_i i hi;simp only[Bool.and_eq_true] at h;obtain⟨h1,h2,h3⟩:=h;obtain⟨z,hz⟩:=Option.isSome_iff_exists.1 h1;split at h3
 ·rename_i d hd
  exact⟨t,i,z,d,ht,hi,hz,by simpa using h2,hd,aU h3⟩
 ·cases h3
def vN(nt:Nat)(o:Oper):Bool:=(match o.op with
 |.alloc _|.buildSlice ..|.makeSlice ..|.makeMap _ none=>true
 |.binOp .quo ..=>true
 |_=>false)&&(match o.dst with|some d=>Nat.ble (d+1) nt|none=>false)
theorem OL(h:vN nt o=true):∃d,o.dst=some d∧d<nt:=by
 unfold vN at h;rw[Bool.and_eq_true] at h;obtain⟨_,h⟩:=h;split at h
 ·rename_i d hd;exact⟨d,hd,aU h⟩
 ·cases h
def uM(ops:Array Oper)(o:Oper):Bool:=match o.dst with|some d=> !((o.looksAt ops).contains d)|none=>true
theorem OM(h:uM ops o=true):∀d,o.dst=some d->d∉o.looksAt ops:=by
 intro d hd;unfold uM at h;rw[hd] at h;simpa using h
def gZ(m:Nat)(l:List Nat):Nat:=l.foldr (fun j s=>ko s j) m
theorem G4:(gZ m l).testBit j=true↔m.testBit j=true∨j∈l:=by
 induction l with
 |nil=>simp[gZ]
 |cons x l ih=>
  show(ko (gZ m l) x).testBit j=true↔_;rw[fW,Bool.or_eq_true,ih,decide_eq_true_iff,mcQ];constructor
  ·rintro((h|h)|h)
   ·exact .inl h
   ·exact .inr (.inr h)
   ·exact .inr (.inl h.symm)
  ·rintro(h|h|h)
   ·exact .inl (.inl h)
   ·exact .inr h.symm
   ·exact .inl (.inr h)
def C6(f:gE->Bool):List gE->Option (gE×List gE)
 |[]=>none
 |x::l=>bif f x then some (x,l) else match C6 f l with
  |some (y,l')=>some (y,x::l')
  |none=>none
theorem ti{f:gE->Bool}:∀{l:List gE}{y:gE}{l':List gE},C6 f l=some (y,l')->y∈l∧∀z∈l',z∈l
 |[],_,_,h=>by cases h
 |x::l,y,l',h=>by
  unfold C6 at h;cases hf:f x
  ·rw[hf] at h
   simp only[cond_false] at h;split at h
   ·rename_i y' l'' he
    obtain⟨h1,h2⟩:=ti he;cases h
    exact⟨by simp[h1],fun z hz=>by rcases mcQ.1 hz with rfl|hz<;>simp[*]⟩
   ·cases h
  ·rw[hf] at h
   simp only[cond_true,siQ,Prod.mk.injEq] at h;obtain⟨rfl,rfl⟩:=h;exact⟨by simp,fun z hz=>by simp[hz]⟩
def Mu(st:Oper->Bool)(rem:List gE)(D Pr:Nat):List Nat:=
 let all:=Nat.lor D (rem.foldr (fun z m=>bif Nat.beq z.k 4 then ko m z.i else m) 0);let may:=Nat.lor D (rem.foldr (fun z m=>bif Nat.beq z.k 4 then bif (bif pb Pr z.i then true else st z.o) then bif nO z.d all then ko m z.i else m else m else m) 0)
 rem.foldr (fun y s=>bif Nat.beq y.k 4 then bif pb Pr y.i then s else bif st y.o then s else bif nO y.d may then y.i::s else s else s) []
def gE.yk(x:gE)(l:List Nat):gE:=⟨x.i,x.o,x.k,x.d,x.b,l⟩
def aloneB(rem:List gE)(D:Nat)(x:gE):Bool:=
 let all:=Nat.lor D (rem.foldr (fun z m=>bif Nat.beq z.k 4 then(bif Nat.beq z.i x.i then m else ko m z.i) else m) 0)
 rem.foldr (fun y b=>bif Nat.beq y.k 4 then b else bif nO y.d all then false else b) true
def Ka(st:Oper->Bool):Nat->Nat->Nat->Nat->List gE->List (gE×Nat)
 |0,_,_,_,_=>[]
 |n+1,D,R,Pr,rem=>match C6 (fun x=>bif Nat.ble 2 x.k then false else nO x.d D) rem with
  |some (x,G5)=>(x,x.k)::Ka st n (ko D x.i) (bif Nat.beq x.k 1 then ko R x.i else R) Pr G5
  |none=>match C6 (fun x=>bif Nat.ble 4 x.k then false else nO x.d D) rem with
   |some (x,G5)=>(x.yk (Mu st rem D Pr),bif nO R x.b then 2 else 3)::Ka st n (ko D x.i) R (gZ Pr (Mu st rem D Pr)) G5
   |none=>match C6 (fun x=>bif nO x.d D then aloneB rem D x else false) rem with
    |some (x,G5)=>(x.yk (Mu st rem D Pr),4)::Ka st n (ko D x.i) R (gZ Pr (Mu st rem D Pr)) G5
    |none=>[]
theorem sd(st:Oper->Bool):∀(n D R Pr:Nat)(rem:List gE),∀p∈Ka st n D R Pr rem,∃x∈rem,∃l,p.1=x.yk l
 |0,_,_,_,_,p,h=>by cases h
 |n+1,D,R,Pr,rem,p,h=>by
  have self:∀x:gE,x=x.yk x.pre:=fun _=>rfl
  unfold Ka at h;split at h
  ·rename_i x G5 hx
   obtain⟨h1,h2⟩:=ti hx;rcases mcQ.1 h with rfl|h
   ·exact⟨x,h1,x.pre,self x⟩
   ·obtain⟨y,hy,e⟩:=sd st n _ _ _ _ p h;exact⟨y,h2 y hy,e⟩
  ·split at h
   ·rename_i x G5 hx
    obtain⟨h1,h2⟩:=ti hx;rcases mcQ.1 h with rfl|h
    ·exact⟨x,h1,_,rfl⟩
    ·obtain⟨y,hy,e⟩:=sd st n _ _ _ _ p h;exact⟨y,h2 y hy,e⟩
   ·split at h
    ·rename_i x G5 hx
     obtain⟨h1,h2⟩:=ti hx;rcases mcQ.1 h with rfl|h
     ·exact⟨x,h1,_,rfl⟩
     ·obtain⟨y,hy,e⟩:=sd st n _ _ _ _ p h;exact⟨y,h2 y hy,e⟩
    ·cases h
theorem pc.yk{x:gE}(h:pc ops x)(l:List Nat):pc ops (x.yk l):=⟨h.op,h.dir,h.bef⟩
def pY(l:List (gE×Nat)):Nat:=l.foldr (fun y s=>bif Nat.beq y.2 4 then ko s y.1.i else s) 0
def hP(P:Program)(nt Pr:Nat)(y:gE):Bool:=bif pb Pr y.i then true else uL P nt y.o
def G6(P:Program)(nt:Nat)(ops:Array Oper)(Pr:Nat)(x:Oper)(l:List (gE×Nat)):Bool:=l.all fun y=>bif Nat.beq y.2 4 then
 (match x.dst,y.1.o.dst with|some d,some e=> !(Nat.beq d e)|_,_=>true)&&(bif hP P nt Pr y.1 then x.apart ops y.1.o else true) else true
def Kd(P:Program)(nt D Pr:Nat)(l:List (gE×Nat)):Nat:=l.foldr (fun y s=>bif Nat.beq y.2 4 then bif hP P nt Pr y.1 then bif nO y.1.d (Nat.lor D (pY l)) then ko s y.1.i else s else s else s) 0
def cf(P:Program)(nt:Nat)(ops:Array Oper)(full:Nat):List (gE×Nat)->Nat->Nat->Nat->Bool
 |[],D,_,_=>Nat.beq D full
 |(x,m)::l,D,R,Pr=>bif pb D x.i then false else bif nO x.d D then
    bif (bif Nat.ble 2 m then l.all (fun y=>bif Nat.beq y.2 4 then(bif nO y.1.d (Nat.lor D (Kd P nt D (gZ Pr x.pre) l)) then hP P nt (gZ Pr x.pre) y.1 else true) else !nO y.1.d (Nat.lor D (Kd P nt D (gZ Pr x.pre) l))) else l.all (fun y=>bif pb y.1.b x.i then true else x.o.apart ops y.1.o)) then
     bif (bif Nat.beq m 2 then nO R x.b else true) then
      bif (bif Nat.beq m 4 then vN nt x.o&&hP P nt (gZ Pr x.pre) x&&uM ops x.o else true) then bif G6 P nt ops (gZ Pr x.pre) x.o l then
       cf P nt ops full l (ko D x.i) (bif Nat.beq m 1 then ko R x.i else R) (gZ Pr x.pre) else false else false else false
    else false
  else false
theorem Ke{l:List (gE×Nat)}:(pY l).testBit t=true↔∃z∈l,z.2=4∧z.1.i=t:=by
 induction l with
 |nil=>simp[pY]
 |cons y l ih=>
  show(bif Nat.beq y.2 4 then ko (pY l) y.1.i else pY l).testBit t=true↔_;cases hb:Nat.beq y.2 4
  ·have:y.2≠4:=fun e=>by rw[e] at hb;cases hb
   simp only[cond_false,ih,mcQ];constructor
   ·rintro⟨z,h1,h2⟩;exact⟨z,.inr h1,h2⟩
   ·rintro⟨z,h1|h1,h2,h3⟩
    ·subst h1;exact absurd h2 this
    ·exact⟨z,h1,h2,h3⟩
  ·have:y.2=4:=aN hb
   simp only[cond_true,fW,Bool.or_eq_true,ih,mcQ,decide_eq_true_iff];constructor
   ·rintro(⟨z,h1,h2⟩|h)
    ·exact⟨z,.inr h1,h2⟩
    ·exact⟨y,.inl rfl,this,h⟩
   ·rintro⟨z,h1|h1,h2,h3⟩
    ·subst h1;exact .inr h3
    ·exact .inl ⟨z,h1,h2,h3⟩
def Q7(P:Program)(nt D Pr:Nat)(l:List (gE×Nat))(t:Nat):Prop:=
 ∃z∈l,z.2=4∧hP P nt Pr z.1=true∧(∀t,z.1.d.testBit t=true->D.testBit t=true∨∃q∈l,q.2=4∧q.1.i=t)∧z.1.i=t
theorem Q8{D:Nat}{l:List (gE×Nat)}(h:Q7 P nt D Pr l t):(Kd P nt D Pr l).testBit t=true:=by
 obtain⟨z,hz,h4,hr,hd,rfl⟩:=h;have hs:nO z.1.d (Nat.lor D (pY l))=true:=vM.2 fun t ht=>by
  show(D|||pY l).testBit t=true;rw[Nat.testBit_or,Bool.or_eq_true];exact(hd t ht).imp id Ke.2
 have key:∀l':List (gE×Nat),z∈l'->(l'.foldr (fun y s=>bif Nat.beq y.2 4 then bif hP P nt Pr y.1 then bif nO y.1.d (Nat.lor D (pY l)) then ko s y.1.i else s else s else s) 0).testBit z.1.i=true:=by
  intro l';induction l' with
  |nil=>intro h;cases h
  |cons q l' ih=>
   intro hq;rw[List.foldr_cons];rcases mcQ.1 hq with rfl|hq
   ·have e4:Nat.beq z.2 4=true:=by rw[h4];rfl
    rw[e4,hr,hs];simp only[cond_true,fW,decide_true,Bool.or_true]
   ·have ih:=ih hq
    cases Nat.beq q.2 4
    ·exact ih
    ·cases hP P nt Pr q.1
     ·exact ih
     ·cases nO q.1.d (Nat.lor D (pY l))
      ·exact ih
      ·simp only[cond_true,fW,ih,Bool.true_or]
 exact key l hz
structure GoodAt(P:Program)(nt:Nat)(ops:Array Oper)(x:gE)(m:Nat)(l:List (gE×Nat))(D R Pr:Nat):Prop where
 new:D.testBit x.i=false
 Es:∀t,x.d.testBit t=true->D.testBit t=true
 one:2<=m->∀y∈l,(y.2=4∧((∀t,y.1.d.testBit t=true->D.testBit t=true∨Q7 P nt D Pr l t)->hP P nt Pr y.1=true))∨¬∀t,y.1.d.testBit t=true->D.testBit t=true∨Q7 P nt D Pr l t
 free:m<2->∀y∈l,y.1.b.testBit x.i=true∨x.o.apart ops y.1.o=true
 over:m=2->∀t,R.testBit t=true->x.b.testBit t=true
 Q9:m=4->(vN nt x.o=true∧hP P nt Pr x=true)∧uM ops x.o=true
 dst:∀y∈l,y.2=4->∀d,y.1.o.dst=some d->x.o.dst≠some d
 V8:∀y∈l,y.2=4->hP P nt Pr y.1=true->x.o.apart ops y.1.o=true
theorem ie{x:gE}{l:List (gE×Nat)}{D:Nat}(h:cf P nt ops full ((x,m)::l) D R Pr=true):
  GoodAt P nt ops x m l D R (gZ Pr x.pre)∧cf P nt ops full l (ko D x.i) (bif Nat.beq m 1 then ko R x.i else R) (gZ Pr x.pre)=true:=by
 unfold cf at h;cases h1:pb D x.i
 case true=>rw[h1] at h;cases h
 cases h2:nO x.d D
 case false=>rw[h1,h2] at h;cases h
 cases h3:(bif Nat.ble 2 m then l.all (fun y=>bif Nat.beq y.2 4 then(bif nO y.1.d (Nat.lor D (Kd P nt D (gZ Pr x.pre) l)) then hP P nt (gZ Pr x.pre) y.1 else true) else !nO y.1.d (Nat.lor D (Kd P nt D (gZ Pr x.pre) l))) else l.all (fun y=>bif pb y.1.b x.i then true else x.o.apart ops y.1.o))
 case false=>rw[h1,h2,h3] at h;cases h
 cases h4:(bif Nat.beq m 2 then nO R x.b else true)
 case false=>rw[h1,h2,h3,h4] at h;cases h
 cases h5:(bif Nat.beq m 4 then vN nt x.o&&hP P nt (gZ Pr x.pre) x&&uM ops x.o else true)
 case false=>rw[h1,h2,h3,h4,h5] at h;cases h
 cases h6:G6 P nt ops (gZ Pr x.pre) x.o l
 case false=>rw[h1,h2,h3,h4,h5,h6] at h;cases h
 rw[h1,h2,h3,h4,h5,h6] at h;have V9:∀y:gE,(∀t,y.d.testBit t=true->D.testBit t=true∨Q7 P nt D (gZ Pr x.pre) l t)->nO y.d (Nat.lor D (Kd P nt D (gZ Pr x.pre) l))=true:=fun y pM=>vM.2 fun t ht=>by
  show(D|||Kd P nt D (gZ Pr x.pre) l).testBit t=true;rw[Nat.testBit_or,Bool.or_eq_true];exact(pM t ht).imp id Q8
 refine⟨⟨?_,vM.1 h2,?_,?_,?_,?_,?_,?_⟩,h⟩
 ·cases hb:D.testBit x.i
  ·rfl
  ·rw[jt.2 hb] at h1;cases h1
 ·intro hm y hy
  rw[Nat.ble_eq_true_of_le hm] at h3;have:=Aad.1 h3 y hy;cases hb:Nat.beq y.2 4
  ·rw[hb] at this
   refine .inr fun pM=>?_
   rw[V9 y.1 pM] at this;cases this
  ·rw[hb] at this
   refine .inl ⟨aN hb,fun pM=>?_⟩
   rw[V9 y.1 pM] at this;exact this
 ·intro hm y hy
  have:Nat.ble 2 m=false:=by
   cases hb:Nat.ble 2 m
   ·rfl
   ·have:=aU hb;omega
  rw[this] at h3;have:=Aad.1 h3 y hy;cases hb:pb y.1.b x.i
  ·rw[hb] at this;exact .inr this
  ·exact .inl (jt.1 hb)
 ·rintro rfl
  exact vM.1 h4
 ·rintro rfl
  have h5:(vN nt x.o&&hP P nt (gZ Pr x.pre) x&&uM ops x.o)=true:=h5
  rwa [Bool.and_eq_true,Bool.and_eq_true] at h5
 ·intro y hy hm d hd hx
  have:=Aad.1 h6 y hy;rw[hm,hx,hd] at this;have e:Nat.beq d d=true:=Nat.beq_refl d;simp[e] at this
 ·intro y hy hm hr
  have:=Aad.1 h6 y hy;rw[hm,hr] at this;have this:(_&&x.o.apart ops y.1.o)=true:=this;rw[Bool.and_eq_true] at this;exact this.2
theorem lh{y:gE}(h:hP P nt Pr y=true):hP P nt (gZ Pr l) y=true:=by
 unfold hP at *;cases hb:pb Pr y.i
 ·rw[hb] at h
  cases pb (gZ Pr l) y.i
  ·exact h
  ·rfl
 ·rw[jt.2 (G4.2 (.inl (jt.1 hb)))];rfl
theorem uN{P:Program}{nt:Nat}{ops:Array Oper}{n:Nat}:∀(l:List (gE×Nat))(D R Pr:Nat),cf P nt ops (2 ^ n-1) l D R Pr=true->∀j,j<n->D.testBit j=true∨∃y∈l,y.1.i=j
 |[],D,R,_,h,j,hj=>by
  have:D=2 ^ n-1:=aN h;subst this;left;rw[Nat.testBit_two_pow_sub_one];simpa using hj
 |(x,m)::l,D,R,Pr,h,j,hj=>by
  obtain⟨_,h⟩:=ie h;rcases uN l _ _ _ h j hj with h|⟨y,hy,e⟩
  ·rw[fW,Bool.or_eq_true,decide_eq_true_iff] at h
   rcases h with h|h
   ·exact .inl h
   ·exact .inr ⟨(x,m),by simp,h⟩
  ·exact .inr ⟨y,by simp[hy],e⟩
theorem G7{P:Program}{nt:Nat}{ops:Array Oper}{full:Nat}:∀(l:List (gE×Nat))(D R Pr:Nat),cf P nt ops full l D R Pr=true->∀y∈l,D.testBit y.1.i=false
 |[],_,_,_,_,y,hy=>by cases hy
 |(x,m)::l,D,R,Pr,h,y,hy=>by
  obtain⟨g,h⟩:=ie h;rcases mcQ.1 hy with rfl|hy
  ·exact g.new
  ·have:=G7 l _ _ _ h y hy
   rw[fW,Bool.or_eq_false_iff] at this;exact this.1
theorem Eu{x:gE}{l:List (gE×Nat)}{D:Nat}(h:cf P nt ops full ((x,m)::l) D R Pr=true):∀y∈l,y.1.i≠x.i:=by
 obtain⟨_,h⟩:=ie h;intro y hy e;have:=G7 l _ _ _ h y hy;rw[fW,e] at this;simp at this
theorem C7{P:Program}{nt:Nat}{ops:Array Oper}{full:Nat}:∀(l:List (gE×Nat))(D R Pr:Nat),cf P nt ops full l D R Pr=true->∀y∈l,y.2=4->vN nt y.1.o=true
 |[],_,_,_,_,y,hy=>by cases hy
 |(x,m)::l,D,R,Pr,h,y,hy=>by
  obtain⟨g,h⟩:=ie h;rcases mcQ.1 hy with rfl|hy
  ·exact fun h4=>(g.Q9 h4).1.1
  ·exact C7 l _ _ _ h y hy
theorem Ay{P:Program}{nt:Nat}{ops:Array Oper}{full:Nat}:∀(l:List (gE×Nat))(D R Pr:Nat),cf P nt ops full l D R Pr=true->∀y∈l,∀z∈l,y.1.i=z.1.i->y=z
 |[],_,_,_,_,y,hy=>by cases hy
 |(x,m)::l,D,R,Pr,h,y,hy=>by
  have cR:=Eu h;obtain⟨g,h⟩:=ie h;intro z hz e;rcases mcQ.1 hy with rfl|hy<;>rcases mcQ.1 hz with rfl|hz
  ·rfl
  ·exact absurd e.symm (cR z hz)
  ·exact absurd e (cR y hy)
  ·exact Ay l _ _ _ h y hy z hz e
theorem G8{P:Program}{nt:Nat}{ops:Array Oper}{full:Nat}:∀(l:List (gE×Nat))(D R Pr:Nat),cf P nt ops full l D R Pr=true->∀y∈l,∀z∈l,y.2=4->z.2=4->y.1.i≠z.1.i->∀d,y.1.o.dst=some d->z.1.o.dst≠some d
 |[],_,_,_,_,y,hy=>by cases hy
 |(x,m)::l,D,R,Pr,h,y,hy=>by
  obtain⟨g,h⟩:=ie h;intro z hz Cf YW ne d hd qw;rcases mcQ.1 hy with rfl|hy<;>rcases mcQ.1 hz with rfl|hz
  ·exact ne rfl
  ·exact g.dst z hz YW d qw hd
  ·exact g.dst y hy Cf d hd qw
  ·exact G8 l _ _ _ h y hy z hz Cf YW ne d hd qw
theorem Az{P:Program}{nt:Nat}{ops:Array Oper}{full:Nat}{α:Type}{EA:Nat->Option α}{b:α}:∀(l:List (gE×Nat))(D R Pr:Nat),cf P nt ops full l D R Pr=true->∀y∈l,EA y.1.i=none->
  (l.filter fun p=>((fun j=>if j=y.1.i then some b else EA j) p.1.i:Option α).isNone).length+1=(l.filter fun p=>(EA p.1.i).isNone).length
 |[],_,_,_,_,y,hy,_=>by cases hy
 |(x,m)::l,D,R,Pr,h,y,hy,he=>by
  have cR:=Eu h;obtain⟨g,h⟩:=ie h;rcases mcQ.1 hy with rfl|hy
  ·rw[List.filter_cons,List.filter_cons]
   simp only[if_true,Option.isNone_some,he,Option.isNone_none,List.length_cons];rw[if_neg (by simp)];congr 2;refine List.filter_congr fun z hz=>?_
   simp[cR z hz]
  ·have ih:=Az (b:=b) l _ _ _ h y hy he
   have:x.i≠y.1.i:=fun e=>cR y hy e.symm
   rw[List.filter_cons,List.filter_cons];simp only[this,if_false];dsimp only at ih;split
   ·simp only[List.length_cons]
    generalize hc:(l.filter fun p=>(if p.1.i=y.1.i then some b else EA p.1.i).isNone).length=c1 at ih⊢;omega
   ·exact ih
theorem C8{P:Program}{nt:Nat}{ops:Array Oper}{full:Nat}:∀(l:List (gE×Nat))(D R Pr:Nat),cf P nt ops full l D R Pr=true->∀y∈l,y.2=4->uM ops y.1.o=true
 |[],_,_,_,_,y,hy=>by cases hy
 |(x,m)::l,D,R,Pr,h,y,hy=>by
  obtain⟨g,h⟩:=ie h;rcases mcQ.1 hy with rfl|hy
  ·exact fun h4=>(g.Q9 h4).2
  ·exact C8 l _ _ _ h y hy
theorem G9{P:Program}{nt:Nat}{ops:Array Oper}{full:Nat}:∀(l:List (gE×Nat))(D R Pr:Nat),cf P nt ops full l D R Pr=true->∀y∈l,∀z∈l,y.2=4->z.2=4->hP P nt Pr y.1=true->hP P nt Pr z.1=true->y.1.i≠z.1.i->∀d,y.1.o.dst=some d->d∉z.1.o.looksAt ops
 |[],_,_,_,_,y,hy=>by cases hy
 |(x,m)::l,D,R,Pr,h,y,hy=>by
  obtain⟨g,h⟩:=ie h;intro z hz Cf YW ry rz ne d hd;rcases mcQ.1 hy with rfl|hy<;>rcases mcQ.1 hz with rfl|hz
  ·exact absurd rfl ne
  ·exact(Oper.apart_spec (g.V8 z hz YW (lh rz))).1 d hd
  ·exact(Oper.apart_spec (g.V8 y hy Cf (lh ry))).2.2 d hd
  ·exact G9 l _ _ _ h y hy z hz Cf YW (lh ry) (lh rz) ne d hd
def pZ(v:AV):Bool:=AV.rec (motive_1:=fun _=>Bool) (motive_2:=fun _=>Bool)
 false true (fun _=>true) (fun _ _=>true) (fun _ _=>true) false (fun _ _=>true) true (fun _ _=>true) (fun _ _=>true) true
 (fun _ _ _ _=>true) (fun _ _ _ _=>true) (fun _ _ _ a b=>bc a b false) true (fun _ _ a=>a) true (fun _ a=>a) (fun _ a=>a) (fun _=>true) true (fun _=>false) (fun _ _=>false) (fun _ _=>true) false (fun _ _ _ _=>true) (fun _ _=>true) (fun _ _=>true)
 true (fun _ _ a b=>bc a b false) v
def F0(l:List AV):Bool:=AV.rec_1 (motive_1:=fun _=>Bool) (motive_2:=fun _=>Bool)
 false true (fun _=>true) (fun _ _=>true) (fun _ _=>true) false (fun _ _=>true) true (fun _ _=>true) (fun _ _=>true) true
 (fun _ _ _ _=>true) (fun _ _ _ _=>true) (fun _ _ _ a b=>bc a b false) true (fun _ _ a=>a) true (fun _ a=>a) (fun _ a=>a) (fun _=>true) true (fun _=>false) (fun _ _=>false) (fun _ _=>true) false (fun _ _ _ _=>true) (fun _ _=>true) (fun _ _=>true)
 true (fun _ _ a b=>bc a b false) l
mutual
theorem Rv.exact{E E':Env}(h:E.le E'):∀(a:AV)(V V':Value),pZ a=true->Rv E a V->Rv E' a V'->V'=V
 |.no,_,_,he,_,_=>by cases he
 |.un,_,_,_,r,r'=>by rw[Rv] at *;rw[r,r']
 |.b _,_,_,_,r,r'=>by rw[Rv] at *;rw[r,r']
 |.i _ _,_,_,_,r,r'=>by rw[Rv] at *;rw[r,r']
 |.f _ _,_,_,_,r,r'=>by rw[Rv] at *;rw[r,r']
 |.nan,_,_,he,_,_=>by cases he
 |.ii _,_,_,he,_,_=>by cases he
 |.pk _,_,_,he,_,_=>by cases he
 |.any,_,_,he,_,_=>by cases he
 |.sx _ _ _ _,_,_,_,r,r'=>by
  rw[Rv] at *;obtain⟨L,n,c,e,e1,e2,_,_,rfl⟩:=r;obtain⟨L',n',c',e',YX,e2',_,_,rfl⟩:=r';rw[h _ _ e] at e';cases e';rw[an h _ _ e1] at YX;rw[an h _ _ e2] at e2';simp only[siQ,Value.int.injEq,true_and] at YX e2';have:n=n':=by omega
  have:c=c':=by omega
  subst n;subst c;rfl
 |.sz _ _,_,_,_,r,r'=>by
  rw[Rv] at *;obtain⟨L,n,e,e1,_,_,rfl⟩:=r;obtain⟨L',n',e',YX,_,_,rfl⟩:=r';rw[h _ _ e] at e';cases e';rw[an h _ _ e1] at YX;simp only[siQ,Value.int.injEq,true_and] at YX;have:n=n':=by omega
  subst n;rfl
 |.sr _ _,_,_,_,r,r'=>by
  rw[Rv] at *;obtain⟨L,n,e,e1,_,_,rfl⟩:=r;obtain⟨L',n',e',YX,_,_,rfl⟩:=r';rw[h _ _ e] at e';cases e';rw[an h _ _ e1] at YX;simp only[siQ,Value.int.injEq,true_and] at YX;have:n=n':=by omega
  subst n;rfl
 |.x _ e,V,V',_,r,r'=>by
  rw[Rv] at *;have:=an h e V r.1;rw[r'.1] at this;cases this;rfl
 |.s _ _,_,_,_,r,r'=>by rw[Rv] at *;rw[r,r']
 |.pn,_,_,_,r,r'=>by rw[Rv] at *;rw[r,r']
 |.p _ _,_,_,_,r,r'=>by
  rw[Rv] at *;obtain⟨L,e,rfl⟩:=r;obtain⟨L',e',rfl⟩:=r';rw[h _ _ e] at e';cases e';rfl
 |.pg _ _,_,_,_,r,r'=>by rw[Rv] at *;rw[r,r']
 |.sn,_,_,_,r,r'=>by rw[Rv] at *;rw[r,r']
 |.sl _ _ _ _,_,_,_,r,r'=>by
  rw[Rv] at *;obtain⟨L,e,rfl⟩:=r;obtain⟨L',e',rfl⟩:=r';rw[h _ _ e] at e';cases e';rfl
 |.so _ _ _ _,_,_,_,r,r'=>by
  rw[Rv] at *;obtain⟨L,e,rfl,_⟩:=r;obtain⟨L',e',rfl,_⟩:=r';rw[h _ _ e] at e';cases e';rfl
 |.fn _ as0 bs,_,_,he,r,r'=>by
  have he:bc (F0 as0) (F0 bs) false=true:=he;obtain⟨h1,h2⟩:=aa he;rw[Rv] at *;obtain⟨vs,ws,rfl,r1,r2⟩:=r;obtain⟨tT,ws',rfl,r1',r2'⟩:=r';rw[aP.exact h as0 vs tT h1 r1 r1',aP.exact h bs ws ws' h2 r2 r2']
 |.fnil,_,_,_,r,r'=>by rw[Rv] at *;rw[r,r']
 |.ifc _ v,_,_,he,r,r'=>by
  have he:pZ v=true:=he;rw[Rv] at *;obtain⟨W,rfl,r⟩:=r;obtain⟨W',rfl,r'⟩:=r';rw[Rv.exact h v W W' he r r']
 |.inil,_,_,_,r,r'=>by rw[Rv] at *;rw[r,r']
 |.ag cs,_,_,he,r,r'=>by
  have he:F0 cs=true:=he;rw[Rv] at *;obtain⟨vs,rfl,r⟩:=r;obtain⟨tT,rfl,r'⟩:=r';rw[aP.exact h cs vs tT he r r']
 |.tu cs,_,_,he,r,r'=>by
  have he:F0 cs=true:=he;rw[Rv] at *;obtain⟨vs,rfl,r⟩:=r;obtain⟨tT,rfl,r'⟩:=r';rw[aP.exact h cs vs tT he r r']
 |.mp _,_,_,_,r,r'=>by
  rw[Rv] at *;obtain⟨L,e,rfl⟩:=r;obtain⟨L',e',rfl⟩:=r';rw[h _ _ e] at e';cases e';rfl
 |.mpn,_,_,_,r,r'=>by rw[Rv] at *;rw[r,r']
theorem aP.exact{E E':Env}(h:E.le E'):∀(as0:List AV)(vs tT:List Value),F0 as0=true->aP E as0 vs->aP E' as0 tT->tT=vs
 |[],_,_,_,r,r'=>by rw[aP] at *;rw[r,r']
 |a::as0,_,_,he,r,r'=>by
  have he:bc (pZ a) (F0 as0) false=true:=he;obtain⟨h1,h2⟩:=aa he;rw[aP] at *;obtain⟨v,vs,rfl,r1,r2⟩:=r;obtain⟨v',tT,rfl,r1',r2'⟩:=r';rw[Rv.exact h a v v' h1 r1 r1',aP.exact h as0 vs tT h2 r2 r2']
end
def T.gT{α:Type}(d:α):(Nat->Bool)->T α->T α
 |_,.nil=>.nil
 |p,.node v l r=>.node (bif p 0 then v else d) (T.gT d (fun j=>p (2*j+1)) l) (T.gT d (fun j=>p (2*j+2)) r)
theorem T.vO{α:Type}(d:α):∀(t:T α)(p:Nat->Bool)(i:Nat),T.get d (T.gT d p t) i=bif p i then T.get d t i else d
 |.nil,p,i=>by cases h:p i<;>rfl
 |.node v l r,p,0=>rfl
 |.node v l r,p,j+1=>by
  show Nat.rec (motive:=fun _=>α) (T.get d (T.gT d (fun j=>p (2*j+1)) l) (j/2)) (fun _ _=>T.get d (T.gT d (fun j=>p (2*j+2)) r) (j/2)) (j%2)
   =bif p (j+1) then Nat.rec (motive:=fun _=>α) (T.get d l (j/2)) (fun _ _=>T.get d r (j/2)) (j%2) else d
  rcases T.iU j with h|h<;>rw[h]
  ·show T.get d (T.gT d (fun j=>p (2*j+1)) l) (j/2)=bif p (j+1) then T.get d l (j/2) else d
   rw[T.vO d l];have:2*(j/2)+1=j+1:=by omega
   rw[this]
  ·show T.get d (T.gT d (fun j=>p (2*j+2)) r) (j/2)=bif p (j+1) then T.get d r (j/2) else d
   rw[T.vO d r];have:2*(j/2)+2=j+1:=by omega
   rw[this]
theorem T.mG{α:Type}(d x:α):∀(t:T α)(i:Nat),T.get d t i≠d->T.get d (T.set x t i) i=x
 |.nil,i,h=>absurd rfl h
 |.node v l r,0,_=>rfl
 |.node v l r,j+1,h=>by
  have h:Nat.rec (motive:=fun _=>α) (T.get d l (j/2)) (fun _ _=>T.get d r (j/2)) (j%2)≠d:=h;show T.get d (Nat.rec (motive:=fun _=>T α) (.node v (T.set x l (j/2)) r) (fun _ _=>.node v l (T.set x r (j/2))) (j%2)) (j+1)=x;rcases T.iU j with e|e
  ·rw[e] at h⊢
   show Nat.rec (motive:=fun _=>α) (T.get d (T.set x l (j/2)) (j/2)) (fun _ _=>T.get d r (j/2)) (j%2)=x;rw[e];exact T.mG d x l _ h
  ·rw[e] at h⊢
   show Nat.rec (motive:=fun _=>α) (T.get d l (j/2)) (fun _ _=>T.get d (T.set x r (j/2)) (j/2)) (j%2)=x;rw[e];exact T.mG d x r _ h
def AO.le:AO->AO->Prop
 |.cells n e c,b=>∃n' e' c',b=.cells n' e' c'∧n<=n'∧(e=0∨(e=e'∧n=n'))∧∀j,c.get j=.no∨c.get j=c'.get j
 |a,b=>b=a
theorem AO.le_refl(a:AO):a.le a:=by
 cases a with
 |cells n e c=>exact⟨n,e,c,rfl,nrQ _,.inr ⟨rfl,rfl⟩,fun _=>.inr rfl⟩
 |_=>rfl
theorem AO.le.live{a b:AO}(h:a.le b):b.live=a.live:=by
 cases a with
 |cells n e c=>obtain⟨n',e',c',rfl,_⟩:=h;rfl
 |_=>cases h;rfl
theorem RO.le{a b:AO}(h:a.le b)(r:RO E w i b):RO E w i a:=by
 cases a with
 |cells n e c=>
  obtain⟨n',e',c',rfl,h1,h2,h3⟩:=h;obtain⟨L,arr,el,k1,k2,k3,k4,k5⟩:=r;refine⟨L,arr,el,k1,k2,by omega,?_,fun j hj=>?_⟩
  ·rcases h2 with rfl|⟨rfl,rfl⟩
   ·exact nV.DS _ _ _ _
   ·exact k4
  ·rcases h3 j with h|h
   ·rw[h];simp[Rv]
   ·rw[h];exact k5 j (by omega)
 |_=>cases h;exact r
def Sub(g h:Heap):Prop:=∀i,(T.get .gone g i).live=true->(T.get .gone g i).le (T.get .gone h i)
theorem Sub.refl(h:Heap):Sub h h:=fun _ _=>AO.le_refl _
theorem Sub.nil(h:Heap):Sub .nil h:=fun i hi=>by cases hi
def IW(E:Env)(g:Heap)(w:World):Prop:=∃E1 n,E.le E1∧HR E1 g n w
def Ra(E:Env)(g:Heap):Prop:=(∀i fs,T.get .gone g i=.facts fs->∀p∈fs,den E p.1=some (.bool p.2))∧∀i p off q cap,T.get .gone g i=.ali p off q cap->∀w,RO E w i (.ali p off q cap)
theorem Ra.mono(h:E.le E')(f:Ra E g):Ra E' g:=⟨fun i fs hi p hp=>an h _ _ (f.1 i fs hi p hp),fun i p off q cap hi w=>by obtain⟨L,M,c,h1,h2,h3,h4⟩:=f.2 i p off q cap hi w;exact⟨L,M,c,h _ _ h1,h _ _ h2,an h _ _ h3,h4⟩⟩
theorem Ra.nil(E:Env):Ra E .nil:=⟨fun i fs hi=>(by cases hi),fun i p off q cap hi=>(by cases hi)⟩
theorem HR.fok(hr:HR E h n w):Ra E h:=⟨fun i fs hi=>by
 have:=hr.obj i;rw[hi] at this;exact this,fun i p off q cap hi w'=>by
 have:=hr.obj i;rw[hi] at this;exact this⟩
def Kf(E:Env)(g h:Heap):Prop:=Sub g h∧Ra E g
theorem HR.sub(hr:HR E h n w)(s:Kf E g h):HR E g (max n (Vx.bM g)) w:=by
 have lv:∀i,(T.get .gone g i).live=true->(T.get .gone h i).live=true:=fun i hi=>by rw[(s.1 i hi).live];exact hi
 have z:∀i,(T.get .gone h i).live=false->(T.get .gone g i).live=false:=fun i hi=>by
  cases hz:(T.get .gone g i).live
  ·rfl
  ·rw[lv i hz] at hi;exact hi
 refine⟨fun i=>?_,fun i j L M hi hj=>hr.inj i j L M (lv i hi) (lv j hj),fun i hi=>z i (hr.lt i (by omega)),fun i hi=>hr.fresh i (by omega),hr.kT,by have:=hr.pos;omega,by omega,z 0 hr.zero⟩;cases hl:(T.get .gone g i).live
 ·cases hg:T.get .gone g i<;>first|trivial|(rw[hg] at hl;cases hl;done)|exact s.2.1 i _ hg|exact s.2.2 i _ _ _ _ hg w
 ·exact RO.le (s.1 i hl) (hr.obj i)
theorem IW.of{E1:Env}(hE:E.le E1)(hr:HR E1 h n w)(s:Kf E g h):IW E g w:=⟨E1,_,hE,hr.sub ⟨s.1,s.2.mono hE⟩⟩
theorem AA{t:Heap}{x:AO}(h:t≠.nil):T.get .gone (T.set x t 0) 0=x:=by
 cases t with
 |nil=>exact absurd rfl h
 |node v l r=>rfl
theorem flr_ne(p:1<=Vx.bM h):h≠.nil:=by
 rintro rfl;simp[Vx.bM,T.get] at p
theorem HR.floor(hr:HR E h n w)(hf:Vx.bM (T.set (.floor n) h 0)=n):HR E (T.set (.floor n) h 0) n w:=by
 have z:(T.get .gone (T.set (.floor n) h 0) 0).live=false:=by
  rcases T.bd .gone (AO.floor n) h 0 with g|g<;>rw[g]<;>rfl
 have ne:∀i,(T.get .gone (T.set (.floor n) h 0) i).live=true->T.get .gone (T.set (.floor n) h 0) i=T.get .gone h i:=fun i hi=>by
  by_cases h0:i=0
  ·subst h0;rw[z] at hi;cases hi
  ·exact T.ay _ _ _ _ _ h0
 refine⟨fun i=>?_,fun i j L M hi hj=>?_,fun i hi=>?_,hr.fresh,hr.kT,hr.pos,by omega,z⟩
 ·by_cases h0:i=0
  ·subst h0
   rcases T.bd .gone (AO.floor n) h 0 with g|g<;>rw[g]<;>trivial
  ·rw[T.ay _ _ _ _ _ h0];exact hr.obj i
 ·rw[ne i hi] at hi;rw[ne j hj] at hj
  exact hr.inj i j L M hi hj
 ·by_cases h0:i=0
  ·subst h0;exact z
  ·rw[T.ay _ _ _ _ _ h0];exact hr.lt i hi
theorem HR.Mv{n':Nat}(hr:HR E h n w)(hf:Vx.bM (T.set (.floor n) h 0)=n)(cO:HR E' h' n' w')(g:bk E (T.set (.floor n) h 0) w E' h' w'):
  HR E' (T.set (T.get .gone h 0) h' 0) n' w'∧bk E h w E' (T.set (T.get .gone h 0) h' 0) w'∧∀i,i<n->T.get .gone (T.set (T.get .gone h 0) h' 0) i=T.get .gone h i:=by
 have fl:Vx.bM h'=n:=g.bM.trans hf;have cR:h'≠.nil:=flr_ne (by have:=hr.pos;omega);have e0:T.get .gone (T.set (T.get .gone h 0) h' 0) 0=T.get .gone h 0:=AA cR;have en:∀i,i≠0->T.get .gone (T.set (T.get .gone h 0) h' 0) i=T.get .gone h' i:=fun i hi=>T.ay _ _ _ _ _ hi
 have eo:∀i,i<n->T.get .gone (T.set (T.get .gone h 0) h' 0) i=T.get .gone h i:=fun i hi=>by
  by_cases h0:i=0
  ·subst h0;exact e0
  ·rw[en i h0,g.gT i (by rw[hf];exact hi),T.ay _ _ _ _ _ h0]
 have efl:Vx.bM (T.set (T.get .gone h 0) h' 0)=Vx.bM h:=by unfold Vx.bM;rw[e0]
 have nz:∀i,(T.get .gone (T.set (T.get .gone h 0) h' 0) i).live=true->i≠0:=fun i hi h0=>by
  subst h0;rw[e0,hr.zero] at hi;cases hi
 have iq:∀k,¬fp E (T.set (.floor n) h 0) k:=by
  rintro k ⟨i,L,hi,hl,_,_⟩;rw[hf] at hi;have:i≠0:=by have:=hr.pos;omega
  rw[T.ay _ _ _ _ _ this,hr.lt i hi] at hl;cases hl
 refine⟨⟨fun i=>?_,fun i j L M hi hj=>?_,fun i hi=>?_,cO.fresh,cO.kT,cO.pos,?_,by rw[e0];exact hr.zero⟩,⟨g.ext,g.size,fun k hk _=>g.fr k hk (iq k),fun k hk=>?_,efl,fun i hi=>eo i (by have:=hr.kU;omega),g.os,g.output,g.tape⟩,eo⟩
 ·by_cases h0:i=0
  ·subst h0
   rw[e0];have z:=hr.zero;cases hg:T.get .gone h 0<;>first|trivial|(rw[hg] at z;cases z;done)|(have:=hr.obj 0;rw[hg] at this;exact fun p hp=>an g.ext _ _ (this p hp))|(have:=hr.obj 0;rw[hg] at this;obtain⟨L9,M9,c9,q1,q2,q3,q4⟩:=this;exact⟨L9,M9,c9,g.ext _ _ q1,g.ext _ _ q2,an g.ext _ _ q3,q4⟩)
  ·rw[en i h0];exact cO.obj i
 ·have a:=en i (nz i hi)
  have b:=en j (nz j hj);rw[a] at hi;rw[b] at hj;exact cO.inj i j L M hi hj
 ·by_cases h0:i=0
  ·subst h0;rw[e0];exact hr.zero
  ·rw[en i h0];exact cO.lt i hi
 ·rw[efl]
  have:=hr.kU;have:=cO.kU;omega
 ·rintro⟨i,L,h1,h2,h3,h4⟩
  have h0:=nz i h2;rcases gC i n with hi|hi
  ·rw[eo i hi] at h2
   rw[efl] at h1;have ho:=hr.obj i;have:∃M,E i=some M:=by
    cases hg:T.get .gone h i with
    |gone=>rw[hg] at h2;cases h2
    |floor m=>rw[hg] at h2;cases h2
    |facts m=>rw[hg] at h2;cases h2
    |ali a1 a2 a3 a4=>rw[hg] at h2;cases h2
    |cells=>rw[hg] at ho;obtain⟨M,_,_,e,_⟩:=ho;exact⟨M,e⟩
    |map=>rw[hg] at ho;obtain⟨M,_,e,_⟩:=ho;exact⟨M,e⟩
    |siter=>rw[hg] at ho;obtain⟨M,e,_⟩:=ho;exact⟨M,e⟩
    |glob=>rw[hg] at ho;obtain⟨M,_,_,_,e,_⟩:=ho;exact⟨M,e⟩
    |rows=>rw[hg] at ho;obtain⟨M,_,_,e,_⟩:=ho;exact⟨M,e⟩
    |blob=>rw[hg] at ho;obtain⟨M,_,_,e,_⟩:=ho;exact⟨M,e⟩
   obtain⟨M,e⟩:=this;have:=g.ext _ _ e;rw[h3] at this;cases this;exact⟨i,L,h1,h2,e,h4⟩
  ·rw[en i h0] at h2
   exact absurd (g.CE k hk ⟨i,L,by omega,h2,h3,h4⟩) (iq k)
section
variable{E:Env}{h:Heap}{aq:Nat}{w:World}
theorem pd{o x:Obj}{k:Nat}(hx:w.heap[k]? =some x):({w with heap:=w.heap.push o}:World).heap[k]? =some x:=by
 have:k<w.heap.size:=by
  rcases gC k w.heap.size with hh|hh
  ·exact hh
  ·rw[Array.getElem?_eq_none hh] at hx;cases hx
 show(w.heap.push o)[k]? =_;rw[Array.getElem?_push,if_neg (by omega)];exact hx
theorem RO.push{a:AO}{o:Obj}(r:RO E w i a):RO E {w with heap:=w.heap.push o} i a:=by
 cases a with
 |gone=>trivial
 |floor n=>trivial
 |facts fs=>exact r
 |ali p off q cap=>exact r
 |cells n e c=>obtain⟨L,arr,el,h1,h2,h3⟩:=r;exact⟨L,arr,el,h1,pd h2,h3⟩
 |map es c=>obtain⟨L,ms,h1,h2,h3⟩:=r;exact⟨L,ms,h1,pd h2,h3⟩
 |siter l n p=>obtain⟨L,h1,h2,h3⟩:=r;exact⟨L,h1,h2,pd h3⟩
 |glob g n c=>obtain⟨L,arr,el,fr,h1,h2,h3,h4⟩:=r;exact⟨L,arr,el,fr,h1,h2,pd h3,h4⟩
 |rows el len=>obtain⟨L,arr,n,h1,h0,h2,h3⟩:=r;exact⟨L,arr,n,h1,h0,pd h2,h3⟩
 |blob el sz S l len=>obtain⟨L,arr,n,h1,h0,h2,h3⟩:=r;exact⟨L,arr,n,h1,h0,pd h2,h3⟩
theorem HR.Ew(hr:HR E h aq w)(o:Obj):HR E h aq {w with heap:=w.heap.push o}:=
 ⟨fun i=>(hr.obj i).push,hr.inj,hr.lt,hr.fresh,fun i L hi=>by have:=hr.kT i L hi;simp;omega,hr.pos,hr.kU,hr.zero⟩
theorem bk.Ew(g:bk E0 h0 w0 E h w){o:Obj}(hz:N7 o):bk E0 h0 w0 E h {w with heap:=w.heap.push o}:=
 ⟨g.ext,by have:=g.size;simp;omega,fun k hk hn=>by
  rw[←g.fr k hk hn];have:k<w.heap.size:=by have:=g.size;omega
  show(w.heap.push o)[k]? =_;rw[Array.getElem?_push,if_neg (by omega)],g.CE,g.bM,g.gT,g.os,g.output,g.tape⟩
theorem Env.G'(hle:E.le E'):∀(es:List FX)(ms:List MapEntry),j6 E es ms->j6 E' es ms:=by
 intro es;induction es with
 |nil=>intro ms r;exact r
 |cons x es ih=>intro ms ⟨m,y0,e1,⟨r1,r2,r3⟩,r4⟩;exact⟨m,y0,e1,⟨r1.mono hle,r2.mono hle,r3⟩,ih _ r4⟩
theorem HR.Ha(hr:HR E h aq w)(L:aZ)(hL:L.aH<w.heap.size)(G2:∀i M,(T.get .gone h i).live=true->E i=some M->M.aH≠L.aH)(a:AO)
  (ha:RO (fun i=>if i=aq then some L else E i) w aq a):
  HR (fun i=>if i=aq then some L else E i) (T.set a h aq) (aq+1) w:=by
 have hle:=Env.pK (hr.fresh aq (nrQ _)) L;have old:∀i M,i≠aq->(if i=aq then some L else E i)=some M->E i=some M:=fun i M e hM=>by simpa[e] using hM
 have aV:∀i,i≠aq->(T.get AO.gone (T.set a h aq) i)=T.get .gone h i:=fun i e=>T.ay _ _ _ _ _ e
 have hp:=hr.pos;have jI:=hr.kU;have dX:bM (T.set a h aq)=bM h:=pJ fun e=>by omega
 refine⟨fun i=>?_,fun i j A B hi hj hA hB N9=>?_,fun i hi=>?_,fun i hi=>?_,fun i M hM=>?_,by omega,by rw[dX];omega,by rw[aV 0 (by omega)];exact hr.zero⟩
 ·by_cases e:i=aq
  ·subst e
   rcases T.bd AO.gone a h i with g|g<;>rw[g]
   ·exact ha
   ·trivial
  ·rw[aV i e]
   have im:=hr.obj i;cases ho:T.get AO.gone h i<;>rw[ho] at im
   case gone=>trivial
   case floor=>trivial
   case facts=>exact fun p hp=>an hle _ _ (im p hp)
   case ali=>
    obtain⟨M9,M8,c9,h1,h2,h3,h4⟩:=im;exact⟨M9,M8,c9,hle _ _ h1,hle _ _ h2,an hle _ _ h3,h4⟩
   case cells=>
    obtain⟨M,ar,e',h1,h2,h3,h4,h5⟩:=im;exact⟨M,ar,e',by simp[e,h1],h2,h3,h4,fun j hj=>(h5 j hj).mono hle⟩
   case map es ck=>
    obtain⟨M,ms,h1,h2,h3⟩:=im;exact⟨M,ms,by simp[e,h1],h2,Env.G' hle _ _ h3⟩
   case siter=>
    obtain⟨M,h1,h2,h3⟩:=im;exact⟨M,by simp[e,h1],h2,h3⟩
   case glob=>
    obtain⟨M,ar,e',fr,h1,h2,h3,h4,h5⟩:=im;exact⟨M,ar,e',fr,by simp[e,h1],h2,h3,h4,(fun j hj=>(h5.1 j hj).mono hle),h5.2.wide hle⟩
   case rows=>
    obtain⟨M,ar,n9,h1,gi,h2,h3,h4⟩:=im;exact⟨M,ar,n9,by simp[e,h1],gi,h2,an hle _ _ h3,h4⟩
   case blob=>
    obtain⟨M,ar,n9,h1,gi,h2,h3,h4,h5,c0,h6,h7,h8,h9⟩:=im;exact⟨M,ar,n9,by simp[e,h1],gi,h2,an hle _ _ h3,h4,h5,c0,an hle _ _ h6,h7,h8,fun j a hj=>(h9 j a hj).mono hle⟩
 ·by_cases ei:i=aq
  ·by_cases ej:j=aq
   ·rw[ei,ej]
   ·rw[aV j ej] at hj
    have P0:A=L:=by simpa[ei] using hA.symm
    subst P0;exact absurd N9.symm (G2 j B hj (old j B ej hB))
  ·by_cases ej:j=aq
   ·rw[aV i ei] at hi
    have hB':B=L:=by simpa[ej] using hB.symm
    subst hB';exact absurd N9 (G2 i A hi (old i A ei hA))
   ·rw[aV i ei] at hi
    rw[aV j ej] at hj;exact hr.inj i j A B hi hj (old i A ei hA) (old j B ej hB) N9
 ·rw[aV i (by omega)];exact hr.lt i (by omega)
 ·have:i≠aq:=by omega
  simp only[this,if_false];exact hr.fresh i (by omega)
 ·by_cases e:i=aq
  ·have:M=L:=by simpa[e] using hM.symm
   rw[this];exact hL
  ·exact hr.kT i M (old i M e hM)
theorem bk.Ha(g:bk E0 h0 w0 E h w)(hr:HR E h aq w)(L:aZ)(hL:w0.heap.size<=L.aH)(a:AO):
  bk E0 h0 w0 (fun i=>if i=aq then some L else E i) (T.set a h aq) w:=by
 have hle:=Env.pK (hr.fresh aq (nrQ _)) L;have hp:=hr.pos;have jI:=hr.kU;have dX:Vx.bM (T.set a h aq)=Vx.bM h:=pJ fun e=>by omega
 refine⟨Env.le_trans g.ext hle,g.size,g.fr,fun k hk⟨i,M,h1,h2,h3,h4⟩=>?_,dX.trans g.bM,fun i hi=>?_,g.os,g.output,g.tape⟩
 ·by_cases e:i=aq
  ·have:M=L:=by simpa[e] using h3.symm
   subst this;omega
  ·rw[T.ay _ _ _ _ _ e] at h2
   exact g.CE k hk ⟨i,M,by rw[←dX];exact h1,h2,by simpa[e] using h3,h4⟩
 ·have:=g.bM
  rw[T.ay _ _ _ _ _ (by omega)];exact g.gT i hi
end
theorem C9{t:TypeId}{i:TypeInfo}{z:Value}(hi:P.info? t=some i)(hz:i.zero=some z)(w:World):
  (Instr.alloc t true (.tuple #[])).run P w=.ok (.pointer (some ⟨w.heap.size,0,none⟩)) {w with heap:=w.heap.push (.cells z.cells t (0,0))}:=by
 simp[Instr.alloc,dJ hi hz,newVar,newRow]
def Rb(P:Program)(s:Sem Value)(E:Env)(h:Heap)(aq:Nat)(k:K):Prop:=
 ∃(v:AV)(ao:AO)(V0:Nat->Value)(obj:Obj)(room:Nat),N7 obj∧(∀w,s.run P w=.ok (V0 w.heap.size) {w with heap:=w.heap.push obj})∧k v (T.set ao h aq) (aq+1)=true∧
  ∀(E':Env)(b:Nat),E.le E'->E' aq=some ⟨b,0,room⟩->Rv E' v (V0 b)∧∀w:World,w.heap[b]? =some obj->RO E' w aq ao
theorem yl{wd:Nat}{l:List AV}{k:Heap->Nat->Bool}(el:TypeId)(hk:gV wd l n ⟨0,some el,true⟩ h aq k=true){cells:Array Value}(room:Nat)
  (hn:n<=l.length) (hl:∃vs,aP E l vs∧(∀j,j<n->vs.getD j undef=cells.getD j undef)) (cC:n<=cells.size):
  ∃ao,k (T.set ao h aq) (aq+1)=true∧∀(E':Env)(b:Nat),E.le E'->E' aq=some ⟨b,0,room⟩->∀w:World,w.heap[b]? =some (.cells cells el (0,0))->RO E' w aq ao:=by
 unfold gV at hk;rw[jn,T.bh,aC] at hk;obtain⟨vs,hl,qY⟩:=hl;refine⟨_,hk,fun E' b hle hb w hw=>⟨⟨b,0,room⟩,cells,el,hb,hw,by simpa using cC,nV.gJ _ _ _ _ _,fun j hj=>?_⟩⟩;have:=(ef wd l vs hl j (by omega)).mono hle;rw[qY j hj] at this;simpa using this
theorem Hb{t:TypeId}(E:Env)(he:od P t h aq k=true):Rb P (Instr.alloc t true (.tuple #[])) E h aq k:=by
 unfold od at he;split at he<;>try (cases he;done)
 rename_i i hi;split at he<;>try (cases he;done)
 rename_i z hz;unfold CJ at he;obtain⟨l,hl,_,he⟩:=sZ he (vc E z);rw[aC] at he;have hlen:=hl.length;obtain⟨ao,h1,h2⟩:=yl (E:=E) (cells:=z.cells) t he 0 (nrQ _) ⟨_,hl,fun j _=>by simp⟩ (by simp at hlen;omega);exact⟨_,ao,fun b=>.pointer (some ⟨b,0,none⟩),_,0,kV _ _,fun w=>C9 hi hz w,h1,fun E' b hle hb=>⟨by rw[Rv];exact⟨_,hb,rfl⟩,h2 E' b hle hb⟩⟩
theorem wX{t:TypeId}{len:Nat}{parts:List (Nat×AV)}{vs:Array (Nat×Value)}(he:fT P t len parts h aq k=true)(rp:RvP E parts vs.toList):
  Rb P (Instr.buildSlice t len vs) E h aq k:=by
 unfold fT at he;split at he<;>try (cases he;done)
 rename_i el hu;split at he<;>try (cases he;done)
 rename_i i hi;split at he<;>try (cases he;done)
 rename_i z hz;obtain⟨hs,he⟩:=aa he;obtain⟨h1,he⟩:=aa he;obtain⟨h2,he⟩:=aa he;have hs:=aN hs;have h1:=aU h1;have h2:=aU h2;have hzz:=Gx (E:=E) (z:=z.cells) (by omega) len;obtain⟨l,arr,g1,g2,g3,g4⟩:=rJ parts he rp (arr:=(Array.range (len*z.cells.size)).map (z.cells[· %z.cells.size]!)) hzz;rw[aC] at g4;have hlen:=g3.length;have cC:arr.size=len*i.size:=by rw[g2];simp[hs]
 obtain⟨ao,k1,k2⟩:=yl (E:=E) (cells:=arr) el g4 0 (by simp at hlen;show len*i.size<=l.length;omega) ⟨_,g3,fun j _=>by simp⟩ (Nat.le_of_eq cC.symm);refine⟨_,ao,fun b=>.slice (some ⟨b,0,none⟩) len len,_,0,kV arr el,fun w=>?_,k1,fun E' b hle hb=>⟨by rw[Rv];exact⟨_,hb,rfl⟩,k2 E' b hle hb⟩⟩;have hle:¬(len*i.size>2 ^ 24):=by omega
 rw[hs] at g1;simp only[Instr.buildSlice,Sem.run_bind,ai hu,Result.andThen_ok,bG hi,hle,if_false,Sem.run_pure];by_cases hzero:len*i.size=0
 ·have hl0:len=0:=by rcases Nat.mul_eq_zero.1 hzero with e|e<;>omega
  subst hl0;have:((Array.range (0*i.size)).map (z.cells[· %i.size]!))=#[]:=by simp
  rw[this] at g1;simp only[Nat.zero_mul,if_true,Sem.run_bind,Sem.run_pure,Result.andThen_ok];have e0:((Array.range 0).map ((#[]:Array Value)[· %(#[]:Array Value).size]!))=#[]:=by simp
  rw[e0,g1];simp[newRow]
 ·simp only[hzero,if_false,Sem.run_bind,dJ hi hz,Result.andThen_ok,Sem.run_pure,hs,g1]
  simp[newRow]
theorem yK{t:TypeId}{ln cp:AV}{LN CP:Value}(he:og P t ln cp h aq k=true)(rl:Rv E ln LN)(rc:Rv E cp CP):
  Rb P (Instr.makeSlice t LN CP) E h aq k:=by cases he
theorem Cg{t:TypeId}(E:Env)(he:mM h aq k=true):Rb P (Instr.makeMap t none) E h aq k:=by
 unfold mM at he;rw[T.bh,aC] at he;refine⟨_,_,fun b=>.map (some b),.map #[] 0,0,(by rintro c e f h;cases h),fun w=>by simp[Instr.makeMap],he,fun E' b hle hb=>⟨by rw[Rv];exact⟨_,hb,rfl⟩,fun w hw=>⟨_,#[],hb,hw,rfl⟩⟩⟩
def ym(P:Program)(op:Op)(regs:aI)(h:Heap)(aq:Nat)(k:K):Bool:=match op with
 |.alloc t=>od P t h aq k
 |.buildSlice t n ps=>yh regs ps.toList fun l=>fT P t n l h aq k
 |.makeSlice t l c=>iC regs l fun l=>iC regs c fun c=>og P t l c h aq k
 |.makeMap _ none=>mM h aq k
 |.binOp .quo _ x y _=>iC regs x fun x=>iC regs y fun y=>(match x with
  |.f .f64 a=>(match y with
   |.f .f64 b=>oh .quo a b fun v=>k v h aq
   |_=>false)
  |_=>false)
 |_=>false
def NewVO(P:Program)(s:Sem Next)(E:Env)(h:Heap)(aq:Nat)(k:K):Prop:=
 ∃v:AV,k v h aq=true∧∀w:World,(∃V w',s.run P w=.ok (.value V) w'∧(w'=w∨w'={w with drawn:=w.drawn+1}))∧∀V w',s.run P w=.ok (.value V) w'->Rv E v V
theorem Hc{a:Nat}{k:AV->Bool}(he:oh .quo a b k=true)(E:Env):
  ∃v,k v=true∧∀w:World,∃V w',(Op.floatArith .quo .f64 a b).run P w=.ok V w'∧(w'=w∨w'={w with drawn:=w.drawn+1})∧Rv E v V:=by
 unfold oh at he;simp only at he;unfold Op.floatArith;simp only;cases hd:FloatKind.f64.format.div a b with
 |some r=>
  rw[hd] at he;simp only[aC] at he;exact⟨_,he,fun w=>⟨.float .f64 r,w,rfl,.inl rfl,by rw[Rv]⟩⟩
 |none=>
  rw[hd] at he;refine⟨_,he,fun w=>⟨.float .f64 ((Question.nanBits .f64 a b).cut (w.tape w.drawn (.nanBits .f64 a b))),_,?_,.inr rfl,?_⟩⟩
  ·simp[Question.forced]
  ·rw[Rv];exact⟨_,rfl,D3 _ _ _⟩
def NewO(P:Program)(s:Sem Next)(E:Env)(h:Heap)(aq:Nat)(k:K):Prop:=
 ∃(v:AV)(ao:AO)(V0:Nat->Value)(obj:Obj)(room:Nat),N7 obj∧(∀w,s.run P w=.ok (.value (V0 w.heap.size)) {w with heap:=w.heap.push obj})∧k v (T.set ao h aq) (aq+1)=true∧
  ∀(E':Env)(b:Nat),E.le E'->E' aq=some ⟨b,0,room⟩->Rv E' v (V0 b)∧∀w:World,w.heap[b]? =some obj->RO E' w aq ao
theorem NewO.of{s:Sem Value}(hh:Rb P s E h aq k):NewO P (do pure (.value (←s))) E h aq k:=by
 obtain⟨v,ao,V0,obj,room,h1,h2,h3⟩:=hh;exact⟨v,ao,V0,obj,room,h1,fun w=>by simp[h2 w],h3⟩
theorem AB(he:ym P o.op regs h aq k=true)(r:Rr E regs a.tmps):NewO P (execOp a.eval o) E h aq k∨NewVO P (execOp a.eval o) E h aq k:=by
 unfold ym at he;split at he
 ·rename_i hop
  unfold execOp;simp only[hop];exact .inl (.of (Hb E he))
 ·rename_i hop
  unfold execOp;simp only[hop];obtain⟨l,hl,he⟩:=vw r _ he;exact .inl (.of (wX he (by simpa using hl)))
 ·rename_i hop
  unfold execOp;simp only[hop];obtain⟨v,hv,he⟩:=bN he r;obtain⟨u,hu,he⟩:=bN he r;exact .inl (.of (yK he hv hu))
 ·rename_i hop
  unfold execOp;simp only[hop];exact .inl (.of (Cg E he))
 ·rename_i t x y yt hop
  unfold execOp;simp only[hop];obtain⟨v,hv,he⟩:=bN he r;obtain⟨u,hu,he⟩:=bN he r;split at he<;>try (cases he;done)
  rename_i a1 _;split at he<;>try (cases he;done)
  rename_i b1;rw[Rv] at hv hu;obtain⟨v,hk,pM⟩:=Hc (P:=P) he E;refine .inr ⟨v,hk,fun w=>?_⟩
  obtain⟨V,w',h1,h2,h3⟩:=pM w;have hg:(eqGuard .quo t x y (.float .f64 a1) (.float .f64 b1)).run P w=.ok () w:=bw (by simp) (by simp);have gY:(do pure (.value (←o7 P .quo t x y (a.eval x) (a.eval y))):Sem Next).run P w=.ok (.value V) w':=by
   rw[hv,hu];have:(binOp .quo t (.float .f64 a1) (.float .f64 b1)).run P w=.ok V w':=by rw[←h1];simp[binOp]
   simp[o7,hg,this]
  refine⟨⟨V,w',gY,h2⟩,fun V2 w2 h4=>?_⟩;have YY:=gY.symm.trans h4;cases YY
  exact h3
 ·cases he
variable[JC]
variable{DD:List Deferred}
def se(P:Program)(nt:Nat)(o:Oper)(regs:aI)(g:Heap)(k:aI->Bool):Bool:=
 qN P o.op regs g fun v=>bc (pZ v) (iI o.dst nt v regs k) false
def Wa(l:List Oper):aI->(aI->Bool)->Bool:=
 List.rec (motive:=fun _=>aI->(aI->Bool)->Bool) (fun regs k=>k regs)
  (fun o _ ih regs k=>match o.dst with|some d=>T.dj .no regs d fun r=>ih r k|none=>ih regs k) l
theorem Ex:∀(l:List Oper){regs:aI}{k:aI->Bool},Wa l regs k=true->∃av,k av=true∧(∀t,T.get .no av t=.no∨T.get .no av t=T.get .no regs t)∧∀o∈l,∀d,o.dst=some d->T.get .no av d=.no
 |[],regs,k,he=>⟨regs,he,fun _=>.inr rfl,fun _ h=>by cases h⟩
 |o::l,regs,k,he=>by
  have he:(match o.dst with|some d=>T.dj .no regs d fun r=>Wa l r k|none=>Wa l regs k)=true:=he;split at he
  ·rename_i d hd
   rw[T.bh] at he;obtain⟨av,k1,k2,k3⟩:=Ex l he;have e:T.get .no (T.set .no regs d) d=.no:=by rcases T.bd AV.no .no regs d with g|g<;>exact g
   refine⟨av,k1,fun t=>?_,fun o' El d' qw=>?_⟩
   ·rcases k2 t with h|h
    ·exact .inl h
    ·by_cases et:t=d
     ·subst et;rw[h];exact .inl e
     ·rw[h,T.ay _ _ _ _ _ et];exact .inr rfl
   ·rcases mcQ.1 El with rfl|El
    ·rw[hd] at qw;cases qw
     rcases k2 d with h|h
     ·exact h
     ·rw[h];exact e
    ·exact k3 o' El d' qw
  ·rename_i hd
   obtain⟨av,k1,k2,k3⟩:=Ex l he;refine⟨av,k1,k2,fun o' El d' qw=>?_⟩;rcases mcQ.1 El with rfl|El
   ·rw[hd] at qw;cases qw
   ·exact k3 o' El d' qw
def Ch(ops:Array Oper)(regs:aI):Prop:=∀o∈ops.toList,∀d,o.dst=some d->T.get .no regs d=.no
def Rc(ops:Array Oper)(kq:S)(regs:aI):K:=fun v h aq=>Wa ops.toList regs fun r=>kq (.node v r .nil) h aq
theorem cz.Ek{kn:S}{kx:Nat->S}{kr:S}(st:St DD E regs h aq nt a w)(g0:bk E0 h0 w0 E h w)(g:ng E h w (Rc ops (kx 0) regs) V w'):
  cz (Ch ops) DD E0 h0 w0 nt kn kx kr (.panic [{v:=V,recovered:=false}]) a w':=by
 obtain⟨v,h',aL,E',r,hr,gs,hk⟩:=g;obtain⟨av,k1,k2,k3⟩:=Ex _ hk;refine⟨E',av,h',aL,⟨fun t=>?_,st.size,st.defers,hr,JC.goes st.heap st.j gs hr⟩,g0.trans gs,k3,V,v,rfl,r,k1⟩;rcases k2 t with e|e<;>rw[e]
 ·simp[Rv]
 ·exact(st.regs t).mono gs.ext
theorem cz.unput(ho:ops[i]? =some o){kn:S}{kx:Nat->S}{kr:S}{c:List PanicEntry}
  (l:cz (Ch ops) DD E0 h0 w0 nt kn kx kr (.panic c) (a.put o.dst v) w):cz (Ch ops) DD E0 h0 w0 nt kn kx kr (.panic c) a w:=by
 obtain⟨E',av,h',aL,st,g,cl,rest⟩:=l;have cC:(a.put o.dst v).tmps.size=a.tmps.size:=by cases o.dst<;>simp[Act.put]
 have hdf:(a.put o.dst v).defers=a.defers:=by cases o.dst<;>rfl
 refine⟨E',av,h',aL,⟨fun t=>?_,cC▸st.size,hdf▸st.defers,st.heap,st.j⟩,g,cl,rest⟩;cases hd:o.dst with
 |none=>have:=st.regs t;rw[hd] at this;exact this
 |some d=>
  by_cases e:t=d
  ·subst e
   have hm:o∈ops.toList:=by
    rw[Array.mem_toList_iff];exact Array.mem_of_getElem? ho
   rw[cl o hm t hd];simp[Rv]
  ·have:=st.regs t
   rw[hd] at this;have e2:(a.put (some d) v).tmps.getD t undef=a.tmps.getD t undef:=by
    simp[Act.put,j9 (Ne.symm e)]
   rw[e2] at this;exact this
def p5(P:Program)(call:aO)(ext:iG)(kp:aI->K)(nt:Nat)(o:Oper)(regs:aI)(h:Heap)(aq:Nat)(k:S):Bool:=
 T.dj (.floor aq) h 0 fun hf=>bc (Nat.beq (bM hf) aq)
  (pU P call ext (fun v h' aL=>T.dj (T.get .gone h 0) h' 0 fun PZ=>kp regs v PZ aL) o.op regs hf aq fun v h' aL=>T.dj (T.get .gone h 0) h' 0 fun PZ=>iI o.dst nt v regs fun av=>k av PZ aL) false
abbrev qx:=Option (List (Nat×Nat×Nat×Nat))
def vP(i:Nat)(g:Heap)(pr:qx):Prop:=match pr with
 |none=>True
 |some l=>∀id,(T.get .gone g id).live=true->∃n e c,T.get .gone g id=.cells n e c∧(∃p∈l,p.1=id∧p.2.2.2=i)∧∀j,c.get j≠.no->∃p∈l,p.1=id∧(p.2.1<=j∧j<p.2.1+p.2.2.1)∧p.2.2.2=i
theorem vP.nil(i:Nat)(pr:qx):vP i .nil pr:=by
 cases pr with
 |none=>trivial
 |some l=>intro id hi;cases hi
def AD(P:Program)(ix:Nat)(o:Op)(regs:aI)(h:Heap)(pr:qx)(k:qx->Bool):Bool:=match o with
 |.load t x=>iC regs x fun v=>match v with
  |.p id off=>(match P.info? t with
   |some i=>bc (Nat.ble 1 i.size) (match T.get .gone h id with
    |.glob _ _ _=>k none
    |_=>k (pr.map fun l=>(id,off,i.size,ix)::l)) (k none)
   |none=>k none)
  |_=>k none
 |_=>k none
def Ey(pr:qx)(b id off sz:Nat):Bool:=match pr with
 |none=>false
 |some l=>l.all fun p=>bif Nat.beq p.1 id then(bif Nat.ble (p.2.1+p.2.2.1) off then true else bif Nat.ble (off+sz) p.2.1 then true else pb b p.2.2.2) else true
theorem Kg{l:List (Nat×Nat×Nat×Nat)}(h:Ey (some l) b id off sz=true){p:Nat×Nat×Nat×Nat}(hp:p∈l)(e:p.1=id):p.2.1+p.2.2.1<=off∨off+sz<=p.2.1∨b.testBit p.2.2.2=true:=by
 have:=Aad.1 h p hp;have e':Nat.beq p.1 id=true:=by rw[e];exact Nat.beq_refl id
 rw[e'] at this;cases hb:Nat.ble (p.2.1+p.2.2.1) off
 ·rw[hb] at this
  cases hc:Nat.ble (off+sz) p.2.1
  ·rw[hc] at this;exact .inr (.inr (jt.1 this))
  ·exact .inr (.inl (aU hc))
 ·exact .inl (aU hb)
def ON(g h:Heap):Prop:=(∀i fs,T.get .gone g i=.facts fs->T.get .gone h i=.facts fs)∧∀i p off q cap,T.get .gone g i=.ali p off q cap->T.get .gone h i=.ali p off q cap
theorem ON.fok(s:ON g h)(f:Ra E h):Ra E g:=⟨fun i fs hi=>f.1 i fs (s.1 i fs hi),fun i p off q cap hi=>f.2 i p off q cap (s.2 i p off q cap hi)⟩
theorem Re{ix:Nat}{o:Op}{pr:qx}{k:qx->Bool}(he:AD P ix o regs h pr k=true)(I3:∃kk,qN P o regs h kk=true):
  ∃lZ g,k lZ=true∧(∀i g',vP i g' pr->vP i g' lZ)∧(Sub g h∧ON g h)∧vP ix g lZ∧∀kk,qN P o regs g kk=qN P o regs h kk:=by
 have any:k none=true->∃lZ g,k lZ=true∧(∀i g',vP i g' pr->vP i g' lZ)∧(Sub g h∧ON g h)∧vP ix g lZ∧∀kk,qN P o regs g kk=qN P o regs h kk:=fun hk=>
  ⟨none,h,hk,fun _ _ _=>trivial,⟨Sub.refl h,fun _ _ e=>e,fun _ _ _ _ _ e=>e⟩,trivial,fun _=>rfl⟩
 unfold AD at he;split at he
 case h_2=>exact any he
 rename_i t x;obtain⟨v,hv,he⟩:=(cI regs x).val he;split at he
 case h_2=>exact any he
 rename_i id off;split at he
 case h_2=>exact any he
 rename_i i hi;rcases aR he with⟨h1,he⟩|⟨_,he⟩
 case inr=>exact any he
 have h1:=aU h1;obtain⟨kk,I3⟩:=I3;have I3:iC regs x (fun v=>iD P t v h kk)=true:=I3;rw[hv] at I3;unfold iD at I3;simp only at I3;split at I3<;>try (cases I3;done)
 case h_2=>rename_i g n c hc;rw[hc] at he;exact any he
 rename_i n gB c hc;clear I3;rw[hc] at he;refine⟨_,T.set (.cells n 0 (c.gT (fun j=>decide (off<=j∧j<off+i.size)))) (T.gT .gone (fun j=>decide (j=id)) h) id,he,?_,?_,?_,?_⟩
 ·intro i' g' hg'
  cases pr with
  |none=>trivial
  |some l=>
   intro id' hl;obtain⟨n',e',c',h2,⟨p0,wY,h20⟩,h3⟩:=hg' id' hl;exact⟨n',e',c',h2,⟨p0,by simp[wY],h20⟩,fun j hj=>by obtain⟨p,hp,h4⟩:=h3 j hj;exact⟨p,by simp[hp],h4⟩⟩
 all_goals
  have hk:T.get .gone (T.gT .gone (fun j=>decide (j=id)) h) id=.cells n gB c:=by rw[T.vO];simp[hc]
  have gid:T.get .gone (T.set (.cells n 0 (c.gT (fun j=>decide (off<=j∧j<off+i.size)))) (T.gT .gone (fun j=>decide (j=id)) h) id) id=.cells n 0 (c.gT (fun j=>decide (off<=j∧j<off+i.size))):=
   T.mG _ _ _ _ (by rw[hk];intro e;cases e)
  have gne:∀j,j≠id->T.get .gone (T.set (.cells n 0 (c.gT (fun j=>decide (off<=j∧j<off+i.size)))) (T.gT .gone (fun j=>decide (j=id)) h) id) j=.gone:=fun j hj=>by
   rw[T.ay _ _ _ _ _ hj,T.vO];simp[hj]
 ·refine⟨fun j hj=>?_,fun j fs hj=>?_,fun j p9 o9 q9 c9 hj=>?_⟩
  ·by_cases e:j=id
   ·subst e
    rw[gid,hc];refine⟨n,gB,c,rfl,nrQ _,.inl rfl,fun q=>?_⟩;rw[Cs.zG];by_cases hq:off<=q∧q<off+i.size
    ·right;simp[hq]
    ·left;simp[hq]
   ·rw[gne j e] at hj;cases hj
  ·by_cases e:j=id
   ·subst e;rw[gid] at hj;cases hj
   ·rw[gne j e] at hj;cases hj
  ·by_cases e:j=id
   ·subst e;rw[gid] at hj;cases hj
   ·rw[gne j e] at hj;cases hj
 ·cases pr with
  |none=>trivial
  |some l=>
   intro j hj;by_cases e:j=id
   ·subst e
    refine⟨_,_,_,gid,⟨(j,off,i.size,ix),by simp,rfl,rfl⟩,fun q hq=>⟨(j,off,i.size,ix),by simp,rfl,?_,rfl⟩⟩;rw[Cs.zG] at hq;by_cases hq':off<=q∧q<off+i.size
    ·exact hq'
    ·simp[hq'] at hq
   ·rw[gne j e] at hj;cases hj
 ·intro kk
  show iC regs x (fun v=>iD P t v _ kk)=iC regs x (fun v=>iD P t v h kk);rw[hv,hv];unfold iD;simp only[gid,hc];unfold oa;simp only[hi];cases P.underlying t with
  |none=>rfl
  |some d=>
   simp only;have e1:∀q,off<=q->q<off+i.size->(c.gT (fun j=>decide (off<=j∧j<off+i.size))).get q=c.get q:=fun q a b=>by
    rw[Cs.zG];simp[a,b]
   rw[kW,kW,e1 off (nrQ _) (by omega)];have e2:(List.range' off i.size).map (fun j=>(c.gT (fun j=>decide (off<=j∧j<off+i.size))).get j)=(List.range' off i.size).map fun j=>c.get j:=by
    refine List.map_congr_left fun q hq=>?_
    rw[List.mem_range'_1] at hq;exact e1 q hq.1 hq.2
   rw[e2]
theorem Rh{b b':Bool}(he:jO h id b=true)(hb:b'=true):jO h id b'=true:=by
 unfold jO at *;generalize T.get AO.gone h 0=o at *;cases o with
 |floor n=>obtain⟨h1,_⟩:=aa he;show bc (Nat.ble n id) b' false=true;rw[h1,hb];rfl
 |_=>exact hb
theorem Ri{call:aO}{t:TypeId}{x y:Operand}{i:TypeInfo}{kp:K}(he:pU P call ext kp (.store t x y) regs h aq k=true)
  (hx:∀{k:AV->Bool},iC regs x k=k (.p id off)) (hi:P.info? t=some i):
  ∃n gB c c',T.get .gone h id=.cells n gB c∧(∀k:K,k .un (T.set (.cells n gB c') h id) aq=true->pU P call ext kp (.store t x y) regs h aq k=true)∧k .un (T.set (.cells n gB c') h id) aq=true∧
   ∀j,j<off∨off+i.size<=j->c'.get j=c.get j:=by
 have he:iC regs x (fun x=>iC regs y fun y=>mC P t x y h fun h'=>k .un h' aq)=true:=he;rw[hx] at he;obtain⟨yv,hy,he⟩:=(cI regs y).val he;unfold mC at he;simp only at he;split at he<;>try (cases he;done)
 rename_i n gB c hc;rw[hi] at he;simp only at he;obtain⟨l,hl,he⟩:=(Ap yv).val he;obtain⟨h1,he⟩:=aa he;obtain⟨h2,he⟩:=aa he;have jI:=(gU he).2;rw[jn,T.bh] at jI;refine⟨n,gB,c,fu l c off,hc,fun k' lA=>?_,jI,fun j hj=>?_⟩
 ·show iC regs x (fun x=>iC regs y fun y=>mC P t x y h fun h'=>k' .un h' aq)=true
  rw[hx,hy];unfold mC;simp only[hc,hi];rw[hl,h1,nW,h2,nW];refine Rh he ?_;rw[jn,T.bh];exact lA
 ·have hlen:=zI h1
  exact Gq (by rw[hlen];exact hj)
def YZ(a b:Ge):Bool:=match a,b with
 |.b,.b=>true
 |.i k,.i l=>Nat.beq (FY k) (FY l)
 |.f,.f=>true
 |.s,.s=>true
 |_,_=>false
theorem Rj{a b:Ge}(h:YZ a b=true):a=b:=by
 cases a<;>cases b<;>first|rfl|cases h|(rw[s5 h])
def C'(a b:AV):Bool:=match a,b with
 |.no,.no=>true
 |.un,.un=>true
 |.b x,.b y=>bc x y (bc y false true)
 |.i k m,.i k' n=>bc (Nat.beq (FY k) (FY k')) (um m n) false
 |.f .f64 x,.f .f64 y=>Nat.beq x y
 |.nan,.nan=>true
 |.s l x,.s m y=>bc (Nat.beq l m) (Nat.beq x y) false
 |.pn,.pn=>true
 |.p i o,.p j q=>bc (Nat.beq i j) (Nat.beq o q) false
 |.pg i o,.pg j q=>bc (Nat.beq i j) (Nat.beq o q) false
 |.sn,.sn=>true
 |.sl a b c d,.sl a' b' c' d'=>bc (Nat.beq a a') (bc (Nat.beq b b') (bc (Nat.beq c c') (Nat.beq d d') false) false) false
 |.so a b c d,.so a' b' c' d'=>bc (Nat.beq a a') (bc (Nat.beq b b') (bc (Nat.beq c c') (Nat.beq d d') false) false) false
 |.fnil,.fnil=>true
 |.inil,.inil=>true
 |.mp i,.mp j=>Nat.beq i j
 |.mpn,.mpn=>true
 |.ii k,.ii k'=>Nat.beq (FY k) (FY k')
 |.x t e,.x t' e'=>bc (YZ t t') (eE e e') false
 |.any,.any=>true
 |.sx i m e f,.sx i' m' e' f'=>bc (Nat.beq i i') (bc (Nat.beq m m') (bc (eE e e') (eE f f') false) false) false
 |.sz i e,.sz i' e'=>bc (Nat.beq i i') (eE e e') false
 |.sr i e,.sr i' e'=>bc (Nat.beq i i') (eE e e') false
 |_,_=>false
theorem Rk{a b:Int}(h:um a b=true):a=b:=by
 cases a<;>cases b<;>first|(rw[aN h])|cases h
theorem AE{a b:AV}(h:C' a b=true):a=b:=by
 unfold C' at h;split at h<;>try rfl
 ·rename_i x y;cases x<;>cases y<;>first|rfl|cases h
 ·obtain⟨h1,h2⟩:=aa h;rw[s5 h1,Rk h2]
 ·rw[aN h]
 ·obtain⟨h1,h2⟩:=aa h;rw[aN h1,aN h2]
 ·obtain⟨h1,h2⟩:=aa h;rw[aN h1,aN h2]
 ·obtain⟨h1,h2⟩:=aa h;rw[aN h1,aN h2]
 ·obtain⟨h1,h2⟩:=aa h;obtain⟨h2,h3⟩:=aa h2;obtain⟨h3,h4⟩:=aa h3
  rw[aN h1,aN h2,aN h3,aN h4]
 ·obtain⟨h1,h2⟩:=aa h;obtain⟨h2,h3⟩:=aa h2;obtain⟨h3,h4⟩:=aa h3
  rw[aN h1,aN h2,aN h3,aN h4]
 ·rw[aN h]
 ·rw[s5 h]
 ·obtain⟨h1,h2⟩:=aa h;rw[Rj h1,cq h2]
 ·obtain⟨h1,h2⟩:=aa h;obtain⟨h2,h3⟩:=aa h2;obtain⟨h3,h4⟩:=aa h3
  rw[aN h1,aN h2,cq h3,cq h4]
 ·obtain⟨h1,h2⟩:=aa h;rw[aN h1,cq h2]
 ·obtain⟨h1,h2⟩:=aa h;rw[aN h1,cq h2]
 ·cases h
def cH(a:List AV):List AV->Bool:=List.rec (motive:=fun _=>List AV->Bool) (fun b=>List.rec (motive:=fun _=>Bool) true (fun _ _ _=>false) b) (fun v _ ih b=>List.rec (motive:=fun _=>Bool) false (fun u us _=>bc (C' v u) (ih us) false) b) a
theorem bb:∀{a b:List AV},cH a b=true->a=b
 |[],[],_=>rfl
 |[],_::_,h=>by cases h
 |_::_,[],h=>by cases h
 |v::a,u::b,h=>by
  have h:bc (C' v u) (cH a b) false=true:=h;obtain⟨h1,h2⟩:=aa h;rw[AE h1,bb h2]
def cY(a b:AV):Bool:=match a,b with
 |.fn (.func g) l m,.fn (.func g') l' m'=>bc (Nat.beq g g') (bc (cH l l') (cH m m') false) false
 |.ifc t (.ag l),.ifc t' (.ag l')=>bc (Nat.beq t t') (cH l l') false
 |.ifc t v,.ifc t' v'=>bc (Nat.beq t t') (C' v v') false
 |a,b=>C' a b
theorem bV{a b:AV}(h:cY a b=true):a=b:=by
 unfold cY at h;split at h
 ·obtain⟨h1,h2⟩:=aa h;obtain⟨h2,h3⟩:=aa h2
  rw[aN h1,bb h2,bb h3]
 ·obtain⟨h1,h2⟩:=aa h
  rw[aN h1,bb h2]
 ·obtain⟨h1,h2⟩:=aa h
  rw[aN h1,AE h2]
 ·exact AE h
def Rl(c c':Cs)(n:Nat):Nat->Bool:=Nat.rec (motive:=fun _=>Nat->Bool) (fun _=>true) (fun _ ih off=>bc (cY (c.get off) (c'.get off)) (ih (Nat.succ off)) false) n
theorem Hd{c c':Cs}:∀{n off:Nat},Rl c c' n off=true->∀j,off<=j->j<off+n->c.get j=c'.get j
 |0,_,_,j,h1,h2=>by omega
 |n+1,off,h,j,h1,h2=>by
  obtain⟨h3,h4⟩:=aa (b:=cY (c.get off) (c'.get off)) (x:=Rl c c' n (off+1)) h;by_cases e:j=off
  ·subst e;exact bV h3
  ·exact Hd h4 j (by omega) (by omega)
def Da(e e':nV):Bool:=bc (Nat.beq e.sz e'.sz) (bc (bc e.z e'.z (bc e'.z false true)) (match e.el,e'.el with
 |some t,some t'=>Nat.beq t t'
 |none,none=>true
 |_,_=>false) false) false
theorem sf{e e':nV}(h:Da e e'=true):e=e':=by
 obtain⟨a,b,c⟩:=e;obtain⟨a',b',c'⟩:=e';obtain⟨h1,h2⟩:=aa h;obtain⟨h2,h3⟩:=aa h2;obtain rfl:a=a':=aN h1;obtain rfl:c=c':=by cases c<;>cases c'<;>first|rfl|cases h2
 have:b=b':=by
  cases b<;>cases b'<;>first|rfl|cases h3|(rw[aN h3])
 rw[this]
def sameAt(h h':Heap)(id off sz:Nat):Bool:=match T.get .gone h id,T.get .gone h' id with
 |.cells n e c,.cells n' e' c'=>bc (Nat.beq n n') (bc (Da e e') (Rl c c' sz off) false) false
 |_,_=>false
theorem Db(he:sameAt h h' id off sz=true):∃n e c c',T.get .gone h id=.cells n e c∧T.get .gone h' id=.cells n e c'∧∀j,off<=j->j<off+sz->c.get j=c'.get j:=by
 unfold sameAt at he;split at he<;>try (cases he;done)
 rename_i n e c n' e' c' h1 h2;obtain⟨k1,k2⟩:=aa he;obtain⟨k2,k3⟩:=aa k2;obtain rfl:=aN k1;obtain rfl:=sf k2;exact⟨n,e,c,c',h1,h2,Hd k3⟩
def Kh(pr:qx)(b:Nat)(h h':Heap):Bool:=match pr with
 |none=>false
 |some l=>l.all fun p=>bc (pb b p.2.2.2) true (sameAt h h' p.1 p.2.1 p.2.2.1)
theorem Dc{l:List (Nat×Nat×Nat×Nat)}(he:Kh (some l) b h h'=true){p:Nat×Nat×Nat×Nat}(hp:p∈l)(nb:¬b.testBit p.2.2.2=true):sameAt h h' p.1 p.2.1 p.2.2.1=true:=by
 have:=Aad.1 he p hp;rcases aR this with⟨h1,_⟩|⟨_,h1⟩
 ·exact absurd (jt.1 h1) nb
 ·exact h1
def sh(P:Program)(call:aO)(ext:iG)(kp:aI->K)(nt:Nat)(o:Oper)(b:Nat)(pr:qx)(regs:aI)(h:Heap)(aq:Nat)(k:S):Bool:=match o.op with
 |.store t x y=>iC regs x fun xv=>match xv with
  |.p id off=>(match P.info? t with
   |some i=>bc (Ey pr b id off i.size) (pU P call ext (kp regs) (.store t x y) regs h aq fun v h' aL=>iI o.dst nt v regs fun av=>k av h' aL) (p5 P call ext kp nt o regs h aq k)
   |none=>false)
  |_=>false
 |.call c=>bc pr.isSome (pU P call ext (kp regs) (.call c) regs h aq fun v h' aL=>bc (Kh pr b h h') (iI o.dst nt v regs fun av=>k av h' aL) false) (p5 P call ext kp nt o regs h aq k)
 |_=>p5 P call ext kp nt o regs h aq k
def AF(P:Program)(fs:aB)(nt:Nat)(o:Oper)(regs:aI)(k:aI->Bool):Bool:=match o.op with
 |.pick c x y=>iC regs c fun c=>zU fs c (iC regs x fun v=>bc (pZ v) (iI o.dst nt v regs k) false) (iC regs y fun v=>bc (pZ v) (iI o.dst nt v regs k) false)
 |_=>se P nt o regs .nil k
def Ez(P:Program)(call:aO)(ext:iG)(kp:aI->K)(nt:Nat)(x:gE)(m:Nat)(pr:qx)(regs:aI)(h:Heap)(aq:Nat)(k:qx->S):Bool:=
 Nat.rec (motive:=fun _=>Bool) (AF P (au h) nt x.o regs fun av=>k pr av h aq)
  (fun m _=>Nat.rec (motive:=fun _=>Bool) (AD P x.i x.o.op regs h pr fun lZ=>se P nt x.o regs h fun av=>k lZ av h aq)
   (fun m _=>Nat.rec (motive:=fun _=>Bool) (pU P call ext (kp regs) x.o.op regs h aq fun v h' aL=>iI x.o.dst nt v regs fun av=>k pr av h' aL)
    (fun m _=>Nat.rec (motive:=fun _=>Bool) (sh P call ext kp nt x.o x.b pr regs h aq (k pr)) (fun m _=>Nat.rec (motive:=fun _=>Bool) (ym P x.o.op regs h aq fun v h' aL=>iI x.o.dst nt v regs fun av=>k pr av h' aL) (fun _ _=>false) m) m) m) m) m
def Ki(P:Program)(ops:Array Oper)(regs:aI)(b:Bool)(l:List Nat):Bool:=
 List.rec (motive:=fun _=>Bool) b (fun j _ ih=>match ops[j]? with
  |some o=>bc (Ms ops o regs (ym P o.op regs .nil 0 fun _ _ _=>true) true) ih false
  |none=>false) l
def Rm(P:Program)(o:Oper)(a:Act)(V0:Nat->Value)(obj:Obj):Prop:=
 N7 obj∧∀w,(execOp a.eval o).run P w=.ok (.value (V0 w.heap.size)) {w with heap:=w.heap.push obj}
def NewV(P:Program)(o:Oper)(a:Act):Prop:=
 ∀w:World,∃V w',(execOp a.eval o).run P w=.ok (.value V) w'∧(w'=w∨w'={w with drawn:=w.drawn+1})
def qy(P:Program)(ops:Array Oper)(o:Oper)(a:Act):Prop:=
 Region.wanted o (yielded ops a.tmps)=false∨(Region.wanted o (yielded ops a.tmps)=true∧((∃V0 obj,Rm P o a V0 obj)∨NewV P o a))
theorem Rm.put{P:Program}{ops:Array Oper}{o:Oper}{a:Act}{V0:Nat->Value}{obj:Obj}(h:Rm P o a V0 obj)(hs:∀cs b,o.op≠.select cs b){dst:Option Tmp}(hd:∀d,dst=some d->d∉o.looksAt ops)(V:Value):Rm P o (a.put dst V) V0 obj:=by
 refine⟨h.1,fun w=>?_⟩;rw[execOp_put o hs a dst V hd];exact h.2 w
theorem qy.put{P:Program}{ops:Array Oper}{o:Oper}{a:Act}(h:qy P ops o a)(hs:∀cs b,o.op≠.select cs b){dst:Option Tmp}(hd:∀d,dst=some d->d∉o.looksAt ops)(V:Value):qy P ops o (a.put dst V):=by
 unfold qy at *;rw[wanted_put o a dst V hd];rcases h with h|⟨h,⟨V0,obj,h1⟩|h1⟩
 ·exact .inl h
 ·exact .inr ⟨h,.inl ⟨V0,obj,h1.put hs hd V⟩⟩
 ·refine .inr ⟨h,.inr fun w=>?_⟩
  rw[execOp_put o hs a dst V hd];exact h1 w
theorem qy.lazy(h:uL P nt o=true)(a:Act):qy P ops o a:=by
 obtain⟨t,inf,z,d,f1,f2,f3,f4,f5,f6⟩:=OK h;refine .inr ⟨by simp[Region.wanted,f4],.inl ⟨fun b=>.pointer (some ⟨b,0,none⟩),.cells z.cells t (0,0),kV _ _,fun w=>?_⟩⟩
 unfold execOp;simp only[f1];simp[C9 f2 f3]
theorem Mw{P:Program}{ops:Array Oper}{regs:aI}{b:Bool}{E:Env}{a:Act}(r:Rr E regs a.tmps):∀(l:List Nat),Ki P ops regs b l=true->b=true∧∀j∈l,∀o,ops[j]? =some o->qy P ops o a
 |[],he=>⟨he,fun j hj=>by cases hj⟩
 |j::l,he=>by
  have he:(match ops[j]? with
   |some o=>bc (Ms ops o regs (ym P o.op regs .nil 0 fun _ _ _=>true) true) (Ki P ops regs b l) false
   |none=>false)=true:=he
  split at he<;>try (cases he;done)
  rename_i o ho;obtain⟨h1,he⟩:=aa he;obtain⟨h2,h3⟩:=Mw r l he;refine⟨h2,fun j' gQ o' El=>?_⟩;rcases mcQ.1 gQ with rfl|gQ
  ·rw[ho] at El;cases El
   rcases Q3 h1 r with⟨hw,hn⟩|⟨hw,_⟩
   ·rcases AB hn r with⟨v,ao,V0,obj,room,c1,c2,_⟩|⟨v,_,c1⟩
    ·exact .inr ⟨hw,.inl ⟨V0,obj,c1,c2⟩⟩
    ·exact .inr ⟨hw,.inr fun w=>(c1 w).1⟩
   ·exact .inl hw
  ·exact h3 j' gQ o' El
def fh(P:Program)(call:aO)(ext:iG)(nt:Nat)(ops:Array Oper)(l:List (gE×Nat))(kq kn:S):qx->S:=
 List.rec (motive:=fun _=>qx->S) (fun _=>kn)
  (fun x _ ih pr regs h aq=>Ki P ops regs (qv ops x.1.o regs h
   (fun h=>Ez P call ext (Rc ops kq) nt x.1 x.2 pr regs h aq fun lZ av h' aL=>ih lZ av h' aL)
   (fun h=>iI x.1.o.dst nt .un regs fun av=>ih pr av h aq)) x.1.pre) l
def He(F:Fr)(E:Env)(h:Heap)(R:Nat)(pr:qx):Prop:=∀i I,F i I->∃Ep g,I=IW Ep g∧Ep.le E∧Kf Ep g h∧(g=.nil∨R.testBit i=true)∧vP i g pr
inductive Ev where
 |skip
 |aH (b:Nat)
 |val
structure ir(ops:Array Oper)(D:Nat)(EA:Nat->Option Ev)(listed:Array Bool):Prop where
 size:listed.size=ops.size
 bit:∀j,listed.getD j false=(D.testBit j||(EA j).isSome)
theorem ir.set{D:Nat}{EA:Nat->Option Ev}{listed:Array Bool}(r:ir ops D EA listed)(hi:i<ops.size):ir ops (ko D i) EA (listed.setIfInBounds i true):=by
 refine⟨by simp[r.size],fun j=>?_⟩;rw[fW];by_cases e:i=j
 ·subst e
  have:i<listed.size:=by rw[r.size];exact hi
  simp[this]
 ·rw[getD_set_ne false e,r.bit];simp[e]
theorem ir.early{D:Nat}{EA:Nat->Option Ev}{listed:Array Bool}(r:ir ops D EA listed){b:Ev}(hi:i<ops.size):
  ir ops D (fun j=>if j=i then some b else EA j) (listed.setIfInBounds i true):=by
 refine⟨by simp[r.size],fun j=>?_⟩;by_cases e:i=j
 ·subst e
  have:i<listed.size:=by rw[r.size];exact hi
  simp[this]
 ·rw[getD_set_ne false e,r.bit];simp[Ne.symm e]
theorem ir.taken{D:Nat}{EA:Nat->Option Ev}{listed:Array Bool}(r:ir ops D EA listed){b:Ev}(hb:EA i=some b):
  ir ops (ko D i) (fun j=>if j=i then none else EA j) listed:=by
 refine⟨r.size,fun j=>?_⟩;rw[fW,r.bit];by_cases e:i=j
 ·subst e;simp[hb]
 ·simp[e,Ne.symm e]
theorem ir.Y0{D:Nat}{EA:Nat->Option Ev}{listed:Array Bool}(r:ir ops D EA listed)(hi:i<ops.size):listed.getD i true=(D.testBit i||(EA i).isSome):=by
 have:i<listed.size:=by rw[r.size];exact hi
 rw[←r.bit];simp[this]
theorem ir.mk_rdy{D:Nat}{EA:Nat->Option Ev}{listed:Array Bool}(r:ir ops D EA listed){x:gE}(hx:pc ops x)
  (h1:D.testBit x.i=false) (h2:EA x.i=none) (h3:∀t,x.d.testBit t=true->D.testBit t=true):x.i∈Es ops listed:=by
 have cL:x.i<ops.size:=(cW.1 hx.op).1;unfold Vx.Es;rw[mem_ready,r.Y0 cL,h1,h2];refine⟨rfl,x.o,hx.op,fun e he hb=>?_⟩;rw[r.bit,h3 _ ((hx.dir _).2 ⟨x.o,hx.op,e,he,hb,rfl⟩)];rfl
def Kj(P:Program)(ops:Array Oper)(o:Oper)(a:Act)(w:World)(d:Nat):Ev->Prop
 |.skip=>Region.wanted o (yielded ops a.tmps)=false∧a.tmps.getD d undef=undef
 |.val=>Region.wanted o (yielded ops a.tmps)=true∧NewV P o a∧∃w1 w2,(execOp a.eval o).run P w1=.ok (.value (a.tmps.getD d undef)) w2
 |.aH b=>Region.wanted o (yielded ops a.tmps)=true∧∃V0 obj,Rm P o a V0 obj∧a.tmps.getD d undef=V0 b∧w.heap[b]? =some obj
theorem EB{dst:Option Tmp}(h:dst≠some d)(V:Value):(a.put dst V).tmps.getD d undef=a.tmps.getD d undef:=by
 cases dst with
 |none=>rfl
 |some d'=>
  have:d'≠d:=fun e=>h (by rw[e])
  simp[Act.put,j9 this]
theorem Kj.put{P:Program}{ops:Array Oper}{o:Oper}{a:Act}{w w':World}{d:Nat}{e:Ev}(h:Kj P ops o a w d e)(hs:∀cs b,o.op≠.select cs b){dst:Option Tmp}(hd:∀d,dst=some d->d∉o.looksAt ops)(hn:dst≠some d)(V:Value)
  (hw:∀b,e=.aH b->w'.heap[b]? =w.heap[b]?):Kj P ops o (a.put dst V) w' d e:=by
 cases e with
 |skip=>
  obtain⟨h1,h2⟩:=h;exact⟨by rw[wanted_put o a dst V hd];exact h1,by rw[EB hn];exact h2⟩
 |aH b=>
  obtain⟨h1,V0,obj,h2,h3,h4⟩:=h;exact⟨by rw[wanted_put o a dst V hd];exact h1,V0,obj,h2.put hs hd V,by rw[EB hn];exact h3,by rw[hw b rfl];exact h4⟩
 |val=>
  obtain⟨h1,h2,w1,w2,h3⟩:=h;refine⟨by rw[wanted_put o a dst V hd];exact h1,fun w=>?_,w1,w2,?_⟩
  ·rw[execOp_put o hs a dst V hd];exact h2 w
  ·rw[execOp_put o hs a dst V hd,EB hn];exact h3
structure ub(P:Program)(ops:Array Oper)(nt Pr:Nat)(E:Env)(h:Heap)(w:World)(a:Act)(l:List (gE×Nat))(n0:Nat)(EA:Nat->Option Ev):Prop where
 mem:∀i e,EA i=some e->∃y∈l,y.1.i=i
 is:∀y∈l,∀e,EA y.1.i=some e->y.2=4∧hP P nt Pr y.1=true∧∃d,y.1.o.dst=some d∧Kj P ops y.1.o a w d e
 aH:∀i b,EA i=some (.aH b)->n0<=b∧b<w.heap.size∧∀id M,(T.get .gone h id).live=true->E id=some M->M.aH≠b
 inj:∀i j b,EA i=some (.aH b)->EA j=some (.aH b)->i=j
theorem ub.mono{Pr':Nat}{l:List (gE×Nat)}{EA:Nat->Option Ev}(k:ub P ops nt Pr E h w a l n0 EA)
  (hp:∀y,hP P nt Pr y=true->hP P nt Pr' y=true):ub P ops nt Pr' E h w a l n0 EA:=
 ⟨k.mem,fun y hy e he=>by obtain⟨h1,h2,h3⟩:=k.is y hy e he;exact⟨h1,hp _ h2,h3⟩,k.aH,k.inj⟩
theorem ub.fk{l:List (gE×Nat)}{EA:Nat->Option Ev}(k:ub P ops nt Pr E h w a l n0 EA)(f:Fk h h1):ub P ops nt Pr E h1 w a l n0 EA:=
 ⟨k.mem,k.is,fun i b hb=>by obtain⟨h1,h2,h3⟩:=k.aH i b hb;exact⟨h1,h2,fun id M hl=>h3 id M (by rw[←f.live];exact hl)⟩,k.inj⟩
theorem He.fk{F:Fr}{pr:qx}(k:He F E h R pr)(f:Fk h h1):He F E h1 R pr:=fun i I hi=>by
 obtain⟨Ep,g,h1,h2,⟨h3,h4⟩,h5⟩:=k i I hi;refine⟨Ep,g,h1,h2,⟨fun j hj=>?_,h4⟩,h5⟩;have:=h3 j hj;rw[f.same j (.inl (by rw[this.live];exact hj))];exact this
def PrH(Pr:Nat):List (gE×Nat)->Nat
 |[]=>Pr
 |(x,_)::_=>gZ Pr x.pre
theorem ni(l:List (gE×Nat))(y:gE)(h:hP P nt Pr y=true):hP P nt (PrH Pr l) y=true:=by
 cases l with
 |nil=>exact h
 |cons x l=>exact lh h
def AG(regs:aI)(l:List (gE×Nat)):Prop:=∀y∈l,y.2=4->∀d,y.1.o.dst=some d->T.get .no regs d=.no
theorem AH(hr:HR E h n w)(hl:(T.get .gone h i).live=true):∃M,E i=some M:=by
 have ho:=hr.obj i;cases hg:T.get .gone h i with
 |gone=>rw[hg] at hl;cases hl
 |floor m=>rw[hg] at hl;cases hl
 |facts m=>rw[hg] at hl;cases hl
 |ali a1 a2 a3 a4=>rw[hg] at hl;cases hl
 |cells=>rw[hg] at ho;obtain⟨M,_,_,e,_⟩:=ho;exact⟨M,e⟩
 |map=>rw[hg] at ho;obtain⟨M,_,e,_⟩:=ho;exact⟨M,e⟩
 |siter=>rw[hg] at ho;obtain⟨M,e,_⟩:=ho;exact⟨M,e⟩
 |glob=>rw[hg] at ho;obtain⟨M,_,_,_,e,_⟩:=ho;exact⟨M,e⟩
 |rows=>rw[hg] at ho;obtain⟨M,_,_,e,_⟩:=ho;exact⟨M,e⟩
 |blob=>rw[hg] at ho;obtain⟨M,_,_,e,_⟩:=ho;exact⟨M,e⟩
theorem ub.go{x:gE}{l:List (gE×Nat)}{EA:Nat->Option Ev}(k:ub P ops nt Pr E h w a ((x,m)::l) n0 EA)
  (hx:EA x.i=none) (hd:∀y∈l,y.2=4->∀d,y.1.o.dst=some d->x.o.dst≠some d) (ha:∀y∈l,y.2=4->hP P nt Pr y.1=true->x.o.apart ops y.1.o=true) (Kk:∀y∈l,∀cs b,y.1.o.op≠.select cs b)
  (hr:HR E h aq w) (g:bk E h w E' h' w') (V:Value):ub P ops nt Pr E' h' w' (a.put x.o.dst V) l n0 EA:=by
 have iq:∀i b,EA i=some (.aH b)->¬fp E h b:=by
  rintro i b hb ⟨id,M,_,h2,h3,h4⟩;exact(k.aH i b hb).2.2 id M h2 h3 h4
 refine⟨fun i e hb=>?_,fun y hy e hb=>?_,fun i b hb=>?_,k.inj⟩
 ·obtain⟨y,hy,e'⟩:=k.mem i e hb
  rcases mcQ.1 hy with rfl|hy
  ·rw[←e',hx] at hb;cases hb
  ·exact⟨y,hy,e'⟩
 ·obtain⟨h4,h5,d,h6,h7⟩:=k.is y (by simp[hy]) e hb
  refine⟨h4,h5,d,h6,h7.put (Kk y hy) (Oper.apart_spec (ha y hy h4 h5)).1 (hd y hy h4 d h6) V fun b eb=>?_⟩;subst eb;exact g.fr b (k.aH _ b hb).2.1 (iq _ b hb)
 ·obtain⟨b1,b2,b3⟩:=k.aH i b hb
  refine⟨b1,by have:=g.size;omega,fun id M hl hM hMb=>?_⟩;rcases gC id (Vx.bM h) with hid|hid
  ·rw[g.gT id hid] at hl
   obtain⟨M',hM'⟩:=AH hr hl;have:=g.ext _ _ hM';rw[hM] at this;cases this;exact b3 id M hl hM' hMb
  ·exact iq i b hb (g.CE b b2 ⟨id,M,by rw[g.bM];exact hid,hl,hM,hMb⟩)
def Rn(dst:Option Tmp)(v:AV)(regs:aI):aI:=match dst with
 |none=>regs
 |some d=>T.set v regs d
theorem AG.put{regs:aI}{x:gE}{m:Nat}{l:List (gE×Nat)}(n:AG regs ((x,m)::l))(hd:∀y∈l,y.2=4->∀d,y.1.o.dst=some d->x.o.dst≠some d){nt:Nat}{v:AV}{av:aI}
  (e:av=Rn x.o.dst v regs):AG av l:=by
 intro y hy h4 d hyd;have:=n y (by simp[hy]) h4 d hyd;subst e;cases hx:x.o.dst with
 |none=>exact this
 |some d'=>
  have ne:d≠d':=fun e=>hd y hy h4 d hyd (by rw[hx,e])
  show T.get .no (T.set v regs d') d=.no;rw[T.ay _ _ _ _ _ ne];exact this
theorem zc{dst:Option Tmp}{v:AV}{k:aI->Bool}(he:iI dst nt v regs k=true):k (Rn dst v regs)=true:=by
 cases dst with
 |none=>exact he
 |some d=>
  obtain⟨_,h2⟩:=aa he;rw[T.bh] at h2;exact h2
theorem zd{dst:Option Tmp}{v:AV}{k:aI->Bool}(he:iI dst nt v regs k=true)(s:St DD E regs h aq nt a w)(rv:Rv E v V):
  St DD E (Rn dst v regs) h aq nt (a.put dst V) w∧k (Rn dst v regs)=true:=by
 refine⟨?_,zc he⟩;cases dst with
 |none=>exact s
 |some d=>
  obtain⟨h1,_⟩:=aa he;exact s.put (aU h1) rv
theorem vL.steps{Q:Exit->Act->World->Prop}{F:Fr}{listed:Array Bool}(hj:j∈Es ops listed)
  (h:∀k∈Es ops listed,wpOp P ops Q k (fun a' w'=>(F.rest ops k).kept w w'∧vL P ops Q n (F.rest ops k) (listed.setIfInBounds k true) a' w') a w):vL P ops Q (n+1) F listed a w:=
 ⟨fun h=>(by rw[h] at hj;cases hj),h⟩
theorem fC{P:Program}{call:aO}{ext:iG}(aQ:bj P call)(fO:om P ext){nt:Nat}{ops:Array Oper}(hs:Region.noSelect ops=true){kn:S}{kx:Nat->S}{kr:S}
  {E0:Env} {h0:Heap} {w0:World} {n0':Nat} (Ci:HR E0 h0 n0' w0) (AI:JC.J E0 h0 w0):∀(N:Nat)(l:List (gE×Nat))(D R Pr:Nat)(pr:qx)(EA:Nat->Option Ev)(listed:Array Bool)(F:Fr)(E:Env)(regs:aI)(h:Heap)(aq:Nat)(a:Act)(w:World),
  (l.filter fun p=>(EA p.1.i).isNone).length+l.length<=N->
  cf P nt ops (2 ^ ops.size-1) l D R Pr=true->(∀p∈l,pc ops p.1)->ir ops D EA listed->pX ops listed->He F E h R pr->fh P call ext nt ops l (kx 0) kn pr regs h aq=true->St DD E regs h aq nt a w->bk E0 h0 w0 E h w->
  ub P ops nt (PrH Pr l) E h w a l w0.heap.size EA->AG regs l->(∀y∈l,y.2=4->hP P nt Pr y.1=true->qy P ops y.1.o a)->
  vL P ops (cz (Ch ops) DD E0 h0 w0 nt kn kx kr) (l.filter fun p=>(EA p.1.i).isNone).length F listed a w
 |N,[],D,R,Pr,pr,EA,listed,F,E,regs,h,aq,a,w,_,hg,_,hl,hc,hF,he,st,g,ea,_,_=>by
  refine⟨?_,E,regs,h,aq,st,g,he⟩;apply List.eq_nil_iff_forall_not_mem.2;intro j hj;have cL:j<ops.size:=by
   obtain⟨_,o,ho,_⟩:=mem_ready.1 hj;exact(cW.1 ho).1
  rcases uN [] D R Pr hg j cL with hd|⟨_,hy,_⟩
  ·have:=Ax hj
   rw[hl.bit,hd] at this;cases this
  ·cases hy
 |0,x::l,D,R,Pr,pr,EA,listed,F,E,regs,h,aq,a,w,hN,_,_,_,_,_,_,_,_,_,_,_=>by
  simp at hN
 |N+1,(x,m)::l,D,R,Pr,pr,EA,listed,F,E,regs,h,aq,a,w,hN,hg,Cj,hl,hc,hF,heP,st,g,ea,ny,hpr=>by
  have cR:=Eu hg;obtain⟨gg,g6⟩:=ie hg;have hx:pc ops x:=Cj (x,m) (by simp);have cL:x.i<ops.size:=(cW.1 hx.op).1;have qz:∀p∈l,pc ops p.1:=fun p hp=>Cj p (by simp[hp])
  have Kk:∀y∈(x,m)::l,∀cs b,y.1.o.op≠.select cs b:=fun y hy cs b=>Region.noSelect_spec hs y.1.i y.1.o cs b (Cj y hy).op
  have Hf:∀y∈l,∀cs b,y.1.o.op≠.select cs b:=fun y hy=>Kk y (by simp[hy])
  have hQ:∀(v:Value) c a w,cz (Ch ops) DD E0 h0 w0 nt kn kx kr (.panic c) (a.put x.o.dst v) w->cz (Ch ops) DD E0 h0 w0 nt kn kx kr (.panic c) a w:=fun v c a w hh=>hh.unput hx.op
  have hL:¬LetsOut (cz (Ch ops) DD E0 h0 w0 nt kn kx kr):=by
   rintro⟨a,w,⟨_,_,_,_,_,_,hh⟩⟩;exact hh
  have AJ:∀y∈l,y.2=4->∀d,y.1.o.dst=some d->x.o.dst≠some d:=gg.dst;have ea:ub P ops nt (gZ Pr x.pre) E h w a ((x,m)::l) w0.heap.size EA:=ea;have mono:∀{R' lZ},(∀t,R.testBit t=true->R'.testBit t=true)->(∀i g,vP i g pr->vP i g lZ)->He F E h R' lZ:=fun hR hp i I hi=>by
   obtain⟨Ep,g',h1,h2,h3,h4,h5⟩:=hF i I hi;exact⟨Ep,g',h1,h2,h3,h4.imp id (hR i),hp _ _ h5⟩
  have he0:Ki P ops regs (qv ops x.o regs h
   (fun h=>Ez P call ext (Rc ops (kx 0)) nt x m pr regs h aq fun lZ av h' aL=>fh P call ext nt ops l (kx 0) kn lZ av h' aL)
   (fun h=>iI x.o.dst nt .un regs fun av=>fh P call ext nt ops l (kx 0) kn pr av h aq)) x.pre=true:=heP
  obtain⟨he,hpre⟩:=Mw st.regs _ he0;have Wb:∀y∈(x,m)::l,y.2=4->hP P nt (gZ Pr x.pre) y.1=true->qy P ops y.1.o a:=fun y hy h4 hr=>by
   by_cases vQ:uL P nt y.1.o=true
   ·exact .lazy vQ a
   ·have hb:pb (gZ Pr x.pre) y.1.i=true:=by
     unfold hP at hr;cases hb:pb (gZ Pr x.pre) y.1.i
     ·rw[hb] at hr;exact absurd hr vQ
     ·rfl
    rcases G4.1 (jt.1 hb) with hb|hb
    ·refine hpr y hy h4 ?_
     unfold hP;rw[jt.2 hb];rfl
    ·exact hpre _ hb _ (Cj y hy).op
  have Rs:∀V,∀y∈l,y.2=4->hP P nt (gZ Pr x.pre) y.1=true->qy P ops y.1.o (a.put x.o.dst V):=fun V y hy h4 hr=>
   (Wb y (by simp[hy]) h4 hr).put (Hf y hy) (Oper.apart_spec (gg.V8 y hy h4 hr)).1 V
  have apt2:∀y∈(x,m)::l,∀z∈(x,m)::l,y.2=4->z.2=4->hP P nt (gZ Pr x.pre) y.1=true->hP P nt (gZ Pr x.pre) z.1=true->y.1.i≠z.1.i->∀d,y.1.o.dst=some d->d∉z.1.o.looksAt ops:=by
   intro y hy z hz Cf YW ry rz ne d hd;rcases mcQ.1 hy with rfl|hy<;>rcases mcQ.1 hz with rfl|hz
   ·exact absurd rfl ne
   ·exact(Oper.apart_spec (gg.V8 z hz YW rz)).1 d hd
   ·exact(Oper.apart_spec (gg.V8 y hy Cf ry)).2.2 d hd
   ·exact G9 l _ _ _ g6 y hy z hz Cf YW ry rz ne d hd
  cases Kl:EA x.i with
  |some e=>
   obtain⟨hm,I3,d,e2,qA⟩:=ea.is (x,m) (by simp) e Kl;have hm:m=4:=hm;have e2:x.o.dst=some d:=e2;have qA:Kj P ops x.o a w d e:=qA;subst hm;have hfil:(((x,4)::l).filter fun p=>(EA p.1.i).isNone)=l.filter fun p=>((fun j=>if j=x.i then none else EA j) p.1.i:Option Ev).isNone:=by
    rw[List.filter_cons];simp only[Kl,Option.isNone_some,ftQ,if_false];refine List.filter_congr fun y hy=>?_
    simp[cR y hy]
   have hNN:(l.filter fun p=>((fun j=>if j=x.i then none else EA j) p.1.i:Option Ev).isNone).length+l.length<=N:=by
    rw[←hfil];simp at hN⊢;omega
   have hpr3:∀y∈l,y.2=4->hP P nt (gZ Pr x.pre) y.1=true->qy P ops y.1.o a:=fun y hy=>Wb y (by simp[hy])
   have rest:ub P ops nt (gZ Pr x.pre) E h w a l w0.heap.size (fun j=>if j=x.i then none else EA j):=by
    refine⟨fun i b' pO=>?_,fun y hy b' pO=>?_,fun i b' pO=>?_,fun i j b' hi hj=>?_⟩
    ·by_cases e:i=x.i
     ·simp[e] at pO
     ·simp only[e,if_false] at pO
      obtain⟨y,hy,e'⟩:=ea.mem i b' pO;rcases mcQ.1 hy with rfl|hy
      ·exact absurd e'.symm e
      ·exact⟨y,hy,e'⟩
    ·simp only[cR y hy,if_false] at pO
     exact ea.is y (by simp[hy]) b' pO
    ·by_cases e:i=x.i
     ·simp[e] at pO
     ·simp only[e,if_false] at pO
      exact ea.aH i b' pO
    ·by_cases ei:i=x.i
     ·simp[ei] at hi
     ·by_cases ej:j=x.i
      ·simp[ej] at hj
      ·simp only[ei,if_false] at hi
       simp only[ej,if_false] at hj;exact ea.inj i j b' hi hj
   rw[hfil];obtain⟨h,fw,fk,OO⟩:=vH he st.regs st.heap;have hF:=hF.fk fk;have st:St DD E regs h aq nt a w:=⟨st.regs,st.size,st.defers,fw,JC.goes st.heap st.j fk.goes fw⟩;have g:=g.trans fk.goes;have ea:=ea.fk fk;have rest:=rest.fk fk;have mono:∀{R' lZ},(∀t,R.testBit t=true->R'.testBit t=true)->(∀i g,vP i g pr->vP i g lZ)->He F E h R' lZ:=fun hR hp i I hi=>by
    obtain⟨Ep,g',h1,h2,h3,h4,h5⟩:=hF i I hi;exact⟨Ep,g',h1,h2,h3,h4.imp id (hR i),hp _ _ h5⟩
   rcases OO with⟨hw,he⟩|⟨hw,he⟩
   ·have he:ym P x.o.op regs h aq (fun v h' aL=>iI x.o.dst nt v regs fun av=>fh P call ext nt ops l (kx 0) kn pr av h' aL)=true:=he
    cases e with
    |skip=>have:=qA.1;rw[hw] at this;cases this
    |val=>
     obtain⟨_,Y1,w1,w2,e5⟩:=qA;rcases AB he st.regs with⟨v,ao,V1,Rt,room,c1,c2,_⟩|⟨v,k3,c1⟩
     ·exfalso
      obtain⟨V,w',q1,q2⟩:=Y1 w;rw[c2 w] at q1;cases q1
      rcases q2 with q2|q2<;>(have:=congrArg (fun w:World=>w.heap.size) q2;simp at this)
     ·have rv:=(c1 w1).2 _ _ e5
      have k3:=zc k3;rw[e2] at k3;have dB:St DD E (T.set v regs d) h aq nt a w:=by
       refine⟨fun t'=>?_,st.size,st.defers,st.heap,st.j⟩;by_cases e:t'=d
       ·subst e
        rcases T.bd AV.no v regs t' with g|g<;>rw[g]
        ·exact rv
        ·simp[Rv]
       ·rw[T.ay _ _ _ _ _ e];exact st.regs t'
      exact fC aQ fO hs Ci AI N l _ _ _ pr _ listed F _ _ _ _ a w hNN g6 qz (hl.taken Kl) hc (mono (fun t ht=>ht) (fun _ _ h=>h)) k3 dB g (ub.mono rest (ni l)) (ny.put AJ (x:=x) (m:=4) (v:=v) (nt:=nt) (by rw[e2])) hpr3
    |aH b=>
     obtain⟨_,V0,obj,I2,e5,e6⟩:=qA;obtain⟨b1,b2,b3⟩:=ea.aH x.i b Kl;rcases AB he st.regs with⟨v,ao,V1,Rt,room,c1,c2,k3,c4⟩|⟨v,_,c1⟩
     case inr=>
      exfalso;obtain⟨⟨V,w',q1,q2⟩,_⟩:=c1 w;rw[I2.2 w] at q1;cases q1
      rcases q2 with q2|q2<;>(have:=congrArg (fun w:World=>w.heap.size) q2;simp at this)
     have hV:V0 b=V1 b∧obj=Rt:=by
      have q1:=I2.2 {w with heap:=Array.replicate b obj};have q2:=c2 {w with heap:=Array.replicate b obj};rw[q1] at q2;simp only[Array.size_replicate,Result.ok.injEq,Next.value.injEq] at q2;refine⟨q2.1,?_⟩;have hh:=congrArg World.heap q2.2;have h1:((Array.replicate b obj).push obj)[b]? =some obj:=by rw[Array.getElem?_push];simp
      have h2:((Array.replicate b obj).push Rt)[b]? =some Rt:=by rw[Array.getElem?_push];simp
      have hh:(Array.replicate b obj).push obj=(Array.replicate b obj).push Rt:=hh;rw[hh,h2] at h1;cases h1;rfl
     obtain⟨hV,rfl⟩:=hV;have k3:=zc k3;rw[e2] at k3;have hle:=Env.pK (st.heap.fresh aq (nrQ _)) ⟨b,0,room⟩;obtain⟨c5,c6⟩:=c4 (fun i=>if i=aq then some ⟨b,0,room⟩ else E i) b hle (by simp);have cO:=st.heap.Ha ⟨b,0,room⟩ b2 b3 ao (c6 w e6);have g':=g.Ha st.heap ⟨b,0,room⟩ b1 ao;have dB:St DD (fun i=>if i=aq then some ⟨b,0,room⟩ else E i) (T.set v regs d) (T.set ao h aq) (aq+1) nt a w:=by
      refine⟨fun t'=>?_,st.size,st.defers,cO,JC.goes Ci AI g' cO⟩;by_cases e:t'=d
      ·subst e
       rcases T.bd AV.no v regs t' with g|g<;>rw[g]
       ·rw[e5,hV];exact c5
       ·simp[Rv]
      ·rw[T.ay _ _ _ _ _ e];exact(st.regs.mono hle) t'
     refine fC aQ fO hs Ci AI N l _ _ _ pr _ listed F _ _ _ _ a w hNN g6 qz (hl.taken Kl) hc ?_ k3 dB g' (ub.mono ?_ (ni l)) ?_ hpr3
     ·intro i I hi
      obtain⟨Ep,gh,h1,h2,h3,h4,h5⟩:=hF i I hi;refine⟨Ep,gh,h1,Env.le_trans h2 hle,⟨fun j hj=>?_,h3.2⟩,h4,h5⟩;have yL:=h3.1 j hj;have:j≠aq:=by
       rintro rfl;have:=st.heap.lt j (nrQ _);rw[yL.live,hj] at this;cases this
      rw[T.ay _ _ _ _ _ this];exact yL
     ·refine⟨fun i b' pO=>?_,fun y hy b' pO=>?_,fun i b' pO=>?_,fun i j b' hi hj=>?_⟩
      ·by_cases e:i=x.i
       ·simp[e] at pO
       ·simp only[e,if_false] at pO
        obtain⟨y,hy,e'⟩:=ea.mem i b' pO;rcases mcQ.1 hy with rfl|hy
        ·exact absurd e'.symm e
        ·exact⟨y,hy,e'⟩
      ·simp only[cR y hy,if_false] at pO
       exact ea.is y (by simp[hy]) b' pO
      ·by_cases e:i=x.i
       ·simp[e] at pO
       ·simp only[e,if_false] at pO
        obtain⟨c1,c2',c3⟩:=ea.aH i b' pO;refine⟨c1,c2',fun id M oU hM=>?_⟩;by_cases en:id=aq
        ·have:M=⟨b,0,room⟩:=by simpa[en] using hM.symm
         subst this;intro ebb;have ebb:b=b':=ebb;subst ebb;exact e (ea.inj i x.i b pO Kl)
        ·rw[T.ay _ _ _ _ _ en] at oU
         exact c3 id M oU (by simpa[en] using hM)
      ·by_cases ei:i=x.i
       ·simp[ei] at hi
       ·by_cases ej:j=x.i
        ·simp[ej] at hj
        ·simp only[ei,if_false] at hi
         simp only[ej,if_false] at hj;exact ea.inj i j b' hi hj
     ·exact ny.put AJ (x:=x) (m:=4) (v:=v) (nt:=nt) (by rw[e2])
   ·cases e with
    |aH b=>have:=qA.1;rw[hw] at this;cases this
    |val=>have:=qA.1;rw[hw] at this;cases this
    |skip=>
     obtain⟨_,e5⟩:=qA;have k3:=zc he;rw[e2] at k3;have dB:St DD E (T.set .un regs d) h aq nt a w:=by
      refine⟨fun t'=>?_,st.size,st.defers,st.heap,st.j⟩;by_cases e:t'=d
      ·subst e
       rcases T.bd AV.no .un regs t' with g|g<;>rw[g]
       ·rw[e5,Rv]
       ·simp[Rv]
      ·rw[T.ay _ _ _ _ _ e];exact st.regs t'
     exact fC aQ fO hs Ci AI N l _ _ _ pr _ listed F _ _ _ _ a w hNN g6 qz (hl.taken Kl) hc (mono (fun t ht=>ht) (fun _ _ h=>h)) k3 dB g (ub.mono rest (ni l)) (ny.put AJ (x:=x) (m:=4) (v:=.un) (nt:=nt) (by rw[e2])) hpr3
  |none=>
   have hr:x.i∈Es ops listed:=hl.mk_rdy hx gg.new Kl gg.Es;have Em:=hl.set cL;have Y2:=hc.set hr;have hlen:(((x,m)::l).filter fun p=>(EA p.1.i).isNone).length=(l.filter fun p=>(EA p.1.i).isNone).length+1:=by
    rw[List.filter_cons];simp[Kl]
   have hN':(l.filter fun p=>(EA p.1.i).isNone).length+l.length<=N:=by
    rw[hlen] at hN;simp at hN;omega
   have cover:∀j,j<ops.size->j≠x.i->listed.getD j true=false->∃y∈l,y.1.i=j∧EA j=none:=fun j hj cR Q5=>by
    rw[hl.Y0 hj,Bool.or_eq_false_iff] at Q5;obtain⟨Q5,hun2⟩:=Q5;have hn:EA j=none:=by cases he:EA j with
     |none=>rfl
     |some b=>rw[he] at hun2;cases hun2
    rcases uN l _ _ _ g6 j hj with hd|hd
    ·rw[fW,Q5,Bool.false_or,decide_eq_true_iff] at hd
     exact absurd hd.symm cR
    ·obtain⟨y,hy,e⟩:=hd;exact⟨y,hy,e,hn⟩
   have free:m<2->∀j oj,ops[j]? =some oj->j≠x.i->listed.getD j true=false->¬Reach ops j x.i->x.o.apart ops oj=true:=fun hm j oj hj cR Q5 G2=>by
    obtain⟨y,hy,rfl,_⟩:=cover j (cW.1 hj).1 cR Q5;have hyo:=(qz y hy).op;rw[hj] at hyo;cases hyo;rcases gg.free hm y hy with h|h
    ·exact absurd ((qz y hy).bef _ h) G2
    ·exact h
   have one:2<=m->∀k∈Es ops listed,k=x.i∨∃y∈l,y.1.i=k∧y.2=4∧EA k=none∧hP P nt (gZ Pr x.pre) y.1=true:=fun hm k hk=>by
    obtain⟨Q5,o,ho,pM⟩:=mem_ready.1 hk;have lA:k<ops.size:=(cW.1 ho).1;by_cases e:k=x.i
    ·exact .inl e
    ·obtain⟨y,hy,rfl,hn⟩:=cover k lA e Q5
     have early:∀t b,EA t=some b->∃z∈l,z.2=4∧hP P nt (gZ Pr x.pre) z.1=true∧z.1.i=t:=fun t b hb=>by
      obtain⟨z,hz,e⟩:=ea.mem t b hb;rcases mcQ.1 hz with rfl|hz'
      ·have e:x.i=t:=e
       rw[←e,Kl] at hb;cases hb
      ·obtain⟨k1,k2,_⟩:=ea.is z hz b (by rw[e];exact hb)
       exact⟨z,hz',k1,k2,e⟩
     have Y3:∀t,y.1.d.testBit t=true->D.testBit t=true∨Q7 P nt D (gZ Pr x.pre) l t:=fun t ht=>by
      have:=zb hk (((qz y hy).dir t).1 ht);rw[hl.bit,Bool.or_eq_true] at this;refine this.imp id fun hs=>?_
      obtain⟨b,hb⟩:=Option.isSome_iff_exists.1 hs;obtain⟨z,hz,k1,k2,e⟩:=early t b hb;refine⟨z,hz,k1,k2,fun t' ht'=>?_,e⟩;have hz1:listed.getD z.1.i false=true:=by rw[hl.bit,e,hb];simp
      have:=hc _ _ hz1 (((qz z hz).dir t').1 ht');rw[hl.bit,Bool.or_eq_true] at this;refine this.imp id fun vQ=>?_
      obtain⟨b',pO⟩:=Option.isSome_iff_exists.1 vQ;obtain⟨q,hq,q1,_,q3⟩:=early t' b' pO;exact⟨q,hq,q1,q3⟩
     rcases gg.one hm y hy with⟨h4,h5⟩|h4
     ·exact .inr ⟨y,hy,rfl,h4,hn,h5 Y3⟩
     ·exact absurd Y3 h4
   have lz:∀y∈(x,m)::l,y.2=4->EA y.1.i=none->hP P nt (gZ Pr x.pre) y.1=true->y.1.i∈Es ops listed->wpOp P ops (cz (Ch ops) DD E0 h0 w0 nt kn kx kr) y.1.i (fun a' w'=>(F.rest ops y.1.i).kept w w'∧
     vL P ops (cz (Ch ops) DD E0 h0 w0 nt kn kx kr) (l.filter fun p=>(EA p.1.i).isNone).length (F.rest ops y.1.i) (listed.setIfInBounds y.1.i true) a' w') a w:=by
    intro y hy Cf hyE Hg hyr;obtain⟨d,f5,f6⟩:=OL (C7 _ _ _ _ hg y hy Cf);have hyi:=Cj y hy;have hylt:y.1.i<ops.size:=(cW.1 hyi.op).1;have cC:a.tmps.size=nt:=st.size;have kept:∀w',HR E h aq w'->(F.rest ops y.1.i).kept w w':=fun w' hrj i I hi hI=>by
     obtain⟨Ep,gh,rfl,h2,h3,_⟩:=hF i I hi.1;exact IW.of h2 hrj h3
    have fin:∀(e:Ev)(Va:Value)(w':World),HR E h aq w'->bk E0 h0 w0 E h w'->w.heap.size<=w'.heap.size->(∀b,b<w.heap.size->w'.heap[b]? =w.heap[b]?)->Kj P ops y.1.o (a.put y.1.o.dst Va) w' d e->
      (∀b,e=.aH b->b=w.heap.size∧b<w'.heap.size)->vL P ops (cz (Ch ops) DD E0 h0 w0 nt kn kx kr) (l.filter fun p=>(EA p.1.i).isNone).length (F.rest ops y.1.i) (listed.setIfInBounds y.1.i true) (a.put y.1.o.dst Va) w':=by
     intro e Va w' hrj gj hsw hold YQ hbe;have hcnt:=Az (EA:=EA) (b:=e) _ _ _ _ hg y hy hyE;have dB:St DD E regs h aq nt (a.put y.1.o.dst Va) w':=by
      refine⟨fun t'=>?_,by rw[f5];simpa[Act.put] using cC,by rw[f5];simpa[Act.put] using st.defers,hrj,JC.goes Ci AI gj hrj⟩;by_cases e:t'=d
      ·subst e
       rw[ny y hy Cf _ f5];simp[Rv]
      ·rw[EB (by rw[f5];intro h;cases h;exact e rfl)];exact st.regs t'
     have ea':ub P ops nt (PrH Pr ((x,m)::l)) E h w' (a.put y.1.o.dst Va) ((x,m)::l) w0.heap.size (fun j=>if j=y.1.i then some e else EA j):=by
      refine⟨fun i b hb=>?_,fun q hq b hb=>?_,fun i b hb=>?_,fun i j b hi hj=>?_⟩
      ·by_cases ei:i=y.1.i
       ·exact⟨y,hy,ei.symm⟩
       ·simp only[ei,if_false] at hb;exact ea.mem i b hb
      ·by_cases ei:q.1.i=y.1.i
       ·have:=Ay _ _ _ _ hg q hq y hy ei
        subst this;simp only[if_true,siQ] at hb;subst hb;exact⟨Cf,Hg,d,f5,YQ⟩
       ·simp only[ei,if_false] at hb
        obtain⟨h4,h5,d',h6,h7⟩:=ea.is q hq b hb;refine⟨h4,h5,d',h6,h7.put (Kk q hq) (fun d2 Vf=>apt2 y hy q hq Cf h4 Hg h5 (Ne.symm ei) d2 Vf) (G8 _ _ _ _ hg q hq y hy h4 Cf ei d' h6) Va fun b' eb=>?_⟩;subst eb;exact hold b' (ea.aH _ b' hb).2.1
      ·by_cases ei:i=y.1.i
       ·simp only[ei,if_true,siQ] at hb
        obtain⟨Oj,oH⟩:=hbe b hb;refine⟨by have:=g.size;omega,oH,fun id M oU hM hMb=>?_⟩;have:=st.heap.kT id M hM;omega
       ·simp only[ei,if_false] at hb
        obtain⟨b1,b2,b3⟩:=ea.aH i b hb;exact⟨b1,by omega,b3⟩
      ·by_cases ei:i=y.1.i<;>by_cases ej:j=y.1.i
       ·rw[ei,ej]
       ·simp only[ei,if_true,siQ] at hi
        simp only[ej,if_false] at hj;have h1:=(hbe b hi).1;have:=(ea.aH j _ hj).2.1;omega
       ·simp only[ej,if_true,siQ] at hj
        simp only[ei,if_false] at hi;have h1:=(hbe b hj).1;have:=(ea.aH i _ hi).2.1;omega
       ·simp only[ei,if_false] at hi
        simp only[ej,if_false] at hj;exact ea.inj i j b hi hj
     have hpr4:∀q∈(x,m)::l,q.2=4->hP P nt Pr q.1=true->qy P ops q.1.o (a.put y.1.o.dst Va):=fun q hq h4 hrq=>by
      by_cases ei:q.1.i=y.1.i
      ·have:=Ay _ _ _ _ hg q hq y hy ei
       subst this;cases e with
       |skip=>exact .inl YQ.1
       |val=>exact .inr ⟨YQ.1,.inr YQ.2.1⟩
       |aH b=>obtain⟨k1,V0,obj,k2,_⟩:=YQ;exact .inr ⟨k1,.inl ⟨V0,obj,k2⟩⟩
      ·exact(Wb q hq h4 (lh hrq)).put (Kk q hq) (fun d2 Vf=>apt2 y hy q hq Cf h4 Hg (lh hrq) (Ne.symm ei) d2 Vf) Va
     have:=fC (kx:=kx) (kr:=kr) (E0:=E0) (h0:=h0) (w0:=w0) aQ fO hs Ci AI N ((x,m)::l) D R Pr pr (fun j=>if j=y.1.i then some e else EA j) (listed.setIfInBounds y.1.i true) (F.rest ops y.1.i) E regs h aq
      (a.put y.1.o.dst Va) w' (by dsimp only at hcnt⊢;omega) hg Cj (hl.early hylt) (hc.set hyr) (fun i I hi=>hF i I hi.1) heP dB gj ea' ny hpr4
     rw[hlen] at hcnt;have e':(((x,m)::l).filter fun p=>((fun j=>if j=y.1.i then some e else EA j) p.1.i:Option Ev).isNone).length=(l.filter fun p=>(EA p.1.i).isNone).length:=by omega
     rw[e'] at this;exact this
    have tmd:∀Va,(a.put y.1.o.dst Va).tmps.getD d undef=Va:=fun Va=>by
     rw[f5];have:d<a.tmps.size:=by rw[cC];exact f6
     simp[Act.put,this]
    have Hh:=OM (C8 _ _ _ _ hg y hy Cf);unfold wpOp;simp only[hyi.op];rcases Wb y hy Cf Hg with hw|⟨hw,⟨V0,obj,I2⟩|Y1⟩
    ·rw[if_neg (by simp[hw])]
     refine⟨kept w st.heap,?_⟩;exact fin .skip undef w st.heap g (nrQ _) (fun _ _=>rfl) ⟨by rw[wanted_put y.1.o a _ undef Hh];exact hw,tmd undef⟩ (fun b hb=>by cases hb)
    ·rw[if_pos hw]
     refine .inl ?_;unfold Oper.wp;rw[I2.2 w];simp only[Oper.upon];refine⟨kept _ (st.heap.Ew obj),?_⟩;refine fin (.aH w.heap.size) _ _ (st.heap.Ew obj) (g.Ew I2.1) (by simp) (fun b hb=>?_) ⟨by rw[wanted_put y.1.o a _ _ Hh];exact hw,V0,obj,I2.put (Kk y hy) Hh _,tmd _,by simp⟩ (fun b hb=>by cases hb;exact⟨rfl,by simp⟩)
     show(w.heap.push obj)[b]? =_;rw[Array.getElem?_push,if_neg (by omega)]
    ·rw[if_pos hw]
     refine .inl ?_;unfold Oper.wp;obtain⟨V,w',gY,D9⟩:=Y1 w;rw[gY];simp only[Oper.upon];have hd0:(execOp (a.put y.1.o.dst V).eval y.1.o)=execOp a.eval y.1.o:=execOp_put y.1.o (Kk y hy) a _ V Hh;have dn:∀w3,Kj P ops y.1.o (a.put y.1.o.dst V) w3 d .val:=fun w3=>
      ⟨by rw[wanted_put y.1.o a _ V Hh];exact hw,fun w=>by rw[hd0];exact Y1 w,w,w',by rw[hd0,tmd];exact gY⟩
     rcases D9 with rfl|rfl
     ·exact⟨kept _ st.heap,fin .val V _ st.heap g (nrQ _) (fun _ _=>rfl) (dn _) (fun b hb=>by cases hb)⟩
     ·exact⟨kept _ st.heap.drew,fin .val V _ st.heap.drew (g.trans (bk.drew _ _ _)) (nrQ _) (fun _ _=>rfl) (dn _) (fun b hb=>by cases hb)⟩
   rw[hlen];by_cases hm4:m=4
   ·subst hm4
    refine vL.steps hr fun k hk=>?_
    rcases one (by omega) k hk with rfl|⟨y,hy,rfl,Cf,hyE,Hg⟩
    ·exact lz (x,4) (by simp) rfl Kl (gg.Q9 rfl).1.2 hr
    ·exact lz y (by simp[hy]) Cf hyE Hg hk
   have step2:2<=m->wpOp P ops (cz (Ch ops) DD E0 h0 w0 nt kn kx kr) x.i (fun a' w'=>(F.rest ops x.i).kept w w'∧
     vL P ops (cz (Ch ops) DD E0 h0 w0 nt kn kx kr) (l.filter fun p=>(EA p.1.i).isNone).length (F.rest ops x.i) (listed.setIfInBounds x.i true) a' w') a w->
     vL P ops (cz (Ch ops) DD E0 h0 w0 nt kn kx kr) ((l.filter fun p=>(EA p.1.i).isNone).length+1) F listed a w:=fun hm hh=>by
    refine vL.steps hr fun k hk=>?_
    rcases one hm k hk with rfl|⟨y,hy,rfl,Cf,hyE,Hg⟩
    ·exact hh
    ·exact lz y (by simp[hy]) Cf hyE Hg hk
   obtain⟨h,fw,fk,OO⟩:=vH he st.regs st.heap;have hF:=hF.fk fk;have st:St DD E regs h aq nt a w:=⟨st.regs,st.size,st.defers,fw,JC.goes st.heap st.j fk.goes fw⟩;have g:=g.trans fk.goes;have ea:=ea.fk fk;have mono:∀{R' lZ},(∀t,R.testBit t=true->R'.testBit t=true)->(∀i g,vP i g pr->vP i g lZ)->He F E h R' lZ:=fun hR hp i I hi=>by
    obtain⟨Ep,g',h1,h2,h3,h4,h5⟩:=hF i I hi;exact⟨Ep,g',h1,h2,h3,h4.imp id (hR i),hp _ _ h5⟩
   have RR:∀t,R.testBit t=true->(bif Nat.beq m 1 then ko R x.i else R).testBit t=true:=fun t ht=>by
    cases Nat.beq m 1
    ·exact ht
    ·show(ko R x.i).testBit t=true
     rw[fW,ht];rfl
   have gov:=gg.over;have FrR:∀{R' lZ},(∀t,R.testBit t=true->R'.testBit t=true)->(∀i g,vP i g pr->vP i g lZ)->He F E h R' lZ:=mono;have Mx:∀(lZ:qx)(gh:Heap)(kk:aI->Bool)(v0:AV),m<2->Sub gh h∧ON gh h->(gh=.nil∨m=1)->(∀i g,vP i g pr->vP i g lZ)->vP x.i gh lZ->Region.wanted x.o (yielded ops a.tmps)=true->
     pZ v0=true->iI x.o.dst nt v0 regs kk=true->(∀(E1:Env)(n1:Nat)(w1:World),E.le E1->HR E1 gh n1 w1->∃V,(execOp a.eval x.o).run P w1=.ok (.value V) w1∧Rv E1 v0 V)->
     (∀av,kk av=fh P call ext nt ops l (kx 0) kn lZ av h aq)->vL P ops (cz (Ch ops) DD E0 h0 w0 nt kn kx kr) ((l.filter fun p=>(EA p.1.i).isNone).length+1) F listed a w:=by
    intro lZ gh kk v0 hm sb0 hgh hcov hcg hw hex he val hkk;have sb:Kf E gh h:=⟨sb0.1,sb0.2.fok st.heap.fok⟩;obtain⟨V0,gY,rv⟩:=val E _ w (Env.le_refl E) (st.heap.sub sb);obtain⟨dB,hk⟩:=zd he st rv;rw[hkk] at hk;refine vL.take (v:=V0) hx.op hs (hQ _) hL _ F listed a w hc (free hm) hr (I:=IW E gh) (.inl ⟨hw,?_⟩) (IW.of (Env.le_refl E) st.heap sb) ?_
    ·rintro w1 ⟨E1,n1,hE,fw⟩
     obtain⟨V1,hrun1,rv1⟩:=val E1 n1 w1 hE fw;rw[hrun1,Rv.exact hE v0 V0 V1 hex rv rv1]
    ·refine fC aQ fO hs Ci AI N l _ _ _ lZ EA _ _ E _ h aq _ w hN' g6 qz Em Y2 ?_ hk dB g ((ea.go Kl AJ gg.V8 Hf st.heap (bk.refl _ _ _) V0).mono (ni l)) (ny.put AJ (nt:=nt) rfl) (Rs V0)
     rintro i I (hi|⟨rfl,rfl⟩)
     ·exact FrR RR hcov i I hi
     ·refine⟨E,gh,rfl,Env.le_refl E,sb,?_,hcg⟩
      rcases hgh with rfl|hm1
      ·exact .inl rfl
      ·right
       rw[hm1];show(ko R x.i).testBit x.i=true;rw[fW];simp
   have pure:∀(lZ:qx)(gh:Heap)(kk:aI->Bool),m<2->Sub gh h∧ON gh h->(gh=.nil∨m=1)->(∀i g,vP i g pr->vP i g lZ)->vP x.i gh lZ->Region.wanted x.o (yielded ops a.tmps)=true->se P nt x.o regs gh kk=true->
     (∀av,kk av=fh P call ext nt ops l (kx 0) kn lZ av h aq)->vL P ops (cz (Ch ops) DD E0 h0 w0 nt kn kx kr) ((l.filter fun p=>(EA p.1.i).isNone).length+1) F listed a w:=by
    intro lZ gh kk hm sb0 hgh hcov hcg hw he hkk;unfold se at he;obtain⟨v0,hv,he⟩:=(Q2 P x.o.op regs gh).val he;obtain⟨hex,he⟩:=aa he;refine Mx lZ gh kk v0 hm sb0 hgh hcov hcg hw hex he (fun E1 n1 w1 hE fw=>?_) hkk
    classical
    have hk:qN P x.o.op regs gh (fun v=>decide (v=v0))=true:=by rw[hv];simp
    obtain⟨v',V,w',k1,k2,k3,k4⟩:=Mo hk (st.regs.mono hE) fw;have:v'=v0:=by simpa using k4
    subst this;rcases k2 with rfl|⟨rfl,_⟩
    ·exact⟨V,k1,k3⟩
    ·cases hex
   have skip:∀(kk:aI->Bool),Region.wanted x.o (yielded ops a.tmps)=false->iI x.o.dst nt .un regs kk=true->
     (∀av,kk av=fh P call ext nt ops l (kx 0) kn pr av h aq)->vL P ops (cz (Ch ops) DD E0 h0 w0 nt kn kx kr) ((l.filter fun p=>(EA p.1.i).isNone).length+1) F listed a w:=by
    intro kk hw he hkk;obtain⟨dB,hk⟩:=zd he st (V:=undef) (by rw[Rv]);rw[hkk] at hk;have ea':=(ea.go Kl AJ gg.V8 Hf st.heap (bk.refl _ _ _) undef).mono (ni l);have ny':AG (Rn x.o.dst .un regs) l:=ny.put AJ (nt:=nt) rfl;rcases gC m 2 with hm|hm
    ·refine vL.take (v:=undef) hx.op hs (hQ _) hL _ F listed a w hc (free hm) hr (I:=IW E .nil) (.inr ⟨hw,rfl⟩) (IW.of (Env.le_refl E) st.heap ⟨Sub.nil h,Ra.nil E⟩) ?_
     refine fC aQ fO hs Ci AI N l _ _ _ pr EA _ _ E _ h aq _ w hN' g6 qz Em Y2 ?_ hk dB g ea' ny' (Rs undef);rintro i I (hi|⟨rfl,rfl⟩)
     ·exact FrR RR (fun _ _ h=>h) i I hi
     ·exact⟨E,.nil,rfl,Env.le_refl E,⟨Sub.nil h,Ra.nil E⟩,.inl rfl,vP.nil _ pr⟩
    ·refine step2 hm ?_
     unfold wpOp;simp only[hx.op];rw[if_neg (by simp[hw])];refine⟨fun _ _ _ hI=>hI,?_⟩;exact fC aQ fO hs Ci AI N l _ _ _ pr EA _ _ E _ h aq _ w hN' g6 qz Em Y2 (fun i I hi=>FrR RR (fun _ _ h=>h) i I hi.1) hk dB g ea' ny' (Rs undef)
   have run:2<=m->Region.wanted x.o (yielded ops a.tmps)=true->∀(kk:K),pU P call ext (Rc ops (kx 0) regs) x.o.op regs h aq kk=true->
     (∀v h' aL,kk v h' aL=true->iI x.o.dst nt v regs (fun av=>fh P call ext nt ops l (kx 0) kn pr av h' aL)=true∧
      ∀i I,Fr.rest ops x.i F i I->∀Ep g,I=IW Ep g->Kf Ep g h->(g=.nil∨R.testBit i=true)->vP i g pr->Sub g h'∨(g≠.nil∧m=2))->vL P ops (cz (Ch ops) DD E0 h0 w0 nt kn kx kr) ((l.filter fun p=>(EA p.1.i).isNone).length+1) F listed a w:=by
    intro hm hw kk he hkk;refine step2 hm ?_;unfold wpOp;simp only[hx.op];rw[if_pos hw];refine .inl (Oper.wp_mono ?_ (y9 aQ fO he st.regs st.heap st.j _ fun V w' gv=>cz.Ek st g gv))
    rintro a' w' ⟨V,rfl,v,h',aL,E',rv,cO,g',hk⟩;obtain⟨hk,V9⟩:=hkk _ _ _ hk;obtain⟨dB,hk⟩:=zd hk (st.mono g' cO) rv;have fr:∀i I,Fr.rest ops x.i F i I->∃Ep g,I=IW Ep g∧Ep.le E'∧Kf Ep g h'∧(g=.nil∨R.testBit i=true)∧vP i g pr:=fun i I hi=>by
     obtain⟨Ep,gg,h1,h2,h3,h4,h5⟩:=hF i I hi.1;rcases V9 i I hi Ep gg h1 h3 h4 h5 with h6|⟨h6,hm2⟩
     ·exact⟨Ep,gg,h1,Env.le_trans h2 g'.ext,⟨h6,h3.2⟩,h4,h5⟩
     ·rcases h4 with h4|h4
      ·exact absurd h4 h6
      ·exact absurd (hx.bef _ (gov hm2 _ h4)) hi.2
    refine⟨fun i I hi _=>?_,?_⟩
    ·obtain⟨Ep,gg,rfl,h2,h3,_⟩:=fr i I hi
     exact IW.of h2 cO h3
    ·refine fC aQ fO hs Ci AI N l _ _ _ pr EA _ _ E' _ h' aL _ w' hN' g6 qz Em Y2 (fun i I hi=>?_) hk dB (g.trans g') ((ea.go Kl AJ gg.V8 Hf st.heap g' V).mono (ni l)) (ny.put AJ (nt:=nt) rfl) (Rs V)
     obtain⟨Ep,gg,h1,h2,h3,h4,h5⟩:=fr i I hi;exact⟨Ep,gg,h1,h2,h3,h4.imp id (RR i),h5⟩
   have Ve:2<=m->Region.wanted x.o (yielded ops a.tmps)=true->p5 P call ext (Rc ops (kx 0)) nt x.o regs h aq (fun av h' aL=>fh P call ext nt ops l (kx 0) kn pr av h' aL)=true->vL P ops (cz (Ch ops) DD E0 h0 w0 nt kn kx kr) ((l.filter fun p=>(EA p.1.i).isNone).length+1) F listed a w:=by
    intro hm hw he;unfold p5 at he;rw[T.bh] at he;obtain⟨jI,he⟩:=aa he;have jI:=aN jI;refine step2 hm ?_;unfold wpOp;simp only[hx.op];rw[if_pos hw];have thr:∀V w',ng E (T.set (.floor aq) h 0) w (fun v h' aL=>T.dj (T.get .gone h 0) h' 0 fun PZ=>Rc ops (kx 0) regs v PZ aL) V w'->ng E h w (Rc ops (kx 0) regs) V w':=by
     rintro V w' ⟨v,h',aL,E',rv,cO,g',hk⟩;simp only[T.bh] at hk;obtain⟨jF,g2',_⟩:=st.heap.Mv jI cO g';exact⟨v,_,aL,E',rv,jF,g2',hk⟩
    refine .inl (Oper.wp_mono ?_ (y9 aQ fO he st.regs (st.heap.floor jI) (JC.Ve st.heap rfl st.j) _ fun V w' gv=>cz.Ek st g (thr V w' gv)))
    rintro a' w' ⟨V,rfl,v,h',aL,E',rv,cO,g',hk⟩;simp only[T.bh] at hk;obtain⟨jF,g2',same⟩:=st.heap.Mv jI cO g';obtain⟨dB,hk⟩:=zd hk (st.mono g2' jF) rv;have sub':∀gg,Sub gg h->Sub gg (T.set (T.get .gone h 0) h' 0):=fun gg sg i hi=>by
     have e:=sg i hi;have:i<aq:=by
      rcases gC i aq with hh|hh
      ·exact hh
      ·have:=st.heap.lt i hh
       rw[e.live,hi] at this;cases this
     rw[same i this];exact e
    have fr:∀i I,Fr.rest ops x.i F i I->∃Ep g,I=IW Ep g∧Ep.le E'∧Kf Ep g (T.set (T.get .gone h 0) h' 0)∧(g=.nil∨R.testBit i=true)∧vP i g pr:=fun i I hi=>by
     obtain⟨Ep,gg,h1,h2,h3,h4⟩:=hF i I hi.1;exact⟨Ep,gg,h1,Env.le_trans h2 g'.ext,⟨sub' gg h3.1,h3.2⟩,h4⟩
    refine⟨fun i I hi _=>?_,?_⟩
    ·obtain⟨Ep,gg,rfl,h2,h3,_⟩:=fr i I hi
     exact IW.of h2 jF h3
    ·refine fC aQ fO hs Ci AI N l _ _ _ pr EA _ _ E' _ _ aL _ w' hN' g6 qz Em Y2 (fun i I hi=>?_) hk dB (g.trans g2') ((ea.go Kl AJ gg.V8 Hf st.heap g2' V).mono (ni l)) (ny.put AJ (nt:=nt) rfl) (Rs V)
     obtain⟨Ep,gg,h1,h2,h3,h4,h5⟩:=fr i I hi;exact⟨Ep,gg,h1,h2,h3,h4.imp id (RR i),h5⟩
   rcases OO with⟨hw,he⟩|⟨hw,he⟩
   case inr=>exact skip _ hw he fun _=>rfl
   match m,he,hm4,pure,run,Ve,Mx with
   |0,he,_,pure,_,_,Mx=>
    have he:AF P (au h) nt x.o regs (fun av=>fh P call ext nt ops l (kx 0) kn pr av h aq)=true:=he;unfold AF at he;split at he
    ·rename_i c xx yy hop
     obtain⟨cv,rc,he⟩:=bN he st.regs;have go:∀z,(∀w1,(execOp a.eval x.o).run P w1=.ok (.value (a.eval z)) w1)->iC regs z (fun v=>bc (pZ v) (iI x.o.dst nt v regs fun av=>fh P call ext nt ops l (kx 0) kn pr av h aq) false)=true->
       vL P ops (cz (Ch ops) DD E0 h0 w0 nt kn kx kr) ((l.filter fun p=>(EA p.1.i).isNone).length+1) F listed a w:=by
      intro z hz he;obtain⟨v0,rv0,he⟩:=bN he st.regs;obtain⟨hex,he⟩:=aa he;exact Mx pr .nil _ v0 (by omega) ⟨Sub.nil h,⟨fun i fs e=>(by cases e),fun i p off q cap e=>(by cases e)⟩⟩ (.inl rfl) (fun _ _ h=>h) (vP.nil _ pr) hw hex he (fun E1 n1 w1 hE _=>⟨_,hz w1,rv0.mono hE⟩) fun _=>rfl
     rcases Gy he rc (aD st.heap) with⟨CS,he⟩|⟨CS,he⟩
     ·exact go xx (fun w1=>by simp[execOp,hop,CS,asBool]) he
     ·exact go yy (fun w1=>by simp[execOp,hop,CS,asBool]) he
    ·exact pure pr .nil _ (by omega) ⟨Sub.nil h,⟨fun i fs e=>(by cases e),fun i p off q cap e=>(by cases e)⟩⟩ (.inl rfl) (fun _ _ h=>h) (vP.nil _ pr) hw he fun _=>rfl
   |1,he,_,pure,_,_,_=>
    have he:AD P x.i x.o.op regs h pr (fun lZ=>se P nt x.o regs h fun av=>fh P call ext nt ops l (kx 0) kn lZ av h aq)=true:=he;have I3:∃kk,qN P x.o.op regs h kk=true:=by
     unfold AD at he;have out:∀{lZ:qx}{kk:aI->Bool},se P nt x.o regs h kk=true->∃kk,qN P x.o.op regs h kk=true:=fun hh=>⟨_,hh⟩
     split at he
     ·obtain⟨v,_,he⟩:=(cI regs _).val he
      split at he
      ·split at he
       ·rcases aR he with⟨_,he⟩|⟨_,he⟩
        ·split at he<;>exact⟨_,he⟩
        ·exact⟨_,he⟩
       ·exact⟨_,he⟩
      ·exact⟨_,he⟩
     ·exact⟨_,he⟩
    obtain⟨lZ,gh,k1,k2,k3,k4,k5⟩:=Re he I3;exact pure lZ gh _ (by omega) k3 (.inr rfl) k2 k4 hw ((k5 _).trans k1) fun _=>rfl
   |2,he,_,_,run,_,_=>
    refine run (by omega) hw _ he fun v h' aL hk=>⟨hk,fun i I hi Ep gg _ _ _ _=>?_⟩
    by_cases hn:gg=.nil
    ·subst hn;exact .inl (Sub.nil _)
    ·exact .inr ⟨hn,rfl⟩
   |3,he,_,_,run,Ve,_=>
    have he:sh P call ext (Rc ops (kx 0)) nt x.o x.b pr regs h aq (fun av h' aL=>fh P call ext nt ops l (kx 0) kn pr av h' aL)=true:=he;unfold sh at he;split at he
    case h_3=>exact Ve (by omega) hw he
    case h_2 c0 hop=>
     rcases aR he with⟨hp,he⟩|⟨_,he⟩
     case inr=>exact Ve (by omega) hw he
     rw[←hop] at he;refine run (by omega) hw _ he fun v h' aL hk=>?_
     obtain⟨Ru,hk⟩:=aa hk;refine⟨hk,fun i I hi Ep gg _ sg _ cv=>.inl fun j hj=>?_⟩;cases hpr:pr with
     |none=>rw[hpr] at hp;cases hp
     |some lp=>
      rw[hpr] at Ru cv;have hle:=sg.1 j hj;have nb:∀p:Nat×Nat×Nat×Nat,p.2.2.2=i->¬x.b.testBit p.2.2.2=true:=fun p e hb=>hi.2 (hx.bef _ (by rw[←e];exact hb))
      obtain⟨n0,e0,c0,h0',⟨p0,wY,q1,q2⟩,OP⟩:=cv j hj;obtain⟨nn,ee,ca,cb,s1,s2,_⟩:=Db (Dc Ru wY (nb p0 q2));rw[q1] at s1 s2;rw[h0',s1] at hle;obtain⟨n1,e1,c1,Wc,h3',YY,h5'⟩:=hle;cases Wc
      rw[h0',s2];refine⟨nn,ee,cb,rfl,h3',YY,fun q=>?_⟩;by_cases hq:c0.get q=.no
      ·exact .inl hq
      ·right
       obtain⟨p,Hi,p1,p2,p3⟩:=OP q hq;obtain⟨nn',ee',ca',cb',t1,t2,t3⟩:=Db (Dc Ru Hi (nb p p3));rw[p1] at t1 t2;rw[s1] at t1;rw[s2] at t2;cases t1;cases t2
       rw[←t3 q p2.1 p2.2];exact(h5' q).resolve_left hq
    rename_i t xo yo hop;obtain⟨xv,hxv,he⟩:=(cI regs xo).val he;split at he<;>try (cases he;done)
    rename_i id off;split at he<;>try (cases he;done)
    rename_i inf hinf0;rcases aR he with⟨qZ,he⟩|⟨_,he⟩
    case inr=>exact Ve (by omega) hw he
    obtain⟨n,gB,c,c',k1,k2,k3,k4⟩:=Ri he (fun {k}=>hxv k) hinf0
    classical
    refine run (by omega) hw (fun v h' aL=>decide (v=.un∧h'=T.set (.cells n gB c') h id∧aL=aq)&&iI x.o.dst nt v regs fun av=>fh P call ext nt ops l (kx 0) kn pr av h' aL) ?_ ?_
    ·rw[hop]
     refine k2 _ ?_;simp only[and_self,decide_true,Bool.true_and];exact k3
    ·intro v h' aL hk
     rw[Bool.and_eq_true,decide_eq_true_iff] at hk;obtain⟨⟨rfl,rfl,rfl⟩,hk⟩:=hk;refine⟨hk,fun i I hi Ep gg _ sg _ cv=>.inl fun j hj=>?_⟩;have hle:=sg.1 j hj;by_cases e:j=id
     ·subst e
      rw[T.mG _ _ _ _ (by rw[k1];intro e;cases e)];rw[k1] at hle;cases hpr:pr with
      |none=>rw[hpr] at qZ;cases qZ
      |some lp=>
       rw[hpr] at qZ cv;obtain⟨n0,e0,c0,h0',_,OP⟩:=cv j hj;rw[h0'] at hle⊢;obtain⟨n1,e1,c1,Wc,h3',YY,h5'⟩:=hle;cases Wc
       refine⟨n,gB,c',rfl,h3',YY,fun q=>?_⟩;by_cases hq:c0.get q=.no
       ·exact .inl hq
       ·right
        obtain⟨p,hp,p1,p2,p3⟩:=OP q hq;have nb:¬x.b.testBit i=true:=fun hb=>hi.2 (hx.bef _ hb)
        have:=Kg qZ hp p1;rw[p3] at this;have:p.2.1+p.2.2.1<=off∨off+inf.size<=p.2.1:=this.imp id (fun h=>h.resolve_right nb);rw[k4 q (by omega)];rcases h5' q with h|h
        ·exact absurd h hq
        ·exact h
     ·rw[T.ay _ _ _ _ _ e];exact hle
   |4,_,hm4,_,_,_,_=>exact absurd rfl hm4
   |m+5,he,_,_,_,_,_=>cases he
def Rw(P:Program)(nt:Nat)(o:Oper):Nat:=match o.op with
 |.alloc _|.buildSlice ..|.makeSlice ..|.makeMap _ none=>bif vN nt o then 4 else 2
 |.move _|.assign _|.pick ..|.build ..|.nilCheck _|.unOp ..|.convert ..|.makeInterface ..|.makeFunc ..|.slice ..|.fieldAddr ..|.field ..|.indexAddr ..|.index ..|.typeAssert ..|.extract ..=>0
 |.load ..=>1
 |.lookup ..=>1
 |.binOp op t ..=>(match op with
  |.quo=>(match P.underlying t with
   |some (.float _)=>bif vN nt o then 4 else 0
   |_=>0)
  |.eql|.neq=>(match P.underlying t with
   |some (.pointer _)|some (.struct _)|some (.array ..)|some (.interface _)=>1
   |_=>0)
  |_=>0)
 |.call c=>(match c.callee with
  |.builtin .len=>1
  |.builtin .min|.builtin .max=>0
  |_=>2)
 |_=>2
def pe(P:Program)(nt:Nat)(ops:Array Oper):List (gE×Nat):=Ka (uL P nt) ops.size 0 0 0 (V7 (Rw P nt) ops.toList 0 [])
def si(l:List (gE×Nat)):aI->(aI->Bool)->Bool:=
 List.rec (motive:=fun _=>aI->(aI->Bool)->Bool) (fun regs k=>k regs)
  (fun y _ ih regs k=>bc (Nat.beq y.2 4) (match y.1.o.dst with|some d=>T.dj .no regs d fun r=>ih r k|none=>ih regs k) (ih regs k)) l
theorem set_no:T.get .no (T.set .no regs d) t=.no∨T.get .no (T.set .no regs d) t=T.get .no regs t:=by
 by_cases e:t=d
 ·subst e
  left;rcases T.bd AV.no .no regs t with g|g<;>exact g
 ·right;exact T.ay _ _ _ _ _ e
theorem wZ:∀(l:List (gE×Nat)){regs:aI}{k:aI->Bool},si l regs k=true->∃av,k av=true∧(∀t,T.get .no av t=.no∨T.get .no av t=T.get .no regs t)∧AG av l
 |[],regs,k,he=>⟨regs,he,fun _=>.inr rfl,fun y hy=>by cases hy⟩
 |y::l,regs,k,he=>by
  have he:bc (Nat.beq y.2 4) (match y.1.o.dst with|some d=>T.dj .no regs d fun r=>si l r k|none=>si l regs k) (si l regs k)=true:=he;have done:∀{Hj:aI},si l Hj k=true->(∀t,T.get .no Hj t=.no∨T.get .no Hj t=T.get .no regs t)->(y.2=4->∀d,y.1.o.dst=some d->T.get .no Hj d=.no)->
    ∃av,k av=true∧(∀t,T.get .no av t=.no∨T.get .no av t=T.get .no regs t)∧AG av (y::l):=by
   intro Hj he h1 h2;obtain⟨av,k1,k2,k3⟩:=wZ l he;refine⟨av,k1,fun t=>?_,fun z hz h4 d hd=>?_⟩
   ·rcases k2 t with h|h
    ·exact .inl h
    ·rw[h];exact h1 t
   ·rcases mcQ.1 hz with rfl|hz
    ·rcases k2 d with h|h
     ·exact h
     ·rw[h];exact h2 h4 d hd
    ·exact k3 z hz h4 d hd
  rcases aR he with⟨_,he⟩|⟨h4,he⟩
  ·split at he
   ·rename_i d hd
    rw[T.bh] at he;refine done he (fun t=>set_no) fun _ d' qw=>?_
    rw[hd] at qw;cases qw;rcases T.bd AV.no .no regs d with g|g<;>exact g
   ·rename_i hd
    exact done he (fun _=>.inr rfl) fun _ d' qw=>by rw[hd] at qw;cases qw
  ·exact done he (fun _=>.inr rfl) fun h=>by rw[h] at h4;cases h4
def fD(P:Program)(ext:iG)(call:aO):jS:=fun ops nt kq kn regs h aq=>
 bc (Nat.beq (List.length (pe P nt ops)) ops.size) (bc (Region.noSelect ops) (bc (cf P nt ops (2 ^ ops.size-1) (pe P nt ops) 0 0 0)
  (si (pe P nt ops) regs fun regs=>fh P call ext nt ops (pe P nt ops) kq kn (some []) regs h aq) false) false) false
theorem ep{P:Program}{ext:iG}(hm:P.follows .mixedOrders=true)(fO:om P ext)(call:aO)(aQ:bj P call):fz P (fD P ext call):=by
 intro DD id ops nt kn kx kr E regs h aq a w he st;obtain⟨e1,he⟩:=aa he;obtain⟨e2,he⟩:=aa he;obtain⟨e3,he⟩:=aa he;obtain⟨av,he,hc,hny⟩:=wZ _ he;have e1:=aN e1;refine wp_mono (Q:=cz (Ch ops) DD E h w nt kn kx kr) (wp_region_any hm ?_) fun e a w hh=>hh.weak
 refine vL.any (F:=fun _ _=>False) ?_
 have Cj:∀p∈pe P nt ops,pc ops p.1:=fun p hp=>by
  obtain⟨x,hx,l,e⟩:=sd _ _ _ _ _ _ p hp;rw[e];exact(Et _ 0 [] (by simp) (by simp) x hx).yk l
 have:=fC (kx:=kx) (kr:=kr) (E0:=E) (h0:=h) (w0:=w) aQ fO e2 st.heap st.j _ (pe P nt ops) 0 0 0 (some []) (fun _=>none) (Array.replicate ops.size false) (fun _ _=>False) E av h aq a {w with drawn:=w.drawn+1} (nrQ _) e3 Cj
  ⟨by simp,fun j=>by by_cases hj:j<ops.size<;>simp[hj]⟩ (fun j i hj _=>by by_cases h:j<ops.size<;>simp[h] at hj) (fun _ _ hh=>hh.elim) he
  ⟨fun t=>by
   rcases hc t with h|h<;>rw[h]
   ·simp[Rv]
   ·exact st.regs t,st.size,st.defers,st.heap.drew,JC.goes st.heap st.j (bk.drew _ _ _) st.heap.drew⟩ (bk.drew _ _ _)
  ⟨fun _ _ h=>(by cases h),fun _ _ _ h=>(by cases h),fun _ _ h=>(by cases h),fun _ _ _ h=>(by cases h)⟩ hny (fun y _ _ hr=>by
   unfold hP at hr;have:pb 0 y.1.i=false:=by
    cases hb:pb 0 y.1.i
    ·rfl
    ·have:=jt.1 hb;simp at this
   rw[this] at hr;exact .lazy hr a)
 have e4:((pe P nt ops).filter fun p=>((fun _=>none:Nat->Option Ev) p.1.i).isNone).length=ops.size:=by
  rw[←e1];simp
 rw[e4] at this;exact this
def AK(P:Program)(sp:fV)(ext:iG)(lf n:Nat):aO:=J9 P sp ext (fD P ext) lf n
theorem Hk{sp:fV}(hm:P.follows .mixedOrders=true)(za:fg P sp)(fO:om P ext){lf:Nat}:bj P (AK P sp ext lf n):=
 C4 za fO (fun call aQ=>ep hm fO call aQ) n
end
end Go.Proofs.YtngagklmbbogiaaGreatDoor.Vx
