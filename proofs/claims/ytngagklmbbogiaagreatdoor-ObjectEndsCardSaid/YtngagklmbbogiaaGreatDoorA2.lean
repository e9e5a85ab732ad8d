/- Parts of one proof (VxF to VxW). No condition. -/
import Derived.Test.YtngagklmbbogiaaGreatDoorA1
import Derived.Lib.UnsafeStr
import Derived.Laws.BytesString
import GoSem.Extern.Table
import Derived.Laws.FloatArith
set_option linter.all false
namespace Go.Proofs.YtngagklmbbogiaaGreatDoor.Vx
open Go
noncomputable section
variable{x y:AV}{k:AV->Bool}{arr' vs:Array Value}{op:BinOp}{E E':Env}{h':Heap}{l:List AV}{a b id n sCap sLen:Nat}{base:Option Addr}{P:Program}{e:SE}{d:TypeDesc}{dst el src st t ty xt:TypeId}{i:TypeInfo}{X Y:Value}{w':World}{fs:aB}{L M:aZ}
section
variable{E:Env}{h:Heap}{aq:Nat}{w:World}
theorem HR.drew(hr:HR E h aq w):HR E h aq {w with drawn:=w.drawn+1}:=by
 refine⟨fun i=>?_,hr.inj,hr.lt,hr.fresh,hr.kT,hr.pos,hr.kU,hr.zero⟩;have:=hr.obj i;cases ho:T.get AO.gone h i<;>rw[ho] at this<;>exact this
theorem bk.drew(E:Env)(h:Heap)(w:World):bk E h w E h {w with drawn:=w.drawn+1}:=
 ⟨Env.le_refl _,nrQ _,fun _ _ _=>rfl,fun _ _ h=>h,rfl,fun _ _=>rfl,rfl,rfl,rfl⟩
theorem D3(a b t:Nat):mB ((Question.nanBits .f64 a b).cut t):=by
 have e1:FloatKind.f64.decode=Ieee.Format.read Ieee.double:=rfl;unfold mB zD;rw[e1];show(∃s m,Ieee.Format.read Ieee.double ((t%2)*2 ^ 63+0x7ff0000000000000+1+(t/2)%(2 ^ 52-1))=.nan s m)∧(t%2)*2 ^ 63+0x7ff0000000000000+1+(t/2)%(2 ^ 52-1)<18446744073709551616;have h1:t%2<2:=Nat.mod_lt _ (by omega);have h2:(t/2)%(2 ^ 52-1)<2 ^ 52-1:=Nat.mod_lt _ (by omega);generalize (t/2)%(2 ^ 52-1)=r at *;generalize t%2=q at *;refine⟨?_,by omega⟩;have hw:Ieee.double.signWeight=2 ^ 63:=rfl;have hb:Ieee.double.binade=2 ^ 52:=rfl;have hi:Ieee.double.infRung=0x7ff0000000000000:=rfl;unfold Ieee.Format.read;rw[hw,hb,hi];have e:(q*2 ^ 63+0x7ff0000000000000+1+r)%2 ^ 63=0x7ff0000000000000+1+r:=by omega
 simp only[e];rw[if_neg (by omega),if_neg (by omega),if_neg (by omega)];exact⟨_,_,rfl⟩
def vu(op:BinOp)(a x b y:Nat)(k:AV->Bool):Bool:=match op with
 |.add=>bc (Nat.ble (a+b) 1073741824) (aM (Nat.add a b) fun n=>aM (Nat.add (Nat.mod x (Nat.pow 256 a)) (Nat.mul y (Nat.pow 256 a))) fun m=>k (.s n m)) false
 |.eql=>j7 (rN a x b y) fun r=>k (.b r)
 |.neq=>bc (rN a x b y) (k (.b false)) (k (.b true))
 |.lss=>j7 (strLt a x b y) fun r=>k (.b r)
 |.leq=>bc (strLt a x b y) (k (.b true)) (j7 (rN a x b y) fun r=>k (.b r))
 |.gtr=>bc (strLt a x b y) (k (.b false)) (bc (rN a x b y) (k (.b false)) (k (.b true)))
 |.geq=>bc (strLt a x b y) (k (.b false)) (k (.b true))
 |_=>false
theorem JJ(a x b y:Nat):str a x++str b y=str (a+b) (x%256 ^ a+y*256 ^ a):=by
 have:(str a x++str b y).data.toList=(str (a+b) (x%256 ^ a+y*256 ^ a)).data.toList:=by
  rw[ByteArray.data_append,Array.toList_append,ek,ek,ek,B6]
 have h:=Array.ext' this;cases hx:str a x++str b y
 rw[hx] at h;simp only at h;rw[h]
theorem GH{x y:Nat}(he:vu op a x b y k=true):
  ∃v W,(Op.stringOp op (str a x) (str b y)).run P w=.ok W w∧Rv E v W∧k v=true:=by
 have cL:Op.bytesLess (str a x).toList (str b y).toList=strLt a x b y:=by
  rw[ByteArray.toList_eq,ByteArray.toList_eq,ek,ek,GD]
 have heq:((str a x).toList==(str b y).toList)=rN a x b y:=(z' a x b y).symm;unfold vu at he;unfold Op.stringOp;split at he
 ·obtain⟨h1,he⟩:=aa he
  rw[aC,aC] at he;have h1:=aU h1;refine⟨_,.string (str (a+b) (x%256 ^ a+y*256 ^ a)),?_,by rw[Rv];rfl,he⟩;have hm:¬(((str a x).size+(str b y).size:Nat):Int)>IntKind.i64.max:=by
   rw[oX,oX];have:IntKind.i64.max=9223372036854775807:=rfl;rw[this];omega
  simp only[hm,if_false,Sem.run_pure,JJ]
 ·rw[ft] at he
  exact⟨_,.bool (rN a x b y),by simp only[heq,Sem.run_pure],by rw[Rv],he⟩
 ·rcases aR he with⟨h1,he⟩|⟨h1,he⟩
  ·exact⟨_,.bool false,by simp only[heq,h1,Sem.run_pure,Bool.not_true],by rw[Rv],he⟩
  ·exact⟨_,.bool true,by simp only[heq,h1,Sem.run_pure,Bool.not_false],by rw[Rv],he⟩
 ·rw[ft] at he
  exact⟨_,.bool (strLt a x b y),by simp only[cL,Sem.run_pure],by rw[Rv],he⟩
 ·rcases aR he with⟨h1,he⟩|⟨h1,he⟩
  ·exact⟨_,.bool true,by simp only[cL,h1,Sem.run_pure,Bool.true_or],by rw[Rv],he⟩
  ·rw[ft] at he
   exact⟨_,.bool (rN a x b y),by simp only[cL,heq,h1,Sem.run_pure,Bool.false_or],by rw[Rv],he⟩
 ·rcases aR he with⟨h1,he⟩|⟨h1,he⟩
  ·exact⟨_,.bool false,by simp only[cL,h1,Sem.run_pure,Bool.true_or,Bool.not_true],by rw[Rv],he⟩
  ·rcases aR he with⟨h2,he⟩|⟨h2,he⟩
   ·exact⟨_,.bool false,by simp only[cL,heq,h1,h2,Sem.run_pure,Bool.or_true,Bool.not_true],by rw[Rv],he⟩
   ·exact⟨_,.bool true,by simp only[cL,heq,h1,h2,Sem.run_pure,Bool.or_false,Bool.not_false],by rw[Rv],he⟩
 ·rcases aR he with⟨h1,he⟩|⟨h1,he⟩
  ·exact⟨_,.bool false,by simp only[cL,h1,Sem.run_pure,Bool.not_true],by rw[Rv],he⟩
  ·exact⟨_,.bool true,by simp only[cL,h1,Sem.run_pure,Bool.not_false],by rw[Rv],he⟩
 ·cases he
def oh(op:BinOp)(a b:Nat)(k:AV->Bool):Bool:=match op with
 |.add=>(match FloatKind.f64.format.add a b with|none=>k .nan|some r=>aM r fun r=>k (.f .f64 r))
 |.sub=>(match FloatKind.f64.format.sub a b with|none=>k .nan|some r=>aM r fun r=>k (.f .f64 r))
 |.mul=>(match FloatKind.f64.format.mul a b with|none=>k .nan|some r=>aM r fun r=>k (.f .f64 r))
 |.quo=>(match FloatKind.f64.format.div a b with|none=>k .nan|some r=>aM r fun r=>k (.f .f64 r))
 |_=>false
theorem JK(he:oh op a b k=true):
  ∃v W w',(Op.floatArith op .f64 a b).run P w=.ok W w'∧(w'=w∨(v=.nan∧w'={w with drawn:=w.drawn+1}))∧Rv E v W∧k v=true:=by
 have key:∀(o:Option Nat),(match o with|none=>k .nan|some r=>aM r fun r=>k (.f .f64 r))=true->
   ∃v W w',(match o with|some r=>pure (.float .f64 r)|none=>do pure (.float .f64 (←choose (.nanBits .f64 a b))):Sem Value).run P w=.ok W w'∧(w'=w∨(v=.nan∧w'={w with drawn:=w.drawn+1}))∧Rv E v W∧k v=true:=by
  intro o ho;cases o with
  |some r=>
   have ho:aM r (fun r=>k (.f .f64 r))=true:=ho;rw[aC] at ho;exact⟨_,.float .f64 r,w,rfl,.inl rfl,by rw[Rv],ho⟩
  |none=>
   refine⟨.nan,.float .f64 ((Question.nanBits .f64 a b).cut (w.tape w.drawn (.nanBits .f64 a b))),_,?_,.inr ⟨rfl,rfl⟩,?_,ho⟩
   ·simp[Question.forced]
   ·rw[Rv];exact⟨_,rfl,D3 _ _ _⟩
 unfold oh at he;unfold Op.floatArith;split at he
 ·exact key _ he
 ·exact key _ he
 ·exact key _ he
 ·exact key _ he
 ·cases he
def pQ(op:BinOp)(k:AV->Bool):Bool:=match op with
 |.neq=>k (.b true)
 |.eql|.lss|.leq|.gtr|.geq=>k (.b false)
 |_=>false
theorem pR(hh:zD a∨zD b):FloatKind.f64.format.order a b=none:=by
 unfold Ieee.Format.order;rcases hh with⟨s,m,e⟩|⟨s,m,e⟩
 ·have:FloatKind.f64.format.read a=.nan s m:=e
  rw[this];cases FloatKind.f64.format.read b<;>rfl
 ·have:FloatKind.f64.format.read b=.nan s m:=e
  rw[this];cases FloatKind.f64.format.read a<;>rfl
theorem Om(hh:mB a∨mB b):FloatKind.f64.format.order a b=none:=pR (hh.imp And.left And.left)
theorem o6(he:pQ op k=true)(hh:mB a∨mB b):
  ∃v W,(binOp op t (.float .f64 a) (.float .f64 b)).run P w=.ok W w∧Rv E v W∧k v=true:=by
 have hn:=Om hh;unfold pQ at he;split at he
 ·exact⟨_,.bool true,by simp[binOp,Op.floatCmp,hn],by rw[Rv],he⟩
 ·exact⟨_,.bool false,by simp[binOp,Op.floatCmp,hn],by rw[Rv],he⟩
 ·exact⟨_,.bool false,by simp[binOp,Op.floatCmp,hn],by rw[Rv],he⟩
 ·exact⟨_,.bool false,by simp[binOp,Op.floatCmp,hn],by rw[Rv],he⟩
 ·exact⟨_,.bool false,by simp[binOp,Op.floatCmp,hn],by rw[Rv],he⟩
 ·exact⟨_,.bool false,by simp[binOp,Op.floatCmp,hn],by rw[Rv],he⟩
 ·cases he
def rQ:Operand->Bool
 |.const _=>true
 |_=>false
def eG(P:Program)(op:BinOp)(t:TypeId)(h:Heap)(x y:AV)(k:AV->Bool):Bool:=match op with
 |.eql=>D1 P h 10000 t x y fun r=>(match r with|.lb r=>k (.b r)|e=>k (.x .b e))
 |.neq=>D1 P h 10000 t x y fun r=>(match r with|.lb r=>bc r (k (.b false)) (k (.b true))|e=>k (.x .b (.not e)))
 |_=>false
def QF(P:Program)(op:BinOp)(t:TypeId)(a b:Nat)(k:AV->Bool):Bool:=match op with
 |.add|.sub|.mul|.quo=>oh op a b k
 |_=>dK P (binOp op t) (.f .f64 a) (.f .f64 b) k
def D4(op:BinOp)(x y:AV)(h:Heap)(k:AV->Bool):Bool:=match op,x,y with
 |.andNot,.x (.i .u64) e,.i .u64 (.ofNat m)=>bc (Nat.beq m 9223372036854775808) (k (.x (.i .u64) (.fn 4 e))) false
 |.and,.x (.i .u8) e,.i .u8 (.ofNat m)=>k (.x (.i .u8) (.cD 9 e (.li .u8 (.ofNat m))))
 |.rem,.x (.i kk) e,.i k2 (.ofNat m)=>bc (Nat.beq (kc kk) (kc k2)) (bc (Nat.ble 1 m) (bc (ki e (-1) (au h)) (k (.x (.i kk) (.rem m e))) false) false) false
 |_,_,_=>false
def GI(fs:aB)(e:SE):Bool:=match e with
 |.lf x=>(match FloatKind.f64.decode x with
  |.number _ _ _=>true
  |_=>false)
 |e=>bc (Nat.beq (look (.fn 7 e) fs) 1) (Nat.beq (look (.cmp .eql e e) fs) 1) false
def Ab(fs:aB)(e:SE):Bool:=match e with
 |.lf x=>bc (Op.floatEq .f64 x x) false true
 |e=>Nat.ble 2 (look (.cmp .eql e e) fs)
def VM(fs:aB)(e:SE):Bool:=match e with
 |.ls l _=>Nat.ble l 4611686018427387903
 |e=>jo (.len e) 4611686018427387903 fs
def Ac(fs:aB)(e:SE):Bool:=bc (jo e 4611686018427387903 fs) (ki e (-4611686018427387905) fs) false
def arS(op:BinOp)(a b:SE)(fs:aB)(k:AV->Bool):Bool:=match op with
 |.add=>bc (VM fs a) (bc (VM fs b) (k (.x .s (.cD 3 a b))) false) false
 |_=>false
def VN(c:Int)(fs:aB)(a b:SE):Bool:=match b with
 |.li .i64 (.ofNat 1)=>bc (jo a c fs) (ki a (-1) fs) false
 |_=>false
def arI(op:BinOp)(a b:SE)(fs:aB)(k:AV->Bool):Bool:=match op with
 |.add=>bc (bc (VN 9223372036854775806 fs a b) true (bc (Ac fs a) (Ac fs b) false)) (k (.x (.i .i64) (.cD 4 a b))) false
 |.sub=>bc (bc (VN 9223372036854775807 fs a b) true (bc (Ac fs a) (Ac fs b) false)) (k (.x (.i .i64) (.cD 5 a b))) false
 |_=>false
def arF(op:BinOp)(a b:SE)(fs:aB)(k:AV->Bool):Bool:=match op with
 |.add=>bc (GI fs a) (bc (GI fs b) (k (.x .f (.cD 1 a b))) (bc (Ab fs b) (k .nan) false)) (bc (Ab fs a) (k .nan) (bc (Ab fs b) (k .nan) false))
 |.sub=>bc (GI fs a) (bc (GI fs b) (k (.x .f (.cD 2 a b))) (bc (Ab fs b) (k .nan) false)) (bc (Ab fs a) (k .nan) (bc (Ab fs b) (k .nan) false))
 |_=>false
def Ma(op:BinOp)(x y:AV)(h:Heap)(k:AV->Bool):Bool:=match x,y with
 |.nan,.x .f _=>pQ op k
 |.x .f _,.nan=>pQ op k
 |.x .s a,.x .s b=>arS op a b (au h) k
 |.x .s a,.s l n=>arS op a (.ls l n) (au h) k
 |.s l n,.x .s b=>arS op (.ls l n) b (au h) k
 |.x (.i .i64) a,.x (.i .i64) b=>arI op a b (au h) k
 |.x (.i .i64) a,.i .i64 n=>arI op a (.li .i64 n) (au h) k
 |.i .i64 n,.x (.i .i64) b=>arI op (.li .i64 n) b (au h) k
 |.x .f a,.x .f b=>arF op a b (au h) k
 |.x .f a,.f .f64 n=>bc (Nat.ble (n+1) 18446744073709551616) (arF op a (.lf n) (au h) k) false
 |.f .f64 n,.x .f b=>bc (Nat.ble (n+1) 18446744073709551616) (arF op (.lf n) b (au h) k) false
 |_,_=>false
def isAr(op:BinOp)(x y:AV):Bool:=match op,x,y with
 |.add,_,_=>true
 |.sub,_,_=>true
 |_,.nan,_=>true
 |_,_,.nan=>true
 |_,_,_=>false
def QG(op:BinOp)(x y:AV)(h:Heap)(k:AV->Bool):Bool:=bc (isAr op x y) (Ma op x y h k) (bc (CL op) (Jz op x y k) (D4 op x y h k))
def Ad(P:Program)(op:BinOp)(t:TypeId)(xo yo:Operand)(x y:AV)(h:Heap)(k:AV->Bool):Bool:=match x with
 |.s a p=>match y with
  |.s b q=>vu op a p b q k
  |_=>false
 |.f .f64 a=>match y with
  |.f .f64 b=>QF P op t a b k
  |.nan=>pQ op k
  |_=>false
 |.nan=>match y with
  |.f .f64 _=>pQ op k
  |.nan=>pQ op k
  |_=>false
 |.b _=>dK P (binOp op t) x y k
 |.i _ _=>dK P (binOp op t) x y k
 |.inil=>match y with
  |.inil=>bc (bc (rQ xo) true (rQ yo)) (eG P op t h x y k) false
  |.ifc _ _=>eG P op t h x y k
  |_=>false
 |.ag _=>match y with
  |.ag _=>bc (P.eqGuardType P.depth t) false (eG P op t h x y k)
  |_=>false
 |.ifc _ _=>eG P op t h x y k
 |.pn=>eG P op t h x y k
 |.p _ _=>eG P op t h x y k
 |.sn=>eG P op t h x y k
 |.sl _ _ _ _=>eG P op t h x y k
 |.sx _ _ _ _=>eG P op t h x y k
 |.so _ _ _ _=>eG P op t h x y k
 |.mp _=>eG P op t h x y k
 |.mpn=>eG P op t h x y k
 |.fn _ _ _=>eG P op t h x y k
 |.fnil=>eG P op t h x y k
 |_=>false
def VO(P:Program)(op:BinOp)(t:TypeId)(x y:AV)(k:AV->Bool)(k2:Bool):Bool:=match op,x,y,P.underlying t with
 |.eql,.x .b e,.b c,some .bool=>bc c (k (.x .b e)) (k (.x .b (.not e)))
 |_,_,_,_=>k2
def eU(P:Program)(op:BinOp)(t:TypeId)(xo yo:Operand)(x y:AV)(h:Heap)(k:AV->Bool):Bool:=
 bc (bc (isX x) true (isX y)) (VO P op t x y k (QG op x y h k)) (Ad P op t xo yo x y h k)
def odd:Value->Bool
 |.int ..|.float ..|.complex ..|.string _=>false
 |_=>true
theorem uo(hX:odd X=true):binOp .eql t X Y=(do pure (.bool (←Op.equal t X Y)):Sem Value):=by
 cases X<;>simp only[odd,ftQ] at hX<;>cases Y<;>rfl
theorem B8(hX:odd X=true):binOp .neq t X Y=(do pure (.bool (!(←Op.equal t X Y))):Sem Value):=by
 cases X<;>simp only[odd,ftQ] at hX<;>cases Y<;>rfl
theorem dt(he:eG P op t h x y k=true)(rx:Rv E x X)(ry:Rv E y Y)(hr:HR E h aq w)(hX:odd X=true):
  ∃v W,(binOp op t X Y).run P w=.ok W w∧Rv E v W∧k v=true:=by
 unfold eG at he;split at he
 ·obtain⟨b,e,h1,hd,h2⟩:=D2 10000 he rx ry hr
  have gY:(binOp .eql t X Y).run P w=.ok (.bool b) w:=by
   rw[uo hX];simp[Op.equal,Op.maxDepth,h1]
  split at h2
  ·simp only[den,siQ,Value.bool.injEq] at hd
   subst hd;exact⟨_,_,gY,by rw[Rv],h2⟩
  ·exact⟨_,_,gY,by rw[Rv];exact⟨hd,_,rfl⟩,h2⟩
 ·obtain⟨b,e,h1,hd,h2⟩:=D2 10000 he rx ry hr
  have gY:(binOp .neq t X Y).run P w=.ok (.bool !b) w:=by
   rw[B8 hX];simp[Op.equal,Op.maxDepth,h1]
  split at h2
  ·simp only[den,siQ,Value.bool.injEq] at hd
   subst hd;rcases aR h2 with⟨e,h2⟩|⟨e,h2⟩
   ·exact⟨.b false,.bool false,by rw[gY,e];rfl,by rw[Rv],h2⟩
   ·exact⟨.b true,.bool true,by rw[gY,e];rfl,by rw[Rv],h2⟩
  ·exact⟨_,_,gY,by rw[Rv];exact⟨by simp only[den,hd],_,rfl⟩,h2⟩
 ·cases he
theorem bw{xo yo:Operand}(h1:¬(X=.nilIface∧Y=.nilIface))(h2:¬∃a b,X=.agg a∧Y=.agg b):(eqGuard op t xo yo X Y).run P w=.ok () w:=by
 unfold eqGuard;cases op<;>simp only[Bool.not_true,Bool.not_false,if_true,ftQ,if_false,Sem.run_pure]
 all_goals
  split
  ·exact absurd ⟨rfl,rfl⟩ h1
  ·exact absurd ⟨_,_,rfl,rfl⟩ h2
  ·rfl
def o7(P:Program)(op:BinOp)(t:TypeId)(xo yo:Operand)(X Y:Value):Sem Value:=do eqGuard op t xo yo X Y;binOp op t X Y
theorem On{xo yo:Operand}(he:Ad P op t xo yo x y h k=true)(rx:Rv E x X)(ry:Rv E y Y)(hr:HR E h aq w):
  ∃v W w',(o7 P op t xo yo X Y).run P w=.ok W w'∧(w'=w∨(v=.nan∧w'={w with drawn:=w.drawn+1}))∧Rv E v W∧k v=true:=by
 have glue:(eqGuard op t xo yo X Y).run P w=.ok () w->(∃v W,(binOp op t X Y).run P w=.ok W w∧Rv E v W∧k v=true)->
   ∃v W w',(o7 P op t xo yo X Y).run P w=.ok W w'∧(w'=w∨(v=.nan∧w'={w with drawn:=w.drawn+1}))∧Rv E v W∧k v=true:=by
  rintro hg ⟨v,W,h1,h2,h3⟩;exact⟨v,W,w,by simp[o7,hg,h1],.inl rfl,h2,h3⟩
 cases x<;>simp only[Ad,ftQ] at he
 case s a p=>
  cases y<;>simp only[ftQ] at he
  rename_i b q;rw[Rv] at rx;rw[Rv] at ry;subst rx;subst ry;refine glue (bw (by simp) (by simp)) ?_;obtain⟨v,W,h1,h2,h3⟩:=GH (E:=E) (w:=w) (P:=P) he;refine⟨v,W,?_,h2,h3⟩;rw[←h1];cases op<;>rfl
 case f kk a=>
  cases kk
  ·cases he
  cases y<;>simp only[ftQ] at he
  case f kb b=>
   cases kb
   ·cases he
   rw[Rv] at rx;rw[Rv] at ry;subst rx;subst ry;have hg:(eqGuard op t xo yo (.float .f64 a) (.float .f64 b)).run P w=.ok () w:=bw (by simp) (by simp);have jI:(op=.add∨op=.sub∨op=.mul∨op=.quo)->oh op a b k=true->∃v W w',(o7 P op t xo yo (.float .f64 a) (.float .f64 b)).run P w=.ok W w'∧(w'=w∨(v=.nan∧w'={w with drawn:=w.drawn+1}))∧Rv E v W∧k v=true:=by
    intro ho he;obtain⟨v,W,w',h1,h2,h3,h4⟩:=JK (E:=E) (w:=w) (P:=P) he;refine⟨v,W,w',?_,h2,h3,h4⟩;simp only[o7,Sem.run_bind,hg,Result.andThen_ok];rw[←h1];rcases ho with rfl|rfl|rfl|rfl<;>simp[binOp]
   have he:QF P op t a b k=true:=he;unfold QF at he;split at he
   ·exact jI (.inl rfl) he
   ·exact jI (.inr (.inl rfl)) he
   ·exact jI (.inr (.inr (.inl rfl))) he
   ·exact jI (.inr (.inr (.inr rfl))) he
   ·exact glue hg (zQ he (by rw[Rv]) (by rw[Rv]))
  case nan=>
   rw[Rv] at rx;rw[Rv] at ry;subst rx;obtain⟨b,rfl,hb⟩:=ry;exact glue (bw (by simp) (by simp)) (o6 he (.inr hb))
 case nan=>
  rw[Rv] at rx;obtain⟨a,rfl,ha⟩:=rx;cases y<;>try (cases he;done)
  case f kb b=>
   cases kb
   ·cases he
   rw[Rv] at ry;subst ry;have he:pQ op k=true:=he;exact glue (bw (by simp) (by simp)) (o6 he (.inl ha))
  case nan=>
   rw[Rv] at ry;obtain⟨b,rfl,hb⟩:=ry;exact glue (bw (by simp) (by simp)) (o6 he (.inl ha))
 case b a=>
  have hX:X=.bool a:=by rw[Rv] at rx;exact rx
  exact glue (bw (by rw[hX];simp) (by rw[hX];simp)) (zQ he rx ry)
 case i kk a=>
  have hX:X=.int kk a:=by rw[Rv] at rx;exact rx
  exact glue (bw (by rw[hX];simp) (by rw[hX];simp)) (zQ he rx ry)
 case inil=>
  have hX:X=.nilIface:=by rw[Rv] at rx;exact rx
  cases y<;>simp only[ftQ] at he
  case inil=>
   have hY:Y=.nilIface:=by rw[Rv] at ry;exact ry
   obtain⟨hc,he⟩:=aa he;refine glue ?_ (dt he rx ry hr (by rw[hX];rfl));subst hX;subst hY;have hxy:rQ xo=true∨rQ yo=true:=by
    rcases aR hc with⟨e,_⟩|⟨_,e⟩
    ·exact .inl e
    ·exact .inr e
   unfold eqGuard;cases xo<;>cases yo<;>simp only[rQ,ftQ,or_self] at hxy<;>(cases op<;>rfl)
  case ifc u v=>
   refine glue (bw ?_ (by rw[hX];simp)) (dt he rx ry hr (by rw[hX];rfl));rw[Rv] at ry;obtain⟨V,rfl,_⟩:=ry;simp
 case ag cs=>
  cases y<;>simp only[ftQ] at he
  rename_i ds;have Ae:=rx;have ry':=ry;rw[Rv] at Ae;rw[Rv] at ry';obtain⟨vs,rfl,_⟩:=Ae;obtain⟨us,rfl,_⟩:=ry';rcases aR he with⟨_,hh⟩|⟨hg,he⟩
  ·cases hh
  ·exact glue (run_eqGuard_agg w op t xo yo _ _ hg) (dt he rx ry hr rfl)
 case ifc u v=>
  have Ae:=rx;rw[Rv] at Ae;obtain⟨V,rfl,_⟩:=Ae;exact glue (bw (by simp) (by simp)) (dt he rx ry hr rfl)
 case pn=>
  have hX:X=.pointer none:=by rw[Rv] at rx;exact rx
  exact glue (bw (by rw[hX];simp) (by rw[hX];simp)) (dt he rx ry hr (by rw[hX];rfl))
 case p i o=>
  have Ae:=rx;rw[Rv] at Ae;obtain⟨V,_,rfl⟩:=Ae;exact glue (bw (by simp) (by simp)) (dt he rx ry hr rfl)
 case sn=>
  have hX:X=.slice none 0 0:=by rw[Rv] at rx;exact rx
  exact glue (bw (by rw[hX];simp) (by rw[hX];simp)) (dt he rx ry hr (by rw[hX];rfl))
 case sl=>
  have Ae:=rx;rw[Rv] at Ae;obtain⟨V,_,rfl⟩:=Ae;exact glue (bw (by simp) (by simp)) (dt he rx ry hr rfl)
 case so=>
  have Ae:=rx;rw[Rv] at Ae;obtain⟨V,_,rfl,_⟩:=Ae;exact glue (bw (by simp) (by simp)) (dt he rx ry hr rfl)
 case sx=>
  have Ae:=rx;rw[Rv] at Ae;obtain⟨V,_,_,_,_,_,_,_,rfl⟩:=Ae;exact glue (bw (by simp) (by simp)) (dt he rx ry hr rfl)
 case fn=>
  have Ae:=rx;rw[Rv] at Ae;obtain⟨_,_,rfl,_,_⟩:=Ae;exact glue (bw (by simp) (by simp)) (dt he rx ry hr rfl)
 case fnil=>
  have hX:X=.nilFunc:=by rw[Rv] at rx;exact rx
  exact glue (bw (by rw[hX];simp) (by rw[hX];simp)) (dt he rx ry hr (by rw[hX];rfl))
 case mp=>
  have Ae:=rx;rw[Rv] at Ae;obtain⟨_,_,rfl⟩:=Ae;exact glue (bw (by simp) (by simp)) (dt he rx ry hr rfl)
 case mpn=>
  have hX:X=.map none:=by rw[Rv] at rx;exact rx
  exact glue (bw (by rw[hX];simp) (by rw[hX];simp)) (dt he rx ry hr (by rw[hX];rfl))
theorem Oo(he:D4 op x y h k=true)(rx:Rv E x X)(ry:Rv E y Y)(hr:HR E h aq w):
  (∃v W,(binOp op t X Y).run P w=.ok W w∧Rv E v W∧k v=true)∧X≠.nilIface∧∀a,X≠.agg a:=by
 unfold D4 at he;split at he
 ·rename_i e m
  obtain⟨h1,he⟩:=aa he;have h1:=aN h1;subst h1;simp only[Rv,jZ] at rx ry;obtain⟨hd,n,rfl,q1,q2⟩:=rx;subst ry;refine⟨⟨_,.int .u64 (IntKind.u64.wrap (BitVec.ofInt 64 n&&&~~~BitVec.ofInt 64 9223372036854775808).toNat),?_,?_,he⟩,by simp,by simp⟩
  ·simp only[binOp,ne_eq,not_true_eq_false,if_false,Op.intBits]
   rfl
  ·rw[Rv]
   have hb:=(BitVec.ofInt 64 n&&&~~~BitVec.ofInt 64 9223372036854775808).isLt;refine⟨by simp only[den,hd];rfl,_,rfl,?_⟩;generalize (BitVec.ofInt 64 n&&&~~~BitVec.ofInt 64 9223372036854775808).toNat=z at hb;have e1:IntKind.u64.min=0:=rfl;have e2:IntKind.u64.max=18446744073709551615:=rfl;rw[e1,e2];simp[IntKind.wrap,IntKind.bits,IntKind.signed];omega
 ·rename_i e m
  simp only[Rv,jZ] at rx ry;obtain⟨hd,n,rfl,q1,q2⟩:=rx;subst ry;refine⟨⟨_,.int .u8 (IntKind.u8.wrap (BitVec.ofInt 8 n&&&BitVec.ofInt 8 (Int.ofNat m)).toNat),?_,?_,he⟩,by simp,by simp⟩
  ·simp only[binOp,ne_eq,not_true_eq_false,if_false,Op.intBits]
   rfl
  ·rw[Rv]
   have hb:=(BitVec.ofInt 8 n&&&BitVec.ofInt 8 (Int.ofNat m)).isLt;refine⟨by simp only[den,hd];rfl,_,rfl,?_⟩;generalize (BitVec.ofInt 8 n&&&BitVec.ofInt 8 (Int.ofNat m)).toNat=z at hb;have e1:IntKind.u8.min=0:=rfl;have e2:IntKind.u8.max=255:=rfl;rw[e1,e2];simp[IntKind.wrap,IntKind.bits,IntKind.signed];omega
 ·rename_i kk e k2 m
  obtain⟨h1,jD⟩:=aa he;obtain⟨h2,qu⟩:=aa jD;obtain⟨h3,he3⟩:=aa qu;have h1:=pN h1;have h2:=aU h2;clear he jD qu;subst h1;simp only[Rv,jZ] at rx ry;obtain⟨hd,n,rfl,q1,q2⟩:=rx;subst ry;have h0:=iV (aD hr) e hd h3;have hn:0<=n:=by omega
  have hm:(m:Int)≠0:=by omega
  have gY:(binOp .rem t (.int kk n) (.int kk (Int.ofNat m))).run P w=.ok (.int kk (n%(m:Int))) w:=by
   have:n.tmod (Int.ofNat m)=n%(m:Int):=by
    show n.tmod (m:Int)=_;rw[Int.tmod_eq_emod_of_nonneg hn]
   simp[binOp,Op.intDiv,←this];intro h;omega
  refine⟨⟨_,_,gY,?_,he3⟩,by simp,by simp⟩;rw[Rv];have l1:=Int.emod_nonneg n hm;have l2:n%(m:Int)<=n:=by
   have a1:=Int.mul_ediv_add_emod n m;have a2:=Int.mul_nonneg (show(0:Int)<=(m:Int) by omega) (Int.ediv_nonneg hn (show(0:Int)<=(m:Int) by omega));omega
  have l3:kk.min<=0:=by cases kk<;>decide
  exact⟨by simp only[den,hd];rw[if_pos ⟨hn,by omega⟩],_,rfl,by omega,by omega⟩
 ·cases he
theorem Mb{x:Nat}(he:GI fs e=true)(hf:Holds E fs)(hd:den E e=some (.float .f64 x))(hx:x<18446744073709551616):∃s m i,FloatKind.f64.decode x=.number s m i:=by
 unfold GI at he;split at he
 ·rename_i y
  simp only[den,siQ,Value.float.injEq] at hd;obtain⟨_,rfl⟩:=hd;split at he
  ·rename_i s m i h;exact⟨s,m,i,h⟩
  ·cases he
 ·obtain⟨h1,h2⟩:=aa he
  have h1:=(look_ok hf).1 (aN h1);have h2:=(look_ok hf).1 (aN h2);simp only[den,hd,FW,siQ,Value.bool.injEq] at h1;simp only[den,hd,bu,rn,Option.map_some,siQ,Value.bool.injEq] at h2;exact z7 hx h1 h2
theorem D5{x:Nat}(he:Ab fs e=true)(hf:Holds E fs)(hd:den E e=some (.float .f64 x)):nU x x=false:=by
 unfold Ab at he;split at he
 ·rename_i y
  simp only[den,siQ,Value.float.injEq] at hd;obtain⟨_,rfl⟩:=hd;rcases aR he with⟨_,h⟩|⟨h,_⟩
  ·cases h
  ·exact h
 ·have h2:=(look_ok hf).2 (aU he)
  simp only[den,hd,bu,rn,Option.map_some,siQ,Value.bool.injEq] at h2;exact h2
theorem Mc{s:ByteArray}(he:VM fs e=true)(hf:Holds E fs)(hd:den E e=some (.string s)):(s.size:Int)<=4611686018427387903:=by
 unfold VM at he;split at he
 ·rename_i l n
  simp only[den,siQ,Value.string.injEq] at hd;subst hd;have:=aU he;rw[oX];omega
 ·exact gy hf (.len e) (k:=.i64) (by simp only[den,hd]) he
theorem s7{n:Int}(he:Ac fs e=true)(hf:Holds E fs)(hd:den E e=some (.int .i64 n)): -4611686018427387904<=n∧n<=4611686018427387903:=by
 obtain⟨h1,h2⟩:=aa he;have:=gy hf e hd h1;have:=iV hf e hd h2;omega
theorem JM{a b:SE}{X Y:ByteArray}(he:arS op a b (au h) k=true)(ha:den E a=some (.string X))(hb:den E b=some (.string Y))(hr:HR E h aq w):
  ∃v W,(binOp op t (.string X) (.string Y)).run P w=.ok W w∧Rv E v W∧k v=true:=by
 unfold arS at he;split at he<;>try (cases he;done)
 obtain⟨h1,jD⟩:=aa he;obtain⟨h2,qu⟩:=aa jD;have h1:=Mc h1 (aD hr) ha;have h2:=Mc h2 (aD hr) hb;have hs:(X++Y).size=X.size+Y.size:=ByteArray.size_append;refine⟨_,.string (X++Y),?_,?_,qu⟩
 ·have hm:¬((X.size+Y.size:Nat):Int)>IntKind.i64.max:=by
   have:IntKind.i64.max=9223372036854775807:=rfl;rw[this];omega
  simp only[binOp,Op.stringOp,hm,if_false,Sem.run_pure]
 ·rw[Rv]
  refine⟨?_,_,rfl,by omega⟩;simp only[den,ha,hb,js];rw[if_pos (by omega)]
theorem Md{c:Int}{a b:SE}{X Y:Int}(he:VN c fs a b=true)(hf:Holds E fs)(ha:den E a=some (.int .i64 X))(hb:den E b=some (.int .i64 Y)):(0<=X∧X<=c)∧Y=1:=by
 unfold VN at he;split at he<;>try (cases he;done)
 obtain⟨h1,h2⟩:=aa he;have:=gy hf a ha h1;have:=iV hf a ha h2;cases hb
 exact⟨⟨by omega,by omega⟩,rfl⟩
theorem JN{a b:SE}{X Y:Int}(he:arI op a b (au h) k=true)(ha:den E a=some (.int .i64 X))(hb:den E b=some (.int .i64 Y))(hr:HR E h aq w):
  ∃v W,(binOp op t (.int .i64 X) (.int .i64 Y)).run P w=.ok W w∧Rv E v W∧k v=true:=by
 unfold arI at he;have e1:IntKind.i64.min= -9223372036854775808:=rfl;have e2:IntKind.i64.max=9223372036854775807:=rfl;split at he<;>try (cases he;done)
 ·have oH:(-9223372036854775808<=X+Y∧X+Y<=9223372036854775807)∧k (.x (.i .i64) (.cD 4 a b))=true:=by
   obtain⟨hc,qu⟩:=aa he;rcases aR hc with⟨ho,_⟩|⟨_,jD⟩
   ·obtain⟨h1,rfl⟩:=Md ho (aD hr) ha hb
    exact⟨by omega,qu⟩
   ·obtain⟨h1,h2⟩:=aa jD
    have h1:=s7 h1 (aD hr) ha;have h2:=s7 h2 (aD hr) hb;exact⟨by omega,qu⟩
  obtain⟨oH,qu⟩:=oH;have hw:IntKind.i64.wrap (X+Y)=X+Y:=zX (by omega) (by omega);refine⟨_,.int .i64 (X+Y),?_,?_,qu⟩
  ·simp[binOp,Op.intArith,hw]
  ·rw[Rv]
   refine⟨?_,_,rfl,by omega,by omega⟩;simp only[den,ha,hb,js];rw[if_pos (by omega)]
 ·have oH:(-9223372036854775808<=X-Y∧X-Y<=9223372036854775807)∧k (.x (.i .i64) (.cD 5 a b))=true:=by
   obtain⟨hc,qu⟩:=aa he;rcases aR hc with⟨ho,_⟩|⟨_,jD⟩
   ·obtain⟨h1,rfl⟩:=Md ho (aD hr) ha hb
    exact⟨by omega,qu⟩
   ·obtain⟨h1,h2⟩:=aa jD
    have h1:=s7 h1 (aD hr) ha;have h2:=s7 h2 (aD hr) hb;exact⟨by omega,qu⟩
  obtain⟨oH,qu⟩:=oH;have hw:IntKind.i64.wrap (X-Y)=X-Y:=zX (by omega) (by omega);refine⟨_,.int .i64 (X-Y),?_,?_,qu⟩
  ·simp[binOp,Op.intArith,hw]
  ·rw[Rv]
   refine⟨?_,_,rfl,by omega,by omega⟩;simp only[den,ha,hb,js];rw[if_pos (by omega)]
theorem Oq{X Y:Nat}{o:Option Nat}(ho:(op=.add∧o=FloatKind.f64.format.add X Y)∨(op=.sub∧o=FloatKind.f64.format.sub X Y)):
  (binOp op t (.float .f64 X) (.float .f64 Y)).run P w=(match (generalizing:=false) o with|some r=>pure (.float .f64 r)|none=>do pure (.float .f64 (←choose (.nanBits .f64 X Y))):Sem Value).run P w:=by
 rcases ho with⟨rfl,rfl⟩|⟨rfl,rfl⟩<;>(simp only[binOp,ne_eq,not_true_eq_false,if_false];rfl)
theorem JO{a b:SE}{X Y:Nat}(he:arF op a b (au h) k=true)(ha:den E a=some (.float .f64 X))(hb:den E b=some (.float .f64 Y))(hX:X<18446744073709551616)(hY:Y<18446744073709551616)(hr:HR E h aq w):
  ∃v W w',(binOp op t (.float .f64 X) (.float .f64 Y)).run P w=.ok W w'∧(w'=w∨(v=.nan∧w'={w with drawn:=w.drawn+1}))∧Rv E v W∧k v=true:=by
 have hf:=aD hr;have go:∀(c:Nat)(o:Option Nat),(op=.add∧o=FloatKind.f64.format.add X Y)∨(op=.sub∧o=FloatKind.f64.format.sub X Y)->(nU X X=false∨nU Y Y=false->o=none)->(∀s m i t n j,FloatKind.f64.decode X=.number s m i->FloatKind.f64.decode Y=.number t n j->∃r,o=some r∧r<18446744073709551616)->
   den E (.cD c a b)=o.map (.float .f64)->
   bc (GI (au h) a) (bc (GI (au h) b) (k (.x .f (.cD c a b))) (bc (Ab (au h) b) (k .nan) false)) (bc (Ab (au h) a) (k .nan) (bc (Ab (au h) b) (k .nan) false))=true->
   ∃v W w',(binOp op t (.float .f64 X) (.float .f64 Y)).run P w=.ok W w'∧(w'=w∨(v=.nan∧w'={w with drawn:=w.drawn+1}))∧Rv E v W∧k v=true:=by
  intro c o ho hn hs hd he;rw[Oq ho];have nan:nU X X=false∨nU Y Y=false->k .nan=true->∃v W w',(match (generalizing:=false) o with|some r=>pure (.float .f64 r)|none=>do pure (.float .f64 (←choose (.nanBits .f64 X Y))):Sem Value).run P w=.ok W w'∧(w'=w∨(v=.nan∧w'={w with drawn:=w.drawn+1}))∧Rv E v W∧k v=true:=fun h1 hk=>by
   rw[hn h1];refine⟨.nan,.float .f64 ((Question.nanBits .f64 X Y).cut (w.tape w.drawn (.nanBits .f64 X Y))),_,?_,.inr ⟨rfl,rfl⟩,?_,hk⟩
   ·simp[Question.forced]
   ·rw[Rv];exact⟨_,rfl,D3 _ _ _⟩
  rcases aR he with⟨f1,he⟩|⟨_,he⟩
  ·rcases aR he with⟨f2,he⟩|⟨_,he⟩
   ·obtain⟨s,m,i,g1⟩:=Mb f1 hf ha hX
    obtain⟨t,n,j,g2⟩:=Mb f2 hf hb hY;obtain⟨r,rfl,jF⟩:=hs _ _ _ _ _ _ g1 g2;refine⟨_,.float .f64 r,w,rfl,.inl rfl,?_,he⟩;rw[Rv];exact⟨hd,_,rfl,jF⟩
   ·obtain⟨h2,he⟩:=aa he
    exact nan (.inr (D5 h2 hf hb)) he
  ·rcases aR he with⟨f2,he⟩|⟨_,he⟩
   ·exact nan (.inl (D5 f2 hf ha)) he
   ·obtain⟨h2,he⟩:=aa he
    exact nan (.inr (D5 h2 hf hb)) he
 unfold arF at he;split at he
 ·exact go 1 _ (.inl ⟨rfl,rfl⟩) VJ (fun s m i t n j g1 g2=>VH ⟨_,_,_,g1⟩ ⟨_,_,_,g2⟩) (by simp only[den,ha,hb,js]) he
 ·exact go 2 _ (.inr ⟨rfl,rfl⟩) VK (fun s m i t n j g1 g2=>VI ⟨_,_,_,g1⟩ ⟨_,_,_,g2⟩) (by simp only[den,ha,hb,js]) he
 ·cases he
theorem QH(he:Ma op x y h k=true)(rx:Rv E x X)(ry:Rv E y Y)(hr:HR E h aq w):
  (∃v W w',(binOp op t X Y).run P w=.ok W w'∧(w'=w∨(v=.nan∧w'={w with drawn:=w.drawn+1}))∧Rv E v W∧k v=true)∧X≠.nilIface∧∀a,X≠.agg a:=by
 have up:(∃v W,(binOp op t X Y).run P w=.ok W w∧Rv E v W∧k v=true)->∃v W w',(binOp op t X Y).run P w=.ok W w'∧(w'=w∨(v=.nan∧w'={w with drawn:=w.drawn+1}))∧Rv E v W∧k v=true:=by
  rintro⟨v,W,h1,h2,h3⟩;exact⟨v,W,w,h1,.inl rfl,h2,h3⟩
 unfold Ma at he;split at he
 ·simp only[Rv,jZ] at rx ry
  obtain⟨a,rfl,ha⟩:=rx;obtain⟨_,b,rfl,_⟩:=ry;exact⟨up (o6 he (.inl ha)),by simp,by simp⟩
 ·simp only[Rv,jZ] at rx ry
  obtain⟨b,rfl,hb⟩:=ry;obtain⟨_,a,rfl,_⟩:=rx;exact⟨up (o6 he (.inr hb)),by simp,by simp⟩
 ·simp only[Rv,jZ] at rx ry
  obtain⟨ha,a,rfl,_⟩:=rx;obtain⟨hb,b,rfl,_⟩:=ry;exact⟨up (JM he ha hb hr),by simp,by simp⟩
 ·simp only[Rv,jZ] at rx ry
  obtain⟨ha,a,rfl,_⟩:=rx;subst ry;exact⟨up (JM he ha rfl hr),by simp,by simp⟩
 ·simp only[Rv,jZ] at rx ry
  obtain⟨hb,b,rfl,_⟩:=ry;subst rx;exact⟨up (JM he rfl hb hr),by simp,by simp⟩
 ·simp only[Rv,jZ] at rx ry
  obtain⟨ha,a,rfl,_⟩:=rx;obtain⟨hb,b,rfl,_⟩:=ry;exact⟨up (JN he ha hb hr),by simp,by simp⟩
 ·simp only[Rv,jZ] at rx ry
  obtain⟨ha,a,rfl,_⟩:=rx;subst ry;exact⟨up (JN he ha rfl hr),by simp,by simp⟩
 ·simp only[Rv,jZ] at rx ry
  obtain⟨hb,b,rfl,_⟩:=ry;subst rx;exact⟨up (JN he rfl hb hr),by simp,by simp⟩
 ·simp only[Rv,jZ] at rx ry
  obtain⟨ha,a,rfl,la⟩:=rx;obtain⟨hb,b,rfl,lb⟩:=ry;exact⟨JO he ha hb la lb hr,by simp,by simp⟩
 ·rename_i a n
  simp only[Rv,jZ] at rx ry;obtain⟨ha,a,rfl,la⟩:=rx;subst ry;obtain⟨l1,he⟩:=aa he;exact⟨JO he ha rfl la (Nat.lt_of_succ_le (aU l1)) hr,by simp,by simp⟩
 ·simp only[Rv,jZ] at rx ry
  obtain⟨hb,b,rfl,lb⟩:=ry;subst rx;obtain⟨l1,he⟩:=aa he;exact⟨JO he rfl hb (Nat.lt_of_succ_le (aU l1)) lb hr,by simp,by simp⟩
 ·cases he
theorem D6(hu:P.underlying t=some .bool)(n:Nat)(a b:Bool):(Op.equalIn (n+1) t (.bool a) (.bool b)).run P w=.ok (a==b) w:=by
 simp[Op.equalIn,ai hu]
theorem VP{xo yo:Operand}{k2:Bool}(he:VO P op t x y k k2=true)(rx:Rv E x X)(ry:Rv E y Y):
  (∃v W,(o7 P op t xo yo X Y).run P w=.ok W w∧Rv E v W∧k v=true)∨k2=true:=by
 unfold VO at he;split at he
 ·rename_i e c hu
  simp only[Rv,jZ] at rx ry;obtain⟨hd,b,rfl⟩:=rx;subst ry;have hg:(eqGuard .eql t xo yo (.bool b) (.bool c)).run P w=.ok () w:=bw (fun h=>by cases h.1) (fun⟨a,_,h,_⟩=>by cases h);have gY:(binOp .eql t (.bool b) (.bool c)).run P w=.ok (.bool (b==c)) w:=by
   rw[uo rfl];have e:(Op.equal t (.bool b) (.bool c)).run P w=.ok (b==c) w:=D6 hu 9999 b c;simp only[Sem.run_bind,e,Result.andThen_ok,Sem.run_pure]
  rcases aR he with⟨rfl,he⟩|⟨rfl,he⟩
  ·exact .inl ⟨_,.bool b,by simp[o7,hg,gY],by rw[Rv];exact⟨hd,b,rfl⟩,he⟩
  ·exact .inl ⟨_,.bool (!b),by simp[o7,hg,gY],by rw[Rv];exact⟨by simp only[den,hd],_,rfl⟩,he⟩
 ·exact .inr he
theorem QI{xo yo:Operand}(he:eU P op t xo yo x y h k=true)(rx:Rv E x X)(ry:Rv E y Y)(hr:HR E h aq w):
  ∃v W w',(o7 P op t xo yo X Y).run P w=.ok W w'∧(w'=w∨(v=.nan∧w'={w with drawn:=w.drawn+1}))∧Rv E v W∧k v=true:=by
 rcases aR he with⟨_,he⟩|⟨_,he⟩
 ·rcases VP (xo:=xo) (yo:=yo) he rx ry with⟨v,W,h1,h2,h3⟩|he
  ·exact⟨v,W,w,h1,.inl rfl,h2,h3⟩
  have key:(∃v W w',(binOp op t X Y).run P w=.ok W w'∧(w'=w∨(v=.nan∧w'={w with drawn:=w.drawn+1}))∧Rv E v W∧k v=true)∧X≠.nilIface∧∀a,X≠.agg a:=by
   rcases aR he with⟨_,he⟩|⟨_,he⟩
   ·exact QH he rx ry hr
   ·have k2:(∃v W,(binOp op t X Y).run P w=.ok W w∧Rv E v W∧k v=true)∧X≠.nilIface∧∀a,X≠.agg a:=by
     rcases aR he with⟨_,he⟩|⟨_,he⟩
     ·exact Oh he rx ry
     ·exact Oo he rx ry hr
    obtain⟨⟨v,W,h1,h2,h3⟩,h4⟩:=k2;exact⟨⟨v,W,w,h1,.inl rfl,h2,h3⟩,h4⟩
  obtain⟨⟨v,W,w',h1,h6,h2,h3⟩,h4,h5⟩:=key;have hg:(eqGuard op t xo yo X Y).run P w=.ok () w:=bw (fun h=>h4 h.1) (fun⟨a,_,h,_⟩=>h5 a h);exact⟨v,W,w',by simp[o7,hg,h1],h6,h2,h3⟩
 ·exact On he rx ry hr
end
section
variable{E:Env}{h:Heap}{aq:Nat}{w:World}
def QJ(op:UnOp)(e:SE)(k:AV->Bool):Bool:=match op with
 |.not=>k (.x .b (.not e))
 |_=>false
def JP(P:Program)(op:UnOp)(x:AV)(k:AV->Bool):Bool:=match x with
 |.x .b e=>QJ op e k
 |x=>vo P (Op.unary op) x k
theorem VQ{op:UnOp}(he:JP P op x k=true)(rx:Rv E x X):∃v W,(Op.unary op X).run P w=.ok W w∧Rv E v W∧k v=true:=by
 unfold JP at he;split at he
 ·unfold QJ at he
  split at he<;>try (cases he;done)
  rw[Rv] at rx;obtain⟨hd,b,rfl⟩:=rx;exact⟨_,.bool (!b),by simp[Op.unary],by rw[Rv];exact⟨by simp only[den,hd],_,rfl⟩,he⟩
 ·exact rL he rx
theorem VR{k:IntKind}{n:Int}(h1:k.min<=n)(h2:n<=k.max):k.wrap n=n:=by
 unfold IntKind.wrap;cases k<;>simp[IntKind.min,IntKind.max,IntKind.bits,IntKind.signed] at * <;>omega
def pS(P:Program)(ds dd:TypeDesc)(s:Ge)(e:SE)(k:AV->Bool):Bool:=match s,dd with
 |.i .i64,.float .f64=>k (.x .f (.fn 12 e))
 |.i .u64,.int .i64=>k (.x (.i .i64) (.fn 3 e))
 |.i k0,.int k1=>bc (decide (k1.min<=k0.min)) (bc (decide (k0.max<=k1.max)) (k (.x (.i k1) (.conv k1 e))) false) false
 |.s,.string=>k (.x .s e)
 |_,_=>false
theorem Ot(n:Nat)(hn:n<128):Utf8.encode (n:Int)=str 1 n:=by
 unfold Utf8.encode;have hv:Utf8.valid (n:Int)=true:=by
  unfold Utf8.valid;have h1:(0:Int)<=n:=by omega
  have h2:(n:Int)<0xD800:=by omega
  simp[h2]
 have e:unpack 1 n=[UInt8.ofNat n]:=by
  rw[unpack,unpack,Nat.mod_eq_of_lt (by omega)]
 simp only[hv,if_true,Int.toNat_natCast,hn,str,e]
def uH(P:Program)(src dst:TypeId)(x:AV)(k:AV->Bool):Bool:=match P.underlying src with
 |some ds=>match P.underlying dst with
  |some .string=>(match x with
   |.s a b=>k (.s a b)
   |.x s e=>pS P ds .string s e k
   |.i _ n=>(match ds with
    |.int _=>yd n fun m=>bc (Nat.ble (m+1) 128) (k (.s 1 m)) false
    |_=>false)
   |_=>false)
  |some (.int k1)=>(match x with
   |.x s e=>pS P ds (.int k1) s e k
   |x=>vo P (convert src dst) x k)
  |some (.float kf)=>(match x with
   |.x s e=>pS P ds (.float kf) s e k
   |x=>vo P (convert src dst) x k)
  |_=>false
 |none=>false
theorem uI{ds dd:TypeDesc}{s:Ge}(hs:P.underlying src=some ds)(hd:P.underlying dst=some dd)(he:pS P ds dd s e k=true)(rx:Rv E (.x s e) X):
  ∃v W,(convert src dst X).run P w=.ok W w∧Rv E v W∧k v=true:=by
 unfold pS at he;rw[Rv] at rx;split at he
 ·obtain⟨B9,n,rfl,q1,q2⟩:=rx
  refine⟨_,.float .f64 (FloatKind.f64.nearest n),?_,?_,he⟩
  ·cases ds<;>simp[convert,ai hs,ai hd,Conv.intToFloat]
  ·rw[Rv]
   exact⟨by simp only[den,B9];rfl,_,rfl,VG n⟩
 ·obtain⟨B9,n,rfl,q1,q2⟩:=rx
  refine⟨_,.int .i64 (IntKind.i64.wrap n),?_,?_,he⟩
  ·cases ds<;>simp[convert,ai hs,ai hd,Conv.intToInt]
  ·rw[Rv]
   refine⟨by simp only[den,B9];rfl,_,rfl,?_⟩;have e1:IntKind.i64.min= -9223372036854775808:=rfl;have e2:IntKind.i64.max=9223372036854775807:=rfl;rw[e1,e2];simp[IntKind.wrap,IntKind.bits,IntKind.signed];split<;>omega
 ·rename_i k0 k1 _
  obtain⟨h1,he⟩:=aa he;obtain⟨h2,he⟩:=aa he;have h1:=gD h1;have h2:=gD h2;obtain⟨B9,n,rfl,q1,q2⟩:=rx;have hw:k1.wrap n=n:=VR (by omega) (by omega);refine⟨_,.int k1 n,?_,?_,he⟩
  ·cases ds<;>simp[convert,ai hs,ai hd,Conv.intToInt,hw]
  ·rw[Rv];exact⟨by simp only[den,B9];rw[if_pos ⟨by omega,by omega⟩],n,rfl,by omega,by omega⟩
 ·obtain⟨B9,n,rfl,q⟩:=rx
  refine⟨_,.string n,?_,by rw[Rv];exact⟨B9,n,rfl,q⟩,he⟩;cases ds<;>simp[convert,ai hs,ai hd]
 ·cases he
theorem wO(he:uH P src dst x k=true)(rx:Rv E x X):
  ∃v W,(convert src dst X).run P w=.ok W w∧Rv E v W∧k v=true:=by
 unfold uH at he;split at he<;>try (cases he;done)
 rename_i ds hs;split at he
 ·rename_i hd
  split at he<;>try (cases he;done)
  ·rename_i a b
   rw[Rv] at rx;subst rx;exact⟨_,.string (str a b),by simp[convert,ai hs,ai hd],by rw[Rv],he⟩
  ·exact uI hs hd he rx
  ·rename_i kk n
   rw[Rv] at rx;subst rx;split at he<;>try (cases he;done)
   obtain⟨m,e,jD⟩:=vj he;subst e;obtain⟨hm,qu⟩:=aa jD;have hm:=aU hm;refine⟨_,.string (str 1 m),?_,by rw[Rv],qu⟩;simp only[convert,Sem.run_bind,ai hs,ai hd,Result.andThen_ok,Conv.intToString,Sem.run_pure,Ot m (by omega)]
 ·rename_i k1 hd
  split at he
  ·exact uI hs hd he rx
  ·exact rL he rx
 ·rename_i kf hd
  split at he
  ·exact uI hs hd he rx
  ·exact rL he rx
 ·cases he
def o8(P:Program)(t:TypeId)(x:AV)(k:AV->Bool):Bool:=match P.underlying t with
 |some (.interface _)=>false
 |some _=>(match x with|.no=>false|x=>k (.ifc t x))
 |none=>false
theorem D7(he:o8 P t x k=true)(rx:Rv E x X):
  ∃v W,(Instr.makeInterface t X).run P w=.ok W w∧Rv E v W∧k v=true:=by
 unfold o8 at he;split at he
 ·cases he
 ·rename_i d hd hu
  have e:k (.ifc t x)=true:=by
   split at he
   ·cases he
   ·exact he
  refine⟨_,.iface t X,?_,by rw[Rv];exact⟨X,rfl,rx⟩,e⟩;simp only[Instr.makeInterface,Sem.run_bind,ai hu,Result.andThen_ok];first|rfl|(split<;>simp_all)
 ·cases he
def rR(P:Program)(x:AV)(asserted:TypeId)(D8:Bool)(k:AV->Bool):Bool:=false
theorem GJ{asserted:TypeId}{D8:Bool}(he:rR P x asserted D8 k=true)(rx:Rv E x X):
  ∃v W,(Instr.typeAssert X xt asserted D8).run P w=.ok W w∧Rv E v W∧k v=true:=by cases he
def GK(P:Program)(t:TypeId)(x:AV)(h:Heap)(k:AV->Bool):Bool:=match P.underlying t with
 |some .string=>(match x with|.s a _=>k (.i .i64 (.ofNat a))|.x .s e=>k (.x (.i .i64) (.len e))|_=>false)
 |some (.slice _)=>(match x with
  |.sn=>k (.i .i64 (.ofNat 0))
  |.sl _ _ n _=>k (.i .i64 (.ofNat n))
  |.so _ _ n _=>k (.i .i64 (.ofNat n))
  |.sx _ _ len _=>k (.x (.i .i64) len)
  |.sz _ len=>k (.x (.i .i64) len)
  |.sr _ len=>k (.x (.i .i64) len)
  |_=>false)
 |some (.array n _)=>k (.i .i64 (.ofNat n))
 |some (.map _ _)=>(match x with
  |.mpn=>k (.i .i64 (.ofNat 0))
  |.mp id=>(match T.get .gone h id with
   |.map es _=>aM (List.length es) fun n=>k (.i .i64 (.ofNat n))
   |_=>false)
  |_=>false)
 |_=>false
theorem j6.length:∀{es:List FX}{ms:List MapEntry},j6 E es ms->ms.length=es.length
 |[],_,r=>by rw[j6] at r;subst r;rfl
 |_::_,_,r=>by
  obtain⟨_,_,rfl,_,r⟩:=r;simp[r.length]
theorem QK(he:GK P t x h k=true)(rx:Rv E x X)(hr:HR E h aq w):
  ∃v W,(Builtin.len_ #[t] ty #[X]).run P w=.ok W w∧Rv E v W∧k v=true:=by
 unfold GK at he;split at he
 ·rename_i hu
  split at he<;>try (cases he;done)
  ·rename_i a b
   rw[Rv] at rx;subst rx;exact⟨_,.int .i64 a,by simp[Builtin.len_,ai hu,goInt],by rw[Rv];rfl,he⟩
  ·rw[Rv] at rx
   obtain⟨hd,n,rfl,q⟩:=rx;have e1:IntKind.i64.min= -9223372036854775808:=rfl;have e2:IntKind.i64.max=9223372036854775807:=rfl;exact⟨_,.int .i64 n.size,by simp[Builtin.len_,ai hu,goInt],by rw[Rv];exact⟨by simp only[den,hd],_,rfl,by omega,by omega⟩,he⟩
 ·rename_i el hu
  split at he<;>try (cases he;done)
  ·rw[Rv] at rx;subst rx
   exact⟨_,.int .i64 0,by simp[Builtin.len_,ai hu,goInt],by rw[Rv];rfl,he⟩
  ·rw[Rv] at rx
   obtain⟨L,_,rfl⟩:=rx;exact⟨_,_,by simp only[Builtin.len_];simp[ai hu,goInt];rfl,by rw[Rv];rfl,he⟩
  ·rw[Rv] at rx
   obtain⟨L,_,rfl,_⟩:=rx;exact⟨_,_,by simp only[Builtin.len_];simp[ai hu,goInt];rfl,by rw[Rv];rfl,he⟩
  ·rw[Rv] at rx
   obtain⟨L,n,c,_,hd,_,_,hn,rfl⟩:=rx;have e1:IntKind.i64.min= -9223372036854775808:=rfl;have e2:IntKind.i64.max=9223372036854775807:=rfl;exact⟨_,.int .i64 n,by simp[Builtin.len_,ai hu,goInt],by rw[Rv];exact⟨hd,_,rfl,by omega,by omega⟩,he⟩
  ·rw[Rv] at rx
   obtain⟨L,n,_,hd,hn,hz,rfl⟩:=rx;have e1:IntKind.i64.min= -9223372036854775808:=rfl;have e2:IntKind.i64.max=9223372036854775807:=rfl;refine⟨_,.int .i64 n,?_,by rw[Rv];exact⟨hd,_,rfl,by omega,by omega⟩,he⟩;by_cases h0:L.room=0
   ·have:=hz h0
    subst this;obtain⟨q,hq⟩:=LU L.base;simp[h0,hq,Builtin.len_,ai hu,goInt]
   ·simp[h0,Builtin.len_,ai hu,goInt]
  ·rw[Rv] at rx
   obtain⟨L,n,_,hd,hn,_,rfl⟩:=rx;have e1:IntKind.i64.min= -9223372036854775808:=rfl;have e2:IntKind.i64.max=9223372036854775807:=rfl;exact⟨_,.int .i64 n,by simp[Builtin.len_,ai hu,goInt],by rw[Rv];exact⟨hd,_,rfl,by omega,by omega⟩,he⟩
 ·rename_i n el hu
  exact⟨_,.int .i64 n,by simp[Builtin.len_,ai hu,goInt],by rw[Rv];rfl,he⟩
 ·rename_i kt vt hu
  split at he<;>try (cases he;done)
  ·rw[Rv] at rx;subst rx
   exact⟨_,.int .i64 0,by simp[Builtin.len_,ai hu,goInt],by rw[Rv];rfl,he⟩
  ·rename_i id
   split at he<;>try (cases he;done)
   rename_i es ck hm;rw[aC] at he;rw[Rv] at rx;obtain⟨L,hL,rfl⟩:=rx;have ho:=hr.obj id;rw[hm] at ho;obtain⟨L',ms,tY,hb,QL⟩:=ho;obtain rfl:L=L':=mL (hL.symm.trans tY);have hl:=QL.length;refine⟨_,.int .i64 (es.length:Int),?_,by rw[Rv];rfl,he⟩;have:(getObj L.aH).run P w=.ok (.map ms ck) w:=by simp only[getObj,Sem.run,hb]
   simp at hl;simp[Builtin.len_,ai hu,goInt,this,hl]
 ·cases he
def strL(n:Nat):Nat->(List AV->Bool)->Bool:=
 Nat.rec (motive:=fun _=>Nat->(List AV->Bool)->Bool) (fun _ k=>k [])
  (fun _ ih bits k=>aM (Nat.mod bits 256) fun b=>aM (Nat.div bits 256) fun r=>ih r fun l=>k (.i .u8 (.ofNat b)::l)) n
def srcK(P:Program)(t:TypeId)(x:AV)(size:Nat)(h:Heap)(k:Nat->List AV->Bool):Bool:=match P.underlying t with
 |some (.int _)=>false
 |some _=>(match x with
  |.sn=>k 0 []
  |.sl id off len _=>(match T.get .gone h id with
   |.cells n _ c=>bc (Nat.ble (off+len*size) n) (aM (Nat.mul len size) fun m=>Gl c m off fun l=>k len l) false
   |.glob _ n c=>bc (Nat.ble (off+len*size) n) (aM (Nat.mul len size) fun m=>rdN c m off fun l=>k len l) false
   |_=>false)
  |.so id off len _=>(match T.get .gone h id with
   |.cells n _ c=>bc (Nat.ble (off+len*size) n) (aM (Nat.mul len size) fun m=>Gl c m off fun l=>k len l) false
   |_=>false)
  |.s a bits=>bc (Nat.beq size 1) (strL a bits fun l=>k a l) false
  |_=>false)
 |none=>false
theorem Me:∀(n bits:Nat){k:List AV->Bool},strL n bits k=true->∃l,aP E l ((unpack n bits).map fun b=>Value.int .u8 b.toNat)∧k l=true
 |0,bits,k,he=>⟨[],by simp[unpack,aP],he⟩
 |n+1,bits,k,he=>by
  have he:aM (Nat.mod bits 256) (fun b=>aM (Nat.div bits 256) fun r=>strL n r fun l=>k (.i .u8 (.ofNat b)::l))=true:=he;rw[aC,aC] at he;obtain⟨l,h1,h2⟩:=Me n _ he;refine⟨_,.cons ?_ h1,h2⟩;have e:(UInt8.ofNat (bits%256)).toNat=bits%256:=by
   rw[UInt8.toNat_ofNat',Nat.mod_eq_of_lt];omega
  rw[Rv];show Value.int .u8 ((UInt8.ofNat (bits%256)).toNat:Int)=_;rw[e];rfl
theorem VT{size:Nat}{k:Nat->List AV->Bool}(he:srcK P t x size h k=true)(rx:Rv E x X)(hr:HR E h aq w):
  ∃(n:Nat)(l:List AV)(vs:Array Value),(∀w':World,(Builtin.lenOf X).run P w'=.ok n w')∧(∃d,P.underlying t=some d∧∀i,d≠.int i)∧(∀w':World,w'.heap=w.heap->(Builtin.firstCells size n X).run P w'=.ok vs w')∧aP E l vs.toList∧vs.size=n*size∧k n l=true:=by
 unfold srcK at he;split at he<;>try (cases he;done)
 rename_i d hd hu;have FZ:∃d,P.underlying t=some d∧∀i,d≠.int i:=⟨d,hu,fun i e=>hd i e⟩;have rd:∀{id off len c:Nat}{L:aZ},X=.slice (some ⟨L.aH,L.base+off,none⟩) len c->E id=some L->(match T.get .gone h id with
   |.cells n _ c=>bc (Nat.ble (off+len*size) n) (aM (Nat.mul len size) fun m=>Gl c m off fun l=>k len l) false
   |_=>false)=true->∃(n:Nat)(l:List AV)(vs:Array Value),(∀w':World,(Builtin.lenOf X).run P w'=.ok n w')∧(∃d,P.underlying t=some d∧∀i,d≠.int i)∧(∀w':World,w'.heap=w.heap->(Builtin.firstCells size n X).run P w'=.ok vs w')∧aP E l vs.toList∧vs.size=n*size∧k n l=true:=by
  intro id off len c L hX hL he;split at he<;>try (cases he;done)
  rename_i n gB tr hc;obtain⟨L',arr,el,tY,hb,cC,_,dz⟩:=hr.cells hc;obtain rfl:L=L':=mL (hL.symm.trans tY);obtain⟨hle,he⟩:=aa he;have hle:=aU hle;rw[aC,kW] at he;refine⟨len,_,((List.range' (L.base+off) (len*size)).map fun j=>arr.getD j undef).toArray,fun w'=>by rw[hX];rfl,FZ,?_,?_,by simp,he⟩
  ·intro w' D9
   rw[hX];have pO:w'.heap[L.aH]? =some (.cells arr el (0,0)):=by rw[D9];exact hb
   exact ez P pO (L.base+off) (len*size) (by omega)
  ·show aP E _ ((List.range' (L.base+off) (len*size)).map fun j=>arr.getD j undef)
   rw[jN];exact aP.j8 _ _ fun j h1 h2=>dz j (by have h2:j<off+len*size:=h2;omega)
 split at he<;>try (cases he;done)
 ·rw[Rv] at rx;subst rx
  exact⟨0,[],#[],fun w'=>rfl,FZ,fun w' _=>by simp[Builtin.firstCells],.nil,by simp,he⟩
 ·rename_i id off len cap
  rw[Rv] at rx;obtain⟨L,hL,rfl⟩:=rx;cases hg:T.get .gone h id with
  |glob g n c=>
   rw[hg] at he;have ho:=hr.obj id;rw[hg] at ho;obtain⟨L',arr,el,fr,tY,_,hb,cC,dz,_⟩:=ho;obtain rfl:L=L':=mL (hL.symm.trans tY);obtain⟨hle,he⟩:=aa he;have hle:=aU hle;rw[aC,DY] at he;refine⟨len,_,((List.range' (L.base+off) (len*size)).map fun j=>arr.getD j undef).toArray,fun w'=>rfl,FZ,?_,?_,by simp,he⟩
   ·intro w' D9
    have pO:w'.heap[L.aH]? =some (.cells arr el fr):=by rw[D9];exact hb
    exact ez P pO (L.base+off) (len*size) (by omega)
   ·show aP E _ ((List.range' (L.base+off) (len*size)).map fun j=>arr.getD j undef)
    rw[jN];exact aP.j8 _ _ fun j h1 h2=>dz j (by have h2:j<off+len*size:=h2;omega)
  |cells n e c=>rw[hg] at he;exact rd rfl hL (by rw[hg];exact he)
  |_=>rw[hg] at he;cases he
 ·rw[Rv] at rx
  obtain⟨L,hL,rfl,_⟩:=rx;exact rd rfl hL he
 ·rename_i a bits
  obtain⟨h1,he⟩:=aa he;have h1:=aN h1;obtain⟨l,h2,h3⟩:=Me (E:=E) a bits he;rw[Rv] at rx;subst rx;subst h1;refine⟨a,l,((unpack a bits).map fun b=>Value.int .u8 b.toNat).toArray,fun w'=>by simp[Builtin.lenOf],FZ,fun w' _=>?_,h2,by simp,h3⟩;have e:(str a bits).extract 0 a=str a bits:=by
   have:=Gt a bits 0 a (nzQ _) (nrQ _);simpa using this
  simp only[Builtin.firstCells,e,Sem.run_pure];congr 1;apply Array.ext';simp[str]
end
section
variable{E:Env}{h:Heap}{aq:Nat}{w:World}
theorem run_append_room(hu:P.underlying st=some (.slice el))(hi:P.info? el=some i)
  (hx:P.underlying xt=some d) (hd:∀j,d≠.int j) (hy:∀w':World,(Builtin.lenOf Y).run P w'=.ok n w') (hv:(Builtin.firstCells i.size n Y).run P w=.ok vs w) (hn:sLen+n<=sCap):
  (Builtin.append_ #[st,xt] ty #[.slice base sLen sCap,Y]).run P w=
   ((match base with|some a=>storeCells (a.add (sLen*i.size)) vs.toList|none=>pure ():Sem Unit).run P w).andThen fun _ w'=>.ok (.slice base (sLen+n) sCap) w':=by
 have hz:(d matches .int _)=false:=by
  cases d<;>first|rfl|exact absurd rfl (hd _)
 simp only[Builtin.append_,List.getElem?_toArray,List.getElem?_cons_zero,List.getElem?_cons_succ,Sem.run_bind,ai hu,ai hx,Result.andThen_ok,bG hi,Sem.run_pure,hz,
  ftQ,if_false,hy,hn,if_true,Bool.not_false,hv]
 cases base
 ·rfl
 ·simp only[Sem.run_bind,Sem.run_pure]
theorem run_append_grow{z:Value}{old:Array Value}(hu:P.underlying st=some (.slice el))(hi:P.info? el=some i)
  (hz0:i.zero=some z) (hx:P.underlying xt=some d) (hd:∀j,d≠.int j) (ho:∀w':World,w'.heap=w.heap->(Builtin.firstCells i.size sLen (.slice base sLen sCap)).run P w'=.ok old w')
  (hy:∀w':World,(Builtin.lenOf Y).run P w'=.ok n w') (hv:∀w':World,w'.heap=w.heap->(Builtin.firstCells i.size n Y).run P w'=.ok vs w') (hn:¬sLen+n<=sCap) (hb:sLen+n<=1073741824) (Vb:i.bytes<=65536):
  ∃cap,sLen+n<=cap∧(Builtin.append_ #[st,xt] ty #[.slice base sLen sCap,Y]).run P w=
   .ok (.slice (some ⟨w.heap.size,0,none⟩) (sLen+n) cap)
    {w with drawn:=w.drawn+1,heap:=w.heap.push (.cells (old++vs++Builtin.zeroCells z.cells (cap-(sLen+n))) el (0,0))}:=by
 have hz:(d matches .int _)=false:=by
  cases d<;>first|rfl|exact absurd rfl (hd _)
 have h1:¬(((sLen+n:Nat):Int)>IntKind.i64.max):=by
  have:IntKind.i64.max=9223372036854775807:=rfl;rw[this];omega
 have h2:¬(Builtin.nextslicecap (sLen+n) sCap*i.bytes>2 ^ 48):=by
  have:=nextslicecap_le (show sCap<sLen+n by omega);have:=Nat.mul_le_mul (Nat.le_trans this (show 2*(sLen+n)<=2147483648 by omega)) Vb;omega
 refine⟨(Question.appendCap (sLen+n) sCap el).cut (w.tape w.drawn (.appendCap (sLen+n) sCap el)),?_,?_⟩
 ·simp only[Question.cut];omega
 ·simp only[Builtin.append_,List.getElem?_toArray,List.getElem?_cons_zero,List.getElem?_cons_succ,Sem.run_bind,ai hu,ai hx,Result.andThen_ok,bG hi,Sem.run_pure,hz,
   ftQ,if_false,hy,hn,h1,false_and,ly hi,h2,run_choose,Question.forced,run_askRoom,Bool.not_false,if_true]
  rw[ho {w with drawn:=w.drawn+1} rfl];simp only[Result.andThen_ok];rw[hv {w with drawn:=w.drawn+1} rfl];simp only[Result.andThen_ok,dJ hi hz0,newRow,Sem.run_bind,run_newObj,Sem.run_pure]
theorem dL(z:Array Value)(n:Nat):(Builtin.zeroCells z n).size=n*z.size:=by simp[Builtin.zeroCells]
def elK(e:Option TypeId)(el:TypeId)(k:Option TypeId->Bool):Bool:=match e with
 |some t=>bc (Nat.beq t el) (k (some el)) (k none)
 |none=>k none
theorem QM{e:Option TypeId}{k:Option TypeId->Bool}(h:elK e el k=true):∃o,k o=true∧∀t,o=some t->t=el∧e=some el:=by
 unfold elK at h;split at h
 ·rename_i t
  rcases aR h with⟨hb,h⟩|⟨_,h⟩
  ·have:=aN hb
   subst this;exact⟨_,h,fun t' ht=>by cases ht;exact⟨rfl,rfl⟩⟩
  ·exact⟨_,h,fun t' ht=>by cases ht⟩
 ·exact⟨_,h,fun t' ht=>by cases ht⟩
def Mf(l:List AV):Bool:=match l with
 |[a,b,c,d]=>bc (match a with
  |.x (.i .u8) _=>true
  |.i .u8 n=>bc (decide (0<=n)) (decide (n<=255)) false
  |_=>false) (bc (match b with
  |.x .f _=>true
  |.f .f64 x=>Nat.ble (Nat.succ x) 18446744073709551616
  |_=>false) (bc (match c with
  |.x .s _=>true
  |.s l _=>Nat.ble l 9223372036854775807
  |_=>false) (match d with
  |.x (.i .i64) _=>true
  |.i .i64 n=>bc (decide (-9223372036854775808<=n)) (decide (n<=9223372036854775807)) false
  |_=>false) false) false) false
 |_=>false
theorem GL{vs:List Value}(h:Mf l=true)(r:aP E l vs):vs.length=4∧∀j,j<4->kTy 0 j (vs.getD j undef):=by
 unfold Mf at h;split at h<;>try (cases h;done)
 rename_i a b c d;obtain⟨h0,h⟩:=aa h;obtain⟨h1,h⟩:=aa h;obtain⟨h2,h3⟩:=aa h;simp only[aP] at r;obtain⟨A,_,rfl,ra,B,_,rfl,rb,C,_,rfl,rc,D,_,rfl,rd,rfl⟩:=r;refine⟨rfl,fun j hj=>?_⟩;match j,hj with
 |0,_=>
  show ∃n,A=.int .u8 n∧0<=n∧n<=255;split at h0<;>try (cases h0;done)
  ·rw[Rv] at ra;obtain⟨_,n,rfl,k⟩:=ra;exact⟨n,rfl,k⟩
  ·rw[Rv] at ra;obtain⟨g1,g2⟩:=aa h0;exact⟨_,ra,gD g1,gD g2⟩
 |1,_=>
  show ∃x,B=.float .f64 x∧x<18446744073709551616;split at h1<;>try (cases h1;done)
  ·rw[Rv] at rb;obtain⟨_,n,rfl,k⟩:=rb;exact⟨n,rfl,k⟩
  ·rw[Rv] at rb;exact⟨_,rb,aU h1⟩
 |2,_=>
  show ∃s:ByteArray,C=.string s∧(s.size:Int)<=9223372036854775807;split at h2<;>try (cases h2;done)
  ·rw[Rv] at rc;obtain⟨_,n,rfl,k⟩:=rc;exact⟨n,rfl,k⟩
  ·rw[Rv] at rc
   refine⟨_,rc,?_⟩;rw[oX];have:=aU h2;omega
 |3,_=>
  show ∃n,D=.int .i64 n∧-9223372036854775808<=n∧n<=9223372036854775807;split at h3<;>try (cases h3;done)
  ·rw[Rv] at rd;obtain⟨_,n,rfl,k⟩:=rd;exact⟨n,rfl,k⟩
  ·rw[Rv] at rd;obtain⟨g1,g2⟩:=aa h3;exact⟨_,rd,gD g1,gD g2⟩
theorem s8{p j j':Nat}{V:Value}(h:j%4=j'%4)(k:kTy 0 j V):kTy 0 j' V:=by
 unfold kTy at *;rw[if_pos rfl] at *;rw[←h];exact k
def Af(P:Program)(st xt:TypeId)(s y:AV)(h:Heap)(aq:Nat)(k:K):Bool:=match P.underlying st with
 |some (.slice el)=>match P.info? el with
  |some i=>match i.zero with
   |some z=>bc (Nat.beq z.cells.size i.size) (bc (Nat.ble 1 i.size) (bc (Nat.ble i.bytes 65536) (srcK P xt y i.size h fun n l=>match s with
    |.sn=>bc (Nat.beq n 0) (k .sn h aq) (bc (Nat.ble n 1073741824) (aM (Nat.mul n i.size) fun m=>gV i.size l m ⟨i.size,some el,true⟩ h aq (k (.so aq 0 n 0))) false)
    |.sl id off len cap=>(match T.get .gone h id with
     |.cells ext gB c=>bc (Nat.ble (len+n) cap)
       (bc (Nat.ble (off+(len+n)*i.size) ext) (bc (cj l) (jO h id (N8 l c (off+len*i.size) fun c'=>T.dj (.cells ext gB c') h id fun h'=>aM (Nat.add len n) fun m=>k (.sl id off m cap) h' aq)) false) false)
       (bc (Nat.ble (len+n) 1073741824) (bc (Nat.ble (off+len*i.size) ext) (Gl c (len*i.size) off fun lo=>aM (Nat.add len n) fun m=>aM (Nat.mul m i.size) fun mm=>gV i.size (lo++l) mm ⟨i.size,some el,true⟩ h aq (k (.so aq 0 m 0))) false) false)
     |_=>false)
    |.so id off len used=>(match T.get .gone h id with
     |.cells ext gB c=>bc (Nat.beq n 0) (k (.so id off len used) h aq) (bc (Nat.beq gB.sz i.size) (bc (Nat.beq off (used*i.size)) (bc (cj l) (jO h id (bc (Nat.ble (off+(len+n)*i.size) ext)
       (N8 l c (off+len*i.size) fun c'=>T.dj (.cells ext gB c') h id fun h'=>aM (Nat.add len n) fun m=>k (.so id off m used) h' aq)
       (bc (Nat.ble (len+n) 1073741824) (bc (Nat.ble (off+len*i.size) ext) (Gl c (len*i.size) off fun lo=>aM (Nat.add len n) fun m=>aM (Nat.mul m i.size) fun mm=>
        T.dj .gone h id fun h1=>elK gB.el el fun o=>gV i.size (lo++l) mm ⟨i.size,o,bc gB.z (Nat.beq used 0) false⟩ h1 aq (k (.so aq 0 m 0))) false) false))) false) false) false)
     |_=>false)
    |.sr id len=>(match T.get .gone h id with
     |.cells _ gB _=>bc (Nat.beq gB.sz i.size) (bc (jo len 1000000 (au h)) (bc (Nat.ble n 1000000) (bc (cj l) (jO h id (T.dj .gone h id fun h1=>elK gB.el el fun o=>gV i.size [] 0 ⟨i.size,o,gB.z⟩ h1 aq (k (.sr aq (.cD 4 len (.li .i64 (.ofNat n))))))) false) false) false) false
     |.rows wP QN=>bc (bc (Nat.beq i.size 4) (bc (eE len QN) (bc (Nat.beq wP el) (Nat.beq n 1) false) false) false) (bc (jo len 1000000 (au h)) (bc (cj l) (bc (Mf l) (jO h id (T.dj .gone h id fun h1=>T.dj (.rows el (.cD 4 len (.li .i64 1))) h1 aq fun h2=>aM (Nat.succ aq) fun m=>k (.sr aq (.cD 4 len (.li .i64 1))) h2 m)) false) false) false) false
     |.blob wP sz S0 l0 QN=>bc (bc (Nat.beq i.size sz) (bc (eE len QN) (bc (Nat.beq wP el) (Nat.beq n 1) false) false) false) (bc (jo len 1000000 (au h)) (bc (cj l) (jO h id (T.dj .gone h id fun h1=>T.dj (.blob el sz S0 (l0++l) (.cD 4 len (.li .i64 1))) h1 aq fun h2=>aM (Nat.succ aq) fun m=>k (.sr aq (.cD 4 len (.li .i64 1))) h2 m)) false) false) false
     |_=>false)
    |_=>false) false) false) false
   |none=>false
  |none=>false
 |_=>false
theorem HR.forget(hr:HR E h aq w)(id:Nat)(hz:id=0->(T.get .gone h 0).live=true):HR E (T.set .gone h id) aq w∧(∀k,fp E (T.set .gone h id) k->fp E h k)∧bM (T.set .gone h id)=bM h:=by
 have dX:bM (T.set .gone h id)=bM h:=by
  by_cases e:0=id
  ·subst e
   rw[zH (hz rfl)];rcases T.bd AO.gone .gone h 0 with g|g<;>exact Gs g
  ·unfold bM;rw[T.ay _ _ _ _ _ e]
 have aV:∀i,(T.get AO.gone (T.set .gone h id) i).live=true->i≠id∧T.get AO.gone (T.set .gone h id) i=T.get .gone h i:=by
  intro i hi;by_cases e:i=id
  ·subst e
   rcases T.bd AO.gone .gone h i with g|g<;>rw[g] at hi<;>cases hi
  ·exact⟨e,T.ay _ _ _ _ _ e⟩
 refine⟨⟨fun i=>?_,fun i j L M hi hj=>?_,fun i hi=>?_,hr.fresh,hr.kT,hr.pos,by rw[dX];exact hr.kU,by cases hl:(T.get AO.gone (T.set .gone h id) 0).live with|false=>rfl|true=>(obtain⟨_,e1⟩:=aV 0 hl;rw[e1,hr.zero] at hl;cases hl)⟩,fun k⟨i,L,Qs,hi,hL,hk⟩=>?_,dX⟩
 ·by_cases e:i=id
  ·subst e
   rcases T.bd AO.gone .gone h i with g|g<;>rw[g]<;>trivial
  ·rw[T.ay _ _ _ _ _ e];exact hr.obj i
 ·obtain⟨_,e1⟩:=aV i hi
  obtain⟨_,e2⟩:=aV j hj;rw[e1] at hi;rw[e2] at hj;exact hr.inj i j L M hi hj
 ·cases hl:(T.get AO.gone (T.set .gone h id) i).live with
  |false=>rfl
  |true=>obtain⟨_,e1⟩:=aV i hl;rw[e1,hr.lt i hi] at hl;cases hl
 ·obtain⟨_,e1⟩:=aV i hi
  rw[e1] at hi;exact⟨i,L,by rw[←dX];exact Qs,hi,hL,hk⟩
theorem HR.rename(hr:HR E h aq w){gB:nV}{c:Cs}(hc:T.get .gone h id=.cells n gB c){arr:Array Value}(hL:E id=some L)(hM:M.aH=L.aH)
  (hb:w.heap[L.aH]? =some (.cells arr el (0,0))) (cC:arr'.size=arr.size) {n':Nat} {esz':nV} {c':Cs} (hn:M.base+n'<=arr.size) (hz:esz'.ok M el arr.size n')
  (dz:∀j,j<n'->Rv E (c'.get j) (arr'.getD (M.base+j) undef)) (jI:bM h<=id):
  HR (fun i=>if i=aq then some M else E i) (T.set (.cells n' esz' c') (T.set .gone h id) aq) (aq+1) {w with heap:=w.heap.setIfInBounds L.aH (.cells arr' el (0,0))}∧
  bk E h w (fun i=>if i=aq then some M else E i) (T.set (.cells n' esz' c') (T.set .gone h id) aq) {w with heap:=w.heap.setIfInBounds L.aH (.cells arr' el (0,0))}:=by
 have hle:=Env.pK (hr.fresh aq (nrQ _)) M;have cL:=hr.kT id L hL;have bD:(T.get .gone h id).live=true:=by rw[hc];rfl
 have old:∀i N,i≠aq->(if i=aq then some M else E i)=some N->E i=some N:=fun i N e hN=>by simpa[e] using hN
 have uJ:∀i,i≠aq->i≠id->(T.get AO.gone (T.set (.cells n' esz' c') (T.set .gone h id) aq) i)=T.get .gone h i:=fun i e e'=>by
  rw[T.ay _ _ _ _ _ e,T.ay _ _ _ _ _ e']
 have hid:id≠aq:=fun e=>by have:=hr.lt id (by omega);rw[bD] at this;cases this
 have Ag:T.get AO.gone (T.set (.cells n' esz' c') (T.set .gone h id) aq) id=.gone:=by
  rw[T.ay _ _ _ _ _ hid];rcases T.bd AO.gone .gone h id with g|g<;>exact g
 have aV:∀i,i≠aq->(T.get AO.gone (T.set (.cells n' esz' c') (T.set .gone h id) aq) i).live=true->i≠id∧(T.get .gone h i).live=true:=by
  intro i e hi;have e':i≠id:=fun e'=>by subst e';rw[Ag] at hi;cases hi
  rw[uJ i e e'] at hi;exact⟨e',hi⟩
 have cR:∀i N,i≠id->(T.get .gone h i).live=true->E i=some N->L.aH≠N.aH:=fun i N e hi hN pO=>e (hr.inj i id N L hi bD hN hL pO.symm)
 have hp:=hr.pos;have hflle:=hr.kU;have dX:bM (T.set (.cells n' esz' c') (T.set .gone h id) aq)=bM h:=by
  rw[pJ fun e=>by omega];exact(hr.forget id fun e=>by rw[e] at bD;exact bD).2.2
 refine⟨⟨fun i=>?_,fun i j A B hi hj hA hB N9=>?_,fun i hi=>?_,fun i hi=>?_,fun i N hN=>?_,by omega,by rw[dX];omega,by cases hl:(T.get AO.gone (T.set (.cells n' esz' c') (T.set .gone h id) aq) 0).live with|false=>rfl|true=>(have:=(aV 0 (by omega) hl).2;rw[hr.zero] at this;cases this)⟩,hle,by simp,fun k hk hn'=>?_,fun k hk⟨i,N,Qs,hi,hN,lA⟩=>?_,dX,
  fun i hi=>uJ i (by omega) (by omega),rfl,rfl,rfl⟩
 ·by_cases e:i=aq
  ·subst e
   rcases T.bd AO.gone (.cells n' esz' c') (T.set .gone h id) i with g|g<;>rw[g]
   ·exact⟨M,arr',el,by simp,by simp[hM,cL],by omega,by rw[cC];exact hz,fun j hj=>(dz j hj).mono hle⟩
   ·trivial
  ·by_cases e':i=id
   ·subst e';rw[Ag];trivial
   ·rw[uJ i e e']
    have im:=hr.obj i;cases ho:T.get AO.gone h i<;>rw[ho] at im
    case gone=>trivial
    case floor=>trivial
    case facts=>exact fun p hp=>an hle _ _ (im p hp)
    case ali=>
     obtain⟨M9,M8,c9,h1,h2,h3,h4⟩:=im;exact⟨M9,M8,c9,hle _ _ h1,hle _ _ h2,an hle _ _ h3,h4⟩
    case cells=>
     obtain⟨N,ar,e2,h1,h2,h3,h4,h5⟩:=im;exact⟨N,ar,e2,by simp[e,h1],by simp only[j9 (cR i N e' (by rw[ho];rfl) h1)];exact h2,h3,h4,fun j hj=>(h5 j hj).mono hle⟩
    case map es ck=>
     obtain⟨N,ms,h1,h2,h3⟩:=im;have mono:∀(es:List FX)(ms:List MapEntry),j6 E es ms->j6 (fun i=>if i=aq then some M else E i) es ms:=by
      intro es;induction es with
      |nil=>intro ms r;exact r
      |cons x es ih=>intro ms ⟨m,y0,e1,⟨r1,r2,r3⟩,r4⟩;exact⟨m,y0,e1,⟨r1.mono hle,r2.mono hle,r3⟩,ih _ r4⟩
     exact⟨N,ms,by simp[e,h1],by simp only[j9 (cR i N e' (by rw[ho];rfl) h1)];exact h2,mono _ _ h3⟩
    case siter=>
     obtain⟨N,h1,h2,h3⟩:=im;exact⟨N,by simp[e,h1],h2,by simp only[j9 (cR i N e' (by rw[ho];rfl) h1)];exact h3⟩
    case glob=>
     obtain⟨N,ar,e2,fr,h1,h2,h3,h4,h5⟩:=im;exact⟨N,ar,e2,fr,by simp[e,h1],h2,by simp only[j9 (cR i N e' (by rw[ho];rfl) h1)];exact h3,h4,(fun j hj=>(h5.1 j hj).mono hle),h5.2.wide hle⟩
    case rows=>
     obtain⟨N,ar,n9,h1,gi,h2,h3,h4⟩:=im;exact⟨N,ar,n9,by simp[e,h1],gi,by simp only[j9 (cR i N e' (by rw[ho];rfl) h1)];exact h2,an hle _ _ h3,h4⟩
    case blob=>
     obtain⟨N,ar,n9,h1,gi,h2,h3,h4,h5,c0,h6,h7,h8,h9⟩:=im;exact⟨N,ar,n9,by simp[e,h1],gi,by simp only[j9 (cR i N e' (by rw[ho];rfl) h1)];exact h2,an hle _ _ h3,h4,h5,c0,an hle _ _ h6,h7,h8,fun j a hj=>(h9 j a hj).mono hle⟩
 ·by_cases ei:i=aq
  ·by_cases ej:j=aq
   ·rw[ei,ej]
   ·subst ei
    have P0:A=M:=by simpa using hA.symm
    obtain⟨e',hl⟩:=aV j ej hj;subst P0;exact absurd (hM.symm.trans N9) (cR j B e' hl (old j B ej hB))
  ·by_cases ej:j=aq
   ·subst ej
    have hB':B=M:=by simpa using hB.symm
    obtain⟨e',hl⟩:=aV i ei hi;subst hB';exact absurd (hM.symm.trans N9.symm) (cR i A e' hl (old i A ei hA))
   ·exact hr.inj i j A B (aV i ei hi).2 (aV j ej hj).2 (old i A ei hA) (old j B ej hB) N9
 ·have e:i≠aq:=by omega
  cases hl:(T.get AO.gone (T.set (.cells n' esz' c') (T.set .gone h id) aq) i).live with
  |false=>rfl
  |true=>have:=(aV i e hl).2;rw[hr.lt i (by omega)] at this;cases this
 ·have e:i≠aq:=by omega
  simp only[e,if_false];exact hr.fresh i (by omega)
 ·by_cases e:i=aq
  ·subst e
   have:N=M:=by simpa using hN.symm
   subst this;simp;omega
  ·have:=hr.kT i N (old i N e hN);simpa using this
 ·simp only[Array.getElem?_setIfInBounds]
  split
  ·rename_i lA;exact absurd ⟨id,L,jI,bD,hL,lA⟩ hn'
  ·rfl
 ·by_cases e:i=aq
  ·subst e
   have:N=M:=by simpa using hN.symm
   subst this;exact⟨id,L,jI,bD,hL,by rw[←hM];exact lA⟩
  ·exact⟨i,N,by rw[←dX];exact Qs,(aV i e hi).2,old i N e hN,lA⟩
theorem HR.Mg(hr:HR E h aq w)(bD:(T.get .gone h id).live=true)(hL:E id=some L)(hM:M.aH=L.aH){ao':AO}
  (dU:RO (fun i=>if i=aq then some M else E i) {w with heap:=w.heap.setIfInBounds L.aH (.cells arr' el (0,0))} aq ao') (jI:bM h<=id):
  HR (fun i=>if i=aq then some M else E i) (T.set ao' (T.set .gone h id) aq) (aq+1) {w with heap:=w.heap.setIfInBounds L.aH (.cells arr' el (0,0))}∧
  bk E h w (fun i=>if i=aq then some M else E i) (T.set ao' (T.set .gone h id) aq) {w with heap:=w.heap.setIfInBounds L.aH (.cells arr' el (0,0))}:=by
 have hle:=Env.pK (hr.fresh aq (nrQ _)) M;have cL:=hr.kT id L hL;have old:∀i N,i≠aq->(if i=aq then some M else E i)=some N->E i=some N:=fun i N e hN=>by simpa[e] using hN
 have uJ:∀i,i≠aq->i≠id->(T.get AO.gone (T.set ao' (T.set .gone h id) aq) i)=T.get .gone h i:=fun i e e'=>by
  rw[T.ay _ _ _ _ _ e,T.ay _ _ _ _ _ e']
 have hid:id≠aq:=fun e=>by have:=hr.lt id (by omega);rw[bD] at this;cases this
 have Ag:T.get AO.gone (T.set ao' (T.set .gone h id) aq) id=.gone:=by
  rw[T.ay _ _ _ _ _ hid];rcases T.bd AO.gone .gone h id with g|g<;>exact g
 have aV:∀i,i≠aq->(T.get AO.gone (T.set ao' (T.set .gone h id) aq) i).live=true->i≠id∧(T.get .gone h i).live=true:=by
  intro i e hi;have e':i≠id:=fun e'=>by subst e';rw[Ag] at hi;cases hi
  rw[uJ i e e'] at hi;exact⟨e',hi⟩
 have cR:∀i N,i≠id->(T.get .gone h i).live=true->E i=some N->L.aH≠N.aH:=fun i N e hi hN pO=>e (hr.inj i id N L hi bD hN hL pO.symm)
 have hp:=hr.pos;have hflle:=hr.kU;have dX:bM (T.set ao' (T.set .gone h id) aq)=bM h:=by
  rw[pJ fun e=>by omega];exact(hr.forget id fun e=>by rw[e] at bD;exact bD).2.2
 refine⟨⟨fun i=>?_,fun i j A B hi hj hA hB N9=>?_,fun i hi=>?_,fun i hi=>?_,fun i N hN=>?_,by omega,by rw[dX];omega,by cases hl:(T.get AO.gone (T.set ao' (T.set .gone h id) aq) 0).live with|false=>rfl|true=>(have:=(aV 0 (by omega) hl).2;rw[hr.zero] at this;cases this)⟩,hle,by simp,fun k hk hn'=>?_,fun k hk⟨i,N,Qs,hi,hN,lA⟩=>?_,dX,
  fun i hi=>uJ i (by omega) (by omega),rfl,rfl,rfl⟩
 ·by_cases e:i=aq
  ·subst e
   rcases T.bd AO.gone ao' (T.set .gone h id) i with g|g<;>rw[g]
   ·exact dU
   ·trivial
  ·by_cases e':i=id
   ·subst e';rw[Ag];trivial
   ·rw[uJ i e e']
    have im:=hr.obj i;cases ho:T.get AO.gone h i<;>rw[ho] at im
    case gone=>trivial
    case floor=>trivial
    case facts=>exact fun p hp=>an hle _ _ (im p hp)
    case ali=>
     obtain⟨M9,M8,c9,h1,h2,h3,h4⟩:=im;exact⟨M9,M8,c9,hle _ _ h1,hle _ _ h2,an hle _ _ h3,h4⟩
    case cells=>
     obtain⟨N,ar,e2,h1,h2,h3,h4,h5⟩:=im;exact⟨N,ar,e2,by simp[e,h1],by simp only[j9 (cR i N e' (by rw[ho];rfl) h1)];exact h2,h3,h4,fun j hj=>(h5 j hj).mono hle⟩
    case map es ck=>
     obtain⟨N,ms,h1,h2,h3⟩:=im;have mono:∀(es:List FX)(ms:List MapEntry),j6 E es ms->j6 (fun i=>if i=aq then some M else E i) es ms:=by
      intro es;induction es with
      |nil=>intro ms r;exact r
      |cons x es ih=>intro ms ⟨m,y0,e1,⟨r1,r2,r3⟩,r4⟩;exact⟨m,y0,e1,⟨r1.mono hle,r2.mono hle,r3⟩,ih _ r4⟩
     exact⟨N,ms,by simp[e,h1],by simp only[j9 (cR i N e' (by rw[ho];rfl) h1)];exact h2,mono _ _ h3⟩
    case siter=>
     obtain⟨N,h1,h2,h3⟩:=im;exact⟨N,by simp[e,h1],h2,by simp only[j9 (cR i N e' (by rw[ho];rfl) h1)];exact h3⟩
    case glob=>
     obtain⟨N,ar,e2,fr,h1,h2,h3,h4,h5⟩:=im;exact⟨N,ar,e2,fr,by simp[e,h1],h2,by simp only[j9 (cR i N e' (by rw[ho];rfl) h1)];exact h3,h4,(fun j hj=>(h5.1 j hj).mono hle),h5.2.wide hle⟩
    case rows=>
     obtain⟨N,ar,n9,h1,gi,h2,h3,h4⟩:=im;exact⟨N,ar,n9,by simp[e,h1],gi,by simp only[j9 (cR i N e' (by rw[ho];rfl) h1)];exact h2,an hle _ _ h3,h4⟩
    case blob=>
     obtain⟨N,ar,n9,h1,gi,h2,h3,h4,h5,c0,h6,h7,h8,h9⟩:=im;exact⟨N,ar,n9,by simp[e,h1],gi,by simp only[j9 (cR i N e' (by rw[ho];rfl) h1)];exact h2,an hle _ _ h3,h4,h5,c0,an hle _ _ h6,h7,h8,fun j a hj=>(h9 j a hj).mono hle⟩
 ·by_cases ei:i=aq
  ·by_cases ej:j=aq
   ·rw[ei,ej]
   ·subst ei
    have P0:A=M:=by simpa using hA.symm
    obtain⟨e',hl⟩:=aV j ej hj;subst P0;exact absurd (hM.symm.trans N9) (cR j B e' hl (old j B ej hB))
  ·by_cases ej:j=aq
   ·subst ej
    have hB':B=M:=by simpa using hB.symm
    obtain⟨e',hl⟩:=aV i ei hi;subst hB';exact absurd (hM.symm.trans N9.symm) (cR i A e' hl (old i A ei hA))
   ·exact hr.inj i j A B (aV i ei hi).2 (aV j ej hj).2 (old i A ei hA) (old j B ej hB) N9
 ·have e:i≠aq:=by omega
  cases hl:(T.get AO.gone (T.set ao' (T.set .gone h id) aq) i).live with
  |false=>rfl
  |true=>have:=(aV i e hl).2;rw[hr.lt i (by omega)] at this;cases this
 ·have e:i≠aq:=by omega
  simp only[e,if_false];exact hr.fresh i (by omega)
 ·by_cases e:i=aq
  ·subst e
   have:N=M:=by simpa using hN.symm
   subst this;simp;omega
  ·have:=hr.kT i N (old i N e hN);simpa using this
 ·simp only[Array.getElem?_setIfInBounds]
  split
  ·rename_i lA;exact absurd ⟨id,L,jI,bD,hL,lA⟩ hn'
  ·rfl
 ·by_cases e:i=aq
  ·subst e
   have:N=M:=by simpa using hN.symm
   subst this;exact⟨id,L,jI,bD,hL,by rw[←hM];exact lA⟩
  ·exact⟨i,N,by rw[←dX];exact Qs,(aV i e hi).2,old i N e hN,lA⟩
theorem bk.s9(g:bk E h {w with drawn:=w.drawn+1} E' h' w'):bk E h w E' h' w':=(bk.drew E h w).trans g
theorem jQ(hl:aP E l vs.toList)(ha:cj l=true):∀v∈vs.toList,v.oneCell'=true:=hl.leaves ha
theorem bk.weaken{h0:Heap}(g:bk E h0 w E' h' w')(hh:∀k,fp E h0 k->fp E h k)(hf:Vx.bM h0=Vx.bM h)(hk:∀i,i<Vx.bM h->T.get .gone h0 i=T.get .gone h i):bk E h w E' h' w':=
 ⟨g.ext,g.size,fun k hk hn=>g.fr k hk (fun hf=>hn (hh k hf)),fun k hk hf=>hh k (g.CE k hk hf),g.bM.trans hf,fun i hi=>(g.gT i (by rw[hf];exact hi)).trans (hk i hi),g.os,g.output,g.tape⟩
theorem QO:aP E [] ([]:List Value):=by simp[aP]
set_option maxHeartbeats 2000000 in
theorem GM{s:AV}{S:Value}{k:K}(he:Af P st xt s y h aq k=true)(rs:Rv E s S)(ry:Rv E y Y)(hr:HR E h aq w):
  rH P (Builtin.append_ #[st,xt] ty #[S,Y]) E h w k:=by
 unfold Af at he;split at he<;>try (cases he;done)
 rename_i el hu;split at he<;>try (cases he;done)
 rename_i i hi;split at he<;>try (cases he;done)
 rename_i z hz;obtain⟨JQ,jD⟩:=aa he;obtain⟨h1,qu⟩:=aa jD;obtain⟨Vb,he3⟩:=aa qu;clear he jD qu;have JQ:=aN JQ;have h1:=aU h1;have Vb:=aU Vb;obtain⟨n,l,vs,hy,⟨d,hx,hd⟩,hv,hl,qY,he⟩:=VT he3 ry hr;clear he3;have hll:=hl.length;have hll:l.length=n*i.size:=by rw[←hll];simpa using qY
 split at he
 ·rw[Rv] at rs;subst rs
  rcases aR he with⟨hn,he⟩|⟨hn,he⟩
  ·have hn:=aN hn
   subst hn;refine rH.same hr (V:=.slice none 0 0) ?_ (by rw[Rv]) he;rw[run_append_room hu hi hx hd hy (hv w rfl) (by omega)];rfl
  ·have hn:=Nat.ne_of_beq_eq_false hn
   obtain⟨hle,he⟩:=aa he;have hle:=aU hle;rw[aC] at he;obtain⟨cap,CS,Aa⟩:=run_append_grow (w:=w) (ty:=ty) (base:=none) (sLen:=0) (sCap:=0) (n:=n) (Y:=Y) (old:=#[]) (vs:=vs) hu hi hz hx hd (fun w' _=>by simp[Builtin.firstCells]) hy hv (by omega) (by omega) Vb
   obtain⟨h',E',e1,e2,e3,e4⟩:=jP (w:={w with drawn:=w.drawn+1}) (room:=cap) (cells:=#[]++vs++Builtin.zeroCells z.cells (cap-(0+n))) (el:=el) he hr.drew
    (by show n*i.size<=l.length;omega)
    ⟨vs.toList,hl,fun j hj=>by
     have hj:j<n*i.size:=hj;have:j<vs.size:=by omega
     simp[Array.getElem?_append,this]⟩
    (by show n*i.size<=_;simp[dL];omega)
    (nV.Qj _ fun _=>⟨by simp[dL,qY,JQ];rw[←Nat.add_mul];exact Nat.mul_le_mul_right _ (by omega),by exact Nat.mul_le_mul_right _ (by omega)⟩)
   refine⟨_,h',_,E',_,.slice (some ⟨w.heap.size,0,none⟩) (0+n) cap,Aa,?_,e2,bk.s9 e3,e4⟩;rw[Rv];exact⟨_,e1,by simp,by simp;omega⟩
 ·rename_i id off len cap
  rw[Rv] at rs;obtain⟨L,hL,rfl⟩:=rs;split at he<;>try (cases he;done)
  rename_i ext gB tr hc;obtain⟨L',arr,wP,tY,hb,cC,dU,dz⟩:=hr.cells hc;obtain rfl:L=L':=mL (hL.symm.trans tY);rcases aR he with⟨hn,he⟩|⟨hn,he⟩
  ·have hn:=aU hn
   obtain⟨rU,he⟩:=aa he;have rU:=aU rU;obtain⟨dh,he⟩:=aa he;obtain⟨B',he⟩:=gU he;rw[jn,T.bh,aC] at he;rw[Nat.add_mul] at rU;obtain⟨g1,g2⟩:=hr.write hc (c':=fu l tr (off+len*i.size)) (arr':=jH arr (L.base+(off+len*i.size)) vs.toList) hL hb (by simp) (DZ l vs.toList tr arr _ hl cC dz) B';refine⟨_,_,_,E,_,.slice (some ⟨L.aH,L.base+off,none⟩) (len+n) cap,?_,by rw[Rv];exact⟨L,hL,rfl⟩,g1,g2,he⟩;rw[run_append_room hu hi hx hd hy (hv w rfl) hn];simp only[eC];have:=eD P (L:=L) (L.base+off+len*i.size) vs.toList 0 w arr hb (by simp;omega) (jQ hl dh);rw[this];simp[Nat.add_assoc]
  ·have hn:¬(len+n<=cap):=fun hh=>by rw[Nat.ble_eq_true_of_le hh] at hn;cases hn
   obtain⟨hle,he⟩:=aa he;have hle:=aU hle;obtain⟨rU,he⟩:=aa he;have rU:=aU rU;rw[kW,aC,aC] at he
   obtain⟨bz,CS,Aa⟩:=run_append_grow (w:=w) (ty:=ty) (base:=some ⟨L.aH,L.base+off,none⟩) (sLen:=len) (sCap:=cap) (n:=n) (Y:=Y)
    (old:=((List.range' (L.base+off) (len*i.size)).map fun j=>arr.getD j undef).toArray) (vs:=vs) hu hi hz hx hd
    (fun w' D9=>ez P (by rw[D9];exact hb) (L.base+off) (len*i.size) (by omega)) hy hv hn hle Vb
   have Ah:aP E ((List.range' off (len*i.size)).map fun j=>tr.get j) ((List.range' (L.base+off) (len*i.size)).map fun j=>arr.getD j undef):=by
    rw[jN];exact aP.j8 _ _ fun j j1 j2=>dz j (by omega)
   obtain⟨h',E',e1,e2,e3,e4⟩:=jP (w:={w with drawn:=w.drawn+1}) (room:=bz) (cells:=((List.range' (L.base+off) (len*i.size)).map fun j=>arr.getD j undef).toArray++vs++Builtin.zeroCells z.cells (bz-(len+n))) (el:=el) he hr.drew
    (by show(len+n)*i.size<=_;simp[hll,Nat.add_mul])
    ⟨_,Ah.append hl,fun j hj=>by
      have hj:j<(len+n)*i.size:=hj;rw[Nat.add_mul] at hj;have QP:j<(((List.range' (L.base+off) (len*i.size)).map fun j=>arr.getD j undef).toArray++vs).size:=by simp;omega
      rw[Ai,Array.getElem?_append_left QP];rw[cB];congr 1;rw[←Array.getElem?_toList];simp⟩
    (by show(len+n)*i.size<=_;simp[dL,qY,Nat.add_mul])
    (nV.Qj _ fun _=>⟨by
     simp[dL,qY,JQ];rw[←Nat.add_mul,←Nat.add_mul];exact Nat.mul_le_mul_right _ (by omega),by exact Nat.mul_le_mul_right _ (by omega)⟩)
   refine⟨_,h',_,E',_,.slice (some ⟨w.heap.size,0,none⟩) (len+n) bz,Aa,?_,e2,bk.s9 e3,e4⟩;rw[Rv];exact⟨_,e1,by simp,by simp;omega⟩
 ·rename_i id off len used
  rw[Rv] at rs;obtain⟨L,hL,rfl,CT⟩:=rs;split at he<;>try (cases he;done)
  rename_i ext gB tr hc;obtain⟨L',arr,wP,tY,hb,cC,dU,dz⟩:=hr.cells hc;obtain rfl:L=L':=mL (hL.symm.trans tY);rcases aR he with⟨hn,he⟩|⟨hn0,he⟩
  ·have hn:=aN hn
   subst hn;have hvs0:vs=#[]:=by
    have:vs.size=0:=by rw[qY];simp
    exact Array.eq_empty_of_size_eq_zero this
   refine rH.same hr (V:=.slice (some ⟨L.aH,L.base+off,none⟩) len (L.room-used)) ?_ (by rw[Rv];exact⟨L,hL,rfl,CT⟩) he;rw[run_append_room hu hi hx hd hy (hv w rfl) (by omega)];simp[hvs0,storeCells]
  ·have hn0:=Nat.ne_of_beq_eq_false hn0
   obtain⟨dr,he⟩:=aa he;have dr:=aN dr;obtain⟨JR,he⟩:=aa he;have JR:=aN JR;obtain⟨dh,he⟩:=aa he;obtain⟨B',he⟩:=gU he;obtain⟨fw,jF⟩:=dU.1 (by omega);rw[dr] at fw jF;rcases aR he with⟨rU,he⟩|⟨rU,he⟩
   ·have rU:=aU rU
    rw[jn,T.bh,aC] at he;have wQ:used+(len+n)<=L.room:=by
     have:(used+(len+n))*i.size<=L.room*i.size:=by rw[Nat.add_mul];omega
     exact Nat.le_of_mul_le_mul_right this h1
    rw[Nat.add_mul] at rU;obtain⟨g1,g2⟩:=hr.write hc (c':=fu l tr (off+len*i.size)) (arr':=jH arr (L.base+(off+len*i.size)) vs.toList) hL hb (by simp) (DZ l vs.toList tr arr _ hl cC dz) B';refine⟨_,_,_,E,_,.slice (some ⟨L.aH,L.base+off,none⟩) (len+n) (L.room-used),?_,by rw[Rv];exact⟨L,hL,rfl,wQ⟩,g1,g2,he⟩;rw[run_append_room hu hi hx hd hy (hv w rfl) (by omega)];simp only[eC];have:=eD P (L:=L) (L.base+off+len*i.size) vs.toList 0 w arr hb (by simp;omega) (jQ hl dh);rw[this];simp[Nat.add_assoc]
   ·obtain⟨hle,he⟩:=aa he
    have hle:=aU hle;obtain⟨YN,he⟩:=aa he;have YN:=aU YN;rw[kW,aC,aC,T.bh] at he;obtain⟨eo,he,heo⟩:=QM he;have hzid:id=0->(T.get AO.gone h 0).live=true:=fun e=>by rw[←e,hc];rfl
    obtain⟨P3,na,Ou⟩:=hr.forget id hzid;have Ah:aP E ((List.range' off (len*i.size)).map fun j=>tr.get j) ((List.range' (L.base+off) (len*i.size)).map fun j=>arr.getD j undef):=by
     rw[jN];exact aP.j8 _ _ fun j j1 j2=>dz j (by omega)
    by_cases gK:len+n<=L.room-used
    ·
     unfold gV at he;rw[jn,T.bh,aC] at he;have hrm:(L.room-used)*i.size=L.room*i.size-used*i.size:=Nat.sub_mul _ _ _;have Ov:(len+n)*i.size<=(L.room-used)*i.size:=Nat.mul_le_mul_right _ gK;have hur:used*i.size<=L.room*i.size:=Nat.mul_le_mul_right _ (by omega);have hlen2:(((List.range' off (len*i.size)).map fun j=>tr.get j)++l).length=(len+n)*i.size:=by simp[hll,Nat.add_mul]
     have GN:=ef (E:=E) i.size _ _ (Ah.append hl);have Mh:L.base+(off+len*i.size)+vs.toList.length<=arr.size:=by
      simp only[Array.length_toList,qY];rw[Nat.add_mul] at Ov;omega
     obtain⟨g1,g2⟩:=hr.rename (M:=⟨L.aH,L.base+off,L.room-used⟩) (arr':=jH arr (L.base+(off+len*i.size)) vs.toList) (n':=(len+n)*i.size) (esz':=⟨i.size,eo,bc gB.z (Nat.beq used 0) false⟩)
      (c':=fu (((List.range' off (len*i.size)).map fun j=>tr.get j)++l) ⟨i.size,fZ⟩ 0) hc hL rfl hb (by simp) (by show L.base+off+(len+n)*i.size<=arr.size;omega)
      ⟨fun _=>⟨by show L.base+off+(L.room-used)*i.size<=arr.size;omega,Ov⟩,fun t ht=>(by rw[(heo t ht).1];exact dU.2.1 _ (heo t ht).2),fun hh=>(by
       obtain⟨z1,z2⟩:=aa hh;have z2:=aN z2;have z3:=dU.2.2 z1;show L.base+off=0;rw[z3,JR,z2];simp)⟩
      (fun j hj=>by
       have gQ:=GN j (by rw[hlen2];exact hj);have hgoal:(((List.range' (L.base+off) (len*i.size)).map fun j=>arr.getD j undef)++vs.toList).getD j undef=(jH arr (L.base+(off+len*i.size)) vs.toList).getD (L.base+off+j) undef:=?_
       ·rw[hgoal] at gQ;exact gQ
       rw[Ai,←Array.getElem?_toList,rI _ _ _ Mh,cB];congr 1;simp only[List.getElem?_append,gp,List.length_range',List.length_take,Array.length_toList];have hmin:min (L.base+(off+len*i.size)) arr.size=L.base+(off+len*i.size):=by omega
       rw[hmin];by_cases y8:j<len*i.size
       ·rw[if_pos y8,if_pos (by omega)]
        have h3:L.base+(off+j)<arr.size:=by omega
        simp[y8,h3,Nat.add_assoc,show off+j<off+len*i.size by omega]
       ·rw[Nat.add_mul] at hj
        rw[if_neg y8,if_neg (by omega),if_pos (by rw[qY];omega)];congr 1;omega) B'
     refine⟨_,_,_,_,_,.slice (some ⟨L.aH,L.base+off,none⟩) (len+n) (L.room-used),?_,?_,g1,g2,he⟩
     ·rw[run_append_room hu hi hx hd hy (hv w rfl) gK]
      simp only[eC];have:=eD P (L:=L) (L.base+off+len*i.size) vs.toList 0 w arr hb (by simp at Mh⊢;omega) (jQ hl dh);rw[this];simp[Nat.add_assoc]
     ·rw[Rv]
      exact⟨⟨L.aH,L.base+off,L.room-used⟩,by simp,by simp,by show 0+(len+n)<=L.room-used;omega⟩
    ·obtain⟨bz,CS,Aa⟩:=run_append_grow (w:=w) (ty:=ty) (base:=some ⟨L.aH,L.base+off,none⟩) (sLen:=len) (sCap:=L.room-used) (n:=n) (Y:=Y)
      (old:=((List.range' (L.base+off) (len*i.size)).map fun j=>arr.getD j undef).toArray) (vs:=vs) hu hi hz hx hd
      (fun w' D9=>ez P (by rw[D9];exact hb) (L.base+off) (len*i.size) (by omega)) hy hv gK hle Vb
     obtain⟨h',E',e1,e2,e3,e4⟩:=jP (w:={w with drawn:=w.drawn+1}) (room:=bz) (cells:=((List.range' (L.base+off) (len*i.size)).map fun j=>arr.getD j undef).toArray++vs++Builtin.zeroCells z.cells (bz-(len+n))) (el:=el) he P3.drew
      (by show(len+n)*i.size<=_;simp[hll,Nat.add_mul])
      ⟨_,Ah.append hl,fun j hj=>by
        have hj:j<(len+n)*i.size:=hj;rw[Nat.add_mul] at hj;have QP:j<(((List.range' (L.base+off) (len*i.size)).map fun j=>arr.getD j undef).toArray++vs).size:=by simp;omega
        rw[Ai,Array.getElem?_append_left QP];rw[cB];congr 1;rw[←Array.getElem?_toList];simp⟩
      (by show(len+n)*i.size<=_;simp[dL,qY,Nat.add_mul])
      ⟨fun _=>⟨by
       simp[dL,qY,JQ];rw[←Nat.add_mul,←Nat.add_mul];exact Nat.mul_le_mul_right _ (by omega),by exact Nat.mul_le_mul_right _ (by omega)⟩,fun t ht=>(heo t ht).1.symm,fun hh=>rfl⟩
     refine⟨_,h',_,E',_,.slice (some ⟨w.heap.size,0,none⟩) (len+n) bz,Aa,?_,e2,bk.s9 (e3.weaken na Ou (fun i hi=>T.ay _ _ _ _ _ (by omega))),e4⟩;rw[Rv];exact⟨_,e1,by simp,by simp;omega⟩
 ·rename_i id len
  rw[Rv] at rs;obtain⟨L,N,hL,P4,hN0,hNL,rfl⟩:=rs;split at he<;>try (cases he;done)
  ·rename_i ext gB tr hc
   obtain⟨L',arr,wP,tY,hb,cC,dU,dz⟩:=hr.cells hc;obtain rfl:L=L':=mL (hL.symm.trans tY);obtain⟨dr,he⟩:=aa he;have dr:=aN dr;obtain⟨GO,he⟩:=aa he;have hN:=gy (aD hr) len P4 GO;obtain⟨Vd,he⟩:=aa he;have Vd:=aU Vd;obtain⟨dh,he⟩:=aa he;obtain⟨B',he⟩:=gU he;rw[T.bh] at he;obtain⟨eo,he,heo⟩:=QM he;obtain⟨fw,jF⟩:=dU.1 (by omega);rw[dr] at fw jF;have hNr:N*i.size<=L.room*i.size:=Nat.mul_le_mul_right _ hNL;have yF:∀E':Env,E.le E'->den E' (.cD 4 len (.li .i64 (.ofNat n)))=some (.int .i64 (N+n:Nat)):=fun E' hle=>by
    have d1:=an hle _ _ P4;simp only[den,d1,js];rw[if_pos (by constructor<;>(show _<=_)<;>simp only[Int.ofNat_eq_natCast]<;>omega)];rfl
   by_cases gK:N+n<=L.room
   ·have Ov:(N+n)*i.size<=L.room*i.size:=Nat.mul_le_mul_right _ gK
    have Mh:L.base+N*i.size+vs.toList.length<=arr.size:=by
     simp only[Array.length_toList,qY];rw[Nat.add_mul] at Ov;omega
    unfold gV at he;rw[jn,T.bh,aC] at he
    obtain⟨g1,g2⟩:=hr.rename (M:=L) (arr':=jH arr (L.base+N*i.size) vs.toList) (n':=0) (esz':=⟨i.size,eo,gB.z⟩) (c':=fu [] ⟨i.size,fZ⟩ 0) hc hL rfl hb (by simp) (by omega)
     ⟨fun _=>⟨by show L.base+L.room*i.size<=arr.size;omega,nzQ _⟩,fun t ht=>(by rw[(heo t ht).1];exact dU.2.1 _ (heo t ht).2),fun hh=>dU.2.2 hh⟩ (fun j hj=>absurd hj (Nat.not_lt_zero _)) B'
    refine⟨_,_,_,_,_,.slice (some ⟨L.aH,L.base,none⟩) (N+n) L.room,?_,?_,g1,g2,he⟩
    ·rw[run_append_room hu hi hx hd hy (hv w rfl) gK]
     simp only[eC];have:=eD P (L:=L) (L.base+N*i.size) vs.toList 0 w arr hb (by simp at Mh⊢;omega) (jQ hl dh);rw[this];simp
    ·rw[Rv]
     exact⟨L,N+n,by simp,yF _ g2.ext,by omega,gK,rfl⟩
   ·obtain⟨bz,CS,Aa⟩:=run_append_grow (w:=w) (ty:=ty) (base:=some ⟨L.aH,L.base,none⟩) (sLen:=N) (sCap:=L.room) (n:=n) (Y:=Y)
     (old:=((List.range' L.base (N*i.size)).map fun j=>arr.getD j undef).toArray) (vs:=vs) hu hi hz hx hd
     (fun w' D9=>ez P (by rw[D9];exact hb) L.base (N*i.size) (by omega)) hy hv gK (by omega) Vb
    have hzid:id=0->(T.get AO.gone h 0).live=true:=fun e=>by rw[←e,hc];rfl
    obtain⟨P3,na,Ou⟩:=hr.forget id hzid
    obtain⟨h',E',e1,e2,e3,e4⟩:=jP (w:={w with drawn:=w.drawn+1}) (room:=bz) (cells:=((List.range' L.base (N*i.size)).map fun j=>arr.getD j undef).toArray++vs++Builtin.zeroCells z.cells (bz-(N+n))) (el:=el) he P3.drew
     (nzQ _) ⟨[],QO,fun j hj=>absurd hj (Nat.not_lt_zero _)⟩ (nzQ _)
     ⟨fun _=>⟨by
      simp[dL,qY,JQ];rw[←Nat.add_mul,←Nat.add_mul];exact Nat.mul_le_mul_right _ (by omega),nzQ _⟩,fun t ht=>(heo t ht).1.symm,fun hh=>rfl⟩
    refine⟨_,h',_,E',_,.slice (some ⟨w.heap.size,0,none⟩) (N+n) bz,Aa,?_,e2,bk.s9 (e3.weaken na Ou (fun i hi=>T.ay _ _ _ _ _ (by omega))),e4⟩;rw[Rv];exact⟨_,N+n,e1,yF _ e3.ext,by omega,CS,rfl⟩
  ·skip
   rename_i wP QN hc;obtain⟨e1,heR⟩:=aa he;clear he;obtain⟨yG,e1⟩:=aa e1;obtain⟨hle,e1⟩:=aa e1;obtain⟨QQ,I2⟩:=aa e1;have yG:=aN yG;have QQ:=aN QQ;have I2:=aN I2;have hle:=cq hle;subst hle QQ I2;obtain⟨GO,he⟩:=aa heR;clear heR;have hN:=gy (aD hr) len P4 GO;obtain⟨dh,he⟩:=aa he;obtain⟨CU,he⟩:=aa he;obtain⟨B',he⟩:=gU he;rw[T.bh,T.bh,aC] at he;obtain⟨hv4,hvt⟩:=GL CU hl;have bD:(T.get .gone h id).live=true:=by rw[hc];rfl
   have im:=hr.obj id;rw[hc] at im;obtain⟨L',arr,N',tY,gi,hb,QR,hNr',cC,dz⟩:=im;obtain rfl:L=L':=mL (hL.symm.trans tY);obtain rfl:N=N':=by rw[P4] at QR;injection QR with q;injection q with _ q;omega
   have yF:∀E':Env,E.le E'->den E' (.cD 4 len (.li .i64 1))=some (.int .i64 (N+1:Nat)):=fun E' hle=>by
    have d1:=an hle _ _ P4;simp only[den,d1,js];rw[if_pos (by constructor<;>(show _<=_)<;>omega)];rfl
   have jW:=fun M=>Env.pK (hr.fresh aq (nrQ _)) M
   have hvl:vs.toList.length=4:=hv4;have hvz:vs.size=4:=by simpa using hvl
   by_cases gK:N+1<=L.room
   ·obtain⟨g1,g2⟩:=hr.Mg bD (M:=L) (arr':=jH arr (L.base+N*i.size) vs.toList) (el:=wP) (ao':=.rows wP (.cD 4 len (.li .i64 1))) hL rfl
     ⟨L,jH arr (L.base+N*i.size) vs.toList,N+1,by simp,gi,by simp[hr.kT id L hL],yF _ (jW L),gK,by rw[CI];exact cC,fun j hj=>by
       rw[gi,yG];rcases gC j (4*N) with h|h
       ·rw[rG _ _ _ _ (.inl (by omega))];exact dz j h
       ·rw[rF _ _ _ _ (by omega) (by omega) (by omega)]
        exact s8 (p:=0) (by omega) (hvt (j-(0+N*4)) (by omega))⟩ B'
    refine⟨_,_,_,_,_,.slice (some ⟨L.aH,L.base,none⟩) (N+1) L.room,?_,?_,g1,g2,he⟩
    ·rw[run_append_room hu hi hx hd hy (hv w rfl) gK]
     simp only[eC];have:=eD P (L:=L) (L.base+N*i.size) vs.toList 0 w arr hb (by rw[hvl,yG,gi];omega) (jQ hl dh);rw[this];simp
    ·rw[Rv]
     exact⟨L,N+1,by simp,yF _ g2.ext,by omega,gK,rfl⟩
   ·obtain⟨bz,CS,Aa⟩:=run_append_grow (w:=w) (ty:=ty) (base:=some ⟨L.aH,L.base,none⟩) (sLen:=N) (sCap:=L.room) (n:=1) (Y:=Y)
     (old:=((List.range' L.base (N*i.size)).map fun j=>arr.getD j undef).toArray) (vs:=vs) hu hi hz hx hd
     (fun w' D9=>ez P (by rw[D9];exact hb) L.base (N*i.size) (by rw[gi,yG];omega)) hy hv gK (by omega) Vb
    obtain⟨P3,na,Ou⟩:=hr.forget id fun e=>by rw[e] at bD;exact bD
    obtain⟨g1,g2⟩:=P3.drew.alloc (.cells (((List.range' L.base (N*i.size)).map fun j=>arr.getD j undef).toArray++vs++Builtin.zeroCells z.cells (bz-(N+1))) wP (0,0)) (kV _ _) ⟨w.heap.size,0,bz⟩ rfl (.rows wP (.cD 4 len (.li .i64 1)))
     ⟨⟨w.heap.size,0,bz⟩,((List.range' L.base (N*i.size)).map fun j=>arr.getD j undef).toArray++vs++Builtin.zeroCells z.cells (bz-(N+1)),N+1,by simp,rfl,by simp,yF _ (jW _),CS,by
       simp[dL,hvz,JQ,yG];omega,fun j hj=>by
       have hs2:j<(((List.range' L.base (N*i.size)).map fun j=>arr.getD j undef).toArray++vs).size:=by simp[yG,hvz];omega
       rw[Ai,Array.getElem?_append_left hs2];rcases gC j (4*N) with h|h
       ·have hs1:j<((List.range' L.base (N*i.size)).map fun j=>arr.getD j undef).toArray.size:=by simp[yG];omega
        rw[Array.getElem?_append_left hs1];have:(((List.range' L.base (N*i.size)).map fun j=>arr.getD j undef).toArray)[j]? =some (arr.getD j undef):=by
         rw[List.getElem?_toArray,fL,List.getElem?_range' (by rw[yG];omega)];simp[gi]
        rw[this];exact dz j h
       ·have hs1:((List.range' L.base (N*i.size)).map fun j=>arr.getD j undef).toArray.size<=j:=by simp[yG];omega
        rw[Array.getElem?_append_right hs1];have:=hvt (j-4*N) (by omega);rw[cB,Array.getElem?_toList] at this;have e:j-((List.range' L.base (N*i.size)).map fun j=>arr.getD j undef).toArray.size=j-4*N:=by simp[yG];omega
        rw[e];exact s8 (p:=0) (by omega) this⟩
    refine⟨_,_,_,_,_,.slice (some ⟨w.heap.size,0,none⟩) (N+1) bz,Aa,?_,g1,bk.s9 (g2.weaken na Ou (fun i hi=>T.ay _ _ _ _ _ (by omega))),he⟩;rw[Rv];exact⟨⟨w.heap.size,0,bz⟩,N+1,by simp,yF _ g2.ext,by omega,CS,rfl⟩
  ·skip
   rename_i wP sz S0 l0 QN hc;obtain⟨e1,heR⟩:=aa he;clear he;obtain⟨yG,e1⟩:=aa e1;obtain⟨hle,e1⟩:=aa e1;obtain⟨QQ,I2⟩:=aa e1;have yG:=aN yG;have QQ:=aN QQ;have I2:=aN I2;have hle:=cq hle;subst hle QQ I2 yG;obtain⟨GO,he⟩:=aa heR;clear heR;have hN:=gy (aD hr) len P4 GO;obtain⟨dh,he⟩:=aa he;obtain⟨B',he⟩:=gU he;rw[T.bh,T.bh,aC] at he;have bD:(T.get .gone h id).live=true:=by rw[hc];rfl
   have im:=hr.obj id;rw[hc] at im;obtain⟨L',arr,N',tY,gi,hb,QR,hNr',cC,c0,hdS,qZ,YO,dz⟩:=im;obtain rfl:L=L':=mL (hL.symm.trans tY);obtain rfl:N=N':=by rw[P4] at QR;injection QR with q;injection q with _ q;omega
   have yF:∀E':Env,E.le E'->den E' (.cD 4 len (.li .i64 1))=some (.int .i64 (N+1:Nat)):=fun E' hle=>by
    have d1:=an hle _ _ P4;simp only[den,d1,js];rw[if_pos (by constructor<;>(show _<=_)<;>omega)];rfl
   have jW:=fun M=>Env.pK (hr.fresh aq (nrQ _)) M
   have hvz:vs.size=i.size:=by rw[qY];omega
   have hvl:vs.toList.length=i.size:=by simpa using hvz
   have hll1:l.length=i.size:=by omega
   have YP:i.size*N=N*i.size:=Nat.mul_comm _ _;have hN1:i.size*(N+1)=N*i.size+i.size:=by rw[Nat.mul_comm,Nat.succ_mul]
   have hNr1:N*i.size<=L.room*i.size:=Nat.mul_le_mul_right _ hNr';have hgv:∀(E':Env),E.le E'->∀q a,l[q]? =some a->q<i.size∧Rv E' a (vs.toList.getD q undef):=fun E' hle q a ha=>by
    have hq:=(bR.1 ha).1;obtain⟨V,h1,h2⟩:=hl.get q a ha;refine⟨by omega,?_⟩;rw[cB,h1];exact h2.mono hle
   have QS:∀j a,(l0++l)[j]? =some a->(j<l0.length∧l0[j]? =some a)∨(l0.length<=j∧l[j-l0.length]? =some a):=fun j a hj=>by
    rcases gC j l0.length with h|h
    ·exact .inl ⟨h,by rw[iA h] at hj;exact hj⟩
    ·exact .inr ⟨h,by rw[zE h] at hj;exact hj⟩
   by_cases gK:N+1<=L.room
   ·have hroom2:N*i.size+i.size<=L.room*i.size:=by rw[←Nat.succ_mul];exact Nat.mul_le_mul_right _ gK
    obtain⟨g1,g2⟩:=hr.Mg bD (M:=L) (arr':=jH arr (L.base+N*i.size) vs.toList) (el:=wP) (ao':=.blob wP i.size S0 (l0++l) (.cD 4 len (.li .i64 1))) hL rfl
     ⟨L,jH arr (L.base+N*i.size) vs.toList,N+1,by simp,gi,by simp[hr.kT id L hL],yF _ (jW L),gK,by rw[CI];exact cC,c0,an (jW L) _ _ hdS,by rw[List.length_append,hll1,hN1];omega,fun j hj=>by
       rw[gi,rG _ _ _ _ (.inl (by omega))];exact YO j hj,fun j a hj=>by
       rw[gi];rcases QS j a hj with⟨h,hj⟩|⟨h,hj⟩
       ·rw[rG _ _ _ _ (.inl (by omega))];exact(dz j a hj).mono (jW L)
       ·obtain⟨hq,hr⟩:=hgv _ (jW L) _ _ hj
        rw[rF _ _ _ _ (by omega) (by omega) (by omega)];rw[show c0.length+j-(0+N*i.size)=j-l0.length by omega];exact hr⟩ B'
    refine⟨_,_,_,_,_,.slice (some ⟨L.aH,L.base,none⟩) (N+1) L.room,?_,?_,g1,g2,he⟩
    ·rw[run_append_room hu hi hx hd hy (hv w rfl) gK]
     simp only[eC];have:=eD P (L:=L) (L.base+N*i.size) vs.toList 0 w arr hb (by rw[hvl,gi];omega) (jQ hl dh);rw[this];simp
    ·rw[Rv]
     exact⟨L,N+1,by simp,yF _ g2.ext,by omega,gK,rfl⟩
   ·obtain⟨bz,CS,Aa⟩:=run_append_grow (w:=w) (ty:=ty) (base:=some ⟨L.aH,L.base,none⟩) (sLen:=N) (sCap:=L.room) (n:=1) (Y:=Y)
     (old:=((List.range' L.base (N*i.size)).map fun j=>arr.getD j undef).toArray) (vs:=vs) hu hi hz hx hd
     (fun w' D9=>ez P (by rw[D9];exact hb) L.base (N*i.size) (by rw[gi];omega)) hy hv gK (by omega) Vb
    obtain⟨P3,na,Ou⟩:=hr.forget id fun e=>by rw[e] at bD;exact bD
    have hold:(((List.range' L.base (N*i.size)).map fun j=>arr.getD j undef).toArray).size=N*i.size:=by simp
    have hcapm:N*i.size+i.size<=bz*i.size:=by rw[←Nat.succ_mul];exact Nat.mul_le_mul_right _ (by omega)
    have QP:(((List.range' L.base (N*i.size)).map fun j=>arr.getD j undef).toArray++vs++Builtin.zeroCells z.cells (bz-(N+1))).size=bz*i.size:=by
     rw[Array.size_append,Array.size_append,hold,hvz,dL,JQ,Nat.sub_mul,Nat.succ_mul];omega
    have Ah:∀j,j<N*i.size->(((List.range' L.base (N*i.size)).map fun j=>arr.getD j undef).toArray++vs++Builtin.zeroCells z.cells (bz-(N+1))).getD j undef=arr.getD j undef:=fun j hj=>by
     rw[Ai,Array.getElem?_append_left (by rw[Array.size_append,hold];omega),Array.getElem?_append_left (by rw[hold];exact hj),List.getElem?_toArray,fL,List.getElem?_range' hj];simp[gi]
    have hhi:∀q,q<i.size->(((List.range' L.base (N*i.size)).map fun j=>arr.getD j undef).toArray++vs++Builtin.zeroCells z.cells (bz-(N+1))).getD (N*i.size+q) undef=vs.toList.getD q undef:=fun q hq=>by
     rw[Ai,Array.getElem?_append_left (by rw[Array.size_append,hold,hvz];omega),Array.getElem?_append_right (by rw[hold];omega),hold,Nat.add_sub_cancel_left,cB,Array.getElem?_toList]
    obtain⟨g1,g2⟩:=P3.drew.alloc (.cells (((List.range' L.base (N*i.size)).map fun j=>arr.getD j undef).toArray++vs++Builtin.zeroCells z.cells (bz-(N+1))) wP (0,0)) (kV _ _) ⟨w.heap.size,0,bz⟩ rfl (.blob wP i.size S0 (l0++l) (.cD 4 len (.li .i64 1)))
     ⟨⟨w.heap.size,0,bz⟩,((List.range' L.base (N*i.size)).map fun j=>arr.getD j undef).toArray++vs++Builtin.zeroCells z.cells (bz-(N+1)),N+1,by simp,rfl,by simp,yF _ (jW _),CS,by rw[QP];exact nrQ _,c0,an (jW _) _ _ hdS,by rw[List.length_append,hll1,hN1];omega,fun j hj=>by
       rw[Ah j (by omega)];exact YO j hj,fun j a hj=>by
       rcases QS j a hj with⟨h,hj⟩|⟨h,hj⟩
       ·rw[Ah _ (by omega)];exact(dz j a hj).mono (jW _)
       ·obtain⟨hq,hr⟩:=hgv _ (jW ⟨w.heap.size,0,bz⟩) _ _ hj
        rw[show c0.length+j=N*i.size+(j-l0.length) by omega,hhi _ hq];exact hr⟩
    refine⟨_,_,_,_,_,.slice (some ⟨w.heap.size,0,none⟩) (N+1) bz,Aa,?_,g1,bk.s9 (g2.weaken na Ou (fun i hi=>T.ay _ _ _ _ _ (by omega))),he⟩;rw[Rv];exact⟨⟨w.heap.size,0,bz⟩,N+1,by simp,yF _ g2.ext,by omega,CS,rfl⟩
 ·cases he
end
section
variable{E:Env}{h:Heap}{aq:Nat}{w:World}
theorem RO.same{i:Nat}{a:AO}(hl:∀M,E i=some M->w'.heap[M.aH]? =w.heap[M.aH]?)(r:RO E w i a):RO E w' i a:=by
 cases a with
 |gone=>trivial
 |floor n=>trivial
 |facts fs=>exact r
 |ali p off q cap=>exact r
 |cells n e c=>obtain⟨L,arr,el,h1,h2,h3⟩:=r;exact⟨L,arr,el,h1,by rw[hl L h1];exact h2,h3⟩
 |rows el len=>obtain⟨L,arr,n,h1,h0,h2,h3⟩:=r;exact⟨L,arr,n,h1,h0,by rw[hl L h1];exact h2,h3⟩
 |blob el sz S l len=>obtain⟨L,arr,n,h1,h0,h2,h3⟩:=r;exact⟨L,arr,n,h1,h0,by rw[hl L h1];exact h2,h3⟩
 |map es c=>obtain⟨L,ms,h1,h2,h3⟩:=r;exact⟨L,ms,h1,by rw[hl L h1];exact h2,h3⟩
 |siter l n p=>obtain⟨L,h1,h2,h3⟩:=r;exact⟨L,h1,h2,by rw[hl L h1];exact h3⟩
 |glob g n c=>obtain⟨L,arr,el,fr,h1,h2,h3,h4⟩:=r;exact⟨L,arr,el,fr,h1,h2,by rw[hl L h1];exact h3,h4⟩
def QT(fs:aB)(e:SE):Bool:=bc (bc (Nat.beq (look (.cmp .leq e (.lf 0x433fffffffffffff)) fs) 1) (Nat.beq (look (.cmp .geq e (.lf 0xc33fffffffffffff)) fs) 1) false) true (bc (Nat.beq (look (.fn 7 e) fs) 1) (Nat.beq (look (.cmp .eql e e) fs) 1) false)
theorem Ow{x:Nat}(he:QT fs e=true)(hf:Holds E fs)(hd:den E e=some (.float .f64 x))(hx:x<18446744073709551616):(∃s m i,FloatKind.f64.decode x=.number s m i)∧-9007199254740991<=Jg x∧Jg x<=9007199254740991:=by
 rcases aR he with⟨h,_⟩|⟨_,h⟩
 ·obtain⟨h1,h2⟩:=aa h
  have h1:=(look_ok hf).1 (aN h1);have h2:=(look_ok hf).1 (aN h2);simp only[den,hd,bu] at h1 h2;refine GB ?_ ?_
  ·cases hc:rn .leq x 0x433fffffffffffff<;>rw[hc] at h1<;>simp at h1
   rw[h1]
  ·cases hc:rn .geq x 0xc33fffffffffffff<;>rw[hc] at h2<;>simp at h2
   rw[h2]
 ·obtain⟨h1,h2⟩:=aa h
  have h1:=(look_ok hf).1 (aN h1);have h2:=(look_ok hf).1 (aN h2);simp only[den,hd,FW,siQ,Value.bool.injEq] at h1;simp only[den,hd,bu,rn,Option.map_some,siQ,Value.bool.injEq] at h2;exact⟨z7 hx h1 h2,VF hx h1 h2⟩
def Mi(P:Program)(dst:TypeId)(e:SE)(h:Heap)(k:AV->Bool):Bool:=match P.underlying dst with
 |some (.int .i64)=>bc (QT (au h) e) (k (.x (.i .i64) (.fn 11 e))) false
 |_=>false
theorem QU{kf:FloatKind}(hs:P.underlying src=some (.float kf))(he:Mi P dst e h k=true)(rx:Rv E (.x .f e) X)(hr:HR E h aq w):
  ∃v V,(convert src dst X).run P w=.ok V w∧Rv E v V∧k v=true:=by
 unfold Mi at he;split at he<;>try (cases he;done)
 rename_i hd;obtain⟨h1,he⟩:=aa he;simp only[Rv,jZ] at rx;obtain⟨B9,x,rfl,hx⟩:=rx;obtain⟨⟨s,m,i,hn⟩,l1,l2⟩:=Ow h1 (aD hr) B9 hx;have ht:(FloatKind.f64.decode x).toInt .zero=some (Jg x):=by unfold Jg;rw[hn];rfl
 have e1:IntKind.i64.min= -9223372036854775808:=rfl;have e2:IntKind.i64.max=9223372036854775807:=rfl;refine⟨_,.int .i64 (Jg x),?_,?_,he⟩
 ·have q1:IntKind.i64.min<=Jg x:=by omega
  have q2:Jg x<=IntKind.i64.max:=by omega
  exact run_convert_float_int w src dst .f64 .i64 x (Jg x) (by rw[hs];rfl) hd (by unfold floatToIntVal;rw[ht];exact if_pos ⟨q1,q2⟩)
 ·rw[Rv]
  exact⟨by simp only[den,B9,FW,hn],_,rfl,by omega,by omega⟩
def isF(P:Program)(t:TypeId):Bool:=match P.underlying t with
 |some (.float _)=>true
 |_=>false
def pT(P:Program)(src dst:TypeId)(x:AV)(h:Heap)(k:AV->Bool):Bool:=match P.underlying src with
 |some (.float _)=>(match x with
  |.x .f e=>bc (isF P dst) (uH P src dst (.x .f e) k) (Mi P dst e h k)
  |x=>uH P src dst x k)
 |_=>uH P src dst x k
theorem JT(he:pT P src dst x h k=true)(rx:Rv E x X)(hr:HR E h aq w):
  ∃v V,(convert src dst X).run P w=.ok V w∧Rv E v V∧k v=true:=by
 unfold pT at he;split at he
 ·rename_i kf hs
  split at he
  ·rcases aR he with⟨_,he⟩|⟨_,he⟩
   ·exact wO he rx
   ·exact QU hs he rx hr
  ·exact wO he rx
 ·exact wO he rx
end
end
end Go.Proofs.YtngagklmbbogiaaGreatDoor.Vx
