/- Parts of one proof (VxA to VxC). No condition. -/
import Derived.Orders
import Derived.Laws.Sem
import Derived.KernelRfl
import GoSem.Dispatch
import Derived.Lib.ItoaNum
import Derived.Lib.Index
import Derived.Laws.Append
set_option linter.all false
namespace Go.Proofs.YtngagklmbbogiaaGreatDoor
theorem aN{a b:Nat}(h:Nat.beq a b=true):a=b:=Nat.eq_of_beq_eq_true h
theorem aU{a b:Nat}(h:Nat.ble a b=true):a<=b:=Nat.le_of_ble_eq_true h
theorem bR{α:Type _}{l:List α}{i:Nat}{a:α}:l[i]? =some a↔∃h:i<l.length,l[i]=a:=List.getElem?_eq_some_iff
theorem cW{α:Type _}{l:Array α}{i:Nat}{a:α}:l[i]? =some a↔∃h:i<l.size,l[i]=a:=Array.getElem?_eq_some_iff
theorem cB{α:Type _}{l:List α}{i:Nat}{a:α}:l.getD i a=l[i]?.getD a:=List.getD_eq_getElem?_getD
theorem Ai{α:Type _}{l:Array α}{i:Nat}{a:α}:l.getD i a=l[i]?.getD a:=Array.getD_eq_getD_getElem?
theorem cN{α:Type _}{l:List α}{i:Nat}(h:i<l.length):l[i]? =some l[i]:=List.getElem?_eq_getElem h
theorem dV{a b c:Nat}(h:a<b)(k:b<=c):a<c:=Nat.lt_of_lt_of_le h k
theorem zE{α:Type _}{l k:List α}{i:Nat}(h:l.length<=i):(l++k)[i]? =k[i-l.length]?:=List.getElem?_append_right h
theorem iA{α:Type _}{l k:List α}{i:Nat}(h:i<l.length):(l++k)[i]? =l[i]?:=List.getElem?_append_left h
theorem eX{p:Prop}[Decidable p](h:p):decide p=true:=decide_eq_true h
theorem gM{p:Prop}[Decidable p](h:¬p):decide p=false:=decide_eq_false h
theorem gD{p:Prop}[Decidable p](h:decide p=true):p:=of_decide_eq_true h
theorem gp{α:Type _}{β:Type _}{l:List α}(f:α->β):(l.map f).length=l.length:=List.length_map f
theorem fL{α:Type _}{β:Type _}{l:List α}{f:α->β}{i:Nat}:(l.map f)[i]? =Option.map f l[i]?:=List.getElem?_map
theorem gq{α:Type _}{l:List α}{i:Nat}{a:α}(h:l[i]? =some a):a∈l:=List.mem_of_getElem? h
theorem Aad{α:Type _}{p:α->Bool}{l:List α}:l.all p=true↔∀x,x∈l->p x=true:=List.all_eq_true
theorem ot{n:Nat}:(List.range n).length=n:=List.length_range
theorem mL{α:Type _}{a b:α}(h:some a=some b):a=b:=Option.some.inj h
theorem gC(n m:Nat):n<m∨n≥m:=Nat.lt_or_ge n m
theorem j9{α:Type _}{xs:Array α}{i j:Nat}{a:α}(h:i≠j):(xs.setIfInBounds i a)[j]? =xs[j]?:=Array.getElem?_setIfInBounds_ne h
theorem mcQ{α:Type _}{a b:α}{l:List α}:a∈b::l↔a=b∨a∈l:=List.mem_cons
theorem mnQ{α:Type _}{a:α}:¬a∈([]:List α):=List.not_mem_nil
theorem siQ{α:Type _}(a b:α):(some a=some b)=(a=b):=Option.some.injEq a b
theorem ftQ:(false=true)=False:=Bool.false_eq_true
theorem nzQ(n:Nat):0<=n:=Nat.zero_le n
theorem nrQ(n:Nat):n<=n:=Nat.le_refl n
theorem bU{α:Type _}{β:Type _}{f:α->β}{b:β}{l:List α}:b∈l.map f↔∃a,a∈l∧f a=b:=List.mem_map
end Go.Proofs.YtngagklmbbogiaaGreatDoor
namespace Go.Proofs.YtngagklmbbogiaaGreatDoor.Vx
open Go
noncomputable section
inductive T(α:Type) where
 |nil
 |node (v:α) (l r:T α)
def T.get{α:Type}(d:α)(t:T α):Nat->α:=
 T.rec (motive:=fun _=>Nat->α) (fun _=>d)
  (fun v _ _ tO wL i=>Nat.rec (motive:=fun _=>α) v
   (fun j _=>Nat.rec (motive:=fun _=>α) (tO (Nat.div j 2)) (fun _ _=>wL (Nat.div j 2)) (Nat.mod j 2)) i) t
def T.set{α:Type}(x:α)(t:T α):Nat->T α:=
 T.rec (motive:=fun _=>Nat->T α) (fun _=>.nil)
  (fun v l r tO wL i=>Nat.rec (motive:=fun _=>T α) (.node x l r)
   (fun j _=>Nat.rec (motive:=fun _=>T α) (.node v (tO (Nat.div j 2)) r) (fun _ _=>.node v l (wL (Nat.div j 2))) (Nat.mod j 2)) i) t
def T.dj{α:Type}(x:α)(t:T α):Nat->(T α->Bool)->Bool:=
 T.rec (motive:=fun _=>Nat->(T α->Bool)->Bool) (fun _ k=>k .nil)
  (fun v l r tO wL i k=>Nat.rec (motive:=fun _=>Bool) (k (.node x l r))
   (fun j _=>Nat.rec (motive:=fun _=>Bool) (tO (Nat.div j 2) (fun l'=>k (.node v l' r))) (fun _ _=>wL (Nat.div j 2) (fun r'=>k (.node v l r'))) (Nat.mod j 2)) i) t
def T.full{α:Type}(d:α)(n:Nat):T α:=Nat.rec (motive:=fun _=>T α) .nil (fun _ ih=>.node d ih ih) n
section
variable{α:Type}(d x:α)
theorem T.iU(j:Nat):j%2=0∨j%2=1:=by omega
theorem T.mV(n i:Nat):T.get d (T.full d n) i=d:=by
 induction n generalizing i with
 |zero=>rfl
 |succ n ih=>
  show Nat.rec (motive:=fun _=>α) d (fun j _=>Nat.rec (motive:=fun _=>α) (T.get d (T.full d n) (j/2)) (fun _ _=>T.get d (T.full d n) (j/2)) (j%2)) i=d;cases i with
  |zero=>rfl
  |succ j=>
   show Nat.rec (motive:=fun _=>α) (T.get d (T.full d n) (j/2)) (fun _ _=>T.get d (T.full d n) (j/2)) (j%2)=d;rcases T.iU j with h|h<;>rw[h]<;>exact ih _
theorem T.bh(t:T α):∀(i:Nat)(k:T α->Bool),T.dj x t i k=k (T.set x t i):=by
 induction t with
 |nil=>intro i k;rfl
 |node v l r tO wL=>
  intro i k;cases i with
  |zero=>rfl
  |succ j=>
   show Nat.rec (motive:=fun _=>Bool) (T.dj x l (j/2) (fun l'=>k (.node v l' r))) (fun _ _=>T.dj x r (j/2) (fun r'=>k (.node v l r'))) (j%2)
    =k (Nat.rec (motive:=fun _=>T α) (.node v (T.set x l (j/2)) r) (fun _ _=>.node v l (T.set x r (j/2))) (j%2))
   rcases T.iU j with h|h<;>rw[h]
   ·exact tO _ _
   ·exact wL _ _
theorem T.ay(t:T α):∀(i j:Nat),j≠i->T.get d (T.set x t i) j=T.get d t j:=by
 induction t with
 |nil=>intro i j _;rfl
 |node v l r tO wL=>
  intro i j YG;cases i with
  |zero=>
   cases j with
   |zero=>exact absurd rfl YG
   |succ j=>rfl
  |succ i=>
   have e:T.set x (.node v l r) (i+1)=Nat.rec (motive:=fun _=>T α) (.node v (T.set x l (i/2)) r) (fun _ _=>.node v l (T.set x r (i/2))) (i%2):=rfl;cases j with
   |zero=>rw[e];rcases T.iU i with h|h<;>rw[h]<;>rfl
   |succ j=>
    have g:∀l r:T α,T.get d (.node v l r) (j+1)=Nat.rec (motive:=fun _=>α) (T.get d l (j/2)) (fun _ _=>T.get d r (j/2)) (j%2):=fun _ _=>rfl
    rw[e,g];rcases T.iU i with h|h<;>rw[h]<;>(show T.get d (.node v _ _) (j+1)=_)<;>rw[g]<;>rcases T.iU j with h'|h'<;>rw[h']
    ·exact tO _ _ (by omega)
    ·rfl
    ·rfl
    ·exact wL _ _ (by omega)
theorem T.bd(t:T α):∀(i:Nat),T.get d (T.set x t i) i=x∨T.get d (T.set x t i) i=d:=by
 induction t with
 |nil=>intro i;exact .inr rfl
 |node v l r tO wL=>
  intro i;cases i with
  |zero=>exact .inl rfl
  |succ i=>
   have e:T.set x (.node v l r) (i+1)=Nat.rec (motive:=fun _=>T α) (.node v (T.set x l (i/2)) r) (fun _ _=>.node v l (T.set x r (i/2))) (i%2):=rfl;have g:∀l r:T α,T.get d (.node v l r) (i+1)=Nat.rec (motive:=fun _=>α) (T.get d l (i/2)) (fun _ _=>T.get d r (i/2)) (i%2):=fun _ _=>rfl
   rw[e];rcases T.iU i with h|h<;>rw[h]<;>(show T.get d (.node v _ _) (i+1)=_∨T.get d (.node v _ _) (i+1)=_)<;>rw[g,h]
   ·exact tO _
   ·exact wL _
end
def unpack:Nat->Nat->List UInt8
 |0,_=>[]
 |l+1,n=>UInt8.ofNat (n%256)::unpack l (n/256)
def pack(l:List UInt8):Nat:=List.rec (motive:=fun _=>Nat) 0 (fun b _ ih=>b.toNat+256*ih) l
def str(l n:Nat):ByteArray:=⟨(unpack l n).toArray⟩
theorem N3(b:UInt8)(l:List UInt8):pack (b::l)=b.toNat+256*pack l:=rfl
@[simp] theorem U'(l n:Nat):(unpack l n).length=l:=by
  induction l generalizing n with
  |zero=>rfl
  |succ l ih=>simp[unpack,ih]
theorem ya(l:List UInt8):unpack l.length (pack l)=l:=by
 induction l with
 |nil=>rfl
 |cons b l ih=>
  have hb:b.toNat<256:=b.toNat_lt;have h1:(b.toNat+256*pack l)%256=b.toNat:=by omega
  have h2:(b.toNat+256*pack l)/256=pack l:=by omega
  rw[N3,List.length_cons,unpack,h1,h2,ih];simp
theorem B6(a:Nat):∀(x b y:Nat),unpack a x++unpack b y=unpack (a+b) (x%256 ^ a+y*256 ^ a):=by
 induction a with
 |zero=>intro x b y;simp[unpack,Nat.mod_one]
 |succ a ih=>
  intro x b y;have e:a+1+b=a+b+1:=by omega
  have p:256 ^ (a+1)=256*256 ^ a:=by rw[Nat.pow_succ,Nat.mul_comm]
  have m1:(x%256 ^ (a+1)+y*256 ^ (a+1))%256=x%256:=by
   rw[p,show y*(256*256 ^ a)=256*(y*256 ^ a) by rw[Nat.mul_left_comm],Nat.add_mul_mod_self_left,Nat.mod_mul_right_mod]
  have m2:(x%256 ^ (a+1)+y*256 ^ (a+1))/256=x/256%256 ^ a+y*256 ^ a:=by
   rw[p,show y*(256*256 ^ a)=256*(y*256 ^ a) by rw[Nat.mul_left_comm],Nat.add_mul_div_left _ _ (by omega),Nat.mod_mul,Nat.add_comm (x%256),Nat.mul_add_div (by omega),Nat.div_eq_of_lt (Nat.mod_lt x (by omega:256>0))];simp
  rw[e,unpack,unpack,m1,m2,List.cons_append,ih]
theorem yb(i:Nat):∀(l n:Nat),(unpack l n).drop i=unpack (l-i) (n/256 ^ i):=by
 induction i with
 |zero=>intro l n;simp
 |succ i ih=>
  intro l n;cases l with
  |zero=>simp[unpack]
  |succ l=>
   rw[unpack,List.drop_succ_cons,ih,Nat.div_div_eq_div_mul];have:256*256 ^ i=256 ^ (i+1):=by rw[Nat.pow_succ,Nat.mul_comm]
   rw[this,Nat.add_sub_add_right]
theorem Gd(i:Nat):∀(l n:Nat),i<=l->(unpack l n).take i=unpack i n:=by
 induction i with
 |zero=>intro l n _;rfl
 |succ i ih=>
  intro l n h;cases l with
  |zero=>omega
  |succ l=>rw[unpack,List.take_succ_cons,ih _ _ (by omega),unpack]
theorem Je(l n i:Nat)(h:i<l):(unpack l n)[i]? =some (UInt8.ofNat (n/256 ^ i%256)):=by
 have h1:=yb i l n;obtain⟨m,hm⟩:∃m,l-i=m+1:=⟨l-i-1,by omega⟩;rw[hm,unpack] at h1;have:=congrArg (fun l=>l[0]?) h1;simpa using this
theorem zz(l:Nat):∀(x y:Nat),unpack l x=unpack l y↔x%256 ^ l=y%256 ^ l:=by
 induction l with
 |zero=>intro x y;simp[unpack,Nat.mod_one]
 |succ l ih=>
  intro x y;have p:256 ^ (l+1)=256*256 ^ l:=by rw[Nat.pow_succ,Nat.mul_comm]
  have hb:∀a b:Nat,a<256->b<256->(UInt8.ofNat a=UInt8.ofNat b↔a=b):=by
   intro a b ha hb;constructor
   ·intro h
    have:=congrArg UInt8.toNat h;rw[UInt8.toNat_ofNat',UInt8.toNat_ofNat',Nat.mod_eq_of_lt (by simpa using ha),Nat.mod_eq_of_lt (by simpa using hb)] at this;exact this
   ·intro h;rw[h]
  rw[unpack,unpack,List.cons.injEq,ih,hb _ _ (Nat.mod_lt _ (by omega)) (Nat.mod_lt _ (by omega)),p,Nat.mod_mul,Nat.mod_mul];have k1:=Nat.mod_lt x (by omega:256>0);have k2:=Nat.mod_lt y (by omega:256>0);generalize x%256=a at *;generalize y%256=b at *;generalize x/256%256 ^ l=c at *;generalize y/256%256 ^ l=e at *;omega
@[simp] theorem oX(l n:Nat):(str l n).size=l:=by simp[str,ByteArray.size]
theorem ek(l n:Nat):(str l n).data.toList=unpack l n:=by simp[str]
inductive Ge where
 |b|i (k:IntKind)|f|s
inductive SE where
 |sy (n:Nat)
 |lb (x:Bool)
 |li (k:IntKind) (n:Int)
 |lf (x:Nat)
 |ls (l x:Nat)
 |len (e:SE)
 |not (e:SE)
 |conv (k:IntKind) (e:SE)
 |rem (m:Nat) (e:SE)
 |fn (c:Nat) (e:SE)
 |cD (c:Nat) (a b:SE)
 |cmp (op:BinOp) (a b:SE)
 |and (a b:SE)
abbrev aB:=List (SE×Bool)
inductive AV where
 |no
 |un
 |b (x:Bool)
 |i (k:IntKind) (n:Int)
 |f (k:FloatKind) (bits:Nat)
 |nan
 |s (len bits:Nat)
 |pn
 |p (id off:Nat)
 |pg (g off:Nat)
 |sn
 |sl (id off len cap:Nat)
 |so (id off len used:Nat)
 |fn (fn:Fn) (first captured:List AV)
 |fnil
 |ifc (t:TypeId) (v:AV)
 |inil
 |ag (cs:List AV)
 |tu (vs:List AV)
 |mp (id:Nat)
 |mpn
 |ii (k:IntKind)
 |pk (v:AV)
 |x (s:Ge) (e:SE)
 |any
 |sx (id m:Nat) (len cap:SE)
 |sz (id:Nat) (len:SE)
 |sr (id:Nat) (len:SE)
structure aZ where
 aH:Nat
 base:Nat
 room:Nat
abbrev Env:=Nat->Option aZ
def nN(n:Nat):IntKind:=match n with
 |0=>.i8|1=>.i16|2=>.i32|3=>.i64|4=>.u8|5=>.u16|6=>.u32|_=>.u64
def oD(L:aZ):Value:=match L.base%3 with
 |0=>.float .f64 L.room
 |1=>.int (nN (L.base/3)) (if L.room%2=0 then((L.room/2:Nat):Int) else -((L.room/2:Nat):Int)-1)
 |_=>.string (str (L.base/3) L.room)
def jY(op:BinOp)(a b:Int):Option Bool:=match op with
 |.eql=>some (a==b)|.neq=>some (a !=b)|.lss=>some (decide (a<b))|.leq=>some (decide (a<=b))|.gtr=>some (decide (a>b))|.geq=>some (decide (a≥b))
 |_=>none
def rn(op:BinOp)(a b:Nat):Option Bool:=match op with
 |.eql=>some (FloatKind.f64.format.order a b==some .eq)|.neq=>some (FloatKind.f64.format.order a b !=some .eq)|.lss=>some (FloatKind.f64.format.order a b==some .lt)
 |.leq=>some (FloatKind.f64.format.order a b==some .lt||FloatKind.f64.format.order a b==some .eq)|.gtr=>some (FloatKind.f64.format.order a b==some .gt)
 |.geq=>some (FloatKind.f64.format.order a b==some .gt||FloatKind.f64.format.order a b==some .eq)
 |_=>none
def zA(op:BinOp)(a b:ByteArray):Option Bool:=match op with
 |.eql=>some (a.toList==b.toList)|.neq=>some (!(a.toList==b.toList))|.lss=>some (Op.bytesLess a.toList b.toList)|.leq=>some (Op.bytesLess a.toList b.toList||a.toList==b.toList)
 |.gtr=>some (!(Op.bytesLess a.toList b.toList||a.toList==b.toList))|.geq=>some (!Op.bytesLess a.toList b.toList)
 |_=>none
def bu(op:BinOp)(X Y:Value):Option Bool:=match X,Y with
 |.int k a,.int k' b=>if k=k' then jY op a b else none
 |.float .f64 a,.float .f64 b=>rn op a b
 |.string a,.string b=>zA op a b
 |.bool a,.bool b=>(match op with|.eql=>some (a==b)|_=>none)
 |_,_=>none
def nU(a b:Nat):Bool:=FloatKind.f64.format.order a b==some .eq
def Z'(a b:Nat):Bool:=FloatKind.f64.format.order a b==some .lt||FloatKind.f64.format.order a b==some .eq
def DP(x:Nat):Nat:=FloatKind.f64.encode ((FloatKind.f64.decode x).integral .zero)
def Jf(x:Nat):Nat:=(IntKind.u64.wrap (BitVec.ofInt 64 (x:Int)&&&~~~BitVec.ofInt 64 9223372036854775808).toNat).toNat
def sgnF(x:Nat):Bool:=decide (IntKind.i64.wrap (x:Int)<=-1)
def tP(x:Nat):Bool:= !nU x x||(nU (DP x) x&&Z' (Jf x) 0x433fffffffffffff&&(!nU x 0|| !sgnF x))
def gI(c:Int)(x:Nat)(s:ByteArray)(r:Int):Bool:=
 decide (c<=8)&&decide (0<=r)&&decide ((s.size:Int)<=4096)&&
  (if c=2 then(nU x 0x3ff0000000000000||nU x 0&&tP x)&&decide (s.size=0)&&decide (r=0)
   else if c=3 then tP x&&decide (s.size=0)&&decide (r=0)
   else nU x 0&&tP x&&(decide (c=4)||decide (s.size=0))&&(decide (5<=c)||decide (r=0)))
def Qe(b:UInt8):Bool:=b==9||b==10||b==13||b==32
def bareL(l:List UInt8):List UInt8:=((l.reverse.dropWhile Qe).reverse).dropWhile Qe
def Aaa(b:UInt8):Bool:=48<=b&&b<=57
def DQ(l:List UInt8):Nat:=l.foldl (fun n b=>n*10+(b.toNat-48)) 0
def readD(minus:Bool)(d:List UInt8):Nat×Int:=
 if d.isEmpty|| !d.all Aaa then(0x7ff8000000000001,0)
 else if DQ d>9007199254740991||(minus&&DQ d==0) then(0,10)
 else(FloatKind.f64.nearest (if minus then -(DQ d:Int) else DQ d),0)
def YH(l:List UInt8):Nat×Int:=match bareL l with
 |[]=>(0,0)
 |b::t=>readD (b==45) (if b==45||b==43 then t else b::t)
def rowB(n u t:Nat):UInt8:=if t=0∧n%2=1 then UInt8.ofNat (48+u/10 ^ (n-1)) else UInt8.ofNat (48+u/10 ^ (n-1-t)%10)
def rowL(nd u:Nat):List UInt8:=(List.range nd).map (rowB nd u)
def YJ(l:List Value)(i:Nat):Int:=match l[i]? with
 |some (.int .u64 z)=>z
 |_=>0
def ndG(l:List Value)(u:Nat):Nat:=Lib.l10 (Lib.bitLen u)+(if YJ l (Lib.l10 (Lib.bitLen u))<=(u:Int) then 1 else 0)
def itoaG(l:List Value)(n:Int):List UInt8:=if 0<=n∧n<100 then Lib.decDigits n.toNat else if n<0 then 45::rowL (ndG l n.natAbs) n.natAbs else rowL (ndG l n.natAbs) n.natAbs
def Jg(x:Nat):Int:=((FloatKind.f64.decode x).toInt .zero).getD 0
def YK(c:Int)(x:Nat)(V:List Value):Option Value:=match V with
 |[.string s,.int .i64 r]=>some (.bool (gI c x s r))
 |_=>none
def YL(c:Int)(V:List Value):Option Value:=match V with
 |[.float .f64 x,.agg a]=>YK c x a.toList
 |_=>none
def mayA(a:Array Value):Option Value:=match a.toList with
 |[.int .u8 c,.agg b]=>YL c b.toList
 |_=>none
def uj(n:Int)(x:Nat)(s:ByteArray)(r:Int):Bool:=gI n x s r&&(decide (n=0)&&(nU x 0&&(decide (s.size=0)&&decide (r=0))))
def pH(n:Int)(x:Nat)(s:ByteArray)(r:Int):Bool:=gI n x s r&&(decide (n=0)||(decide (n=7)||decide (n=8)))
def hasB(c bit:Nat):Bool:=Nat.beq (c/bit%2) 1
def Qg(c:Nat)(v1 b1 b2 c2 b3 c3 w e f:Bool):Bool:=
 Nat.ble c 63&&(!((hasB c 1||hasB c 2)&&(hasB c 4||hasB c 8))&&((if hasB c 1 then v1 else b1)&&((if hasB c 4 then c2 else b2)&&((if hasB c 8 then c3 else b3)&&((!w||hasB c 2)&&((!e||hasB c 16)&&(!f||hasB c 32)))))))
def DR:Nat->Value->List Value
 |0,v=>[v]
 |n+1,.agg a=>(match a.toList with
  |[x,y]=>x::DR n y
  |_=>[])
 |_,_=>[]
def chkL(l:List Value):Option Bool:=match l with
 |[.int .u8 c,.int .u8 n1,.float .f64 x1,.string s1,.int .i64 r1,.int .u8 n2,.float .f64 x2,.string s2,.int .i64 r2,.int .u8 n3,.float .f64 x3,.string s3,.int .i64 r3,.bool w,.bool e,.bool f]=>
  some (Qg c.toNat (gI n1 x1 s1 r1) (uj n1 x1 s1 r1) (uj n2 x2 s2 r2) (pH n2 x2 s2 r2) (uj n3 x3 s3 r3) (pH n3 x3 s3 r3) w e f)
 |_=>none
def mr(a b:Nat):Nat:=2 ^ a*(2*b+1)
theorem oY(a b:Nat):0<mr a b:=Nat.mul_pos (Nat.pow_pos (by omega)) (by omega)
theorem mK:∀{a b c d:Nat},mr a b=mr c d->a=c∧b=d
 |0,b,0,d,h=>by unfold mr at h;exact⟨rfl,by omega⟩
 |0,b,c+1,d,h=>by unfold mr at h;rw[Nat.pow_succ,Nat.mul_comm (2 ^ c) 2,Nat.mul_assoc] at h;simp at h;omega
 |a+1,b,0,d,h=>by unfold mr at h;rw[Nat.pow_succ,Nat.mul_comm (2 ^ a) 2,Nat.mul_assoc] at h;simp at h;omega
 |a+1,b,c+1,d,h=>by
  have h2:mr a b=mr c d:=by
   unfold mr at h⊢;rw[Nat.pow_succ,Nat.pow_succ,Nat.mul_comm (2 ^ a) 2,Nat.mul_comm (2 ^ c) 2,Nat.mul_assoc,Nat.mul_assoc] at h;omega
  obtain⟨e1,e2⟩:=mK h2;exact⟨by omega,e2⟩
def tQ(a:Addr):Nat:=mr a.block (mr a.off (match a.spot with|none=>0|some s=>s+1))
theorem Qh(a:Addr):tQ a≠0:=Nat.pos_iff_ne_zero.1 (oY _ _)
theorem Qi{a b:Addr}(h:tQ a=tQ b):a=b:=by
 obtain⟨h1,h2⟩:=mK h;obtain⟨h2,h3⟩:=mK h2;obtain⟨b1,o1,s1⟩:=a;obtain⟨b2,o2,s2⟩:=b;cases h1;cases h2
 cases s1<;>cases s2<;>simp_all
open Classical in
def Aab(n:Nat):Value:=if h:∃a:Addr,tQ a=n then .slice (some h.choose) 0 0 else .slice none 0 0
def N4(n:Nat):Value:=if n=0 then .slice none 0 0 else Aab n
theorem zB(a:Addr):N4 (tQ a)=.slice (some a) 0 0:=by
 unfold N4 Aab;have h:∃b:Addr,tQ b=tQ a:=⟨a,rfl⟩;rw[if_neg (Qh a),dif_pos h,Qi h.choose_spec]
theorem LU(n:Nat):∃a,N4 n=.slice a 0 0:=by
 unfold N4 Aab;by_cases h0:n=0
 ·rw[if_pos h0];exact⟨_,rfl⟩
 rw[if_neg h0];by_cases h:∃a:Addr,tQ a=n
 ·rw[dif_pos h];exact⟨_,rfl⟩
 ·rw[dif_neg h];exact⟨_,rfl⟩
def rq:List (Nat×Nat)->Nat
 |[]=>0
 |p::l=>mr p.1 (mr p.2 (rq l))
def aG:List (List (Nat×Nat))->Nat
 |[]=>0
 |r::l=>mr (rq r) (aG l)
theorem CC:∀{l m:List (Nat×Nat)},rq l=rq m->l=m
 |[],[],_=>rfl
 |[],p::m,h=>by have:=oY p.1 (mr p.2 (rq m));simp only[rq] at h;omega
 |p::l,[],h=>by have:=oY p.1 (mr p.2 (rq l));simp only[rq] at h;omega
 |p::l,q::m,h=>by
  simp only[rq] at h;obtain⟨e1,e2⟩:=mK h;obtain⟨e2,e3⟩:=mK e2;rw[CC e3,Prod.ext e1 e2]
theorem oZ:∀{l m:List (List (Nat×Nat))},aG l=aG m->l=m
 |[],[],_=>rfl
 |[],p::m,h=>by have:=oY (rq p) (aG m);simp only[aG] at h;omega
 |p::l,[],h=>by have:=oY (rq p) (aG l);simp only[aG] at h;omega
 |p::l,q::m,h=>by
  simp only[aG] at h;obtain⟨e1,e2⟩:=mK h;rw[oZ e2,CC e1]
open Classical in
def unR(n:Nat):List (List (Nat×Nat)):=if h:∃l,aG l=n then Classical.choose h else[]
theorem u'(l:List (List (Nat×Nat))):unR (aG l)=l:=by
 have h:∃m,aG m=aG l:=⟨l,rfl⟩;unfold unR;rw[dif_pos h];exact oZ (Classical.choose_spec h)
def ru(p:Nat×Nat):Value:=oD ⟨0,p.1,p.2⟩
def zC:List (Nat×Nat)->Value
 |[]=>.slice none 0 0
 |[p]=>oD ⟨0,p.1,p.2⟩
 |[p,q]=>.slice (some ⟨p.1,p.2,none⟩) q.1 q.2
 |p::_=>.bool (decide (p.1=1))
def va(N e:Int)(c:Nat):Option Value:=((unR N.toNat)[e.toNat]?).bind fun r=>(r[c]?).map ru
def FW(c:Nat)(V:Value):Option Value:=match c,V with
 |0,.float .f64 x=>some (.int .u64 x)
 |1,.int .u64 n=>some (.float .f64 n.toNat)
 |2,.float .f64 x=>(match FloatKind.f64.decode x with
  |.nan _ _=>none
  |d=>some (.float .f64 (FloatKind.f64.encode (d.integral .zero))))
 |3,.int .u64 n=>some (.int .i64 (IntKind.i64.wrap n))
 |4,.int .u64 n=>some (.int .u64 (IntKind.u64.wrap (BitVec.ofInt 64 n&&&~~~BitVec.ofInt 64 9223372036854775808).toNat))
 |5,.string s=>some (.float .f64 (YH s.toList).1)
 |6,.string s=>some (.int .i64 (YH s.toList).2)
 |7,.float .f64 x=>some (.bool (tP x))
 |10,.agg a=>mayA a
 |11,.float .f64 x=>(match FloatKind.f64.decode x with
  |.number s m i=>some (.int .i64 (Jg x))
  |_=>none)
 |12,.int .i64 n=>some (.float .f64 (FloatKind.f64.nearest n))
 |13,.bool b=>some (.float .f64 (if b then 0x3ff0000000000000 else 0))
 |14,V=>(chkL (DR 15 V)).map .bool
 |20,.int .i64 N=>some (.int .i64 (unR N.toNat).length)
 |_,_=>none
def Aac:Option Value->Option Value
 |some (.int _ n)=>some (.bool (n !=0))
 |_=>none
def js(c:Nat)(X Y:Value):Option Value:=match c,X,Y with
 |0,X,Y=>some (.agg #[X,Y])
 |1,.float .f64 x,.float .f64 y=>(FloatKind.f64.format.add x y).map (.float .f64)
 |2,.float .f64 x,.float .f64 y=>(FloatKind.f64.format.sub x y).map (.float .f64)
 |3,.string a,.string b=>if (a.size+b.size:Int)<=9223372036854775807 then some (.string (a++b)) else none
 |6,T,.int .i64 n=>some (.string ⟨(itoaG (DR 19 T) n).toArray⟩)
 |5,.int .i64 a,.int .i64 b=>if -9223372036854775808<=a-b∧a-b<=9223372036854775807 then some (.int .i64 (a-b)) else none
 |7,.string s,.string t=>some (.int .i64 (Lib.index s.data.toList t.data.toList))
 |8,.string s,.agg a=>(match a.toList with
  |[.int .i64 l,.int .i64 m]=>some (.string (s.extract l.toNat m.toNat))
  |_=>none)
 |9,.int .u8 a,.int .u8 b=>some (.int .u8 (IntKind.u8.wrap (BitVec.ofInt 8 a&&&BitVec.ofInt 8 b).toNat))
 |4,.int .i64 a,.int .i64 b=>if -9223372036854775808<=a+b∧a+b<=9223372036854775807 then some (.int .i64 (a+b)) else none
 |c,.int .i64 N,.int .i64 e=>if 300<=c then Aac (va N e (c-300)) else if 200<=c then va N e (c-200) else none
 |_,_,_=>none
def den(E:Env):SE->Option Value
 |.sy n=>(E n).map oD
 |.lb x=>some (.bool x)
 |.li k n=>some (.int k n)
 |.lf x=>some (.float .f64 x)
 |.ls l x=>some (.string (str l x))
 |.len e=>(match den E e with|some (.string s)=>some (.int .i64 s.size)|_=>none)
 |.not e=>(match den E e with|some (.bool x)=>some (.bool (!x))|_=>none)
 |.conv k e=>(match den E e with|some (.int _ n)=>(if k.min<=n∧n<=k.max then some (.int k n) else none)|_=>none)
 |.rem m e=>(match den E e with|some (.int k n)=>(if 0<=n∧0<m then some (.int k (n%(m:Int))) else none)|_=>none)
 |.fn c e=>(match den E e with|some V=>FW c V|_=>none)
 |.cD c a b=>(match den E a,den E b with|some X,some Y=>js c X Y|_,_=>none)
 |.cmp op a b=>(match den E a,den E b with|some X,some Y=>(bu op X Y).map .bool|_,_=>none)
 |.and a b=>(match den E a,den E b with|some (.bool x),some (.bool y)=>some (.bool (x&&y))|_,_=>none)
def jZ:Ge->Value->Prop
 |.b,V=>∃x,V=.bool x
 |.i k,V=>∃n,V=.int k n∧k.min<=n∧n<=k.max
 |.f,V=>∃x,V=.float .f64 x∧x<18446744073709551616
 |.s,V=>∃s:ByteArray,V=.string s∧(s.size:Int)<=9223372036854775807
def zD(bits:Nat):Prop:=∃s m,FloatKind.f64.decode bits=.nan s m
def mB(bits:Nat):Prop:=zD bits∧bits<18446744073709551616
mutual
def Rv(E:Env):AV->Value->Prop
 |.no,_=>True
 |.un,V=>V=undef
 |.b x,V=>V=.bool x
 |.i k n,V=>V=.int k n
 |.f k x,V=>V=.float k x
 |.nan,V=>∃x,V=.float .f64 x∧mB x
 |.s l n,V=>V=.string (str l n)
 |.pn,V=>V=.pointer none
 |.p id off,V=>∃L,E id=some L∧V=.pointer (some ⟨L.aH,L.base+off,none⟩)
 |.pg g off,V=>V=.pointer (some ⟨g,off,none⟩)
 |.sn,V=>V=.slice none 0 0
 |.sl id off len cap,V=>∃L,E id=some L∧V=.slice (some ⟨L.aH,L.base+off,none⟩) len cap
 |.so id off len used,V=>∃L,E id=some L∧V=.slice (some ⟨L.aH,L.base+off,none⟩) len (L.room-used)∧used+len<=L.room
 |.fn g first captured,V=>∃vs ws,V=.func g vs.toArray ws.toArray∧aP E first vs∧aP E captured ws
 |.fnil,V=>V=.nilFunc
 |.ifc t v,V=>∃W,V=.iface t W∧Rv E v W
 |.inil,V=>V=.nilIface
 |.ag cs,V=>∃vs,V=.agg vs.toArray∧aP E cs vs
 |.tu cs,V=>∃vs,V=.tuple vs.toArray∧aP E cs vs
 |.mp id,V=>∃L,E id=some L∧V=.map (some L.aH)
 |.mpn,V=>V=.map none
 |.ii k,V=>∃n,V=.int k n
 |.pk _,_=>False
 |.x s e,V=>den E e=some V∧jZ s V
 |.any,V=>V.oneCell'=true∧V.cells=#[V]
 |.sx id m len cap,V=>∃(L:aZ)(n c:Nat),E id=some L∧den E len=some (.int .i64 n)∧den E cap=some (.int .i64 c)∧m<=n∧n<=9223372036854775807∧V=.slice (some ⟨L.aH,L.base,none⟩) n c
 |.sz id len,V=>∃(L:aZ)(n:Nat),E id=some L∧den E len=some (.int .i64 n)∧n<=9223372036854775807∧(L.room=0->n=0)∧V=(if L.room=0 then N4 L.base else .slice (some ⟨L.aH,L.base,none⟩) n (L.room-1))
 |.sr id len,V=>∃(L:aZ)(n:Nat),E id=some L∧den E len=some (.int .i64 n)∧n<=9223372036854775807∧n<=L.room∧V=.slice (some ⟨L.aH,L.base,none⟩) n L.room
def aP(E:Env):List AV->List Value->Prop
 |[],vs=>vs=[]
 |a::as0,vs=>∃v tT,vs=v::tT∧Rv E a v∧aP E as0 tT
end
def Env.le(E E':Env):Prop:=∀i L,E i=some L->E' i=some L
theorem Env.le_refl(E:Env):E.le E:=fun _ _ h=>h
theorem an{E E':Env}(h:E.le E'):∀(e:SE)(V:Value),den E e=some V->den E' e=some V:=by
 intro e;induction e with
 |sy n=>
  intro V hV;simp only[den] at *;cases hn:E n with
  |none=>rw[hn] at hV;cases hV
  |some L=>rw[h n L hn];rw[hn] at hV;exact hV
 |lb|li|lf|ls=>intro V hV;exact hV
 |len e ih|not e ih|conv k e ih|rem m e ih|fn c e ih=>
  intro V hV;simp only[den] at *;cases he:den E e with
  |none=>rw[he] at hV;cases hV
  |some W=>rw[ih W he];rw[he] at hV;exact hV
 |cmp op a b nK mu|and a b nK mu|cD c a b nK mu=>
  intro V hV;simp only[den] at *;cases ha:den E a with
  |none=>rw[ha] at hV;cases hV
  |some W=>
   cases hb:den E b with
   |none=>rw[ha,hb] at hV;cases W<;>cases hV
   |some U=>rw[nK W ha,mu U hb];rw[ha,hb] at hV;exact hV
theorem Env.le_trans{A B C:Env}(h:A.le B)(k:B.le C):A.le C:=fun i L e=>k i L (h i L e)
mutual
theorem Rv.mono{E E':Env}(h:E.le E'):∀(a:AV)(V:Value),Rv E a V->Rv E' a V
 |.no,_,_=>by simp[Rv]
 |.un,_,r=>by simpa[Rv] using r
 |.b _,_,r=>by simpa[Rv] using r
 |.i _ _,_,r=>by simpa[Rv] using r
 |.f _ _,_,r=>by simpa[Rv] using r
 |.nan,_,r=>by simpa[Rv] using r
 |.s _ _,_,r=>by simpa[Rv] using r
 |.pn,_,r=>by simpa[Rv] using r
 |.p _ _,_,r=>by rw[Rv] at *;obtain⟨L,e,r⟩:=r;exact⟨L,h _ _ e,r⟩
 |.pg _ _,_,r=>by simpa[Rv] using r
 |.sn,_,r=>by simpa[Rv] using r
 |.sl _ _ _ _,_,r=>by rw[Rv] at *;obtain⟨L,e,r⟩:=r;exact⟨L,h _ _ e,r⟩
 |.so _ _ _ _,_,r=>by rw[Rv] at *;obtain⟨L,e,r⟩:=r;exact⟨L,h _ _ e,r⟩
 |.fn _ as0 bs,_,r=>by rw[Rv] at *;obtain⟨vs,ws,e,r1,r2⟩:=r;exact⟨vs,ws,e,aP.mono h as0 vs r1,aP.mono h bs ws r2⟩
 |.fnil,_,r=>by simpa[Rv] using r
 |.ifc _ v,_,r=>by rw[Rv] at *;obtain⟨W,e,r⟩:=r;exact⟨W,e,Rv.mono h v W r⟩
 |.inil,_,r=>by simpa[Rv] using r
 |.ag cs,_,r=>by rw[Rv] at *;obtain⟨vs,e,r⟩:=r;exact⟨vs,e,aP.mono h cs vs r⟩
 |.tu cs,_,r=>by rw[Rv] at *;obtain⟨vs,e,r⟩:=r;exact⟨vs,e,aP.mono h cs vs r⟩
 |.mp _,_,r=>by rw[Rv] at *;obtain⟨L,e,r⟩:=r;exact⟨L,h _ _ e,r⟩
 |.mpn,_,r=>by simpa[Rv] using r
 |.ii _,_,r=>by simpa[Rv] using r
 |.pk _,_,r=>by simp[Rv] at r
 |.x _ e,V,r=>by rw[Rv] at *;exact⟨an h e V r.1,r.2⟩
 |.any,_,r=>by simpa[Rv] using r
 |.sx _ _ len cap,_,r=>by rw[Rv] at *;obtain⟨L,n,c,e,e1,e2,r⟩:=r;exact⟨L,n,c,h _ _ e,an h len _ e1,an h cap _ e2,r⟩
 |.sz _ len,_,r=>by rw[Rv] at *;obtain⟨L,n,e,e1,r⟩:=r;exact⟨L,n,h _ _ e,an h len _ e1,r⟩
 |.sr _ len,_,r=>by rw[Rv] at *;obtain⟨L,n,e,e1,r⟩:=r;exact⟨L,n,h _ _ e,an h len _ e1,r⟩
theorem aP.mono{E E':Env}(h:E.le E'):∀(as0:List AV)(vs:List Value),aP E as0 vs->aP E' as0 vs
 |[],_,r=>by simpa[aP] using r
 |a::as0,_,r=>by
  rw[aP] at *;obtain⟨v,tT,e,r1,r2⟩:=r;exact⟨v,tT,e,Rv.mono h a v r1,aP.mono h as0 tT r2⟩
end
theorem aP.length{E:Env}:∀{as0:List AV}{vs:List Value},aP E as0 vs->vs.length=as0.length
 |[],_,r=>by simp[aP] at r;simp[r]
 |_::_,_,r=>by
  rw[aP] at r;obtain⟨_,_,rfl,_,r2⟩:=r;simp[r2.length]
theorem aP.get{E:Env}:∀{as0:List AV}{vs:List Value},aP E as0 vs->∀(j:Nat)(a:AV),as0[j]? =some a->∃v,vs[j]? =some v∧Rv E a v
 |[],_,_,_,_,h=>by simp at h
 |_::_,_,r,j,a,h=>by
  rw[aP] at r;obtain⟨v,tT,rfl,r1,r2⟩:=r;cases j with
  |zero=>simp at h;subst h;exact⟨v,rfl,r1⟩
  |succ j=>exact r2.get j a (by simpa using h)
theorem aP.append{E:Env}:∀{as0:List AV}{vs:List Value}{bs:List AV}{ws:List Value},aP E as0 vs->aP E bs ws->aP E (as0++bs) (vs++ws)
 |[],_,_,_,r,r'=>by simp[aP] at r;subst r;simpa using r'
 |_::_,_,_,_,r,r'=>by
  rw[aP] at r;obtain⟨v,tT,rfl,r1,r2⟩:=r;rw[List.cons_append,aP];exact⟨v,tT++_,rfl,r1,r2.append r'⟩
theorem aP.nil{E:Env}:aP E [] []:=by simp[aP]
theorem aP.cons{E:Env}{a:AV}{v:Value}{as0:List AV}{vs:List Value}(h:Rv E a v)(r:aP E as0 vs):aP E (a::as0) (v::vs):=by
 rw[aP];exact⟨v,vs,rfl,h,r⟩
def cV(l:List AV)(i:Nat):AV:=
 Nat.rec (motive:=fun _=>List AV->AV) (fun l=>List.rec (motive:=fun _=>AV) .no (fun v _ _=>v) l) (fun _ ih l=>List.rec (motive:=fun _=>AV) .no (fun _ tl _=>ih tl) l) i l
theorem rB(i:Nat):cV [] i=.no:=by cases i<;>rfl
theorem N5(v:AV)(l:List AV)(i:Nat):cV (v::l) (i+1)=cV l i:=rfl
theorem ff:∀(l:List AV)(i:Nat),cV l i=l.getD i .no
 |[],i=>by rw[rB];rfl
 |v::l,0=>rfl
 |v::l,i+1=>by rw[N5,ff l i];rfl
structure Cs where
 w:Nat
 t:T (List AV)
def Cs.get(c:Cs)(j:Nat):AV:=cV (T.get [] c.t (Nat.div j c.w)) (Nat.mod j c.w)
structure FX where
 key:AV
 val:AV
 born:Nat
structure nV where
 sz:Nat
 el:Option TypeId
 z:Bool
instance:OfNat nV 0:=⟨⟨0,none,false⟩⟩
inductive AO where
 |gone
 |cells (n:Nat) (gB:nV) (c:Cs)
 |map (es:List FX) (clock:Nat)
 |siter (len bits pos:Nat)
 |glob (g n:Nat) (c:T AV)
 |floor (n:Nat)
 |facts (fs:aB)
 |rows (el:TypeId) (len:SE)
 |blob (el:TypeId) (sz S:Nat) (l:List AV) (len:SE)
 |ali (p off q:Nat) (cap:SE)
def AO.live:AO->Bool
 |.gone=>false
 |.floor _=>false
 |.facts _=>false
 |.ali _ _ _ _=>false
 |_=>true
def REnt(E:Env)(e:FX)(m:MapEntry):Prop:=Rv E e.key m.key∧Rv E e.val m.val∧e.born=m.born
def j6(E:Env):List FX->List MapEntry->Prop
 |[],ms=>ms=[]
 |e::es,ms=>∃m y0,ms=m::y0∧REnt E e m∧j6 E es y0
def nV.ok(e:nV)(L:aZ)(el:TypeId)(size n:Nat):Prop:=
 (e.sz≠0->L.base+L.room*e.sz<=size∧n<=L.room*e.sz)∧(∀t,e.el=some t->el=t)∧(e.z=true->L.base=0)
theorem nV.DS(L:aZ)(el:TypeId)(size n:Nat):nV.ok 0 L el size n:=
 ⟨fun h=>absurd rfl h,fun t h=>(by cases h),fun h=>(by cases h)⟩
theorem nV.gJ(b room:Nat)(el:TypeId)(size n:Nat):nV.ok ⟨0,some el,true⟩ ⟨b,0,room⟩ el size n:=
 ⟨fun h=>absurd rfl h,fun t h=>(by cases h;rfl),fun _=>rfl⟩
theorem nV.Qj{b room sz size n:Nat}(el:TypeId)(h:sz≠0->0+room*sz<=size∧n<=room*sz):nV.ok ⟨sz,some el,true⟩ ⟨b,0,room⟩ el size n:=
 ⟨h,fun t h=>(by cases h;rfl),fun _=>rfl⟩
def N6(p:Nat):Nat:=if p=0 then 4 else 2
def kTy(p j:Nat)(V:Value):Prop:=
 if p=0 then(match j%4 with
  |0=>∃n,V=.int .u8 n∧0<=n∧n<=255
  |1=>∃x,V=.float .f64 x∧x<18446744073709551616
  |2=>∃s:ByteArray,V=.string s∧(s.size:Int)<=9223372036854775807
  |_=>∃n,V=.int .i64 n∧-9223372036854775808<=n∧n<=9223372036854775807)
 else(match j%2 with
  |0=>∃s:ByteArray,V=.string s∧(s.size:Int)<=9223372036854775807
  |_=>∃n,V=.int .i64 n∧-9223372036854775808<=n∧n<=9223372036854775807)
def Jh(p:Nat):Nat:=if p=0 then 4 else if p=1 then 2 else 26
def qL(E:Env)(i g:Nat)(L:aZ)(arr:Array Value):Prop:=
 (2000000<=g∧g<3000000∧g+1≠i->∃N:Nat,den E (.sy ((g-2000000)/2))=some (.int .i64 N)∧L.base+N6 (g%2)*N<=arr.size∧∀j,j<N6 (g%2)*N->kTy (g%2) j (arr.getD (L.base+j) undef))∧
 (3000000<=g∧g<4000000∧g+1≠i->∃R:List (List (Nat×Nat)),den E (.sy ((g-3000000)/10))=some (.int .i64 (aG R))∧L.base+Jh (g%10)*R.length<=arr.size∧((∀r∈R,r.length=Jh (g%10))∧(L.room=0->L.base=0))∧
  ∀j r,R[j]? =some r->∀c p,r[c]? =some p->arr.getD (L.base+(Jh (g%10)*j+c)) undef=ru p)∧
 (4000000<=g∧g+1≠i->∃(M:aZ)(n:Nat),E ((g-4000000)/100000)=some M∧den E (.sy ((g-4000000)/100%1000))=some (.int .i64 n)∧L.aH=M.aH∧L.base=M.base+n*(g%100))
theorem qL.wide{E E':Env}(h:E.le E'){i g:Nat}{L:aZ}{arr:Array Value}(t:qL E i g L arr):qL E' i g L arr:=
 ⟨fun hg=>by
  obtain⟨N,a,b,c⟩:=t.1 hg;exact⟨N,an h _ _ a,b,c⟩,fun hg=>by
  obtain⟨R,a,b⟩:=t.2.1 hg;exact⟨R,an h _ _ a,b⟩,fun hg=>by
  obtain⟨M,n,a,b,c⟩:=t.2.2 hg;exact⟨M,n,h _ _ a,an h _ _ b,c⟩⟩
theorem qL.CD{E:Env}{g:Nat}{L:aZ}{arr:Array Value}:qL E (g+1) g L arr:=⟨fun hg=>absurd rfl hg.2.2,fun hg=>absurd rfl hg.2.2,fun hg=>absurd rfl hg.2⟩
theorem qL.vb{E:Env}{i g:Nat}{L:aZ}{arr:Array Value}(h:g<2000000):qL E i g L arr:=⟨fun hg=>absurd hg.1 (by omega),fun hg=>absurd hg.1 (by omega),fun hg=>absurd hg.1 (by omega)⟩
def RO(E:Env)(w:World)(i:Nat):AO->Prop
 |.gone=>True
 |.cells n gB c=>∃L arr el,E i=some L∧w.heap[L.aH]? =some (.cells arr el (0,0))∧L.base+n<=arr.size∧gB.ok L el arr.size n∧
   ∀j,j<n->Rv E (c.get j) (arr.getD (L.base+j) undef)
 |.map es clock=>∃L ms,E i=some L∧w.heap[L.aH]? =some (.map ms clock)∧j6 E es ms.toList
 |.siter l n pos=>∃L,E i=some L∧L.base=0∧w.heap[L.aH]? =some (.stringIter (str l n) pos)
 |.glob g n c=>∃L arr el fr,E i=some L∧(g<1000000->L.aH=g∧L.base=0)∧w.heap[L.aH]? =some (.cells arr el fr)∧L.base+n<=arr.size∧(∀j,j<n->Rv E (T.get .no c j) (arr.getD (L.base+j) undef))∧qL E i g L arr
 |.floor _=>True
 |.facts fs=>∀p∈fs,den E p.1=some (.bool p.2)
 |.rows el len=>∃(L:aZ)(arr:Array Value)(n:Nat),E i=some L∧L.base=0∧w.heap[L.aH]? =some (.cells arr el (0,0))∧den E len=some (.int .i64 n)∧n<=L.room∧L.room*4<=arr.size∧∀j,j<4*n->kTy 0 j (arr.getD j undef)
 |.blob el sz S l len=>∃(L:aZ)(arr:Array Value)(n:Nat),E i=some L∧L.base=0∧w.heap[L.aH]? =some (.cells arr el (0,0))∧den E len=some (.int .i64 n)∧n<=L.room∧L.room*sz<=arr.size∧∃c0:List (List (Nat×Nat)),den E (.sy S)=some (.int .i64 (aG c0))∧c0.length+l.length=sz*n∧(∀j,j<c0.length->arr.getD j undef=zC (c0.getD j []))∧∀j a,l[j]? =some a->Rv E a (arr.getD (c0.length+j) undef)
 |.ali p off q cap=>∃(L M:aZ)(c:Nat),E i=some L∧E p=some M∧den E cap=some (.int .i64 c)∧q<=c∧L.aH=M.aH∧L.base=M.base+(if c=q then 0 else off)∧L.room=c-q+1
abbrev Heap:=T AO
def bM(h:Heap):Nat:=match T.get .gone h 0 with
 |.floor n=>n
 |_=>0
structure HR(E:Env)(h:Heap)(aq:Nat)(w:World):Prop where
 obj:∀i,RO E w i (T.get .gone h i)
 inj:∀i j L M,(T.get .gone h i).live=true->(T.get .gone h j).live=true->E i=some L->E j=some M->L.aH=M.aH->i=j
 lt:∀i,aq<=i->(T.get .gone h i).live=false
 fresh:∀i,aq<=i->E i=none
 kT:∀i L,E i=some L->L.aH<w.heap.size
 pos:1<=aq
 kU:bM h<=aq
 zero:(T.get .gone h 0).live=false
def fp(E:Env)(h:Heap)(k:Nat):Prop:=∃i L,bM h<=i∧(T.get .gone h i).live=true∧E i=some L∧L.aH=k
structure bk(E:Env)(h:Heap)(w:World)(E':Env)(h':Heap)(w':World):Prop where
 ext:E.le E'
 size:w.heap.size<=w'.heap.size
 fr:∀k,k<w.heap.size->¬fp E h k->w'.heap[k]? =w.heap[k]?
 CE:∀k,k<w.heap.size->fp E' h' k->fp E h k
 bM:Vx.bM h'=Vx.bM h
 gT:∀i,i<Vx.bM h->T.get .gone h' i=T.get .gone h i
 os:w'.os=w.os
 output:w'.output=w.output
 tape:w'.tape=w.tape
theorem bk.refl(E:Env)(h:Heap)(w:World):bk E h w E h w:=
 ⟨Env.le_refl _,nrQ _,fun _ _ _=>rfl,fun _ _ h=>h,rfl,fun _ _=>rfl,rfl,rfl,rfl⟩
theorem bk.trans{E E' E'':Env}{h h' PZ:Heap}{w w' w'':World}(a:bk E h w E' h' w')(b:bk E' h' w' E'' PZ w''):bk E h w E'' PZ w'':=
 ⟨Env.le_trans a.ext b.ext,Nat.le_trans a.size b.size,
  fun k hk hn=>(b.fr k (dV hk a.size) (fun hf=>hn (a.CE k hk hf))).trans (a.fr k hk hn),
  fun k hk hf=>a.CE k hk (b.CE k (dV hk a.size) hf),
  b.bM.trans a.bM,fun i hi=>(b.gT i (by rw[a.bM];exact hi)).trans (a.gT i hi),
  b.os.trans a.os,b.output.trans a.output,b.tape.trans a.tape⟩
def N7(o:Obj):Prop:=∀c e f,o=.cells c e f->f=(0,0)
theorem kV(c:Array Value)(e:TypeId):N7 (.cells c e (0,0)):=by
 rintro c' e' f h;cases h;rfl
def bc(b x y:Bool):Bool:=Bool.rec (motive:=fun _=>Bool) y x b
theorem nW(x y:Bool):bc true x y=x:=rfl
theorem o4(x y:Bool):bc false x y=y:=rfl
theorem aa{b x:Bool}(h:bc b x false=true):b=true∧x=true:=by cases b<;>simp_all[bc]
theorem aR{b x y:Bool}(h:bc b x y=true):(b=true∧x=true)∨(b=false∧y=true):=by cases b<;>simp_all[bc]
def aM(n:Nat)(k:Nat->Bool):Bool:=Nat.rec (motive:=fun _=>Bool) (k 0) (fun m _=>k (Nat.succ m)) n
theorem aC(n:Nat)(k:Nat->Bool):aM n k=k n:=by cases n<;>rfl
def DT(n:Int)(k:Int->Bool):Bool:=Int.rec (motive:=fun _=>Bool) (fun m=>aM m fun m=>k (.ofNat m)) (fun m=>aM m fun m=>k (.negSucc m)) n
theorem wM(n:Int)(k:Int->Bool):DT n k=k n:=by cases n<;>(unfold DT;exact aC _ _)
def j7(b:Bool)(k:Bool->Bool):Bool:=Bool.rec (motive:=fun _=>Bool) (k false) (k true) b
theorem ft(b:Bool)(k:Bool->Bool):j7 b k=k b:=by cases b<;>rfl
def force(v:AV)(k:AV->Bool):Bool:=match v with
 |.no=>k .no
 |.un=>k .un
 |.b x=>k (.b x)
 |.i kk n=>k (.i kk n)
 |.f kk n=>k (.f kk n)
 |.nan=>k .nan
 |.s l n=>k (.s l n)
 |.pn=>k .pn
 |.p a b=>k (.p a b)
 |.pg a b=>k (.pg a b)
 |.sn=>k .sn
 |.sl a b c d=>k (.sl a b c d)
 |.so a b c d=>k (.so a b c d)
 |.fn a b c=>k (.fn a b c)
 |.fnil=>k .fnil
 |.ifc t v=>k (.ifc t v)
 |.inil=>k .inil
 |.ag cs=>k (.ag cs)
 |.tu cs=>k (.tu cs)
 |.mp i=>k (.mp i)
 |.mpn=>k .mpn
 |.ii a=>k (.ii a)
 |.pk v=>k (.pk v)
 |.x s e=>k (.x s e)
 |.any=>k .any
 |.sx a b c d=>k (.sx a b c d)
 |.sz a b=>k (.sz a b)
 |.sr a b=>k (.sr a b)
theorem force_eq(v:AV)(k:AV->Bool):force v k=k v:=by cases v<;>rfl
def DU:Value->AV
 |.bool x=>.b x
 |.int k n=>.i k n
 |.float k x=>.f k x
 |.string s=>.s (List.length s.data.toList) (pack s.data.toList)
 |.pointer none=>.pn
 |.slice none 0 0=>.sn
 |.nilFunc=>.fnil
 |.nilIface=>.inil
 |.map none=>.mpn
 |_=>.no
def DV:Value->AV
 |.agg cs=>.ag (List.map DU cs.toList)
 |v=>DU v
theorem LV(E:Env)(v:Value):Rv E (DU v) v:=by
 unfold DU;split<;>simp only[Rv]
 ·rename_i s
  have:str s.data.toList.length (pack s.data.toList)=s:=by
   unfold str;rw[ya]
  rw[this]
theorem rE(E:Env):∀(l:List Value),aP E (l.map DU) l
 |[]=>.nil
 |v::l=>.cons (LV E v) (rE E l)
theorem vc(E:Env)(v:Value):Rv E (DV v) v:=by
 unfold DV;split
 ·rename_i cs
  rw[Rv];exact⟨cs.toList,by simp,rE E _⟩
 ·exact LV E v
abbrev aI:=T AV
def Rr(E:Env)(regs:aI)(tmps:Array Value):Prop:=∀t,Rv E (T.get .no regs t) (tmps.getD t undef)
theorem Rr.mono{E E':Env}{regs:aI}{tmps:Array Value}(h:E.le E')(r:Rr E regs tmps):Rr E' regs tmps:=fun t=>(r t).mono h
def iC(regs:aI)(x:Operand)(k:AV->Bool):Bool:=match x with
 |.tmp t=>force (T.get .no regs t) k
 |.const v=>force (DV v) k
 |.global g=>k (.pg g 0)
 |.func f=>k (.fn (.func f) [] [])
section
variable{E:Env}{regs:aI}{a:Act}
theorem bN{x:Operand}{k:AV->Bool}(h:iC regs x k=true)(r:Rr E regs a.tmps):∃v,Rv E v (a.eval x)∧k v=true:=by
 cases x with
 |tmp t=>rw[iC,force_eq] at h;exact⟨_,r t,h⟩
 |const v=>rw[iC,force_eq] at h;exact⟨_,vc E v,h⟩
 |global g=>exact⟨_,by simp[Rv,Act.eval],h⟩
 |func f=>exact⟨_,by rw[Rv];exact⟨[],[],rfl,.nil,.nil⟩,h⟩
def yD(regs:aI)(xs:List Operand):(List AV->Bool)->Bool:=
 List.rec (motive:=fun _=>(List AV->Bool)->Bool) (fun k=>k []) (fun x _ ih k=>iC regs x fun v=>ih fun l=>k (v::l)) xs
theorem sX(r:Rr E regs a.tmps):∀(xs:List Operand){k:List AV->Bool},yD regs xs k=true->∃l,aP E l (xs.map a.eval)∧k l=true
 |[],_,h=>⟨[],.nil,h⟩
 |x::xs,k,h=>by
  obtain⟨v,hv,h⟩:=bN (x:=x) (k:=fun v=>yD regs xs fun l=>k (v::l)) h r;obtain⟨l,hl,h⟩:=sX r xs h;exact⟨v::l,.cons hv hl,h⟩
end
abbrev K:=AV->Heap->Nat->Bool
variable{ix v x:AV}{k:AV->Bool}{arr:Array Value}{c:Cs}{E:Env}{l:List AV}{aq f id j n o off w:Nat}{fr:Nat×Nat}{P:Program}{d:TypeDesc}{el t:TypeId}{i:TypeInfo}{I V X:Value}{L:aZ}{gB:nV}
def Gf(P:Program)(s:Sem Next)(E:Env)(h:Heap)(w:World)(k:K):Prop:=
 ∃v h' aL E' w' V,(s.run P w=.ok (.value V) w'∨(s.run P w=.ok .skip w'∧V=undef))∧Rv E' v V∧HR E' h' aL w'∧bk E h w E' h' w'∧k v h' aL=true
theorem Gf.same{s:Sem Next}{h:Heap}{w:World}{k:K}(hr:HR E h aq w)
  (e:s.run P w=.ok (.value V) w) (r:Rv E v V) (hk:k v h aq=true):Gf P s E h w k:=
 ⟨v,h,aq,E,w,V,.inl e,r,hr,bk.refl _ _ _,hk⟩
def Gg(l:List AV):Nat:=List.rec (motive:=fun _=>Nat) 0 (fun _ _ ih=>Nat.succ ih) l
theorem vd:∀l:List AV,Gg l=l.length
 |[]=>rfl
 |_::l=>congrArg (· +1) (vd l)
def CF(n:Nat)(l:List AV)(k:List AV->Bool):Bool:=
 Nat.rec (motive:=fun _=>List AV->(List AV->Bool)->Bool) (fun l k=>List.rec (motive:=fun _=>(List AV->Bool)->Bool) (fun k=>k []) (fun v tl _ k=>k (v::tl)) l k)
  (fun _ ih l k=>List.rec (motive:=fun _=>(List AV->Bool)->Bool) (fun k=>k []) (fun _ tl _ k=>ih tl k) l k) n l k
theorem ve:∀(n:Nat)(l:List AV)(k:List AV->Bool),CF n l k=k (l.drop n)
 |0,[],_=>rfl
 |0,_::_,_=>rfl
 |_+1,[],_=>by simp;rfl
 |n+1,v::l,k=>by
  show CF n l k=_;rw[ve n l k];rfl
def tU:Nat->List AV->List AV
 |0,_=>[]
 |n+1,[]=>.no::tU n []
 |n+1,v::l=>v::tU n l
def Qk(n:Nat)(l:List AV)(k:List AV->Bool):Bool:=
 Nat.rec (motive:=fun _=>List AV->(List AV->Bool)->Bool) (fun _ k=>k [])
  (fun _ ih l k=>List.rec (motive:=fun _=>(List AV->Bool)->Bool) (fun k=>ih [] fun r=>k (.no::r)) (fun v tl _ k=>ih tl fun r=>k (v::r)) l k) n l k
theorem y5:∀(n:Nat)(l:List AV)(k:List AV->Bool),Qk n l k=k (tU n l)
 |0,_,_=>rfl
 |n+1,[],k=>by
  show Qk n [] (fun r=>k (.no::r))=_;rw[y5 n];rfl
 |n+1,v::l,k=>by
  show Qk n l (fun r=>k (v::r))=_;rw[y5 n];rfl
@[simp] theorem nX:∀(n:Nat)(l:List AV),(tU n l).length=n
  |0,_=>rfl
  |n+1,[]=>by simp[tU,nX n]
  |n+1,_::l=>by simp[tU,nX n]
theorem vf:∀(n:Nat)(l:List AV)(i:Nat),i<n->cV (tU n l) i=cV l i
 |n+1,[],0,_=>rfl
 |n+1,[],i+1,h=>by
  show cV (tU n []) i=cV [] (i+1);rw[vf n [] i (by omega),rB,rB]
 |n+1,v::l,0,_=>rfl
 |n+1,v::l,i+1,h=>vf n l i (by omega)
theorem Ql(n:Nat)(l:List AV):tU n l=(List.range n).map (cV l):=by
 apply List.ext_getElem (by simp);intro i h1 h2;have:=vf n l i (by simpa using h1);rw[ff,cB,cN h1] at this;have this:(tU n l)[i]=cV l i:=this;rw[this];simp
def Gh(a b:List AV)(k:List AV->Bool):Bool:=
 List.rec (motive:=fun _=>List AV->(List AV->Bool)->Bool) (fun b k=>k b) (fun v _ ih b k=>ih b fun r=>k (v::r)) a b k
theorem y6:∀(a b:List AV)(k:List AV->Bool),Gh a b k=k (a++b)
 |[],_,_=>rfl
 |v::a,b,k=>by
  show Gh a b (fun r=>k (v::r))=_;rw[y6 a b];rfl
def LW(n:Nat)(l:List AV)(k:List AV->Bool):Bool:=
 Nat.rec (motive:=fun _=>List AV->(List AV->Bool)->Bool) (fun _ k=>k [])
  (fun _ ih l k=>List.rec (motive:=fun _=>(List AV->Bool)->Bool) (fun k=>k []) (fun v tl _ k=>ih tl fun r=>k (v::r)) l k) n l k
theorem Gi:∀(n:Nat)(l:List AV)(k:List AV->Bool),LW n l k=k (l.take n)
 |0,l,k=>by simp;rfl
 |_+1,[],_=>by simp;rfl
 |n+1,v::l,k=>by
  show LW n l (fun r=>k (v::r))=_;rw[Gi n];rfl
theorem nY(a b:List AV)(i:Nat):cV (a++b) i=if i<a.length then cV a i else cV b (i-a.length):=by
 rw[ff,ff,ff];by_cases h:i<a.length
 ·simp[h,iA h]
 ·simp[h,zE (Nat.le_of_not_lt h)]
theorem sY(l:List AV)(n i:Nat):cV (l.drop n) i=cV l (n+i):=by
 rw[ff,ff];simp
def Cs.row(c:Cs)(q:Nat):List AV:=T.get [] c.t q
def tV(c:Cs)(q:Nat)(k:List AV->Bool):Bool:=List.rec (motive:=fun _=>(List AV->Bool)->Bool) (fun k=>k []) (fun v tl _ k=>k (v::tl)) (T.get [] c.t q) k
theorem LX(c:Cs)(q:Nat)(k:List AV->Bool):tV c q k=k (c.row q):=by
 unfold tV Cs.row;cases T.get [] c.t q<;>rfl
def qs(w o n:Nat):Bool:=bc (Nat.ble (Nat.add o n) w) true (Nat.beq w 0)
theorem Gj(h:qs w o n=true):o+n<=w∨w=0:=by
 unfold qs at h;rcases aR h with⟨h,_⟩|⟨_,h⟩
 ·exact .inl (aU h)
 ·exact .inr (aN h)
theorem Gk(h:qs w o n=false):w<o+n∧0<w:=by
 unfold qs at h;cases h1:Nat.ble (Nat.add o n) w
 ·rw[h1,o4] at h
  have h1:¬(o+n<=w):=fun h'=>by
   have h2:Nat.ble (Nat.add o n) w=true:=Nat.ble_eq_true_of_le h';rw[h2] at h1;cases h1
  have h2:w≠0:=fun e=>by rw[e] at h;cases h
  omega
 ·rw[h1] at h;cases h
theorem Cs.Vz(c:Cs)(q o j:Nat)(ho:o=Nat.mod q c.w)(h:o+j<c.w∨c.w=0):c.get (q+j)=cV (c.row (Nat.div q c.w)) (o+j):=by
 unfold Cs.get Cs.row;subst ho;have e1:Nat.div (q+j) c.w=Nat.div q c.w:=by
  show(q+j)/c.w=q/c.w;rcases h with h|h
  ·have h:q%c.w+j<c.w:=h
   have hw:0<c.w:=by omega
   have:=Nat.div_add_mod q c.w;rw[Nat.div_eq_of_lt_le]
   ·rw[Nat.mul_comm];omega
   ·rw[Nat.add_mul,Nat.mul_comm];omega
  ·rw[h];simp
 have e2:Nat.mod (q+j) c.w=Nat.mod q c.w+j:=by
  show(q+j)%c.w=q%c.w+j;rcases h with h|h
  ·have h:q%c.w+j<c.w:=h
   rw[Nat.add_mod,Nat.mod_eq_of_lt (show j<c.w by omega),Nat.mod_eq_of_lt h]
  ·rw[h];simp
 rw[e1,e2]
def rd1(c:Cs)(n off:Nat)(k:List AV->Bool):Bool:=
 aM (Nat.mod off c.w) fun o=>tV c (Nat.div off c.w) fun l=>bc (bc (Nat.beq o 0) (Nat.beq (Gg l) n) false) (k l) (CF o l fun r=>Qk n r k)
theorem Qm(h:Nat.mod off c.w+n<=c.w∨c.w=0)(k:List AV->Bool):rd1 c n off k=k ((List.range' off n).map c.get):=by
 unfold rd1;rw[aC,LX];have key:(List.range' off n).map c.get=tU n ((c.row (Nat.div off c.w)).drop (Nat.mod off c.w)):=by
  rw[Ql,List.range'_eq_map_range,List.map_map];apply List.map_congr_left;intro j hj;have hj:=List.mem_range.1 hj;show c.get (off+j)=_;rw[sY,c.Vz off _ j rfl (h.imp (fun h=>by omega) id)]
 rw[key];cases hb:bc (Nat.beq (Nat.mod off c.w) 0) (Nat.beq (Gg (c.row (Nat.div off c.w))) n) false
 ·rw[o4,ve,y5]
 ·rw[nW]
  obtain⟨h1,h2⟩:=aa hb;have h1:=aN h1;have h2:=aN h2;rw[vd] at h2;rw[h1,List.drop_zero];congr 1;generalize c.row (Nat.div off c.w)=l at *;subst h2;have aux:∀l:List AV,tU l.length l=l:=by
   intro l;induction l with
   |nil=>rfl
   |cons v l ih=>show v::tU l.length l=_;rw[ih]
  exact(aux l).symm
def rdF(fuel:Nat):Cs->Nat->Nat->(List AV->Bool)->Bool:=
 Nat.rec (motive:=fun _=>Cs->Nat->Nat->(List AV->Bool)->Bool) (fun _ _ _ _=>false)
  (fun _ ih c n off k=>bc (qs c.w (Nat.mod off c.w) n) (rd1 c n off k)
   (aM (Nat.sub c.w (Nat.mod off c.w)) fun m=>rd1 c m off fun a=>aM (Nat.sub n m) fun n'=>aM (Nat.add off m) fun tX=>ih c n' tX fun b=>Gh a b k)) fuel
theorem Qn:∀(fuel:Nat){c:Cs}{n off:Nat}(k:List AV->Bool),n<fuel->rdF fuel c n off k=k ((List.range' off n).map c.get)
 |0,_,_,_,_,h=>absurd h (Nat.not_lt_zero _)
 |fuel+1,c,n,off,k,h=>by
  show bc (qs c.w (Nat.mod off c.w) n) _ _=_;cases hi:qs c.w (Nat.mod off c.w) n
  ·obtain⟨h1,h2⟩:=Gk hi
   have h3:Nat.mod off c.w<c.w:=Nat.mod_lt off h2;rw[o4,aC,Qm (by left;show Nat.mod off c.w+(c.w-Nat.mod off c.w)<=c.w;omega),aC,aC];have hm:Nat.sub c.w (Nat.mod off c.w)=c.w-Nat.mod off c.w:=rfl;rw[hm];generalize hmm:c.w-Nat.mod off c.w=m at *;have e1:Nat.sub n m=n-m:=rfl;have e2:Nat.add off m=off+m:=rfl;have:=Qn fuel (c:=c) (n:=n-m) (off:=off+m) (fun b=>Gh ((List.range' off m).map c.get) b k) (by omega);have e3:(rdF fuel c (Nat.sub n m) (Nat.add off m) fun b=>Gh ((List.range' off m).map c.get) b k)=_:=this;refine e3.trans ?_;show Gh _ _ k=_;rw[y6,←List.map_append,show(List.range' off m++List.range' (off+m) (n-m))=List.range' off n by
    rw[List.range'_append_1];congr 1;omega]
  ·rw[nW]
   exact Qm (Gj hi) k
def Gl(c:Cs)(n off:Nat)(k:List AV->Bool):Bool:=rdF (Nat.succ n) c n off k
theorem kW(c:Cs)(n off:Nat)(k:List AV->Bool):Gl c n off k=k ((List.range' off n).map fun j=>c.get j):=Qn _ k (Nat.lt_succ_self n)
theorem T.Jj{α:Type}(d x:α)(t:T α):∀(i:Nat),T.get d (T.set x t i) i=x∨(T.get d (T.set x t i) i=d∧T.get d t i=d):=by
 induction t with
 |nil=>intro i;exact .inr ⟨rfl,rfl⟩
 |node v l r tO wL=>
  intro i;cases i with
  |zero=>exact .inl rfl
  |succ i=>
   have e:T.set x (.node v l r) (i+1)=Nat.rec (motive:=fun _=>T α) (.node v (T.set x l (i/2)) r) (fun _ _=>.node v l (T.set x r (i/2))) (i%2):=rfl;have g:∀l r:T α,T.get d (.node v l r) (i+1)=Nat.rec (motive:=fun _=>α) (T.get d l (i/2)) (fun _ _=>T.get d r (i/2)) (i%2):=fun _ _=>rfl
   rw[e];rcases T.iU i with h|h<;>rw[h]<;>(show T.get d (.node v _ _) (i+1)=_∨(T.get d (.node v _ _) (i+1)=_∧_))<;>rw[g,g,h]
   ·exact tO _
   ·exact wL _
def Cs.uE(c:Cs)(l:List AV)(off:Nat):Cs:=
 ⟨c.w,T.set (if Nat.mod off c.w=0∧l.length=c.w then l else tU (Nat.mod off c.w) (c.row (Nat.div off c.w))++(l++(c.row (Nat.div off c.w)).drop (Nat.mod off c.w+l.length))) c.t (Nat.div off c.w)⟩
theorem Cs.Gm(h:Nat.div j w=Nat.div off w):j+Nat.mod off w=off+Nat.mod j w:=by
 have h:j/w=off/w:=h;have h1:=Nat.div_add_mod j w;have h2:=Nat.div_add_mod off w;rw[h] at h1;show j+off%w=off+j%w;omega
theorem Cs.Gn(h:Nat.mod off c.w+l.length<=c.w∨c.w=0)(hl:0<l.length):
  (∀j,j<off∨off+l.length<=j->(c.uE l off).get j=c.get j)∧∀i,i<l.length->(c.uE l off).get (off+i)=cV l i∨(c.uE l off).get (off+i)=.no:=by
 have row:∀j,Nat.div j c.w≠Nat.div off c.w->(c.uE l off).get j=c.get j:=fun j hj=>by
  unfold Cs.get Cs.uE;show cV (T.get [] (T.set _ c.t (Nat.div off c.w)) (Nat.div j c.w)) _=_;rw[T.ay _ _ _ _ _ hj]
 have same:∀j,Nat.div j c.w=Nat.div off c.w->(c.uE l off).get j=cV (if Nat.mod off c.w=0∧l.length=c.w then l else tU (Nat.mod off c.w) (c.row (Nat.div off c.w))++(l++(c.row (Nat.div off c.w)).drop (Nat.mod off c.w+l.length))) (Nat.mod j c.w)∨
   ((c.uE l off).get j=.no∧c.get j=.no):=fun j hj=>by
  unfold Cs.get Cs.uE;show cV (T.get [] (T.set _ c.t (Nat.div off c.w)) (Nat.div j c.w)) (Nat.mod j c.w)=_∨_;rw[hj];rcases T.Jj [] (if Nat.mod off c.w=0∧l.length=c.w then l else tU (Nat.mod off c.w) (c.row (Nat.div off c.w))++(l++(c.row (Nat.div off c.w)).drop (Nat.mod off c.w+l.length))) c.t (Nat.div off c.w) with e|⟨e1,e2⟩
  ·left;rw[e]
  ·right
   refine⟨?_,by rw[e2,rB]⟩;show cV (T.get [] (T.set _ c.t (Nat.div off c.w)) (Nat.div off c.w)) (Nat.mod j c.w)=_;rw[e1,rB]
 have modlt:c.w≠0->∀j,Nat.mod j c.w<c.w:=fun h j=>Nat.mod_lt j (by omega)
 refine⟨fun j hj=>?_,fun i hi=>?_⟩
 ·by_cases hr:Nat.div j c.w=Nat.div off c.w
  ·have hs:=Cs.Gm hr
   rcases same j hr with e|⟨e1,e2⟩
   ·rw[e]
    by_cases hc:Nat.mod off c.w=0∧l.length=c.w
    ·have:=modlt (by omega) j
     omega
    ·rw[if_neg hc,nY,nY,nX]
     have hg:c.get j=cV (c.row (Nat.div off c.w)) (Nat.mod j c.w):=by unfold Cs.get Cs.row;rw[hr]
     by_cases h1:Nat.mod j c.w<Nat.mod off c.w
     ·rw[if_pos h1,vf _ _ _ h1,hg]
     ·rw[if_neg h1,if_neg (by omega),sY,hg]
      congr 1;omega
   ·rw[e1,e2]
  ·exact row j hr
 ·have hr:Nat.div (off+i) c.w=Nat.div off c.w:=by
   show(off+i)/c.w=off/c.w;rcases h with h|h
   ·have h:off%c.w+l.length<=c.w:=h
    have hw:0<c.w:=by omega
    have:=Nat.div_add_mod off c.w;rw[Nat.div_eq_of_lt_le]
    ·rw[Nat.mul_comm];omega
    ·rw[Nat.add_mul,Nat.mul_comm];omega
   ·rw[h];simp
  have hs:=Cs.Gm hr;rcases same (off+i) hr with e|⟨e1,_⟩
  ·left
   rw[e];by_cases hc:Nat.mod off c.w=0∧l.length=c.w
   ·rw[if_pos hc];congr 1;omega
   ·rw[if_neg hc,nY,nY,nX,if_neg (by omega),if_pos (by omega)]
    congr 1;omega
  ·exact .inr e1
def CG(l:List AV)(m:Nat)(c:Cs)(off:Nat)(k:Cs->Bool):Bool:=
 aM (Nat.mod off c.w) fun o=>aM (Nat.div off c.w) fun q=>bc (bc (Nat.beq o 0) (Nat.beq m c.w) false) (T.dj l c.t q fun t=>k ⟨c.w,t⟩)
  (tV c q fun b=>Qk o b fun x=>CF (Nat.add o m) b fun z=>Gh l z fun y=>Gh x y fun r=>T.dj r c.t q fun t=>k ⟨c.w,t⟩)
theorem Gp(l:List AV)(c:Cs)(off:Nat)(k:Cs->Bool):CG l l.length c off k=k (c.uE l off):=by
 unfold CG Cs.uE;rw[aC,aC];cases hb:bc (Nat.beq (Nat.mod off c.w) 0) (Nat.beq l.length c.w) false
 ·have:¬(Nat.mod off c.w=0∧l.length=c.w):=by
   rintro⟨h1,h2⟩;rw[h1,h2] at hb;have:bc (Nat.beq 0 0) (Nat.beq c.w c.w) false=true:=by rw[Nat.beq_refl c.w];rfl
   rw[this] at hb;cases hb
  rw[o4,if_neg this,LX,y5,ve,y6,y6,T.bh];rfl
 ·obtain⟨h1,h2⟩:=aa hb
  rw[nW,if_pos ⟨aN h1,aN h2⟩,T.bh]
def Qo:Nat->List AV->Cs->Nat->Cs
 |0,_,c,_=>c
 |_+1,[],c,_=>c
 |f+1,v::l,c,off=>if qs c.w (Nat.mod off c.w) (v::l).length=true then c.uE (v::l) off
  else Qo f ((v::l).drop (c.w-Nat.mod off c.w)) (c.uE ((v::l).take (c.w-Nat.mod off c.w)) off) (off+(c.w-Nat.mod off c.w))
def wrKF(f:Nat):List AV->Nat->Cs->Nat->(Cs->Bool)->Bool:=
 Nat.rec (motive:=fun _=>List AV->Nat->Cs->Nat->(Cs->Bool)->Bool) (fun _ _ c _ k=>k c)
  (fun _ ih l n c off k=>List.rec (motive:=fun _=>Bool) (k c) (fun _ _ _=>bc (qs c.w (Nat.mod off c.w) n) (CG l n c off k)
   (aM (Nat.sub c.w (Nat.mod off c.w)) fun m=>LW m l fun a=>CF m l fun b=>CG a (Gg a) c off fun c'=>aM (Nat.add off m) fun tX=>ih b (Gg b) c' tX k)) l) f
theorem LY:∀(f:Nat)(l:List AV)(c:Cs)(off:Nat)(k:Cs->Bool),wrKF f l l.length c off k=k (Qo f l c off)
 |0,_,_,_,_=>rfl
 |_+1,[],_,_,_=>rfl
 |f+1,v::l,c,off,k=>by
  show bc (qs c.w (Nat.mod off c.w) (v::l).length) (CG (v::l) (v::l).length c off k) (aM (Nat.sub c.w (Nat.mod off c.w)) fun m=>LW m (v::l) fun a=>CF m (v::l) fun b=>CG a (Gg a) c off fun c'=>aM (Nat.add off m) fun tX=>wrKF f b (Gg b) c' tX k)=k (if _ then _ else _);cases hi:qs c.w (Nat.mod off c.w) (v::l).length
  ·rw[o4,if_neg (by simp),aC,Gi,ve,vd,Gp,aC,vd,LY f];rfl
  ·rw[nW,if_pos rfl,Gp]
theorem DW:∀(f:Nat)(l:List AV)(c:Cs)(off:Nat),l.length<f->
  (∀j,j<off∨off+l.length<=j->(Qo f l c off).get j=c.get j)∧∀i,i<l.length->(Qo f l c off).get (off+i)=cV l i∨(Qo f l c off).get (off+i)=.no
 |0,_,_,_,h=>absurd h (Nat.not_lt_zero _)
 |f+1,[],c,off,_=>⟨fun _ _=>rfl,fun i h=>absurd h (Nat.not_lt_zero _)⟩
 |f+1,v::l,c,off,h=>by
  cases hi:qs c.w (Nat.mod off c.w) (v::l).length
  ·have e:Qo (f+1) (v::l) c off=Qo f ((v::l).drop (c.w-Nat.mod off c.w)) (c.uE ((v::l).take (c.w-Nat.mod off c.w)) off) (off+(c.w-Nat.mod off c.w)):=by
    rw[Qo,if_neg (by rw[hi];simp)]
   obtain⟨h1,h2⟩:=Gk hi;have h3:Nat.mod off c.w<c.w:=Nat.mod_lt off h2;rw[e];generalize v::l=L at *;have hm:c.w-Nat.mod off c.w<L.length:=by omega
   generalize hmm:c.w-Nat.mod off c.w=m at *;have hlen:(L.take m).length=m:=by simp;omega
   obtain⟨p1,p2⟩:=Cs.Gn (c:=c) (l:=L.take m) (off:=off) (by left;omega) (by omega);obtain⟨r1,r2⟩:=DW f (L.drop m) (c.uE (L.take m) off) (off+m) (by simp;omega);have Qp:(L.drop m).length=L.length-m:=by simp
   have tk:∀i,i<m->cV (L.take m) i=cV L i:=fun i hi=>by
    rw[ff,ff];simp[hi]
   refine⟨fun j hj=>?_,fun i hi=>?_⟩
   ·rw[r1 j (by omega),p1 j (by omega)]
   ·by_cases him:i<m
    ·rw[r1 (off+i) (by omega),←tk i him]
     exact p2 i (by omega)
    ·have:=r2 (i-m) (by omega)
     rw[show off+m+(i-m)=off+i by omega,sY,show m+(i-m)=i by omega] at this;exact this
  ·have e:Qo (f+1) (v::l) c off=c.uE (v::l) off:=by rw[Qo,if_pos hi]
   rw[e];exact Cs.Gn (Gj hi) (by simp)
def N8(l:List AV)(c:Cs)(off:Nat)(k:Cs->Bool):Bool:=aM (Gg l) fun n=>wrKF (Nat.succ n) l n c off k
def fu(l:List AV)(c:Cs)(off:Nat):Cs:=Qo (l.length+1) l c off
theorem jn(l:List AV)(c:Cs)(off:Nat)(k:Cs->Bool):N8 l c off k=k (fu l c off):=by
 unfold N8 fu;rw[aC,vd,LY]
theorem Gq(h:j<off∨off+l.length<=j):(fu l c off).get j=c.get j:=(DW _ l c off (Nat.lt_succ_self _)).1 j h
theorem LZ{i:Nat}(h:i<l.length):(fu l c off).get (off+i)=cV l i∨(fu l c off).get (off+i)=.no:=(DW _ l c off (Nat.lt_succ_self _)).2 i h
def fZ:T (List AV):=T.full [] 24
def T.DX{α:Type}:(Nat->α->α)->T α->T α
 |_,.nil=>.nil
 |f,.node v l r=>.node (f 0 v) (T.DX (fun j=>f (2*j+1)) l) (T.DX (fun j=>f (2*j+2)) r)
theorem T.Qq{α:Type}(d:α)(t:T α):∀(f:Nat->α->α)(i:Nat),(∀i,f i d=d)->T.get d (T.DX f t) i=f i (T.get d t i):=by
 induction t with
 |nil=>intro f i h;exact(h i).symm
 |node v l r tO wL=>
  intro f i h;cases i with
  |zero=>rfl
  |succ i=>
   have g:∀(v:α)(l r:T α),T.get d (.node v l r) (i+1)=Nat.rec (motive:=fun _=>α) (T.get d l (i/2)) (fun _ _=>T.get d r (i/2)) (i%2):=fun _ _ _=>rfl
   show T.get d (.node (f 0 v) (T.DX (fun j=>f (2*j+1)) l) (T.DX (fun j=>f (2*j+2)) r)) (i+1)=_;rw[g,g];rcases T.iU i with hm|hm<;>rw[hm]
   ·show T.get d (T.DX (fun j=>f (2*j+1)) l) (i/2)=f (i+1) (T.get d l (i/2))
    rw[tO _ _ (fun j=>h _)];congr 1;omega
   ·show T.get d (T.DX (fun j=>f (2*j+2)) r) (i/2)=f (i+1) (T.get d r (i/2))
    rw[wL _ _ (fun j=>h _)];congr 1;omega
def Cs.gT(p:Nat->Bool)(c:Cs):Cs:=⟨c.w,T.DX (fun i l=>(List.range l.length).map fun o=>bif p (i*c.w+o) then cV l o else .no) c.t⟩
theorem Cs.zG(p:Nat->Bool)(c:Cs)(j:Nat):(c.gT p).get j=bif p j then c.get j else .no:=by
 unfold Cs.gT Cs.get;show cV (T.get [] (T.DX _ c.t) (Nat.div j c.w)) (Nat.mod j c.w)=_;rw[T.Qq _ _ _ _ (fun i=>rfl)];have hj:Nat.div j c.w*c.w+Nat.mod j c.w=j:=by
  have:=Nat.div_add_mod j c.w;rw[Nat.mul_comm] at this;exact this
 generalize T.get [] c.t (Nat.div j c.w)=l;have aux:∀(l:List AV)(f:Nat->AV)(i:Nat),cV ((List.range l.length).map f) i=if i<l.length then f i else .no:=fun l f i=>by
  rw[ff];by_cases h:i<l.length
  ·simp[h,List.getElem?_range h]
  ·simp[h]
 rw[aux,hj];by_cases h:Nat.mod j c.w<l.length
 ·rw[if_pos h]
 ·rw[if_neg h]
  have:cV l (Nat.mod j c.w)=.no:=by rw[ff];simp[h]
  rw[this];cases p j<;>rfl
section
variable{P:Program}{w:World}
theorem ai(h:P.underlying t=some d):(underlying t).run P w=.ok d w:=by
 simp[underlying,h]
theorem ly(h:P.info? t=some i):(typeInfo t).run P w=.ok i w:=by
 simp[typeInfo,h]
theorem bG(h:P.info? t=some i):(Go.sizeOf t).run P w=.ok i.size w:=by
 simp[Go.sizeOf,ly h]
def uF:TypeDesc->Bool
 |.struct _|.array _ _=>true
 |_=>false
theorem mW(h:P.underlying t=some d):(isAgg t).run P w=.ok (uF d) w:=by
 unfold isAgg;rw[Sem.run_bind,ai h];cases d<;>rfl
theorem dJ{z:Value}(h:P.info? t=some i)(hz:i.zero=some z):(zeroValue t).run P w=.ok z w:=by
 simp[zeroValue,ly h,hz]
end
section
variable{E:Env}{h:Heap}{aq:Nat}{w:World}
theorem eC(b o n:Nat):(⟨b,o,none⟩:Addr).add n=⟨b,o+n,none⟩:=by
 unfold Addr.add;split
 ·next e=>subst e;rfl
 ·rfl
theorem HR.cells(hr:HR E h aq w)(hc:T.get .gone h id=.cells n gB c):
  ∃L arr el,E id=some L∧w.heap[L.aH]? =some (.cells arr el (0,0))∧L.base+n<=arr.size∧gB.ok L el arr.size n∧
   ∀j,j<n->Rv E (c.get j) (arr.getD (L.base+j) undef):=by
 have:=hr.obj id;rw[hc] at this;exact this
theorem cell_of(hb:w.heap[L.aH]? =some (.cells arr el fr))(ho:off<arr.size):
  w.cell? ⟨L.aH,off,none⟩=some (arr.getD off undef):=by
 simp[World.cell?,hb,ho]
theorem wN(hb:w.heap[L.aH]? =some (.cells arr el (0,0)))(off:Nat):
  w.frozen? ⟨L.aH,off,none⟩=false:=by
 simp[World.frozen?,hb]
theorem nZ{fr:Nat×Nat}(P:Program){L:aZ}{arr:Array Value}{el:TypeId}(hb:w.heap[L.aH]? =some (.cells arr el fr))(off:Nat):
  ∀(n i:Nat)(acc:Array Value),off+i+n<=arr.size->
   (loadCellsFrom ⟨L.aH,off,none⟩ i n acc).run P w=.ok (acc++((List.range' (off+i) n).map fun j=>arr.getD j undef).toArray) w
 |0,_,acc,_=>by simp[loadCellsFrom]
 |n+1,i,acc,hn=>by
  rw[loadCellsFrom,Sem.run_bind,run_load,eC,cell_of hb (by omega)];simp only[Result.andThen_ok];rw[nZ P hb off n (i+1) _ (by omega)];simp[List.range'_succ,Nat.add_assoc]
theorem ez(P:Program)(hb:w.heap[L.aH]? =some (.cells arr el fr))(off n:Nat)(hn:off+n<=arr.size):
  (loadCells ⟨L.aH,off,none⟩ n).run P w=.ok ((List.range' off n).map fun j=>arr.getD j undef).toArray w:=by
 unfold loadCells;rw[nZ P hb off n 0 #[] (by omega)];simp
def rdN(c:T AV)(n:Nat):Nat->(List AV->Bool)->Bool:=
 Nat.rec (motive:=fun _=>Nat->(List AV->Bool)->Bool) (fun _ k=>k []) (fun _ ih off k=>force (T.get .no c off) fun v=>ih (Nat.succ off) fun l=>k (v::l)) n
theorem DY(c:T AV):∀(n off:Nat)(k:List AV->Bool),rdN c n off k=k ((List.range' off n).map fun j=>T.get .no c j)
 |0,_,_=>rfl
 |n+1,off,k=>by
  show force (T.get .no c off) (fun v=>rdN c n (off+1) fun l=>k (v::l))=_;rw[force_eq,DY c n (off+1)];simp[List.range'_succ]
theorem aP.j8{f:Nat->AV}{g:Nat->Value}:∀(n off:Nat),(∀j,off<=j->j<off+n->Rv E (f j) (g j))->aP E ((List.range' off n).map f) ((List.range' off n).map g)
 |0,_,_=>.nil
 |n+1,off,hh=>by
  simp only[List.range'_succ,List.map_cons];exact .cons (hh off (by omega) (by omega)) (aP.j8 n (off+1) fun j h1 h2=>hh j (by omega) (by omega))
theorem jN(f:Nat->Value)(b off n:Nat):(List.range' (b+off) n).map f=(List.range' off n).map fun j=>f (b+j):=by
 induction n generalizing off with
 |zero=>rfl
 |succ n ih=>simp only[List.range'_succ,List.map_cons];rw[Nat.add_assoc,ih]
def oa(P:Program)(t:TypeId)(n:Nat)(c:Cs)(off:Nat)(k:AV->Bool):Bool:=match P.underlying t with
 |some d=>match P.info? t with
  |some i=>bc (uF d) (bc (Nat.ble (off+i.size) n) (Gl c i.size off fun l=>k (.ag l)) false) (bc (Nat.ble (off+1) n) (force (c.get off) k) false)
  |none=>false
 |none=>false
def mX(P:Program)(t:TypeId)(n:Nat)(c:T AV)(off:Nat)(k:AV->Bool):Bool:=match P.underlying t with
 |some d=>match P.info? t with
  |some i=>bc (uF d) (bc (Nat.ble (off+i.size) n) (rdN c i.size off fun l=>k (.ag l)) false) (bc (Nat.ble (off+1) n) (force (T.get .no c off) k) false)
  |none=>false
 |none=>false
def iD(P:Program)(t:TypeId)(x:AV)(h:Heap)(k:AV->Bool):Bool:=match x with
 |.p id off=>match T.get .gone h id with
  |.cells n _ c=>oa P t n c off k
  |.glob _ n c=>mX P t n c off k
  |_=>false
 |.pg g off=>match T.get .gone h (Nat.succ g) with
  |.glob g' n c=>bc (Nat.beq g g') (bc (Nat.ble (Nat.succ g) 1000000) (mX P t n c off k) false) false
  |_=>false
 |_=>false
theorem Jk(he:oa P t n c off k=true)
  (hb:w.heap[L.aH]? =some (.cells arr el fr)) (cC:L.base+n<=arr.size) (dz:∀j,j<n->Rv E (c.get j) (arr.getD (L.base+j) undef)):
  ∃v W,(Instr.loadAt t (.pointer (some ⟨L.aH,L.base+off,none⟩))).run P w=.ok W w∧Rv E v W∧k v=true:=by
 unfold oa at he;cases hu:P.underlying t<;>simp only[hu,ftQ] at he
 rename_i d;cases hi:P.info? t<;>simp only[hi,ftQ] at he
 rename_i i;have Gr:∀(m:Value),(loadVar t ⟨L.aH,L.base+off,none⟩).run P w=.ok m w->(Instr.loadAt t (.pointer (some ⟨L.aH,L.base+off,none⟩))).run P w=.ok m w:=by
  intro m hm;simp only[Instr.loadAt,Instr.sureAddr,Sem.run_bind,Sem.run_pure,Result.andThen_ok,hm]
 rcases aR he with⟨ha,he⟩|⟨ha,he⟩
 ·obtain⟨hle,he⟩:=aa he
  have hle:off+i.size<=n:=aU hle;rw[kW] at he;refine⟨_,.agg ((List.range' (L.base+off) i.size).map fun j=>arr.getD j undef).toArray,Gr _ ?_,?_,he⟩
  ·unfold loadVar
   simp only[Sem.run_bind,mW hu,Result.andThen_ok,ha,if_true,bG hi,ez P hb (L.base+off) i.size (by omega),Sem.run_pure]
  ·rw[Rv]
   refine⟨_,rfl,?_⟩;rw[jN];exact aP.j8 _ _ fun j h1 h2=>dz j (by omega)
 ·obtain⟨hle,he⟩:=aa he
  have hle:off+1<=n:=aU hle;rw[force_eq] at he;refine⟨_,arr.getD (L.base+off) undef,Gr _ ?_,dz off (by omega),he⟩;unfold loadVar;simp only[Sem.run_bind,mW hu,Result.andThen_ok,ha,ftQ,if_false,run_load,cell_of hb (show L.base+off<arr.size by omega)]
theorem yc{c:T AV}(he:mX P t n c off k=true)
  (hb:w.heap[L.aH]? =some (.cells arr el fr)) (cC:L.base+n<=arr.size) (dz:∀j,j<n->Rv E (T.get .no c j) (arr.getD (L.base+j) undef)):
  ∃v W,(Instr.loadAt t (.pointer (some ⟨L.aH,L.base+off,none⟩))).run P w=.ok W w∧Rv E v W∧k v=true:=by
 unfold mX at he;cases hu:P.underlying t<;>simp only[hu,ftQ] at he
 rename_i d;cases hi:P.info? t<;>simp only[hi,ftQ] at he
 rename_i i;have Gr:∀(m:Value),(loadVar t ⟨L.aH,L.base+off,none⟩).run P w=.ok m w->(Instr.loadAt t (.pointer (some ⟨L.aH,L.base+off,none⟩))).run P w=.ok m w:=by
  intro m hm;simp only[Instr.loadAt,Instr.sureAddr,Sem.run_bind,Sem.run_pure,Result.andThen_ok,hm]
 rcases aR he with⟨ha,he⟩|⟨ha,he⟩
 ·obtain⟨hle,he⟩:=aa he
  have hle:off+i.size<=n:=aU hle;rw[DY] at he;refine⟨_,.agg ((List.range' (L.base+off) i.size).map fun j=>arr.getD j undef).toArray,Gr _ ?_,?_,he⟩
  ·unfold loadVar
   simp only[Sem.run_bind,mW hu,Result.andThen_ok,ha,if_true,bG hi,ez P hb (L.base+off) i.size (by omega),Sem.run_pure]
  ·rw[Rv]
   refine⟨_,rfl,?_⟩;rw[jN];exact aP.j8 _ _ fun j h1 h2=>dz j (by omega)
 ·obtain⟨hle,he⟩:=aa he
  have hle:off+1<=n:=aU hle;rw[force_eq] at he;refine⟨_,arr.getD (L.base+off) undef,Gr _ ?_,dz off (by omega),he⟩;unfold loadVar;simp only[Sem.run_bind,mW hu,Result.andThen_ok,ha,ftQ,if_false,run_load,cell_of hb (show L.base+off<arr.size by omega)]
theorem CH(he:iD P t x h k=true)(hx:Rv E x V)(hr:HR E h aq w):
  ∃v W,(Instr.loadAt t V).run P w=.ok W w∧Rv E v W∧k v=true:=by
 unfold iD at he;split at he<;>try (cases he;done)
 ·rename_i id off
  rw[Rv] at hx;obtain⟨L,hL,rfl⟩:=hx;split at he<;>try (cases he;done)
  ·rename_i n gB c hc
   obtain⟨L',arr,el,tY,hb,cC,_,dz⟩:=hr.cells hc;obtain rfl:L=L':=mL (hL.symm.trans tY);exact Jk he hb cC dz
  ·rename_i g n c hc
   have ho:=hr.obj id;rw[hc] at ho;obtain⟨L',arr,el,fr,tY,_,hb,cC,dz,_⟩:=ho;obtain rfl:L=L':=mL (hL.symm.trans tY);exact yc he hb cC dz
 ·rename_i g off
  rw[Rv] at hx;subst hx;split at he<;>try (cases he;done)
  rename_i g' n c hc;obtain⟨h1,he0⟩:=aa he;obtain⟨h2,jD⟩:=aa he0;clear he he0;have h1:=aN h1;have h2:=aU h2;subst h1;have ho:=hr.obj (g+1);rw[hc] at ho;obtain⟨L,arr,el,fr,_,hLB,hb,cC,dz,_⟩:=ho;obtain⟨hL,hB⟩:=hLB (by omega);have:=yc (P:=P) (E:=E) (w:=w) (L:=L) jD hb cC dz;rw[hL,hB,Nat.zero_add] at this;exact this
def leaf:AV->Bool
 |.no|.un|.ag _|.tu _=>false
 |_=>true
theorem bY(hl:leaf v=true)(r:Rv E v V):V.oneCell'=true∧V.cells=#[V]:=by
 cases v<;>simp only[leaf,ftQ] at hl<;>rw[Rv] at r
 case nan=>obtain⟨x,rfl,_⟩:=r;exact⟨rfl,rfl⟩
 case p=>obtain⟨L,_,rfl⟩:=r;exact⟨rfl,rfl⟩
 case sl=>obtain⟨L,_,rfl⟩:=r;exact⟨rfl,rfl⟩
 case so=>obtain⟨L,_,rfl,_⟩:=r;exact⟨rfl,rfl⟩
 case fn=>obtain⟨_,_,rfl,_,_⟩:=r;exact⟨rfl,rfl⟩
 case ifc=>obtain⟨W,rfl,_⟩:=r;exact⟨rfl,rfl⟩
 case mp=>obtain⟨L,_,rfl⟩:=r;exact⟨rfl,rfl⟩
 case ii=>obtain⟨n,rfl⟩:=r;exact⟨rfl,rfl⟩
 case pk=>exact r.elim
 case any=>exact r
 case sx=>obtain⟨L,n,c,_,_,_,_,_,rfl⟩:=r;exact⟨rfl,rfl⟩
 case sz=>
  obtain⟨L,n,_,_,_,_,rfl⟩:=r;split
  ·obtain⟨a,ha⟩:=LU L.base
   rw[ha];exact⟨rfl,rfl⟩
  ·exact⟨rfl,rfl⟩
 case sr=>obtain⟨L,n,_,_,_,_,rfl⟩:=r;exact⟨rfl,rfl⟩
 case x s e=>
  obtain⟨_,r⟩:=r;cases s<;>simp only[jZ] at r
  ·obtain⟨_,rfl⟩:=r;exact⟨rfl,rfl⟩
  ·obtain⟨_,rfl,_⟩:=r;exact⟨rfl,rfl⟩
  ·obtain⟨_,rfl,_⟩:=r;exact⟨rfl,rfl⟩
  ·obtain⟨_,rfl,_⟩:=r;exact⟨rfl,rfl⟩
 all_goals (subst r;exact⟨rfl,rfl⟩)
def cj(l:List AV):Bool:=List.rec (motive:=fun _=>Bool) true (fun v _ ih=>bc (leaf v) ih false) l
theorem pI(h:cj (v::l)=true):leaf v=true∧cj l=true:=aa (b:=leaf v) (x:=cj l) h
def mY(v:AV)(k:List AV->Bool):Bool:=match v with
 |.ag cs=>bc (cj cs) (k cs) false
 |v=>bc (leaf v) (k [v]) false
theorem sZ{k:List AV->Bool}(h:mY v k=true)(r:Rv E v V):∃l,aP E l V.cells.toList∧cj l=true∧k l=true:=by
 by_cases hag:∃cs,v=.ag cs
 ·obtain⟨cs,rfl⟩:=hag
  obtain⟨h1,h2⟩:=aa h;rw[Rv] at r;obtain⟨vs,rfl,r⟩:=r;exact⟨cs,by simpa[Value.cells] using r,h1,h2⟩
 ·have e:mY v k=bc (leaf v) (k [v]) false:=by
   cases v<;>first|rfl|exact absurd ⟨_,rfl⟩ hag
  rw[e] at h;obtain⟨h1,h2⟩:=aa h;refine⟨[v],?_,?_,h2⟩
  ·rw[(bY h1 r).2];exact .cons r .nil
  ·show bc (leaf v) true false=true;rw[h1];rfl
def wrL(l:List AV):T AV->Nat->(T AV->Bool)->Bool:=
 List.rec (motive:=fun _=>T AV->Nat->(T AV->Bool)->Bool) (fun c _ k=>k c) (fun v _ ih c off k=>T.dj v c off fun c'=>ih c' (Nat.succ off) k) l
def gw(l:List AV):T AV->Nat->T AV:=
 List.rec (motive:=fun _=>T AV->Nat->T AV) (fun c _=>c) (fun v _ ih c off=>ih (T.set v c off) (Nat.succ off)) l
theorem Qr:∀(l:List AV)(c:T AV)(off:Nat)(k:T AV->Bool),wrL l c off k=k (gw l c off)
 |[],_,_,_=>rfl
 |v::l,c,off,k=>by
  show T.dj v c off (fun c'=>wrL l c' (off+1) k)=k (gw l (T.set v c off) (off+1));rw[T.bh,Qr]
def jH(arr:Array Value)(off:Nat):List Value->Array Value
 |[]=>arr
 |v::vs=>jH (arr.setIfInBounds off v) (off+1) vs
@[simp] theorem CI(vs:List Value):∀(arr:Array Value)(off:Nat),(jH arr off vs).size=arr.size:=by
  induction vs with
  |nil=>intros;rfl
  |cons v vs ih=>intro arr off;rw[jH,ih];simp
theorem rF:∀(vs:List Value)(arr:Array Value)(off j:Nat),off<=j->j<off+vs.length->j<arr.size->(jH arr off vs).getD j undef=vs.getD (j-off) undef
 |[],arr,off,j,h1,h2,_=>by simp at h2;omega
 |v::vs,arr,off,j,h1,h2,h3=>by
  rw[jH];by_cases e:j=off
  ·subst e
   have aux:∀(vs:List Value)(arr:Array Value)(o:Nat),j<o->(jH arr o vs).getD j undef=arr.getD j undef:=by
    intro vs;induction vs with
    |nil=>intro arr o _;rfl
    |cons u vs ih=>intro arr o ho;rw[jH,ih _ _ (by omega)];simp[j9 (show o≠j by omega)]
   rw[aux vs _ _ (by omega)];simp[h3]
  ·rw[rF vs _ (off+1) j (by omega) (by simp at h2;omega) (by simpa using h3)]
   have:j-off=(j-(off+1))+1:=by omega
   rw[this];simp
theorem rG:∀(vs:List Value)(arr:Array Value)(off j:Nat),j<off∨off+vs.length<=j->(jH arr off vs).getD j undef=arr.getD j undef
 |[],_,_,_,_=>rfl
 |v::vs,arr,off,j,h=>by
  rw[jH,rG vs _ (off+1) j (by simp at h;omega)];simp[j9 (show off≠j by simp at h;omega)]
theorem aP.nth{vs:List Value}(r:aP E l vs)(i:Nat):Rv E (cV l i) (vs.getD i undef):=by
 have hl:=r.length;rw[ff];by_cases h:i<l.length
 ·obtain⟨v,h1,h2⟩:=r.get i l[i] (cN h)
  rw[cB,cB,cN h,h1];exact h2
 ·rw[cB,List.getElem?_eq_none (by omega)]
  simp[Rv]
theorem DZ{base:Nat}(l:List AV)(vs:List Value)(c:Cs)(arr:Array Value)(off:Nat)(hl:aP E l vs)(cC:base+n<=arr.size)
  (hc:∀j,j<n->Rv E (c.get j) (arr.getD (base+j) undef)):∀j,j<n->Rv E ((fu l c off).get j) ((jH arr (base+off) vs).getD (base+j) undef):=by
 intro j hj;have hlen:=hl.length;by_cases vg:off<=j∧j<off+l.length
 ·obtain⟨i,rfl⟩:∃i,j=off+i:=⟨j-off,by omega⟩
  rcases LZ (l:=l) (c:=c) (off:=off) (i:=i) (by omega) with e|e<;>rw[e]
  ·rw[rF _ _ _ _ (by omega) (by omega) (by omega),show base+(off+i)-(base+off)=i by omega]
   exact hl.nth i
  ·simp[Rv]
 ·rw[Gq (by omega),rG _ _ _ _ (by omega)]
  exact hc j hj
theorem L0{base n:Nat}:∀(l:List AV)(vs:List Value)(c:T AV)(arr:Array Value)(off:Nat),aP E l vs->base+n<=arr.size->
  (∀j,j<n->Rv E (T.get .no c j) (arr.getD (base+j) undef))->
  ∀j,j<n->Rv E (T.get .no (gw l c off) j) ((jH arr (base+off) vs).getD (base+j) undef)
 |[],_,c,arr,off,hl,_,hc=>by
  rw[aP] at hl;subst hl;exact hc
 |v::l,_,c,arr,off,hl,cC,hc=>by
  rw[aP] at hl;obtain⟨V,vs,rfl,hv,hl⟩:=hl;refine L0 l vs (T.set v c off) (arr.setIfInBounds (base+off) V) (off+1) hl (by simpa using cC) ?_;intro j hj;by_cases hjo:j=off
  ·subst hjo
   have cL:base+j<arr.size:=by omega
   rcases T.bd AV.no v c j with e|e<;>rw[e]
   ·simpa[cL] using hv
   ·simp[Rv]
  ·rw[T.ay _ _ _ _ _ hjo]
   have:(arr.setIfInBounds (base+off) V).getD (base+j) undef=arr.getD (base+j) undef:=by
    simp[j9 (show base+off≠base+j by omega)]
   rw[this];exact hc j hj
theorem setCell_eq(hb:w.heap[L.aH]? =some (.cells arr el (0,0)))(off:Nat)(V:Value):
  w.setCell ⟨L.aH,off,none⟩ V={w with heap:=w.heap.setIfInBounds L.aH (.cells (arr.setIfInBounds off V) el (0,0))}:=by
 have cL:L.aH<w.heap.size:=by
  rcases gC L.aH w.heap.size with hh|hh
  ·exact hh
  ·rw[Array.getElem?_eq_none hh] at hb;cases hb
 have he:w.heap[L.aH]=.cells arr el (0,0):=by
  have:=Array.getElem?_eq_getElem cL;rw[this] at hb;exact mL hb
 unfold World.setCell;congr 1;apply Array.ext_getElem?;intro i;rw[Array.getElem?_modify,Array.getElem?_setIfInBounds];show(if L.aH=i then _ else _)=_;by_cases e:L.aH=i
 ·subst e;simp[he,cL]
 ·rw[if_neg e,if_neg e]
theorem eD(P:Program){L:aZ}{el:TypeId}(off:Nat):∀(vs:List Value)(i:Nat)(w:World)(arr:Array Value),
  w.heap[L.aH]? =some (.cells arr el (0,0))->off+i+vs.length<=arr.size->(∀v∈vs,v.oneCell'=true)->
  (storeCells ⟨L.aH,off,none⟩ vs i).run P w=.ok () {w with heap:=w.heap.setIfInBounds L.aH (.cells (jH arr (off+i) vs) el (0,0))}
 |[],i,w,arr,hb,_,_=>by
  have cL:L.aH<w.heap.size:=by
   rcases gC L.aH w.heap.size with hh|hh
   ·exact hh
   ·rw[Array.getElem?_eq_none hh] at hb;cases hb
  have:w.heap.setIfInBounds L.aH (.cells arr el (0,0))=w.heap:=by
   apply Array.ext
   ·simp
   ·intro j h1 h2
    rw[Array.getElem_setIfInBounds];split
    ·rename_i e;subst e;have:=Array.getElem?_eq_getElem cL;rw[this] at hb;exact(mL hb).symm
    ·rfl
  simp[storeCells,jH,this]
 |v::vs,i,w,arr,hb,cC,hv=>by
  have cL:L.aH<w.heap.size:=by
   rcases gC L.aH w.heap.size with hh|hh
   ·exact hh
   ·rw[Array.getElem?_eq_none hh] at hb;cases hb
  rw[storeCells,Sem.run_bind,eC,run_store P w _ _ _ (hv v (by simp)),cell_of hb (by simp at cC;omega),wN hb];simp only[ftQ,if_false,Result.andThen_ok];rw[setCell_eq hb];rw[eD P (el:=el) off vs (i+1) _ (arr.setIfInBounds (off+i) v) (by simp[cL]) (by simp at cC⊢;omega) (fun u hu=>hv u (by simp[hu]))];simp[jH,Nat.add_assoc]
theorem zH(hh:(T.get .gone h 0).live=true):bM h=0:=by
 unfold bM;cases e:T.get AO.gone h 0<;>rw[e] at hh<;>first|rfl|cases hh
theorem Gs(hh:T.get .gone h 0=.gone):bM h=0:=by
 unfold bM;rw[hh]
theorem pJ{o:AO}(h0:id=0->(T.get .gone h 0).live=true∧o.live=true):bM (T.set o h id)=bM h:=by
 by_cases e:0=id
 ·obtain⟨h1,h2⟩:=h0 e.symm
  subst e;rw[zH h1];rcases T.bd AO.gone o h 0 with g|g
  ·exact zH (by rw[g];exact h2)
  ·exact Gs g
 ·unfold bM;rw[T.ay _ _ _ _ _ e]
def jO(h:Heap)(id:Nat)(b:Bool):Bool:=match T.get .gone h 0 with
 |.floor n=>bc (Nat.ble n id) b false
 |_=>b
theorem gU{b:Bool}(he:jO h id b=true):bM h<=id∧b=true:=by
 unfold jO at he;unfold bM;split at he
 ·rename_i n hn
  obtain⟨h1,h2⟩:=aa he;try rw[hn]
  exact⟨aU h1,h2⟩
 ·rename_i hn
  refine⟨?_,he⟩;cases hh:T.get AO.gone h 0<;>first|exact nzQ _|exact absurd hh (hn _)
theorem HR.write(hr:HR E h aq w){c':Cs}(hc:T.get .gone h id=.cells n gB c){arr':Array Value}(hL:E id=some L)
  (hb:w.heap[L.aH]? =some (.cells arr el (0,0))) (cC:arr'.size=arr.size) (dz:∀j,j<n->Rv E (c'.get j) (arr'.getD (L.base+j) undef)) (jI:bM h<=id):
  HR E (T.set (.cells n gB c') h id) aq {w with heap:=w.heap.setIfInBounds L.aH (.cells arr' el (0,0))}∧
  bk E h w E (T.set (.cells n gB c') h id) {w with heap:=w.heap.setIfInBounds L.aH (.cells arr' el (0,0))}:=by
 have bD:(T.get .gone h id).live=true:=by rw[hc];rfl
 have cL:=hr.kT id L hL;have aV:∀i,(T.get AO.gone (T.set (.cells n gB c') h id) i).live=true->(T.get .gone h i).live=true:=by
  intro i hi;by_cases e:i=id
  ·rw[e];exact bD
  ·rwa [T.ay _ _ _ _ _ e] at hi
 obtain⟨L',arr0,el0,tY,gi,hs0,dU,_⟩:=hr.cells hc;obtain rfl:L=L':=mL (hL.symm.trans tY);rw[hb] at gi;obtain⟨rfl,rfl⟩:arr=arr0∧el=el0:=by simpa using gi
 have dX:bM (T.set (.cells n gB c') h id)=bM h:=pJ fun e=>by subst e;exact⟨bD,rfl⟩
 refine⟨⟨fun i=>?_,fun i j A B hi hj=>hr.inj i j A B (aV i hi) (aV j hj),fun i hi=>?_,hr.fresh,fun i M hM=>by simpa using hr.kT i M hM,hr.pos,by rw[dX];exact hr.kU,by cases hl:(T.get AO.gone (T.set (.cells n gB c') h id) 0).live with|false=>rfl|true=>(have:=aV 0 hl;rw[hr.zero] at this;cases this)⟩,
  Env.le_refl _,by simp,fun k hk hn=>?_,fun k hk⟨i,M,Qs,hi,hM,lA⟩=>⟨i,M,by rw[←dX];exact Qs,aV i hi,hM,lA⟩,dX,
  fun i hi=>T.ay _ _ _ _ _ (by omega),rfl,rfl,rfl⟩
 ·by_cases e:i=id
  ·subst e
   rcases T.bd AO.gone (.cells n gB c') h i with g|g<;>rw[g]
   ·exact⟨L,arr',el,hL,by simp[cL],by omega,by rw[cC];exact dU,dz⟩
   ·trivial
  ·rw[T.ay _ _ _ _ _ e]
   have im:=hr.obj i;cases ho:T.get AO.gone h i<;>rw[ho] at im
   case gone=>trivial
   case floor=>trivial
   case facts=>exact im
   case ali=>exact im
   all_goals
    have cR:∀M,E i=some M->L.aH≠M.aH:=fun M hM hbe=>e (hr.inj i id M L (by rw[ho];rfl) bD hM hL hbe.symm)
   case cells=>
    obtain⟨M,ar,e',h1,h2,h3⟩:=im;exact⟨M,ar,e',h1,by simp only[j9 (cR M h1)];exact h2,h3⟩
   case map=>
    obtain⟨M,ms,h1,h2,h3⟩:=im;exact⟨M,ms,h1,by simp only[j9 (cR M h1)];exact h2,h3⟩
   case siter=>
    obtain⟨M,h1,h2,h3⟩:=im;exact⟨M,h1,h2,by simp only[j9 (cR M h1)];exact h3⟩
   case glob=>
    obtain⟨M,ar,e',fr,h1,h2,h3,h4,h5⟩:=im;exact⟨M,ar,e',fr,h1,h2,by simp only[j9 (cR M h1)];exact h3,h4,h5⟩
   case rows=>
    obtain⟨M,ar,n9,h1,gi,h2,h3⟩:=im;exact⟨M,ar,n9,h1,gi,by simp only[j9 (cR M h1)];exact h2,h3⟩
   case blob=>
    obtain⟨M,ar,n9,h1,gi,h2,h3⟩:=im;exact⟨M,ar,n9,h1,gi,by simp only[j9 (cR M h1)];exact h2,h3⟩
 ·cases hl:(T.get AO.gone (T.set (.cells n gB c') h id) i).live with
  |false=>rfl
  |true=>have:=aV i hl;rw[hr.lt i hi] at this;cases this
 ·simp only[Array.getElem?_setIfInBounds]
  split
  ·rename_i lA;exact absurd ⟨id,L,jI,bD,hL,lA⟩ hn
  ·rfl
def vh(l:List AV)(n:Nat):Bool:=Nat.beq (List.rec (motive:=fun _=>Nat) 0 (fun _ _ ih=>Nat.succ ih) l) n
theorem zI(h:vh l n=true):l.length=n:=by
 have:List.rec (motive:=fun _=>Nat) 0 (fun _ _ ih=>Nat.succ ih) l=l.length:=by
  clear h;induction l with
  |nil=>rfl
  |cons a l ih=>rw[List.length_cons,←ih]
 unfold vh at h;rw[this] at h;exact aN h
def mC(P:Program)(t:TypeId)(x v:AV)(h:Heap)(k:Heap->Bool):Bool:=match x with
 |.p id off=>match T.get .gone h id with
  |.cells n gB c=>match P.info? t with
   |some i=>mY v fun l=>bc (vh l i.size) (bc (Nat.ble (off+i.size) n) (jO h id (N8 l c off fun c'=>T.dj (.cells n gB c') h id k)) false) false
   |none=>false
  |_=>false
 |_=>false
theorem aP.leaves:∀{vs:List Value},aP E l vs->cj l=true->∀v∈vs,v.oneCell'=true:=by
 induction l with
 |nil=>intro vs r _ v hv;rw[aP] at r;subst r;cases hv
 |cons a l ih=>
  intro vs r hl v hv;rw[aP] at r;obtain⟨V,tT,rfl,r1,r2⟩:=r;obtain⟨h1,h2⟩:=pI hl;rcases mcQ.1 hv with rfl|hv
  ·exact(bY h1 r1).1
  ·exact ih r2 h2 v hv
theorem Jl{k:Heap->Bool}(he:mC P t x v h k=true)(hx:Rv E x X)(hv:Rv E v V)(hr:HR E h aq w):
  ∃h' w',(Instr.storeAt t X V).run P w=.ok () w'∧HR E h' aq w'∧bk E h w E h' w'∧k h'=true:=by
 cases x<;>simp only[mC,ftQ] at he
 rename_i id off;rw[Rv] at hx;obtain⟨L,hL,rfl⟩:=hx;cases hc:T.get AO.gone h id<;>simp only[hc,ftQ] at he
 rename_i n gB c;obtain⟨L',arr,el,tY,hb,cC,_,dz⟩:=hr.cells hc;obtain rfl:L=L':=mL (hL.symm.trans tY);cases hi:P.info? t<;>simp only[hi,ftQ] at he
 rename_i i;obtain⟨l,hl,vi,he⟩:=sZ he hv;obtain⟨hlen,he⟩:=aa he;obtain⟨hle,he⟩:=aa he;have hlen:=zI hlen;have hle:off+i.size<=n:=aU hle;obtain⟨jI,he⟩:=gU he;rw[jn,T.bh] at he;have hvl:=hl.length;obtain⟨g1,g2⟩:=hr.write hc (c':=fu l c off) (arr':=jH arr (L.base+off) V.cells.toList) hL hb (by simp) (DZ l V.cells.toList c arr off hl cC dz) jI;refine⟨_,_,?_,g1,g2,he⟩;have qY:V.cells.size=i.size:=by rw[←hlen,←hvl];simp
 simp only[Instr.storeAt,Instr.sureAddr,Sem.run_bind,Sem.run_pure,Result.andThen_ok,storeVar,bG hi,qY,ne_eq,not_true_eq_false,if_false];have:=eD P (L:=L) (L.base+off) V.cells.toList 0 w arr hb (by simp;omega) (hl.leaves vi);simpa using this
def fc:T AV:=T.full .no 24
theorem Env.pK(hf:E aq=none)(L:aZ):E.le (fun i=>if i=aq then some L else E i):=by
 intro i M hM;by_cases e:i=aq
 ·subst e;rw[hf] at hM;cases hM
 ·simp[e,hM]
theorem HR.alloc(hr:HR E h aq w)(o:Obj)(hz:N7 o)(L:aZ)(hL:L.aH=w.heap.size)(a:AO)
  (ha:RO (fun i=>if i=aq then some L else E i) {w with heap:=w.heap.push o} aq a):
  HR (fun i=>if i=aq then some L else E i) (T.set a h aq) (aq+1) {w with heap:=w.heap.push o}∧
  bk E h w (fun i=>if i=aq then some L else E i) (T.set a h aq) {w with heap:=w.heap.push o}:=by
 have hle:=Env.pK (hr.fresh aq (nrQ _)) L;have old:∀i M,i≠aq->(if i=aq then some L else E i)=some M->E i=some M:=fun i M e hM=>by simpa[e] using hM
 have aV:∀i,i≠aq->(T.get AO.gone (T.set a h aq) i)=T.get .gone h i:=fun i e=>T.ay _ _ _ _ _ e
 have hp:=hr.pos;have jI:=hr.kU;have dX:bM (T.set a h aq)=bM h:=pJ fun e=>by omega
 refine⟨⟨fun i=>?_,fun i j A B hi hj hA hB N9=>?_,fun i hi=>?_,fun i hi=>?_,fun i M hM=>?_,by omega,by rw[dX];omega,by rw[aV 0 (by omega)];exact hr.zero⟩,
  hle,by simp,fun k hk _=>?_,fun k hk hf=>?_,dX,fun i hi=>T.ay _ _ _ _ _ (by omega),rfl,rfl,rfl⟩
 ·by_cases e:i=aq
  ·subst e
   rcases T.bd AO.gone a h i with g|g<;>rw[g]
   ·exact ha
   ·trivial
  ·rw[aV i e]
   have im:=hr.obj i;have s4:∀(M:aZ)(x:Obj),w.heap[M.aH]? =some x->(w.heap.push o)[M.aH]? =some x:=by
    intro M x hx;have:M.aH<w.heap.size:=by
     rcases gC M.aH w.heap.size with hh|hh
     ·exact hh
     ·rw[Array.getElem?_eq_none hh] at hx;cases hx
    rw[Array.getElem?_push,if_neg (by omega)];exact hx
   cases ho:T.get AO.gone h i<;>rw[ho] at im
   case gone=>trivial
   case floor=>trivial
   case facts=>exact fun p hp=>an hle _ _ (im p hp)
   case ali=>
    obtain⟨M9,M8,c9,h1,h2,h3,h4⟩:=im;exact⟨M9,M8,c9,hle _ _ h1,hle _ _ h2,an hle _ _ h3,h4⟩
   case cells=>
    obtain⟨M,ar,e',h1,h2,h3,h4,h5⟩:=im;exact⟨M,ar,e',by simp[e,h1],s4 M _ h2,h3,h4,fun j hj=>(h5 j hj).mono hle⟩
   case map es ck=>
    obtain⟨M,ms,h1,h2,h3⟩:=im;have mono:∀(es:List FX)(ms:List MapEntry),j6 E es ms->j6 (fun i=>if i=aq then some L else E i) es ms:=by
     intro es;induction es with
     |nil=>intro ms r;exact r
     |cons x es ih=>intro ms ⟨m,y0,e1,⟨r1,r2,r3⟩,r4⟩;exact⟨m,y0,e1,⟨r1.mono hle,r2.mono hle,r3⟩,ih _ r4⟩
    exact⟨M,ms,by simp[e,h1],s4 M _ h2,mono _ _ h3⟩
   case siter=>
    obtain⟨M,h1,h2,h3⟩:=im;exact⟨M,by simp[e,h1],h2,s4 M _ h3⟩
   case glob=>
    obtain⟨M,ar,e',fr,h1,h2,h3,h4,h5⟩:=im;exact⟨M,ar,e',fr,by simp[e,h1],h2,s4 M _ h3,h4,(fun j hj=>(h5.1 j hj).mono hle),h5.2.wide hle⟩
   case rows=>
    obtain⟨M,ar,n9,h1,gi,h2,h3,h4⟩:=im;exact⟨M,ar,n9,by simp[e,h1],gi,s4 M _ h2,an hle _ _ h3,h4⟩
   case blob=>
    obtain⟨M,ar,n9,h1,gi,h2,h3,h4,h5,c0,h6,h7,h8,h9⟩:=im;exact⟨M,ar,n9,by simp[e,h1],gi,s4 M _ h2,an hle _ _ h3,h4,h5,c0,an hle _ _ h6,h7,h8,fun j a hj=>(h9 j a hj).mono hle⟩
 ·by_cases ei:i=aq
  ·by_cases ej:j=aq
   ·rw[ei,ej]
   ·subst ei
    have P0:A=L:=by simpa using hA.symm
    have:=hr.kT j B (old j B ej hB);subst P0;omega
  ·by_cases ej:j=aq
   ·subst ej
    have hB':B=L:=by simpa using hB.symm
    have:=hr.kT i A (old i A ei hA);subst hB';omega
   ·rw[aV i ei] at hi
    rw[aV j ej] at hj;exact hr.inj i j A B hi hj (old i A ei hA) (old j B ej hB) N9
 ·have e:i≠aq:=by omega
  rw[aV i e];exact hr.lt i (by omega)
 ·have e:i≠aq:=by omega
  simp only[e,if_false];exact hr.fresh i (by omega)
 ·by_cases e:i=aq
  ·subst e
   have:M=L:=by simpa using hM.symm
   subst this;simp;omega
  ·have:=hr.kT i M (old i M e hM);simp;omega
 ·show(w.heap.push o)[k]? =w.heap[k]?
  rw[Array.getElem?_push,if_neg (by omega)]
 ·obtain⟨i,M,Qs,hi,hM,rfl⟩:=hf
  by_cases e:i=aq
  ·subst e
   have:M=L:=by simpa using hM.symm
   subst this;omega
  ·rw[aV i e] at hi
   exact⟨i,M,by rw[←dX];exact Qs,hi,old i M e hM,rfl⟩
def gV(wd:Nat)(l:List AV)(n:Nat)(gB:nV)(h:Heap)(aq:Nat)(k:Heap->Nat->Bool):Bool:=
 N8 l ⟨wd,fZ⟩ 0 fun c=>T.dj (.cells n gB c) h aq fun h'=>aM (Nat.succ aq) fun m=>k h' m
theorem zJ(l:List AV)(vs:List Value)(hl:aP E l vs)(j:Nat)(hj:j<l.length):Rv E (T.get .no (gw l fc 0) j) (vs.getD j undef):=by
 have hv:=hl.length;have:=L0 (base:=0) (n:=l.length) l vs fc (Array.replicate l.length undef) 0 hl (by simp) (fun i _=>by rw[fc,T.mV];simp[Rv]) j hj;rw[Nat.zero_add,Nat.zero_add,rF _ _ _ _ (by omega) (by omega) (by simpa using hj)] at this;simpa using this
theorem ef(wd:Nat)(l:List AV)(vs:List Value)(hl:aP E l vs)(j:Nat)(hj:j<l.length):Rv E ((fu l ⟨wd,fZ⟩ 0).get j) (vs.getD j undef):=by
 rcases LZ (l:=l) (c:=⟨wd,fZ⟩) (off:=0) (i:=j) hj with e|e<;>rw[Nat.zero_add] at e<;>rw[e]
 ·exact hl.nth j
 ·simp[Rv]
theorem jP{wd:Nat}{room:Nat}{k:Heap->Nat->Bool}(hk:gV wd l n gB h aq k=true)(hr:HR E h aq w){cells:Array Value}
  (hn:n<=l.length) (hl:∃vs,aP E l vs∧(∀j,j<n->vs.getD j undef=cells.getD j undef)) (cC:n<=cells.size) (hz:gB.ok ⟨w.heap.size,0,room⟩ el cells.size n):
  ∃h' E',E' aq=some ⟨w.heap.size,0,room⟩∧HR E' h' (aq+1) {w with heap:=w.heap.push (.cells cells el (0,0))}∧
   bk E h w E' h' {w with heap:=w.heap.push (.cells cells el (0,0))}∧k h' (aq+1)=true:=by
 unfold gV at hk;rw[jn,T.bh,aC] at hk;obtain⟨vs,hl,qY⟩:=hl;have hle:=Env.pK (hr.fresh aq (nrQ _)) ⟨w.heap.size,0,room⟩
 obtain⟨g1,g2⟩:=hr.alloc (.cells cells el (0,0)) (kV _ _) ⟨w.heap.size,0,room⟩ rfl (.cells n gB (fu l ⟨wd,fZ⟩ 0))
  ⟨⟨w.heap.size,0,room⟩,cells,el,by simp,by simp,by simpa using cC,hz,fun j hj=>by
    have:=(ef wd l vs hl j (by omega)).mono hle;rw[qY j hj] at this;simpa using this⟩
 exact⟨_,_,by simp,g1,g2,hk⟩
end
section
variable{E:Env}{h:Heap}{aq:Nat}{w:World}
theorem aP.drop:∀(n:Nat){as0:List AV}{vs:List Value},aP E as0 vs->aP E (as0.drop n) (vs.drop n)
 |0,_,_,r=>r
 |n+1,[],_,r=>by rw[aP] at r;subst r;simpa using aP.nil
 |n+1,_::_,_,r=>by
  rw[aP] at r;obtain⟨_,_,rfl,_,r⟩:=r;simpa using aP.drop n r
theorem aP.take:∀(n:Nat){as0:List AV}{vs:List Value},aP E as0 vs->aP E (as0.take n) (vs.take n)
 |0,_,_,_=>by simpa using aP.nil
 |n+1,[],_,r=>by rw[aP] at r;subst r;simpa using aP.nil
 |n+1,_::_,_,r=>by
  rw[aP] at r;obtain⟨_,_,rfl,h,r⟩:=r;exact .cons h (aP.take n r)
def ke(l:List AV)(k:List AV->Bool):Bool:=
 List.rec (motive:=fun _=>(List AV->Bool)->Bool) (fun k=>k []) (fun v _ ih k=>force v fun v=>ih fun t=>k (v::t)) l k
theorem kX:∀(l:List AV)(k:List AV->Bool),ke l k=k l
 |[],_=>rfl
 |v::l,k=>by
  show force v (fun v=>ke l fun t=>k (v::t))=_;rw[force_eq,kX]
def iE(P:Program)(s:TypeId)(x:AV)(f:Nat)(k:AV->Bool):Bool:=match x with
 |.p id off=>match P.underlying s with
  |some (.struct fs)=>match fs[f]? with
   |some uG=>match P.info? uG.type with
    |some i=>bc (Nat.ble 1 i.size) (aM (Nat.add off uG.offset) fun o=>k (.p id o)) false
    |none=>false
   |none=>false
  |_=>false
 |.pg id off=>match P.underlying s with
  |some (.struct fs)=>match fs[f]? with
   |some uG=>match P.info? uG.type with
    |some i=>bc (Nat.ble 1 i.size) (aM (Nat.add off uG.offset) fun o=>k (.pg id o)) false
    |none=>false
   |none=>false
  |_=>false
 |_=>false
theorem zK{s:TypeId}(he:iE P s x f k=true)(hx:Rv E x X):
  ∃v W,(Instr.fieldAt s X f).run P w=.ok W w∧Rv E v W∧k v=true:=by
 unfold iE at he;split at he<;>try (cases he;done)
 ·rename_i id off
  rw[Rv] at hx;obtain⟨L,hL,rfl⟩:=hx;split at he<;>try (cases he;done)
  rename_i fs hu;split at he<;>try (cases he;done)
  rename_i uG hf;split at he<;>try (cases he;done)
  rename_i i hi;obtain⟨h1,h2⟩:=aa he;have h1:=aU h1;rw[aC] at h2;refine⟨_,.pointer (some ⟨L.aH,L.base+(off+uG.offset),none⟩),?_,by rw[Rv];exact⟨L,hL,rfl⟩,h2⟩;have:i.size≠0:=by omega
  simp[Instr.fieldAt,Instr.sureAddr,ai hu,hf,fieldPlace,bG hi,this,eC,Nat.add_assoc]
 ·rename_i id off
  rw[Rv] at hx;subst hx;split at he<;>try (cases he;done)
  rename_i fs hu;split at he<;>try (cases he;done)
  rename_i uG hf;split at he<;>try (cases he;done)
  rename_i i hi;obtain⟨h1,h2⟩:=aa he;have h1:=aU h1;rw[aC] at h2;refine⟨_,.pointer (some ⟨id,off+uG.offset,none⟩),?_,by rw[Rv];rfl,h2⟩;have:i.size≠0:=by omega
  simp[Instr.fieldAt,Instr.sureAddr,ai hu,hf,fieldPlace,bG hi,this,eC,Nat.add_assoc]
def yd(n:Int)(k:Nat->Bool):Bool:=Int.rec (motive:=fun _=>Bool) (fun m=>k m) (fun _=>false) n
theorem vj{n:Int}{k:Nat->Bool}(h:yd n k=true):∃m:Nat,n=(m:Int)∧k m=true:=by
 cases n with
 |ofNat m=>exact⟨m,rfl,h⟩
 |negSucc m=>cases h
def iF(P:Program)(t:TypeId)(x ix:AV)(k:AV->Bool):Bool:=match ix with
 |.i _ n=>yd n fun m=>match P.underlying t with
  |some (.slice el)=>match P.info? el with
   |some i=>match x with
    |.sl id off len _=>bc (Nat.ble (m+1) len) (aM (Nat.add off (Nat.mul m i.size)) fun o=>k (.p id o)) false
    |.so id off len _=>bc (Nat.ble (m+1) len) (aM (Nat.add off (Nat.mul m i.size)) fun o=>k (.p id o)) false
    |.sx id low _ _=>bc (Nat.ble (m+1) low) (aM (Nat.mul m i.size) fun o=>k (.p id o)) false
    |_=>false
   |none=>false
  |some (.array len el)=>match P.info? el with
   |some i=>match x with
    |.p id off=>bc (Nat.ble (m+1) len) (aM (Nat.add off (Nat.mul m i.size)) fun o=>k (.p id o)) false
    |.pg id off=>bc (Nat.ble (m+1) len) (aM (Nat.add off (Nat.mul m i.size)) fun o=>k (.pg id o)) false
    |_=>false
   |none=>false
  |_=>false
 |_=>false
theorem zL(he:iF P t x ix k=true)(hx:Rv E x X)(hI:Rv E ix I):
  ∃v W,(Instr.indexAt t X I).run P w=.ok W w∧Rv E v W∧k v=true:=by
 unfold iF at he;split at he<;>try (cases he;done)
 rename_i kk n;rw[Rv] at hI;subst hI;obtain⟨m,rfl,he⟩:=vj he;split at he<;>try (cases he;done)
 ·rename_i el hu
  split at he<;>try (cases he;done)
  rename_i i hi;split at he<;>try (cases he;done)
  ·rename_i id off len cap _
   obtain⟨h1,h2⟩:=aa he;have h1:=aU h1;rw[aC] at h2;rw[Rv] at hx;obtain⟨L,hL,rfl⟩:=hx;refine⟨_,.pointer (some ⟨L.aH,L.base+(off+m*i.size),none⟩),?_,by rw[Rv];exact⟨L,hL,rfl⟩,h2⟩;have g2:m<len:=by omega
   simp[Instr.indexAt,asIntOf,ai hu,g2,bG hi,eC,Nat.add_assoc]
  ·rename_i id off len used _
   obtain⟨h1,h2⟩:=aa he;have h1:=aU h1;rw[aC] at h2;rw[Rv] at hx;obtain⟨L,hL,rfl,_⟩:=hx;refine⟨_,.pointer (some ⟨L.aH,L.base+(off+m*i.size),none⟩),?_,by rw[Rv];exact⟨L,hL,rfl⟩,h2⟩;have g2:m<len:=by omega
   simp[Instr.indexAt,asIntOf,ai hu,g2,bG hi,eC,Nat.add_assoc]
  ·rename_i id low _ _ _
   obtain⟨h1,h2⟩:=aa he;have h1:=aU h1;rw[aC] at h2;rw[Rv] at hx;obtain⟨L,n,c,hL,_,_,hn,_,rfl⟩:=hx;refine⟨_,.pointer (some ⟨L.aH,L.base+m*i.size,none⟩),?_,by rw[Rv];exact⟨L,hL,rfl⟩,h2⟩;have g2:m<n:=by omega
   simp[Instr.indexAt,asIntOf,ai hu,g2,bG hi,eC,Nat.add_assoc]
 ·rename_i len el hu
  split at he<;>try (cases he;done)
  rename_i i hi;split at he<;>try (cases he;done)
  ·rename_i id off _
   obtain⟨h1,h2⟩:=aa he;have h1:=aU h1;rw[aC] at h2;rw[Rv] at hx;obtain⟨L,hL,rfl⟩:=hx;refine⟨_,.pointer (some ⟨L.aH,L.base+(off+m*i.size),none⟩),?_,by rw[Rv];exact⟨L,hL,rfl⟩,h2⟩;have g2:m<len:=by omega
   simp[Instr.indexAt,asIntOf,ai hu,Instr.sureAddr,g2,bG hi,eC,Nat.add_assoc]
  ·rename_i id off _
   obtain⟨h1,h2⟩:=aa he;have h1:=aU h1;rw[aC] at h2;rw[Rv] at hx;subst hx;refine⟨_,.pointer (some ⟨id,off+m*i.size,none⟩),?_,by rw[Rv];rfl,h2⟩;have g2:m<len:=by omega
   simp[Instr.indexAt,asIntOf,ai hu,Instr.sureAddr,g2,bG hi,eC,Nat.add_assoc]
def uk(P:Program)(t:TypeId)(cs:List AV)(off:Nat)(k:AV->Bool):Bool:=match P.underlying t with
 |some d=>match P.info? t with
  |some i=>bc (uF d) (ke (List.take i.size (List.drop off cs)) fun l=>k (.ag l)) (match List.drop off cs with|v::_=>force v k|[]=>false)
  |none=>false
 |none=>false
theorem vk{cs:List AV}{vs:Array Value}(he:uk P t cs off k=true)(r:aP E cs vs.toList):
  ∃v W,(part t vs off).run P w=.ok W w∧Rv E v W∧k v=true:=by
 unfold uk at he;split at he<;>try (cases he;done)
 rename_i d hu;split at he<;>try (cases he;done)
 rename_i i hi;unfold part;simp only[Sem.run_bind,mW hu,Result.andThen_ok];rcases aR he with⟨ha,he⟩|⟨ha,he⟩
 ·rw[kX] at he
  refine⟨_,.agg (vs.extract off (off+i.size)),?_,?_,he⟩
  ·simp[ha,bG hi]
  ·rw[Rv]
   refine⟨(vs.toList.drop off).take i.size,?_,(r.drop off).take _⟩;congr 1;apply Array.ext';simp[List.take_drop]
 ·simp only[ha,ftQ,if_false]
  split at he<;>try (cases he;done)
  rename_i v rest hd;rw[force_eq] at he;have hg:cs[off]? =some v:=by
   have:=congrArg (fun l=>l[0]?) hd;simpa using this
  obtain⟨V,hV,hr⟩:=r.get off v hg;have:vs[off]? =some V:=by simpa using hV
  exact⟨v,V,by simp[this],hr,he⟩
def pL(P:Program)(t:TypeId)(x:AV)(f:Nat)(k:AV->Bool):Bool:=match x with
 |.ag cs=>match P.underlying t with
  |some (.struct fs)=>match fs[f]? with
   |some uG=>uk P uG.type cs uG.offset k
   |none=>false
  |_=>false
 |_=>false
theorem Jm(he:pL P t x f k=true)(hx:Rv E x X):
  ∃v W,(Instr.field t X f).run P w=.ok W w∧Rv E v W∧k v=true:=by
 unfold pL at he;split at he<;>try (cases he;done)
 rename_i cs;split at he<;>try (cases he;done)
 rename_i fs hu;split at he<;>try (cases he;done)
 rename_i uG hf;rw[Rv] at hx;obtain⟨vs,rfl,r⟩:=hx;obtain⟨v,W,h1,h2,h3⟩:=vk (w:=w) (vs:=vs.toArray) he (by simpa using r);exact⟨v,W,by simp[Instr.field,ai hu,hf,asAgg,h1],h2,h3⟩
def oc(P:Program)(t:TypeId)(x ix:AV)(k:AV->Bool):Bool:=match ix with
 |.i _ n=>yd n fun m=>match P.underlying t with
  |some (.array len el)=>match P.info? el with
   |some i=>match x with
    |.ag cs=>bc (Nat.ble (m+1) len) (uk P el cs (Nat.mul m i.size) k) false
    |_=>false
   |none=>false
  |some .string=>match x with
   |.s len bits=>bc (Nat.ble (m+1) len) (aM (Nat.mod (Nat.div bits (Nat.pow 256 m)) 256) fun b=>k (.i .u8 (.ofNat b))) false
   |_=>false
  |_=>false
 |_=>false
theorem VA(l n m:Nat)(h:m<l):(str l n)[m]? =some (UInt8.ofNat (n/256 ^ m%256)):=by
 have h1:=Je l n m h;have h2:(str l n)[m]? =(str l n).data.toList[m]?:=by
  have hs:m<(str l n).size:=by simpa using h
  rw[getElem?_pos (str l n) m hs];have:m<(str l n).data.size:=hs;simp only[Array.getElem?_toList,Array.getElem?_eq_getElem this];rfl
 rw[h2,ek,h1]
theorem Jn(he:oc P t x ix k=true)(hx:Rv E x X)(hI:Rv E ix I):
  ∃v W,(Instr.index t X I).run P w=.ok W w∧Rv E v W∧k v=true:=by
 unfold oc at he;split at he<;>try (cases he;done)
 rename_i kk n;rw[Rv] at hI;subst hI;obtain⟨m,rfl,he⟩:=vj he;split at he<;>try (cases he;done)
 ·rename_i len el hu
  split at he<;>try (cases he;done)
  rename_i i hi;split at he<;>try (cases he;done)
  rename_i cs _;obtain⟨h1,h2⟩:=aa he;have h1:=aU h1;rw[Rv] at hx;obtain⟨vs,rfl,r⟩:=hx;obtain⟨v,W,g1,g2,g3⟩:=vk (w:=w) (vs:=vs.toArray) h2 (by simpa using r);have gl:m<len:=by omega
  have g1:(part el vs.toArray (m*i.size)).run P w=.ok W w:=g1;exact⟨v,W,by simp[Instr.index,asIntOf,ai hu,gl,bG hi,g1],g2,g3⟩
 ·rename_i hu
  split at he<;>try (cases he;done)
  rename_i len bits _;obtain⟨h1,h2⟩:=aa he;have h1:=aU h1;rw[aC] at h2;rw[Rv] at hx;subst hx;refine⟨_,.int .u8 ((bits/256 ^ m%256:Nat):Int),?_,by rw[Rv];rfl,h2⟩;have g2:((UInt8.ofNat (bits/256 ^ m%256)).toNat:Int)=((bits/256 ^ m%256:Nat):Int):=by
   rw[UInt8.toNat_ofNat',Nat.mod_mod_of_dvd _ (by decide)]
  have g3:(str len bits)[m]? =some (UInt8.ofNat (bits/256 ^ m%256)):=VA len bits m (by omega);simp only[Instr.index,asIntOf,Sem.run_bind,Sem.run_pure,Result.andThen_ok,ai hu,Int.natCast_nonneg,if_true,Int.toNat_natCast,g3,g2]
theorem Gt(l n a b:Nat)(h1:a<=b)(h2:b<=l):(str l n).extract a b=str (b-a) (n/256 ^ a):=by
 have:((str l n).extract a b).data.toList=(str (b-a) (n/256 ^ a)).data.toList:=by
  have e:((str l n).extract a b).data=(str l n).data.extract a b:=by simp[ByteArray.data_extract]
  rw[e,Array.toList_extract,ek,ek,List.extract_eq_take_drop,yb,Gd];omega
 have h:=Array.ext' this;cases hx:(str l n).extract a b
 rw[hx] at h;simp only at h;rw[h]
def bnd(x:Option AV)(d:Nat)(k:Nat->Bool):Bool:=match x with
 |none=>k d
 |some (.i _ n)=>yd n k
 |_=>false
def Rvo(E:Env):Option AV->Option Value->Prop
 |none,V=>V=none
 |some a,V=>∃W,V=some W∧Rv E a W
theorem kh(P:Program)(kk:IntKind)(m y:Nat)(code:BoundsCode)(hm:m<=y):(Instr.sliceBound (.int kk (m:Int)) y code).run P w=.ok m w:=by
 have:(m:Int)<=y:=by omega
 simp[Instr.sliceBound,asIntOf,this]
theorem Jr{x:Option AV}{V:Option Value}{d:Nat}{k:Nat->Bool}(he:bnd x d k=true)(r:Rvo E x V):
  (V=none∧k d=true)∨∃(kk:IntKind)(m:Nat),V=some (.int kk (m:Int))∧k m=true:=by
 unfold bnd at he;split at he
 ·exact .inl ⟨r,he⟩
 ·rename_i kk n
  obtain⟨W,rfl,r⟩:=r;rw[Rv] at r;subst r;obtain⟨m,rfl,hk⟩:=vj he;exact .inr ⟨kk,m,rfl,hk⟩
 ·cases he
theorem VB(P:Program){isS:Bool}{len cap:Nat}{lo hi:Option AV}{LO HI:Option Value}{k:Nat->Nat->Bool}(rl:Rvo E lo LO)(rh:Rvo E hi HI)(hlen:len<=cap){lim:Nat}(hlim:lim<=cap)
  (he:bnd hi len (fun m=>bnd lo 0 fun l=>bc (Nat.ble l m) (bc (Nat.ble m lim) (k l m) false) false)=true):
  ∃l m,(Instr.sliceBounds isS len cap LO HI none).run P w=.ok (l,m,cap) w∧l<=m∧m<=lim∧k l m=true:=by
 rcases Jr he rh with⟨rfl,he⟩|⟨kk,m,rfl,he⟩
 ·rcases Jr he rl with⟨rfl,he⟩|⟨kl,l,rfl,he⟩
  ·obtain⟨h1,he⟩:=aa he
   obtain⟨h2,he⟩:=aa he;exact⟨0,len,by simp[Instr.sliceBounds],nzQ _,aU h2,he⟩
  ·obtain⟨h1,he⟩:=aa he
   obtain⟨h2,he⟩:=aa he;have h1:=aU h1;exact⟨l,len,by simp[Instr.sliceBounds,kh P kl l len _ h1],h1,aU h2,he⟩
 ·rcases Jr he rl with⟨rfl,he⟩|⟨kl,l,rfl,he⟩
  ·obtain⟨h1,he⟩:=aa he
   obtain⟨h2,he⟩:=aa he;have h2:=aU h2;exact⟨0,m,by simp[Instr.sliceBounds,kh P kk m cap _ (Nat.le_trans h2 hlim)],nzQ _,h2,he⟩
  ·obtain⟨h1,he⟩:=aa he
   obtain⟨h2,he⟩:=aa he;have h1:=aU h1;have h2:=aU h2;exact⟨l,m,by simp[Instr.sliceBounds,kh P kk m cap _ (Nat.le_trans h2 hlim),kh P kl l m _ h1],h1,h2,he⟩
end
end
end Go.Proofs.YtngagklmbbogiaaGreatDoor.Vx
