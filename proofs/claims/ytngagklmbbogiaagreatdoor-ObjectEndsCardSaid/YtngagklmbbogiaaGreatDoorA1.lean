/- Parts of one proof (VxD to VxE). No condition. -/
import Derived.Test.YtngagklmbbogiaaGreatDoorA0
import Derived.Laws.StructEq
import Derived.Laws.FloatBits
set_option linter.all false
namespace Go.Proofs.YtngagklmbbogiaaGreatDoor.Vx
open Go
noncomputable section
variable{v y:AV}{op:BinOp}{r s:Bool}{E:Env}{h1:Heap}{A B c i n:Int}{k' kk:IntKind}{k:K}{m x:Nat}{P:Program}{a b e:SE}{d:TypeDesc}{t:TypeId}{V X Y:Value}{fs:aB}
section
variable{E:Env}{h:Heap}{aq:Nat}{w:World}
def rH(P:Program)(s:Sem Value)(E:Env)(h:Heap)(w:World)(k:K):Prop:=
 ∃v h' aL E' w' V,s.run P w=.ok V w'∧Rv E' v V∧HR E' h' aL w'∧bk E h w E' h' w'∧k v h' aL=true
theorem rH.same{s:Sem Value}(hr:HR E h aq w)(e:s.run P w=.ok V w)(r:Rv E v V)(hk:k v h aq=true):rH P s E h w k:=
 ⟨v,h,aq,E,w,V,e,r,hr,bk.refl _ _ _,hk⟩
def CJ(el:TypeId)(v:AV)(h:Heap)(aq:Nat)(k:K):Bool:=
 mY v fun l=>aM (List.length l) fun n=>gV n l n ⟨0,some el,true⟩ h aq (k (.p aq 0))
theorem Gu{el:TypeId}(he:CJ el v h aq k=true)(hv:Rv E v V)(hr:HR E h aq w):rH P (Instr.box el V) E h w k:=by
 obtain⟨l,hl,_,he⟩:=sZ he hv;rw[aC] at he;have hlen:=hl.length;obtain⟨h',E',e1,e2,e3,e4⟩:=jP (room:=0) (cells:=V.cells) (el:=el) he hr (nrQ _) ⟨_,hl,fun j _=>by simp⟩ (by simp at hlen;omega) (nV.gJ _ _ _ _ _);refine⟨_,h',_,E',_,.pointer (some ⟨w.heap.size,0,none⟩),?_,by rw[Rv];exact⟨_,e1,rfl⟩,e2,e3,e4⟩;simp[Instr.box,newVar,newRow]
def od(P:Program)(t:TypeId)(h:Heap)(aq:Nat)(k:K):Bool:=match P.info? t with
 |some i=>match i.zero with
  |some z=>CJ t (DV z) h aq k
  |none=>false
 |none=>false
theorem Js(he:od P t h aq k=true)(hr:HR E h aq w):rH P (Instr.alloc t true (.tuple #[])) E h w k:=by
 unfold od at he;split at he<;>try (cases he;done)
 rename_i i hi;split at he<;>try (cases he;done)
 rename_i z hz;obtain⟨v,h',aL,E',w',V,e1,e2⟩:=Gu (P:=P) (el:=t) he (vc E z) hr;refine⟨v,h',aL,E',w',V,?_,e2⟩;have:(Instr.alloc t true (.tuple #[])).run P w=(Instr.box t z).run P w:=by
  simp[Instr.alloc,Instr.box,dJ hi hz]
 rw[this];exact e1
theorem rI:∀(vs:List Value)(arr:Array Value)(off:Nat),off+vs.length<=arr.size->(jH arr off vs).toList=arr.toList.take off++(vs++arr.toList.drop (off+vs.length))
 |[],arr,off,_=>by simp[jH]
 |v::vs,arr,off,hn=>by
  simp only[List.length_cons] at hn;rw[jH,rI vs _ _ (by simp;omega),Array.toList_setIfInBounds];apply List.ext_getElem?;intro j;simp only[List.getElem?_append,List.length_take,List.length_set,Array.length_toList,List.length_cons,List.getElem?_take,List.getElem?_set,List.getElem?_drop];rcases Nat.lt_trichotomy j off with hj|hj|hj
  ·have h1:j<min (off+1) arr.size:=by omega
   have h2:j<min off arr.size:=by omega
   have h3:¬(off=j):=by omega
   have h4:j<off+1:=by omega
   simp[h1,h2,h3,h4,hj]
  ·subst hj
   have h1:j<min (j+1) arr.size:=by omega
   have h2:¬(j<min j arr.size):=by omega
   have h5:j-min j arr.size=0:=by omega
   have h6:j<arr.size:=by omega
   simp[h1,h2,h5,h6]
  ·have h5:min (off+1) arr.size=off+1:=by omega
   have h6:min off arr.size=off:=by omega
   obtain⟨d,rfl⟩:∃d,j=off+1+d:=⟨j-(off+1),by omega⟩;have h1:¬(off+1+d<off+1):=by omega
   have h2:¬(off+1+d<off):=by omega
   have h7:off+1+d-off=d+1:=by omega
   have h8:off+1+d-(off+1)=d:=by omega
   rw[h5,h6,if_neg h1,if_neg h2,h7,h8,List.getElem?_cons_succ];by_cases hd:d<vs.length
   ·rw[if_pos hd,if_pos (by omega)]
   ·rw[if_neg hd,if_neg (by omega),if_neg (by omega)]
    congr 1;omega
theorem Oa(vs:List Value):∀(arr:Array Value)(off:Nat),vs.toArray.zipIdx.foldl (fun cs(c,j)=>cs.setIfInBounds (off+j) c) arr=jH arr off vs:=by
 intro arr off;rw[←Array.foldl_toList];have:∀(vs:List Value)(arr:Array Value)(s:Nat),(vs.zipIdx s).foldl (fun cs(p:Value×Nat)=>cs.setIfInBounds (off+p.2) p.1) arr=jH arr (off+s) vs:=by
  intro vs;induction vs with
  |nil=>intro arr s;rfl
  |cons v vs ih=>intro arr s;simp only[List.zipIdx_cons,List.foldl_cons,jH];rw[ih];rfl
 simpa using this vs arr 0
def CK(l cells:List AV)(off:Nat)(k:List AV->Bool):Bool:=
 ke (List.take off cells++(l++List.drop (off+List.length l) cells)) k
theorem Qt{l cells:List AV}{vs:List Value}{arr:Array Value}{off:Nat}{k:List AV->Bool}(he:CK l cells off k=true)(hl:aP E l vs)(hc:aP E cells arr.toList)(hn:off+vs.length<=arr.size):
  ∃ma,aP E ma (jH arr off vs).toList∧k ma=true:=by
 unfold CK at he;rw[kX] at he;refine⟨_,?_,he⟩;rw[rI _ _ _ hn,hl.length];exact(hc.take _).append (hl.append (hc.drop _))
def zN(place:Nat->Option (Nat×Nat))(parts:List (Nat×AV)):List AV->(List AV->Bool)->Bool:=
 List.rec (motive:=fun _=>List AV->(List AV->Bool)->Bool) (fun cells k=>k cells)
  (fun p _ ih cells k=>match place p.1 with
   |some (off,size)=>mY p.2 fun l=>bc (vh l size) (bc (Nat.ble (off+size) (List.length cells)) (CK l cells off fun ma=>ih ma k) false) false
   |none=>false) parts
def RvP(E:Env):List (Nat×AV)->List (Nat×Value)->Prop
 |[],vs=>vs=[]
 |p::ps,vs=>∃V tT,vs=(p.1,V)::tT∧Rv E p.2 V∧RvP E ps tT
theorem rJ{place:Nat->Option (Nat×Nat)}:∀(parts:List (Nat×AV)){vs:List (Nat×Value)}{cells:List AV}{arr:Array Value}{k:List AV->Bool},zN place parts cells k=true->
  RvP E parts vs->aP E cells arr.toList->∃ma arr',Instr.fill place arr vs=some arr'∧arr'.size=arr.size∧aP E ma arr'.toList∧k ma=true
 |[],_,cells,arr,k,he,rp,rc=>by
  rw[RvP] at rp;subst rp;exact⟨cells,arr,rfl,rfl,rc,he⟩
 |(i,v)::parts,_,cells,arr,k,he,rp,rc=>by
  obtain⟨V,tT,rfl,rv,rp⟩:=rp;have he:(match place i with
   |some (off,size)=>mY v fun l=>bc (vh l size) (bc (Nat.ble (off+size) (List.length cells)) (CK l cells off fun ma=>zN place parts ma k) false) false
   |none=>false)=true:=he
  split at he<;>try (cases he;done)
  rename_i off size hp;obtain⟨l,hl,_,he⟩:=sZ he rv;obtain⟨h1,he⟩:=aa he;obtain⟨h2,he⟩:=aa he;have h1:=zI h1;have h2:=aU h2;have hlen:=hl.length;have qZ:=rc.length;obtain⟨ma,rc',he⟩:=Qt he hl rc (by simp at hlen qZ⊢;omega);obtain⟨c2,Gv,g1,g2,g3,g4⟩:=rJ parts he rp rc';refine⟨c2,Gv,?_,by simpa using g2,g3,g4⟩;have hs:V.cells.size=size:=by simp at hlen;omega
  have hf:=Oa V.cells.toList arr off;rw[Array.toArray_toList] at hf;have hcond:¬((decide (V.cells.size≠size)||decide (off+V.cells.size>arr.size))=true):=by simp at qZ hlen⊢;omega
  simp only[Instr.fill,hp];rw[if_neg hcond,hf];exact g1
theorem Gw{α β:Type}{P:Program}{f:α->Sem β}{g:α->β}:∀(l:List α),(∀x∈l,(f x).run P w=.ok (g x) w)->(l.mapM f).run P w=.ok (l.map g) w
 |[],_=>by simp
 |x::l,hx=>by
  rw[List.mapM_cons,Sem.run_bind,hx x (by simp)];simp only[Result.andThen_ok,Sem.run_bind,Gw l (fun y hy=>hx y (by simp[hy])),Sem.run_pure];rfl
theorem Oc{α β:Type}{f:α->Sem β}{g:α->β}(l:Array α)(hx:∀x∈l,(f x).run P w=.ok (g x) w):(l.mapM f).run P w=.ok (l.map g) w:=by
 rw[Array.mapM_eq_mapM_toList,Sem.run_map,Gw l.toList (fun x hh=>hx x (by simpa using hh))];show Result.ok (l.toList.map g).toArray w=_;congr 1;apply Array.ext';simp
def oe(P:Program)(t:TypeId)(parts:List (Nat×AV))(k:AV->Bool):Bool:=match P.info? t with
 |some i=>match i.zero with
  |some z=>match P.underlying t with
   |some (.struct fs)=>bc (List.all fs.toList fun f=>(P.info? f.type).isSome) (zN ((fs.map fun f=>(f.offset,P.cellsOf f.type))[·]?) parts (List.map DU z.cells.toList) fun l=>k (.ag l)) false
   |some (.array _ el)=>match P.info? el with
    |some j=>zN (fun i=>some (i*j.size,j.size)) parts (List.map DU z.cells.toList) fun l=>k (.ag l)
    |none=>false
   |_=>false
  |none=>false
 |none=>false
theorem Jt{parts:List (Nat×AV)}{vs:Array (Nat×Value)}{k:AV->Bool}(he:oe P t parts k=true)(rp:RvP E parts vs.toList):
  ∃v W,(Instr.build t vs).run P w=.ok W w∧Rv E v W∧k v=true:=by
 unfold oe at he;split at he<;>try (cases he;done)
 rename_i i hi;split at he<;>try (cases he;done)
 rename_i z hz;split at he<;>try (cases he;done)
 ·rename_i fs hu
  obtain⟨pM,he⟩:=aa he;obtain⟨l,arr,h1,_,h2,h3⟩:=rJ parts he rp (arr:=z.cells) (rE E _);refine⟨_,.agg arr,?_,by rw[Rv];exact⟨arr.toList,by simp,h2⟩,h3⟩;have hm:(fs.mapM fun f=>do pure (f.offset,←Go.sizeOf f.type):Sem _).run P w=.ok (fs.map fun f=>(f.offset,P.cellsOf f.type)) w:=by
   refine Oc fs fun f hf=>?_
   have:=Aad.1 pM f (by simpa using hf);obtain⟨j,hj⟩:=Option.isSome_iff_exists.1 this;simp[bG hj,Program.cellsOf,hj]
  simp only[Instr.build,Sem.run_bind,dJ hi hz,Sem.run_pure,Result.andThen_ok,ai hu,hm,h1]
 ·rename_i n el hu
  split at he<;>try (cases he;done)
  rename_i j hj;obtain⟨l,arr,h1,_,h2,h3⟩:=rJ parts he rp (arr:=z.cells) (rE E _);refine⟨_,.agg arr,?_,by rw[Rv];exact⟨arr.toList,by simp,h2⟩,h3⟩;simp only[Instr.build,Sem.run_bind,dJ hi hz,Sem.run_pure,Result.andThen_ok,ai hu,bG hj,h1]
def Ju(z:List AV)(n:Nat):List AV:=Nat.rec (motive:=fun _=>List AV) [] (fun _ ih=>z++ih) n
theorem Gx{z:Array Value}(_:z.size≠0):∀(n:Nat),aP E (Ju (List.map DU z.toList) n) ((Array.range (n*z.size)).map (z[· %z.size]!)).toList:=by
 intro n;induction n with
 |zero=>simp[Ju];exact .nil
 |succ n ih=>
  have e:((Array.range ((n+1)*z.size)).map (z[· %z.size]!)).toList=z.toList++((Array.range (n*z.size)).map (z[· %z.size]!)).toList:=by
   apply List.ext_getElem
   ·simp[Nat.add_mul];omega
   ·intro j h1 h2
    simp only[Array.toList_map,Array.toList_range,List.getElem_map,List.getElem_range,List.getElem_append,Array.length_toList];split
    ·rename_i hj
     rw[Nat.mod_eq_of_lt hj];simp[hj]
    ·rename_i hj
     congr 1;rw[Nat.mod_eq_sub_mod (by omega)]
  rw[e];exact(rE E _).append ih
def fT(P:Program)(t:TypeId)(len:Nat)(parts:List (Nat×AV))(h:Heap)(aq:Nat)(k:K):Bool:=match P.underlying t with
 |some (.slice el)=>match P.info? el with
  |some i=>match i.zero with
   |some z=>bc (Nat.beq z.cells.size i.size) (bc (Nat.ble 1 i.size) (bc (Nat.ble (len*i.size) 16777216)
     (zN (fun j=>some (j*i.size,i.size)) parts (Ju (List.map DU z.cells.toList) len) fun l=>aM (Nat.mul len i.size) fun n=>gV i.size l n ⟨0,some el,true⟩ h aq (k (.sl aq 0 len len))) false) false) false
   |none=>false
  |none=>false
 |_=>false
theorem yE{len:Nat}{parts:List (Nat×AV)}{vs:Array (Nat×Value)}(he:fT P t len parts h aq k=true)(rp:RvP E parts vs.toList)(hr:HR E h aq w):
  rH P (Instr.buildSlice t len vs) E h w k:=by
 unfold fT at he;split at he<;>try (cases he;done)
 rename_i el hu;split at he<;>try (cases he;done)
 rename_i i hi;split at he<;>try (cases he;done)
 rename_i z hz;obtain⟨hs,he⟩:=aa he;obtain⟨h1,he⟩:=aa he;obtain⟨h2,he⟩:=aa he;have hs:=aN hs;have h1:=aU h1;have h2:=aU h2;have hzz:=Gx (E:=E) (z:=z.cells) (by omega) len;obtain⟨l,arr,g1,g2,g3,g4⟩:=rJ parts he rp (arr:=(Array.range (len*z.cells.size)).map (z.cells[· %z.cells.size]!)) hzz;rw[aC] at g4;have hlen:=g3.length;have cC:arr.size=len*i.size:=by rw[g2];simp[hs]
 obtain⟨h',E',e1,e2,e3,e4⟩:=jP (room:=0) (cells:=arr) (el:=el) g4 hr (by simp at hlen;show len*i.size<=l.length;omega) ⟨_,g3,fun j _=>by simp⟩ (Nat.le_of_eq cC.symm) (nV.gJ _ _ _ _ _);refine⟨_,h',_,E',_,.slice (some ⟨w.heap.size,0,none⟩) len len,?_,by rw[Rv];exact⟨_,e1,rfl⟩,e2,e3,e4⟩;have hle:¬(len*i.size>2 ^ 24):=by omega
 rw[hs] at g1;simp only[Instr.buildSlice,Sem.run_bind,ai hu,Result.andThen_ok,bG hi,hle,if_false,Sem.run_pure];by_cases hzero:len*i.size=0
 ·have hl0:len=0:=by rcases Nat.mul_eq_zero.1 hzero with e|e<;>omega
  subst hl0;have:((Array.range (0*i.size)).map (z.cells[· %i.size]!))=#[]:=by simp
  rw[this] at g1;simp only[Nat.zero_mul,if_true,Sem.run_bind,Sem.run_pure,Result.andThen_ok];have e0:((Array.range 0).map ((#[]:Array Value)[· %(#[]:Array Value).size]!))=#[]:=by simp
  rw[e0,g1];simp[newRow]
 ·simp only[hzero,if_false,Sem.run_bind,dJ hi hz,Result.andThen_ok,Sem.run_pure,hs,g1]
  simp[newRow]
def og(P:Program)(t:TypeId)(ln cp:AV)(h:Heap)(aq:Nat)(k:K):Bool:=false
theorem zP{ln cp:AV}{LN CP:Value}(he:og P t ln cp h aq k=true)(rl:Rv E ln LN)(rc:Rv E cp CP)(hr:HR E h aq w):
  rH P (Instr.makeSlice t LN CP) E h w k:=by cases he
def vm{α:Type}(P:Program)(s:Sem α):Option α:=
 Sem.rec (motive:=fun _=>Option α) (fun a=>some a) (fun _ _ _ _=>none) (fun _ _ _ _ _=>none) (fun _ _ _=>none) (fun _ _ _=>none) (fun _ _ _ _=>none) (fun _ _ _=>none)
  (fun _ _ _=>none) (fun _ _ _ _=>none) (fun _ _ _=>none) (fun _ _ _=>none) (fun _ ih=>ih P) (fun _ _ ih=>ih) (fun _=>none) s
theorem Jv{α:Type}{s:Sem α}{a:α}(hh:vm P s=some a):s.run P w=.ok a w:=by
 induction s with
 |pure b=>cases hh;rfl
 |program k ih=>exact ih P hh
 |mark m k ih=>exact ih hh
 |_=>cases hh
def Od(x:AV):Option Value:=match x with
 |.b x=>some (.bool x)
 |.i k n=>some (.int k n)
 |.f k n=>some (.float k n)
 |.s l n=>some (.string (str l n))
 |_=>none
theorem L5{x:AV}(he:Od x=some V)(r:Rv E x X):X=V:=by
 cases x<;>simp only[Od] at he<;>first|cases he|skip
 all_goals (rw[Rv] at r;rw[r])
def vn(v:Value)(k:AV->Bool):Bool:=match v with
 |.bool x=>j7 x fun x=>k (.b x)
 |.int kk n=>DT n fun n=>k (.i kk n)
 |.float kk n=>aM n fun n=>k (.f kk n)
 |_=>false
theorem Qu{v:Value}{k:AV->Bool}(he:vn v k=true):∃a,Rv E a v∧k a=true:=by
 unfold vn at he;split at he
 ·rw[ft] at he;exact⟨_,by rw[Rv],he⟩
 ·rw[wM] at he;exact⟨_,by rw[Rv],he⟩
 ·rw[aC] at he;exact⟨_,by rw[Rv],he⟩
 ·cases he
def vo(P:Program)(f:Value->Sem Value)(x:AV)(k:AV->Bool):Bool:=match Od x with
 |some X=>match vm P (f X) with
  |some V=>vn V k
  |none=>false
 |none=>false
theorem rL{f:Value->Sem Value}{x:AV}{k:AV->Bool}(he:vo P f x k=true)(r:Rv E x X):∃v W,(f X).run P w=.ok W w∧Rv E v W∧k v=true:=by
 unfold vo at he;split at he<;>try (cases he;done)
 rename_i V hV;split at he<;>try (cases he;done)
 rename_i W hW;obtain⟨a,ha,hk⟩:=Qu (E:=E) he;rw[L5 hV r];exact⟨a,W,Jv hW,ha,hk⟩
def dK(P:Program)(f:Value->Value->Sem Value)(x y:AV)(k:AV->Bool):Bool:=match Od x with
 |some X=>vo P (f X) y k
 |none=>false
theorem zQ{f:Value->Value->Sem Value}{x:AV}{k:AV->Bool}(he:dK P f x y k=true)(r:Rv E x X)(r':Rv E y Y):∃v W,(f X Y).run P w=.ok W w∧Rv E v W∧k v=true:=by
 unfold dK at he;split at he<;>try (cases he;done)
 rename_i V hV;rw[L5 hV r];exact rL he r'
end
def opc(op:BinOp):Nat:=match op with
 |.eql=>0|.neq=>1|.lss=>2|.leq=>3|.gtr=>4|.geq=>5|_=>6
def CL:BinOp->Bool
 |.eql|.neq|.lss|.leq|.gtr|.geq=>true
 |_=>false
theorem VC{a b:BinOp}(h:Nat.beq (opc a) (opc b)=true)(ha:CL a=true):a=b:=by
 have:=aN h;cases a<;>cases ha<;>cases b<;>first|rfl|exact absurd this (by decide)
def kc(k:IntKind):Nat:=match k with
 |.i8=>0|.i16=>1|.i32=>2|.i64=>3|.u8=>4|.u16=>5|.u32=>6|.u64=>7
theorem pN{k:IntKind}(hh:Nat.beq (kc k) (kc k')=true):k=k':=by
 have:=aN hh;cases k<;>cases k'<;>first|rfl|(exact absurd this (by decide))
def iEq(a b:Int):Bool:=
 Int.rec (motive:=fun _=>Bool) (fun m=>Int.rec (motive:=fun _=>Bool) (fun n=>Nat.beq m n) (fun _=>false) b) (fun m=>Int.rec (motive:=fun _=>Bool) (fun _=>false) (fun n=>Nat.beq m n) b) a
theorem iEq_ok{a b:Int}(h:iEq a b=true):a=b:=by
 cases a<;>cases b<;>first|(rw[aN h])|cases h
def eE(a:SE):SE->Bool:=SE.rec (motive:=fun _=>SE->Bool)
 (fun n b=>match b with|.sy m=>Nat.beq n m|_=>false)
 (fun x b=>match b with|.lb y=>bc x y (bc y false true)|_=>false)
 (fun k n b=>match b with|.li k' m=>bc (Nat.beq (kc k) (kc k')) (iEq n m) false|_=>false)
 (fun x b=>match b with|.lf y=>Nat.beq x y|_=>false)
 (fun l x b=>match b with|.ls l' y=>bc (Nat.beq l l') (Nat.beq x y) false|_=>false)
 (fun _ ih b=>match b with|.len e=>ih e|_=>false)
 (fun _ ih b=>match b with|.not e=>ih e|_=>false)
 (fun k _ ih b=>match b with|.conv k' e=>bc (Nat.beq (kc k) (kc k')) (ih e) false|_=>false)
 (fun m _ ih b=>match b with|.rem m' e=>bc (Nat.beq m m') (ih e) false|_=>false)
 (fun c _ ih b=>match b with|.fn c' e=>bc (Nat.beq c c') (ih e) false|_=>false)
 (fun c _ _ nK mu b=>match b with|.cD c' x y=>bc (Nat.beq c c') (bc (nK x) (mu y) false) false|_=>false)
 (fun op _ _ nK mu b=>match b with|.cmp op' x y=>bc (CL op) (bc (Nat.beq (opc op) (opc op')) (bc (nK x) (mu y) false) false) false|_=>false)
 (fun _ _ nK mu b=>match b with|.and x y=>bc (nK x) (mu y) false|_=>false) a
theorem cq:∀{a b:SE},eE a b=true->a=b:=by
 intro a;induction a with
 |sy n=>intro b h;cases b<;>first|(cases h;done)|(rw[aN h])
 |lb x=>intro b h;cases b<;>first|(cases h;done)|(rename_i y;cases x<;>cases y<;>first|rfl|cases h)
 |li k n=>
  intro b h;cases b<;>try (cases h;done)
  obtain⟨h1,h2⟩:=aa h;rw[pN h1,iEq_ok h2]
 |lf x=>intro b h;cases b<;>first|(cases h;done)|(rw[aN h])
 |ls l x=>
  intro b h;cases b<;>try (cases h;done)
  obtain⟨h1,h2⟩:=aa h;rw[aN h1,aN h2]
 |len e ih=>intro b h;cases b<;>first|(cases h;done)|(rw[ih h])
 |not e ih=>intro b h;cases b<;>first|(cases h;done)|(rw[ih h])
 |conv k e ih=>
  intro b h;cases b<;>try (cases h;done)
  obtain⟨h1,h2⟩:=aa h;rw[pN h1,ih h2]
 |rem m e ih=>
  intro b h;cases b<;>try (cases h;done)
  obtain⟨h1,h2⟩:=aa h;rw[aN h1,ih h2]
 |fn c e ih=>
  intro b h;cases b<;>try (cases h;done)
  obtain⟨h1,h2⟩:=aa h;rw[aN h1,ih h2]
 |cD c x y Qv P1=>
  intro b h;cases b<;>try (cases h;done)
  obtain⟨h1,h⟩:=aa h;obtain⟨h2,h3⟩:=aa h;rw[aN h1,Qv h2,P1 h3]
 |cmp op x y Qv P1=>
  intro b h;cases b<;>try (cases h;done)
  obtain⟨h0,h⟩:=aa h;obtain⟨h1,h⟩:=aa h;obtain⟨h2,h3⟩:=aa h;rw[VC h1 h0,Qv h2,P1 h3]
 |and x y Qv P1=>
  intro b h;cases b<;>try (cases h;done)
  obtain⟨h2,h3⟩:=aa h;rw[Qv h2,P1 h3]
def Holds(E:Env)(fs:aB):Prop:=∀p∈fs,den E p.1=some (.bool p.2)
def look(e:SE)(fs:aB):Nat:=List.rec (motive:=fun _=>Nat) 0 (fun p _ ih=>bif eE e p.1 then(bif p.2 then 1 else 2) else ih) fs
theorem look_ok{E:Env}{e:SE}:∀{fs:aB},Holds E fs->(look e fs=1->den E e=some (.bool true))∧(2<=look e fs->den E e=some (.bool false))
 |[],_=>⟨fun h=>absurd h (by show ¬((0:Nat)=1);omega),fun h=>absurd h (by show ¬(2<=(0:Nat));omega)⟩
 |p::fs,hf=>by
  have ih:=look_ok (e:=e) (fs:=fs) fun q hq=>hf q (by simp[hq])
  have e1:look e (p::fs)=bif eE e p.1 then(bif p.2 then 1 else 2) else look e fs:=rfl;rw[e1];cases hs:eE e p.1
  ·exact ih
  ·have:=cq hs
   subst this;have hp:=hf p (by simp);cases hb:p.2<;>rw[hb] at hp
   ·exact⟨fun h=>absurd h (by show ¬((2:Nat)=1);omega),fun _=>hp⟩
   ·exact⟨fun _=>hp,fun h=>absurd h (by show ¬(2<=(1:Nat));omega)⟩
def me(e:SE)(c:Int)(fs:aB):Bool:=List.rec (motive:=fun _=>Bool) false
 (fun p _ ih=>match p.1 with
  |.cmp .leq a (.li _ d)=>bif bc p.2 (bc (eE e a) (decide (d<=c)) false) false then true else ih
  |.cmp .eql a (.li _ d)=>bif bc p.2 (bc (eE e a) (decide (d<=c)) false) false then true else ih
  |_=>ih) fs
def kY(e:SE)(c:Int)(fs:aB):Bool:=List.rec (motive:=fun _=>Bool) false
 (fun p _ ih=>match p.1 with
  |.cmp .leq a (.li _ d)=>bif bc p.2 false (bc (eE e a) (decide (c<=d)) false) then true else ih
  |.cmp .eql a (.li _ d)=>bif bc p.2 (bc (eE e a) (decide (c<d)) false) false then true else ih
  |_=>ih) fs
theorem kZ{E:Env}{e:SE}{c:Int}{k:IntKind}{n:Int}(hn:den E e=some (.int k n)):∀{fs:aB},Holds E fs->me e c fs=true->n<=c
 |[],_,h=>by cases h
 |(p,b)::fs,hf,h=>by
  have ih:=kZ (c:=c) hn (fs:=fs) fun q hq=>hf q (by simp[hq])
  have hp:=hf (p,b) (by simp);have h:(match (generalizing:=false) p with
   |.cmp .leq a (.li _ d)=>bif bc b (bc (eE e a) (decide (d<=c)) false) false then true else me e c fs
   |.cmp .eql a (.li _ d)=>bif bc b (bc (eE e a) (decide (d<=c)) false) false then true else me e c fs
   |_=>me e c fs)=true:=h
  split at h
  ·rename_i a k' d _
   cases hb:bc b (bc (eE e a) (decide (d<=c)) false) false<;>rw[hb] at h
   ·exact ih h
   ·obtain⟨h1,h2⟩:=aa hb
    obtain⟨h2,h3⟩:=aa h2;have:=cq h2;subst this h1;simp only[den,hn] at hp;by_cases hk:k=k'
    ·subst hk;simp[bu,jY] at hp;have:=gD h3;omega
    ·simp[bu,hk] at hp
  ·rename_i a k' d _
   cases hb:bc b (bc (eE e a) (decide (d<=c)) false) false<;>rw[hb] at h
   ·exact ih h
   ·obtain⟨h1,h2⟩:=aa hb
    obtain⟨h2,h3⟩:=aa h2;have:=cq h2;subst this h1;simp only[den,hn] at hp;by_cases hk:k=k'
    ·subst hk;simp[bu,jY] at hp;have:=gD h3;omega
    ·simp[bu,hk] at hp
  ·exact ih h
theorem ld{E:Env}{e:SE}{c:Int}{k:IntKind}{n:Int}(hn:den E e=some (.int k n)):∀{fs:aB},Holds E fs->kY e c fs=true->c<n
 |[],_,h=>by cases h
 |(p,b)::fs,hf,h=>by
  have ih:=ld (c:=c) hn (fs:=fs) fun q hq=>hf q (by simp[hq])
  have hp:=hf (p,b) (by simp);have h:(match (generalizing:=false) p with
   |.cmp .leq a (.li _ d)=>bif bc b false (bc (eE e a) (decide (c<=d)) false) then true else kY e c fs
   |.cmp .eql a (.li _ d)=>bif bc b (bc (eE e a) (decide (c<d)) false) false then true else kY e c fs
   |_=>kY e c fs)=true:=h
  split at h
  ·rename_i a k' d _
   cases hb:bc b false (bc (eE e a) (decide (c<=d)) false)<;>rw[hb] at h
   ·exact ih h
   ·rcases aR hb with⟨_,hh⟩|⟨h1,h2⟩
    ·cases hh
    obtain⟨h2,h3⟩:=aa h2;have:=cq h2;subst this h1;simp only[den,hn] at hp;by_cases hk:k=k'
    ·subst hk;simp[bu,jY] at hp;have:=gD h3;omega
    ·simp[bu,hk] at hp
  ·rename_i a k' d _
   cases hb:bc b (bc (eE e a) (decide (c<d)) false) false<;>rw[hb] at h
   ·exact ih h
   ·obtain⟨h1,h2⟩:=aa hb
    obtain⟨h2,h3⟩:=aa h2;have:=cq h2;subst this h1;simp only[den,hn] at hp;by_cases hk:k=k'
    ·subst hk;simp[bu,jY] at hp;have:=gD h3;omega
    ·simp[bu,hk] at hp
  ·exact ih h
def jo(e:SE)(c:Int)(fs:aB):Bool:=SE.rec (motive:=fun _=>Bool)
 (fun n=>me (.sy n) c fs) (fun _=>false) (fun _ n=>decide (n<=c)) (fun _=>false) (fun _ _=>false)
 (fun e _=>me (.len e) c fs) (fun _ _=>false) (fun k e ih=>bif me (.conv k e) c fs then true else ih)
 (fun m e _=>bif decide ((m:Int)<=c+1) then true else me (.rem m e) c fs) (fun d e _=>me (.fn d e) c fs) (fun d a b _ _=>me (.cD d a b) c fs) (fun _ _ _ _ _=>false) (fun _ _ _ _=>false) e
def ki(e:SE)(c:Int)(fs:aB):Bool:=SE.rec (motive:=fun _=>Bool)
 (fun n=>kY (.sy n) c fs) (fun _=>false) (fun _ n=>decide (c<n)) (fun _=>false) (fun _ _=>false)
 (fun e _=>bif decide (c<0) then true else kY (.len e) c fs) (fun _ _=>false) (fun k e ih=>bif kY (.conv k e) c fs then true else ih)
 (fun m e _=>bif decide (c<0) then true else kY (.rem m e) c fs) (fun d e _=>kY (.fn d e) c fs) (fun d a b _ _=>kY (.cD d a b) c fs) (fun _ _ _ _ _=>false) (fun _ _ _ _=>false) e
theorem zR{b x:Bool}(h:(bif b then true else x)=true):b=true∨x=true:=by cases b<;>simp_all
theorem gy(hf:Holds E fs):∀(e:SE){k:IntKind}{n:Int},den E e=some (.int k n)->jo e c fs=true->n<=c:=by
 intro e;induction e with
 |sy m=>intro k n hn h;exact kZ hn hf h
 |li k' m=>
  intro k n hn h;simp only[den,siQ,Value.int.injEq] at hn;obtain⟨_,rfl⟩:=hn;exact gD h
 |len e ih=>intro k n hn h;exact kZ hn hf h
 |conv k' e ih=>
  intro k n hn h;have h:(bif me (.conv k' e) c fs then true else jo e c fs)=true:=h;rcases zR h with h|h
  ·exact kZ hn hf h
  ·simp only[den] at hn
   split at hn<;>try (cases hn;done)
   rename_i k2 m he;split at hn<;>cases hn
   exact ih he h
 |rem m e ih=>
  intro k n hn h;have h:(bif decide ((m:Int)<=c+1) then true else me (.rem m e) c fs)=true:=h;rcases zR h with h|h
  ·simp only[den] at hn
   split at hn<;>try (cases hn;done)
   rename_i k2 q he;split at hn<;>cases hn
   rename_i hc;have:=Int.emod_lt_of_pos q (show(0:Int)<(m:Int) by omega);have:=gD h;omega
  ·exact kZ hn hf h
 |fn d e ih=>intro k n hn h;exact kZ hn hf h
 |cD d a b nK mu=>intro k n hn h;exact kZ hn hf h
 |_=>intro k n hn h;cases h
theorem iV(hf:Holds E fs):∀(e:SE){k:IntKind}{n:Int},den E e=some (.int k n)->ki e c fs=true->c<n:=by
 intro e;induction e with
 |sy m=>intro k n hn h;exact ld hn hf h
 |li k' m=>
  intro k n hn h;simp only[den,siQ,Value.int.injEq] at hn;obtain⟨_,rfl⟩:=hn;exact gD h
 |len e ih=>
  intro k n hn h;have h:(bif decide (c<0) then true else kY (.len e) c fs)=true:=h;rcases zR h with h|h
  ·simp only[den] at hn
   split at hn<;>cases hn
   have:=gD h;omega
  ·exact ld hn hf h
 |conv k' e ih=>
  intro k n hn h;have h:(bif kY (.conv k' e) c fs then true else ki e c fs)=true:=h;rcases zR h with h|h
  ·exact ld hn hf h
  ·simp only[den] at hn
   split at hn<;>try (cases hn;done)
   rename_i k2 m he;split at hn<;>cases hn
   exact ih he h
 |rem m e ih=>
  intro k n hn h;have h:(bif decide (c<0) then true else kY (.rem m e) c fs)=true:=h;rcases zR h with h|h
  ·simp only[den] at hn
   split at hn<;>try (cases hn;done)
   rename_i k2 q he;split at hn<;>cases hn
   rename_i hc;have:=Int.emod_nonneg q (show(m:Int)≠0 by omega);have:=gD h;omega
  ·exact ld hn hf h
 |fn d e ih=>intro k n hn h;exact ld hn hf h
 |cD d a b nK mu=>intro k n hn h;exact ld hn hf h
 |_=>intro k n hn h;cases h
def oE(e:SE)(l x:Nat)(fs:aB):Bool:=List.rec (motive:=fun _=>Bool) false
 (fun p _ ih=>match p.1 with
  |.cmp .eql a (.ls m y)=>bif bc p.2 (bc (eE e a) (bc (bc (Nat.beq l m) (Nat.beq (Nat.mod x (Nat.pow 256 l)) (Nat.mod y (Nat.pow 256 m))) false) false true) false) false then true else ih
  |_=>ih) fs
theorem CM{E:Env}{e:SE}{l x:Nat}{s:ByteArray}(hs:den E e=some (.string s)):∀{fs:aB},Holds E fs->oE e l x fs=true->(s.toList==(str l x).toList)=false
 |[],_,h=>by cases h
 |(p,b)::fs,hf,h=>by
  have ih:=CM (l:=l) (x:=x) hs (fs:=fs) fun q hq=>hf q (by simp[hq])
  have hp:=hf (p,b) (by simp);have h:(match (generalizing:=false) p with
   |.cmp .eql a (.ls m y)=>bif bc b (bc (eE e a) (bc (bc (Nat.beq l m) (Nat.beq (Nat.mod x (Nat.pow 256 l)) (Nat.mod y (Nat.pow 256 m))) false) false true) false) false then true else oE e l x fs
   |_=>oE e l x fs)=true:=h
  split at h
  ·rename_i a m y _
   cases hb:bc b (bc (eE e a) (bc (bc (Nat.beq l m) (Nat.beq (Nat.mod x (Nat.pow 256 l)) (Nat.mod y (Nat.pow 256 m))) false) false true) false) false<;>rw[hb] at h
   ·exact ih h
   ·obtain⟨h1,h2⟩:=aa hb
    obtain⟨h2,h3⟩:=aa h2;have:=cq h2;subst this h1;simp only[den,hs,bu,zA,Option.map_some,siQ,Value.bool.injEq] at hp;rw[beq_iff_eq] at hp;rw[hp,Bool.eq_false_iff];intro hh;rw[beq_iff_eq,ByteArray.toList_eq,ByteArray.toList_eq,ek,ek] at hh;have hl:m=l:=by have:=congrArg List.length hh;simpa using this
    subst hl;rw[zz] at hh;have e3:bc (bc (Nat.beq m m) (Nat.beq (Nat.mod x (Nat.pow 256 m)) (Nat.mod y (Nat.pow 256 m))) false) false true=false:=by
     have a1:Nat.beq m m=true:=Nat.beq_refl m;have a2:Nat.beq (Nat.mod x (Nat.pow 256 m)) (Nat.mod y (Nat.pow 256 m))=true:=by
      show Nat.beq (x%256 ^ m) (y%256 ^ m)=true;rw[hh];exact Nat.beq_refl _
     rw[a1,a2];rfl
    rw[e3] at h3;cases h3
  ·exact ih h
theorem y7(A B:Int):(compare A B=.eq)↔A=B:=by
 show compareOfLessAndEq A B=.eq↔A=B;unfold compareOfLessAndEq;constructor
 ·intro h
  split at h
  ·cases h
  ·split at h
   ·assumption
   ·cases h
 ·rintro rfl
  rw[if_neg (Int.lt_irrefl _),if_pos rfl]
theorem Qw(d e:Ieee.Datum):(d.order e==some .eq)=(e.order d==some .eq):=by
 cases d with
 |nan s m=>cases e<;>rfl
 |infinity s=>cases e with
  |nan=>rfl
  |infinity t=>cases s<;>cases t<;>rfl
  |number t n j=>cases s<;>rfl
 |number s m i=>cases e with
  |nan=>rfl
  |infinity t=>cases t<;>rfl
  |number t n j=>
   rw[Bool.eq_iff_iff,beq_iff_eq,beq_iff_eq];show some (compare (Ieee.signed s m (i-min i j).toNat) (Ieee.signed t n (j-min i j).toNat))=some .eq↔some (compare (Ieee.signed t n (j-min j i).toNat) (Ieee.signed s m (i-min j i).toNat))=some .eq;rw[Int.min_comm j i,siQ,siQ,y7,y7];exact eq_comm
theorem Qx(X Y:Value):bu .eql X Y=bu .eql Y X:=by
 cases X<;>cases Y<;>simp only[bu]<;>try rfl
 ·congr 1;rw[Bool.eq_iff_iff,beq_iff_eq,beq_iff_eq];exact eq_comm
 ·rename_i k a k' b
  by_cases h:k=k'
  ·subst h
   simp only[if_true,jY];congr 1;rw[Bool.eq_iff_iff,beq_iff_eq,beq_iff_eq];exact eq_comm
  ·rw[if_neg h,if_neg (fun e=>h e.symm)]
 ·rename_i k a k' b
  cases k<;>cases k'<;>try rfl
  simp only[rn];exact congrArg some (Qw _ _)
 ·simp only[zA]
  congr 1;rw[Bool.eq_iff_iff,beq_iff_eq,beq_iff_eq];exact eq_comm
theorem D0{x:Value}(h:den E (.cmp .eql a b)=some x):den E (.cmp .eql b a)=some x:=by
 simp only[den] at h⊢;cases ha:den E a with
 |none=>rw[ha] at h;cases h
 |some X=>
  cases hb:den E b with
  |none=>rw[ha,hb] at h;cases X<;>cases h
  |some Y=>
   rw[ha,hb] at h;simp only at h⊢;rw[Qx];exact h
def dec(fs:aB)(e:SE):Nat:=match e with
 |.lb x=>bif x then 1 else 2
 |.cmp .leq a (.li _ c)=>bif jo a c fs then 1 else bif ki a c fs then 2 else look e fs
 |.cmp .eql a (.li _ c)=>bif jo a (c-1) fs then 2 else bif ki a c fs then 2 else bif bc (jo a c fs) (ki a (c-1) fs) false then 1 else look e fs
 |.cmp .eql a (.ls l x)=>bif oE a l x fs then 2 else look e fs
 |.cmp .eql a b=>Nat.rec (motive:=fun _=>Nat) (look (.cmp .eql b a) fs) (fun m _=>Nat.succ m) (look e fs)
 |e=>look e fs
theorem zS(hf:Holds E fs){x:Bool}(hx:den E e=some (.bool x)):(dec fs e=1->x=true)∧(2<=dec fs e->x=false):=by
 have lk:∀e',den E e'=some (.bool x)->(look e' fs=1->x=true)∧(2<=look e' fs->x=false):=fun e' he'=>by
  obtain⟨h1,h2⟩:=look_ok (e:=e') hf;exact⟨fun h=>by rw[h1 h] at he';cases he';rfl,fun h=>by rw[h2 h] at he';cases he';rfl⟩
 unfold dec;split
 ·rename_i y
  simp only[den,siQ,Value.bool.injEq] at hx;subst hx;cases y<;>simp
 ·rename_i a k c
  have hx':=hx;simp only[den] at hx;split at hx<;>try (cases hx;done)
  rename_i X Y hX hY;cases hY
  cases X<;>simp only[bu,Option.map_none] at hx<;>try (cases hx;done)
  rename_i k' n;by_cases hk:k'=k
  ·simp only[hk,if_true,jY,Option.map_some,siQ,Value.bool.injEq] at hx
   cases hb:jo a c fs
   ·cases ha:ki a c fs
    ·exact lk _ hx'
    ·refine⟨fun h=>absurd h (by show ¬((2:Nat)=1);omega),fun _=>?_⟩
     have:=iV hf a hX ha;rw[←hx,decide_eq_false_iff_not];omega
   ·refine⟨fun _=>?_,fun h=>absurd h (by show ¬(2<=(1:Nat));omega)⟩
    have:=gy hf a hX hb;rw[←hx,decide_eq_true_iff];omega
  ·simp only[hk,if_false,Option.map_none] at hx;cases hx
 ·rename_i a k c
  have hx':=hx;simp only[den] at hx;split at hx<;>try (cases hx;done)
  rename_i X Y hX hY;cases hY
  cases X<;>simp only[bu,Option.map_none] at hx<;>try (cases hx;done)
  rename_i k' n;by_cases hk:k'=k
  ·simp only[hk,if_true,jY,Option.map_some,siQ,Value.bool.injEq] at hx
   cases hb:jo a (c-1) fs
   ·cases ha:ki a c fs
    ·cases hc:bc (jo a c fs) (ki a (c-1) fs) false
     ·exact lk _ hx'
     ·refine⟨fun _=>?_,fun h=>absurd h (by show ¬(2<=(1:Nat));omega)⟩
      obtain⟨h1,h2⟩:=aa hc;have:=gy hf a hX h1;have:=iV hf a hX h2;rw[←hx,beq_iff_eq];omega
    ·refine⟨fun h=>absurd h (by show ¬((2:Nat)=1);omega),fun _=>?_⟩
     have:=iV hf a hX ha;rw[←hx,beq_eq_false_iff_ne];omega
   ·refine⟨fun h=>absurd h (by show ¬((2:Nat)=1);omega),fun _=>?_⟩
    have:=gy hf a hX hb;rw[←hx,beq_eq_false_iff_ne];omega
  ·simp only[hk,if_false,Option.map_none] at hx;cases hx
 ·rename_i a l y
  have hx':=hx;simp only[den] at hx;split at hx<;>try (cases hx;done)
  rename_i X Y hX hY;cases hY
  cases X<;>simp only[bu,Option.map_none] at hx<;>try (cases hx;done)
  rename_i s;cases ho:oE a l y fs
  ·exact lk _ hx'
  ·refine⟨fun h=>absurd h (by show ¬((2:Nat)=1);omega),fun _=>?_⟩
   have:=CM hX hf ho;simp only[zA,this,Option.map_some,siQ,Value.bool.injEq] at hx;exact hx.symm
 ·rename_i a b _ _
  cases hl:look (.cmp .eql a b) fs with
  |zero=>exact lk _ (D0 hx)
  |succ m=>have:=lk _ hx;rw[hl] at this;exact this
 ·exact lk _ hx
def cr(fs:aB)(e:SE):Nat:=SE.rec (motive:=fun _=>Nat)
 (fun n=>dec fs (.sy n)) (fun x=>bif x then 1 else 2) (fun _ _=>0) (fun _=>0) (fun _ _=>0) (fun _ _=>0)
 (fun _ ih=>Nat.rec (motive:=fun _=>Nat) 0 (fun m _=>Nat.rec (motive:=fun _=>Nat) 2 (fun _ _=>1) m) ih)
 (fun _ _ _=>0) (fun _ _ _=>0) (fun c e _=>dec fs (.fn c e)) (fun c a b _ _=>dec fs (.cD c a b)) (fun op a b _ _=>dec fs (.cmp op a b))
 (fun _ _ nK mu=>Nat.rec (motive:=fun _=>Nat) (Nat.rec (motive:=fun _=>Nat) 0 (fun m _=>Nat.rec (motive:=fun _=>Nat) 0 (fun _ _=>2) m) mu) (fun m _=>Nat.rec (motive:=fun _=>Nat) mu (fun _ _=>2) m) nK) e
theorem aX(hf:Holds E fs):∀{e:SE}{x:Bool},den E e=some (.bool x)->(cr fs e=1->x=true)∧(2<=cr fs e->x=false):=by
 intro e;induction e with
 |sy n=>intro x hx;exact zS hf hx
 |lb y=>
  intro x hx;simp only[den,siQ,Value.bool.injEq] at hx;subst hx;cases y<;>simp[cr]
 |fn c e ih=>intro x hx;exact zS hf hx
 |cD c a b nK mu=>intro x hx;exact zS hf hx
 |cmp op a b nK mu=>intro x hx;exact zS hf hx
 |not e ih=>
  intro x hx;simp only[den] at hx;split at hx<;>cases hx
  rename_i y hy;obtain⟨h1,h2⟩:=ih hy;have e1:cr fs (.not e)=Nat.rec (motive:=fun _=>Nat) 0 (fun m _=>Nat.rec (motive:=fun _=>Nat) 2 (fun _ _=>1) m) (cr fs e):=rfl;rw[e1];match hd:cr fs e with
  |0=>exact⟨fun h=>absurd h (by show ¬((0:Nat)=1);omega),fun h=>absurd h (by show ¬(2<=(0:Nat));omega)⟩
  |1=>exact⟨fun h=>absurd h (by show ¬((2:Nat)=1);omega),fun _=>by rw[h1 hd];rfl⟩
  |n+2=>exact⟨fun _=>by rw[h2 (by omega)];rfl,fun h=>absurd h (by show ¬(2<=(1:Nat));omega)⟩
 |and a b nK mu=>
  intro x hx;simp only[den] at hx;split at hx<;>cases hx
  rename_i y z hy hz;obtain⟨a1,a2⟩:=nK hy;obtain⟨b1,b2⟩:=mu hz;have e1:cr fs (.and a b)=Nat.rec (motive:=fun _=>Nat) (Nat.rec (motive:=fun _=>Nat) 0 (fun m _=>Nat.rec (motive:=fun _=>Nat) 0 (fun _ _=>2) m) (cr fs b)) (fun m _=>Nat.rec (motive:=fun _=>Nat) (cr fs b) (fun _ _=>2) m) (cr fs a):=rfl;rw[e1];match hda:cr fs a with
  |0=>
   match hdb:cr fs b with
   |0=>exact⟨fun h=>absurd h (by show ¬((0:Nat)=1);omega),fun h=>absurd h (by show ¬(2<=(0:Nat));omega)⟩
   |1=>exact⟨fun h=>absurd h (by show ¬((0:Nat)=1);omega),fun h=>absurd h (by show ¬(2<=(0:Nat));omega)⟩
   |n+2=>exact⟨fun h=>absurd h (by show ¬((2:Nat)=1);omega),fun _=>by rw[b2 (by omega),Bool.and_false]⟩
  |1=>
   rw[a1 hda,Bool.true_and];exact⟨b1,b2⟩
  |n+2=>exact⟨fun h=>absurd h (by show ¬((2:Nat)=1);omega),fun _=>by rw[a2 (by omega),Bool.false_and]⟩
 |_=>
  intro x hx;exact⟨fun h=>absurd h (by show ¬((0:Nat)=1);omega),fun h=>absurd h (by show ¬(2<=(0:Nat));omega)⟩
def d3(n:Nat)(no yes nay:Bool):Bool:=Nat.rec (motive:=fun _=>Bool) no (fun m _=>Nat.rec (motive:=fun _=>Bool) yes (fun _ _=>nay) m) n
def o5(e:SE):aB->(aB->Bool)->(aB->Bool)->Bool:=
 SE.rec (motive:=fun _=>aB->(aB->Bool)->(aB->Bool)->Bool)
 (fun n fs kt kf=>d3 (dec fs (.sy n)) (bc (kt ((.sy n,true)::fs)) (kf ((.sy n,false)::fs)) false) (kt fs) (kf fs))
 (fun x fs kt kf=>bc x (kt fs) (kf fs))
 (fun _ _ _ _ _=>false) (fun _ _ _ _=>false) (fun _ _ _ _ _=>false) (fun _ _ _ _ _=>false)
 (fun _ ih fs kt kf=>ih fs kf kt)
 (fun _ _ _ _ _ _=>false) (fun _ _ _ _ _ _=>false)
 (fun c e _ fs kt kf=>d3 (dec fs (.fn c e)) (bc (kt ((.fn c e,true)::fs)) (kf ((.fn c e,false)::fs)) false) (kt fs) (kf fs))
 (fun c a b _ _ fs kt kf=>d3 (dec fs (.cD c a b)) (bc (kt ((.cD c a b,true)::fs)) (kf ((.cD c a b,false)::fs)) false) (kt fs) (kf fs))
 (fun op a b _ _ fs kt kf=>d3 (dec fs (.cmp op a b)) (bc (kt ((.cmp op a b,true)::fs)) (kf ((.cmp op a b,false)::fs)) false) (kt fs) (kf fs))
 (fun _ _ nK mu fs kt kf=>nK fs (fun fs=>mu fs kt kf) kf) e
theorem gW:∀(e:SE){fs:aB}{kt kf:aB->Bool}{x:Bool},o5 e fs kt kf=true->Holds E fs->den E e=some (.bool x)->∃Qy,Holds E Qy∧((x=true∧kt Qy=true)∨(x=false∧kf Qy=true)):=by
 have base:∀(e:SE){fs:aB}{kt kf:aB->Bool}{x:Bool},d3 (dec fs e) (bc (kt ((e,true)::fs)) (kf ((e,false)::fs)) false) (kt fs) (kf fs)=true->Holds E fs->den E e=some (.bool x)->
   ∃Qy,Holds E Qy∧((x=true∧kt Qy=true)∨(x=false∧kf Qy=true)):=by
  intro e fs kt kf x he hf hx;obtain⟨d1,d2⟩:=zS hf hx;match hd:dec fs e with
  |0=>
   rw[hd] at he;obtain⟨h1,h2⟩:=aa (b:=kt ((e,true)::fs)) he;refine⟨(e,x)::fs,fun p hp=>?_,?_⟩
   ·rcases mcQ.1 hp with rfl|hp
    ·exact hx
    ·exact hf p hp
   ·cases x
    ·exact .inr ⟨rfl,h2⟩
    ·exact .inl ⟨rfl,h1⟩
  |1=>rw[hd] at he;exact⟨fs,hf,.inl ⟨d1 hd,he⟩⟩
  |n+2=>rw[hd] at he;exact⟨fs,hf,.inr ⟨d2 (by omega),he⟩⟩
 intro e;induction e with
 |sy n=>intro fs kt kf x he hf hx;exact base _ he hf hx
 |lb y=>
  intro fs kt kf x he hf hx;simp only[den,siQ,Value.bool.injEq] at hx;subst hx;rcases aR he with⟨h,he⟩|⟨h,he⟩
  ·exact⟨fs,hf,.inl ⟨h,he⟩⟩
  ·exact⟨fs,hf,.inr ⟨h,he⟩⟩
 |not e ih=>
  intro fs kt kf x he hf hx;simp only[den] at hx;split at hx<;>cases hx
  rename_i y hy;obtain⟨Qy,h1,h2⟩:=ih (x:=y) he hf hy;refine⟨Qy,h1,?_⟩;rcases h2 with⟨rfl,h2⟩|⟨rfl,h2⟩
  ·exact .inr ⟨rfl,h2⟩
  ·exact .inl ⟨rfl,h2⟩
 |fn c e ih=>intro fs kt kf x he hf hx;exact base _ he hf hx
 |cD c a b nK mu=>intro fs kt kf x he hf hx;exact base _ he hf hx
 |cmp op a b nK mu=>intro fs kt kf x he hf hx;exact base _ he hf hx
 |and a b nK mu=>
  intro fs kt kf x he hf hx;simp only[den] at hx;split at hx<;>cases hx
  rename_i y z hy hz;obtain⟨Qy,h1,h2⟩:=nK (x:=y) he hf hy;rcases h2 with⟨rfl,h2⟩|⟨rfl,h2⟩
  ·simpa using mu (x:=z) h2 h1 hz
  ·exact⟨Qy,h1,.inr ⟨by simp,h2⟩⟩
 |_=>intro fs kt kf x he;cases he
section
variable{E:Env}{h:Heap}{aq:Nat}{w:World}
def fR:Nat:=1048574
def au(h:Heap):aB:=match T.get .gone h fR with
 |.facts fs=>fs
 |_=>[]
theorem aD(hr:HR E h aq w):Holds E (au h):=by
 unfold au;have:=hr.obj fR;split
 ·rename_i fs dX;rw[dX] at this;exact this
 ·intro p hp;cases hp
def bQ(fs:aB)(h:Heap)(k:Heap->Bool):Bool:=match T.get .gone h fR with
 |.gone=>bc (Nat.ble (bM h) fR) (T.dj (.facts fs) h fR k) false
 |.facts _=>bc (Nat.ble (bM h) fR) (T.dj (.facts fs) h fR k) false
 |_=>false
structure Fk(h h1:Heap):Prop where
 same:∀i,(T.get .gone h i).live=true∨(T.get .gone h1 i).live=true∨i<bM h∨i=0->T.get .gone h1 i=T.get .gone h i
 bM:Vx.bM h1=Vx.bM h
theorem Fk.refl(h:Heap):Fk h h:=⟨fun _ _=>rfl,rfl⟩
theorem Fk.live{h:Heap}(f:Fk h h1)(i:Nat):(T.get .gone h1 i).live=(T.get .gone h i).live:=by
 cases h2:(T.get .gone h1 i).live
 ·cases h3:(T.get .gone h i).live
  ·rfl
  ·rw[f.same i (.inl h3),h3] at h2;exact h2.symm
 ·rw[←f.same i (.inr (.inl h2)),h2]
theorem Fk.goes(f:Fk h h1):bk E h w E h1 w:=
 ⟨Env.le_refl _,nrQ _,fun _ _ _=>rfl,fun k _⟨i,L,a1,a2,a3,a4⟩=>⟨i,L,by rw[←f.bM];exact a1,by rw[←f.live i];exact a2,a3,a4⟩,f.bM,fun i hi=>f.same i (.inr (.inr (.inl hi))),rfl,rfl,rfl⟩
theorem bZ{k:Heap->Bool}(he:bQ fs h k=true)(hr:HR E h aq w)(hf:Holds E fs):∃h1,k h1=true∧HR E h1 aq w∧Fk h h1:=by
 have key:(T.get .gone h fR).live=false->bc (Nat.ble (bM h) fR) (T.dj (.facts fs) h fR k) false=true->∃h1,k h1=true∧HR E h1 aq w∧Fk h h1:=by
  intro hl he;obtain⟨jI,he⟩:=aa he;have jI:=aU jI;rw[T.bh] at he;have cR:∀i,i≠fR->T.get .gone (T.set (.facts fs) h fR) i=T.get .gone h i:=fun i hi=>T.ay _ _ _ _ _ hi
  have hat:(T.get .gone (T.set (.facts fs) h fR) fR).live=false:=by rcases T.bd AO.gone (.facts fs) h fR with g|g<;>rw[g]<;>rfl
  have h0:(0:Nat)≠fR:=by unfold fR;omega
  have dX:bM (T.set (.facts fs) h fR)=bM h:=by unfold bM;rw[cR 0 h0]
  have hfk:Fk h (T.set (.facts fs) h fR):=⟨fun i hi=>by
   by_cases e:i=fR
   ·subst e
    rcases hi with hi|hi|hi|hi
    ·rw[hl] at hi;cases hi
    ·rw[hat] at hi;cases hi
    ·omega
    ·exact absurd hi.symm h0
   ·exact cR i e,dX⟩
  refine⟨_,he,⟨fun i=>?_,fun i j L M hi hj=>?_,fun i hi=>?_,hr.fresh,hr.kT,hr.pos,by rw[dX];exact hr.kU,by rw[cR 0 h0];exact hr.zero⟩,hfk⟩
  ·by_cases e:i=fR
   ·subst e
    rcases T.bd AO.gone (.facts fs) h fR with g|g<;>rw[g]
    ·exact hf
    ·trivial
   ·rw[cR i e];exact hr.obj i
  ·rw[hfk.live] at hi hj;exact hr.inj i j L M hi hj
  ·rw[hfk.live];exact hr.lt i hi
 unfold bQ at he;split at he
 ·rename_i hg;exact key (by rw[hg];rfl) he
 ·rename_i hg;exact key (by rw[hg];rfl) he
 ·cases he
def qt(v:AV)(h:Heap)(kt kf:Heap->Bool):Bool:=match v with
 |.b t=>bc t (kt h) (kf h)
 |.x .b e=>o5 e (au h) (fun fs=>bQ fs h kt) (fun fs=>bQ fs h kf)
 |_=>false
theorem rM{kt kf:Heap->Bool}(he:qt v h kt kf=true)(rv:Rv E v V)(hr:HR E h aq w):
  ∃x h1,V=.bool x∧HR E h1 aq w∧Fk h h1∧((x=true∧kt h1=true)∨(x=false∧kf h1=true)):=by
 unfold qt at he;split at he
 ·rename_i t
  rw[Rv] at rv;exact⟨t,h,rv,hr,Fk.refl h,aR he⟩
 ·rename_i e
  rw[Rv] at rv;obtain⟨hd,x,rfl⟩:=rv;obtain⟨fs,hf,hx⟩:=gW e he (aD hr) hd;rcases hx with⟨rfl,hx⟩|⟨rfl,hx⟩
  ·obtain⟨h1,k1,k2,k3⟩:=bZ hx hr hf
   exact⟨true,h1,rfl,k2,k3,.inl ⟨rfl,k1⟩⟩
  ·obtain⟨h1,k1,k2,k3⟩:=bZ hx hr hf
   exact⟨false,h1,rfl,k2,k3,.inr ⟨rfl,k1⟩⟩
 ·cases he
def zU(fs:aB)(c:AV)(yes no:Bool):Bool:=match c with
 |.b t=>bc t yes no
 |.x .b e=>d3 (cr fs e) false yes no
 |_=>false
theorem Gy{c:AV}{yes no:Bool}(he:zU fs c yes no=true)(rv:Rv E c V)(hf:Holds E fs):(V=.bool true∧yes=true)∨(V=.bool false∧no=true):=by
 unfold zU at he;split at he
 ·rw[Rv] at rv
  rcases aR he with⟨rfl,he⟩|⟨rfl,he⟩
  ·exact .inl ⟨rv,he⟩
  ·exact .inr ⟨rv,he⟩
 ·rename_i e
  rw[Rv] at rv;obtain⟨hd,x,rfl⟩:=rv;obtain⟨h1,h2⟩:=aX hf hd;match P2:cr fs e with
  |0=>rw[P2] at he;cases he
  |1=>rw[P2] at he;exact .inl ⟨by rw[h1 P2],he⟩
  |n+2=>rw[P2] at he;exact .inr ⟨by rw[h2 (by omega)],he⟩
 ·cases he
def Jw(c:Nat)(V:Value):Prop:=match c with
 |0=>∃x,V=.bool x
 |1=>∃k n,V=.int k n
 |2=>∃x,V=.float .f64 x
 |_=>∃s,V=.string s
def seK(v:AV)(k:Nat->SE->Bool):Bool:=match v with
 |.x s e=>(match s with|.b=>k 0 e|.i _=>k 1 e|.f=>k 2 e|.s=>k 3 e)
 |.b x=>k 0 (.lb x)
 |.i kk n=>k 1 (.li kk n)
 |.f .f64 x=>k 2 (.lf x)
 |.s l x=>k 3 (.ls l x)
 |_=>false
theorem Qz{k:Nat->SE->Bool}(he:seK v k=true)(r:Rv E v V):∃c e,den E e=some V∧Jw c V∧k c e=true:=by
 unfold seK at he;split at he
 ·rename_i s e
  rw[Rv] at r;cases s
  ·exact⟨0,e,r.1,r.2,he⟩
  ·obtain⟨h1,n,h2,_⟩:=r;exact⟨1,e,h1,⟨_,n,h2⟩,he⟩
  ·obtain⟨h1,n,h2,_⟩:=r;exact⟨2,e,h1,⟨n,h2⟩,he⟩
  ·obtain⟨h1,n,h2,_⟩:=r;exact⟨3,e,h1,⟨n,h2⟩,he⟩
 ·rw[Rv] at r;subst r;exact⟨0,_,rfl,⟨_,rfl⟩,he⟩
 ·rw[Rv] at r;subst r;exact⟨1,_,rfl,⟨_,_,rfl⟩,he⟩
 ·rw[Rv] at r;subst r;exact⟨2,_,rfl,⟨_,rfl⟩,he⟩
 ·rw[Rv] at r;subst r;exact⟨3,_,rfl,⟨_,rfl⟩,he⟩
 ·cases he
def zW(op:BinOp)(a:SE)(kb:IntKind)(c:Int)(k:SE->Bool):Bool:=match op with
 |.lss=>k (.cmp .leq a (.li kb (c-1)))|.leq=>k (.cmp .leq a (.li kb c))|.gtr=>k (.not (.cmp .leq a (.li kb c)))|.geq=>k (.not (.cmp .leq a (.li kb (c-1))))
 |.eql=>k (.cmp .eql a (.li kb c))|.neq=>k (.not (.cmp .eql a (.li kb c)))|_=>false
def Jx(op:BinOp)(a b:SE)(k:SE->Bool):Bool:=match op with
 |.lss=>k (.not (.cmp .leq b a))|.leq=>k (.cmp .leq a b)|.gtr=>k (.not (.cmp .leq a b))|.geq=>k (.cmp .leq b a)
 |.eql=>bc (eE a b) (k (.lb true)) (k (.cmp .eql a b))|.neq=>bc (eE a b) (k (.lb false)) (k (.not (.cmp .eql a b)))|_=>false
def Jy(op:BinOp):BinOp:=match op with
 |.lss=>.gtr|.leq=>.geq|.gtr=>.lss|.geq=>.leq|op=>op
def oG(op:BinOp)(a b:SE)(k:SE->Bool):Bool:=match b with
 |.li kb c=>zW op a kb c k
 |b=>(match a with
  |.li ka c=>zW (Jy op) b ka c k
  |a=>Jx op a b k)
theorem Oe(op:BinOp)(m n:Int):jY (Jy op) n m=jY op m n:=by
 cases op<;>simp[Jy,jY]
 ·rw[Bool.eq_iff_iff,beq_iff_eq,beq_iff_eq];exact eq_comm
 ·rw[Bool.eq_iff_iff];simp;exact⟨fun h e=>h e.symm,fun h e=>h e.symm⟩
theorem jE(h:den E e=some (.bool r)):den E (.not e)=some (.bool !r):=by simp only[den,h]
theorem gX(o:BinOp){x y:SE}{p q:Int}(hx:den E x=some (.int kk p))(hy:den E y=some (.int kk q)):den E (.cmp o x y)=(jY o p q).map .bool:=by simp only[den,hx,hy,bu,if_true]
theorem CN{m:Int}{k:SE->Bool}(he:zW op a kk c k=true)(ha:den E a=some (.int kk m)):∃e r,jY op m c=some r∧den E e=some (.bool r)∧k e=true:=by
 have li:∀d,den E (.li kk d)=some (.int kk d):=fun _=>rfl
 unfold zW at he;split at he<;>try (cases he;done)
 ·refine⟨_,_,rfl,?_,he⟩;rw[gX .leq ha (li _)];simp only[jY,Option.map_some];congr 2;rw[decide_eq_decide];omega
 ·refine⟨_,_,rfl,?_,he⟩;rw[gX .leq ha (li _)];rfl
 ·refine⟨_,_,rfl,?_,he⟩;rw[jE (gX .leq ha (li _))];congr 2;rw[←decide_not,decide_eq_decide];omega
 ·refine⟨_,_,rfl,?_,he⟩;rw[jE (gX .leq ha (li _))];congr 2;rw[←decide_not,decide_eq_decide];omega
 ·refine⟨_,_,rfl,?_,he⟩;rw[gX .eql ha (li _)];rfl
 ·refine⟨_,_,rfl,?_,he⟩;rw[jE (gX .eql ha (li _))];rfl
theorem Of{k:SE->Bool}(he:oG op a b k=true){m:Int}(ha:den E a=some (.int kk m))(hb:den E b=some (.int kk n)):
  ∃e r,jY op m n=some r∧den E e=some (.bool r)∧k e=true:=by
 unfold oG at he;split at he
 ·rename_i kb c
  have pO:=hb;simp only[den,siQ,Value.int.injEq] at pO;obtain⟨rfl,rfl⟩:=pO;exact CN he ha
 ·split at he
  ·rename_i ka c
   have L6:=ha;simp only[den,siQ,Value.int.injEq] at L6;obtain⟨rfl,rfl⟩:=L6;obtain⟨e,r,h1,h2⟩:=CN he hb;rw[Oe] at h1;exact⟨e,r,h1,h2⟩
  ·unfold Jx at he
   split at he<;>try (cases he;done)
   ·refine⟨_,_,rfl,?_,he⟩;rw[jE (gX .leq hb ha)];congr 2;rw[←decide_not,decide_eq_decide];omega
   ·refine⟨_,_,rfl,?_,he⟩;rw[gX .leq ha hb];rfl
   ·refine⟨_,_,rfl,?_,he⟩;rw[jE (gX .leq ha hb)];congr 2;rw[←decide_not,decide_eq_decide];omega
   ·refine⟨_,_,rfl,?_,he⟩;rw[gX .leq hb ha];rfl
   ·rcases aR he with⟨hs,jD⟩|⟨_,he⟩
    ·have:=cq hs
     subst this;rw[ha] at hb;cases hb;exact⟨.lb true,true,by simp[jY],rfl,jD⟩
    ·refine⟨_,_,rfl,?_,he⟩;rw[gX .eql ha hb];rfl
   ·rcases aR he with⟨hs,jD⟩|⟨_,he⟩
    ·have:=cq hs
     subst this;rw[ha] at hb;cases hb;exact⟨.lb false,false,by simp[jY],rfl,jD⟩
    ·refine⟨_,_,rfl,?_,he⟩;rw[jE (gX .eql ha hb)];rfl
def mZ(fl:Bool)(op:BinOp)(a b:SE)(k:SE->Bool):Bool:=match op with
 |.eql=>bc (bc fl false (eE a b)) (k (.lb true)) (match a with|.ls _ _=>k (.cmp .eql b a)|a=>k (.cmp .eql a b))
 |.neq=>bc (bc fl false (eE a b)) (k (.lb false)) (match a with|.ls _ _=>k (.not (.cmp .eql b a))|a=>k (.not (.cmp .eql a b)))
 |op=>k (.cmp op a b)
theorem Og(hb:∀x,X≠.bool x)(hc:bu op X Y=some r):(binOp op t X Y).run P w=.ok (.bool r) w:=by
 cases X<;>cases Y<;>simp only[bu] at hc<;>try (cases hc;done)
 ·exact absurd rfl (hb _)
 ·rename_i k a k' b
  by_cases hk:k=k'
  ·subst hk
   simp only[if_true] at hc;cases op<;>simp only[jY] at hc<;>(try (cases hc;done))<;>simp[binOp,Op.intCmp]<;>simpa using hc
  ·simp only[hk,if_false] at hc;cases hc
 ·rename_i k a k' b
  cases k<;>cases k'<;>simp only at hc<;>try (cases hc;done)
  cases op<;>simp only[rn] at hc<;>(try (cases hc;done))<;>simp[binOp,Op.floatCmp]<;>simpa using hc
 ·cases op<;>simp only[zA] at hc<;>(try (cases hc;done))<;>simp[binOp,Op.stringOp]<;>simpa using hc
def B7(op:BinOp)(x y:AV)(k:Nat->SE->Bool):Bool:=bc (CL op) (seK x fun c a=>seK y fun d b=>bc (Nat.beq c d)
 (match c with
  |0=>(match op with|.eql=>bc (eE a b) (k 0 (.lb true)) (k 0 (.cmp .eql a b))|_=>false)
  |1=>(match x,y with
   |.x (.i k1) _,.x (.i k2) _=>bc (Nat.beq (kc k1) (kc k2)) (oG op a b (k 1)) false
   |.x (.i k1) _,.i k2 _=>bc (Nat.beq (kc k1) (kc k2)) (oG op a b (k 1)) false
   |.i k1 _,.x (.i k2) _=>bc (Nat.beq (kc k1) (kc k2)) (oG op a b (k 1)) false
   |_,_=>false)
  |2=>mZ true op a b (k 2)
  |3=>mZ false op a b (k 3)
  |_=>false) false) false
theorem ye{fl:Bool}{k:SE->Bool}(he:mZ fl op a b k=true)(ha:den E a=some X)(hb:den E b=some Y)(hc:bu op X Y=some r)
  (hn:bu .neq X Y=(bu .eql X Y).map not) (hs:∀s,X=.string s->bu .eql X Y=bu .eql Y X) (hr:fl=false->X=Y->bu .eql X Y=some true):∃e,den E e=some (.bool r)∧k e=true:=by
 have nt:∀{e:SE}{r:Bool},den E e=some (.bool r)->den E (.not e)=some (.bool !r):=fun h=>by simp only[den,h]
 have same:bc fl false (eE a b)=true->bu .eql X Y=some true:=fun h=>by
  rcases aR h with⟨_,hh⟩|⟨h1,h2⟩
  ·cases hh
  have:=cq h2;subst this;rw[ha] at hb;cases hb;exact hr h1 rfl
 unfold mZ at he;split at he
 ·rcases aR he with⟨h1,he⟩|⟨_,he⟩
  ·have:=same h1
   rw[hc] at this;cases this;exact⟨.lb true,rfl,he⟩
  ·split at he
   ·exact⟨_,by simp only[den] at ha⊢;rw[hb];cases ha;simp only;rw[←hs _ rfl,hc];rfl,he⟩
   ·exact⟨_,by simp only[den,ha,hb,hc,Option.map_some],he⟩
 ·rw[hn] at hc
  cases hq:bu .eql X Y with
  |none=>rw[hq] at hc;cases hc
  |some q=>
   rw[hq] at hc;simp only[Option.map_some,siQ] at hc;subst hc;rcases aR he with⟨h1,he⟩|⟨_,he⟩
   ·have:=same h1
    rw[hq] at this;cases this;exact⟨.lb false,rfl,he⟩
   ·split at he
    ·refine⟨_,nt (r:=q) ?_,he⟩
     simp only[den] at ha⊢;rw[hb];cases ha;simp only;rw[←hs _ rfl,hq];rfl
    ·exact⟨_,nt (r:=q) (by simp only[den,ha,hb,hq,Option.map_some]),he⟩
 ·exact⟨_,by simp only[den,ha,hb,hc,Option.map_some],he⟩
theorem L7{x:AV}{k:Nat->SE->Bool}(he:B7 op x y k=true)(rx:Rv E x X)(ry:Rv E y Y):
  ∃c e r,Jw c X∧Jw c Y∧c<4∧(c=0->op=.eql)∧bu op X Y=some r∧den E e=some (.bool r)∧k c e=true:=by
 obtain⟨hop,jD⟩:=aa he;obtain⟨c,a,ha,hca,qu⟩:=Qz jD rx;obtain⟨d,b,hb,hdb,he3⟩:=Qz qu ry;obtain⟨hcd,he4⟩:=aa he3;have hcd:=aN hcd;clear he jD qu he3;subst hcd;match c,hca,hdb,he4 with
 |0,⟨p,e1⟩,⟨q,e2⟩,he=>
  subst e1 e2;simp only at he;split at he
  ·rcases aR he with⟨hs,QA⟩|⟨_,he⟩
   ·have:=cq hs
    subst this;rw[ha] at hb;cases hb;exact⟨0,.lb true,true,⟨_,rfl⟩,⟨_,rfl⟩,by omega,fun _=>rfl,by simp[bu],rfl,QA⟩
   ·exact⟨0,_,p==q,⟨_,rfl⟩,⟨_,rfl⟩,by omega,fun _=>rfl,by simp[bu],by simp[den,ha,hb,bu],he⟩
  ·cases he
 |1,⟨k1,m,e1⟩,⟨k2,n,e2⟩,he=>
  subst e1 e2;have go:k1=k2->oG op a b (k 1)=true->∃c e r,Jw c (.int k1 m)∧Jw c (.int k2 n)∧c<4∧(c=0->op=.eql)∧bu op (.int k1 m) (.int k2 n)=some r∧den E e=some (.bool r)∧k c e=true:=by
   intro hk he;subst hk;obtain⟨e,r,h1,h2,h3⟩:=Of he ha hb;exact⟨1,e,r,⟨_,_,rfl⟩,⟨_,_,rfl⟩,by omega,(fun h=>absurd h (by decide)),by simp[bu,h1],h2,h3⟩
  simp only at he;split at he
  ·obtain⟨h1,QA⟩:=aa he
   simp only[Rv,jZ] at rx ry;obtain⟨_,_,h4,_⟩:=rx;obtain⟨_,_,h5,_⟩:=ry;cases h4;cases h5
   exact go (pN h1) QA
  ·obtain⟨h1,QA⟩:=aa he
   simp only[Rv,jZ] at rx ry;obtain⟨_,_,h4,_⟩:=rx;cases h4;cases ry
   exact go (pN h1) QA
  ·obtain⟨h1,QA⟩:=aa he
   simp only[Rv,jZ] at rx ry;obtain⟨_,_,h5,_⟩:=ry;cases rx;cases h5
   exact go (pN h1) QA
  ·cases he
 |2,⟨m,e1⟩,⟨n,e2⟩,he=>
  subst e1 e2;obtain⟨r,hr⟩:∃r,bu op (.float .f64 m) (.float .f64 n)=some r:=by
   cases op<;>simp only[CL,ftQ] at hop<;>exact⟨_,rfl⟩
  obtain⟨e,h1,h2⟩:=ye he ha hb hr rfl (fun _ h=>by cases h) (fun h=>by cases h);exact⟨2,e,r,⟨_,rfl⟩,⟨_,rfl⟩,by omega,(fun h=>absurd h (by decide)),hr,h1,h2⟩
 |c+3,⟨m,e1⟩,⟨n,e2⟩,he=>
  subst e1 e2;match c,he with
  |0,he=>
   obtain⟨r,hr⟩:∃r,bu op (.string m) (.string n)=some r:=by
    cases op<;>simp only[CL,ftQ] at hop<;>exact⟨_,rfl⟩
   obtain⟨e,h1,h2⟩:=ye he ha hb hr rfl (fun _ _=>by simp only[bu,zA];congr 1;rw[Bool.eq_iff_iff,beq_iff_eq,beq_iff_eq];exact eq_comm) (fun _ h=>by cases h;simp[bu,zA]);exact⟨3,e,r,⟨_,rfl⟩,⟨_,rfl⟩,by omega,(fun h=>absurd h (by decide)),hr,h1,h2⟩
  |c+1,he=>cases he
def Jz(op:BinOp)(x y:AV)(k:AV->Bool):Bool:=B7 op x y fun c e=>Nat.rec (motive:=fun _=>Bool) false (fun _ _=>k (.x .b e)) c
theorem Oh{x:AV}{k:AV->Bool}(he:Jz op x y k=true)(rx:Rv E x X)(ry:Rv E y Y):
  (∃v W,(binOp op t X Y).run P w=.ok W w∧Rv E v W∧k v=true)∧X≠.nilIface∧∀a,X≠.agg a:=by
 obtain⟨c,e,r,h1,_,_,_,h3,h4,h5⟩:=L7 he rx ry;match c,h1,h5 with
 |0,_,h5=>cases h5
 |c+1,h1,h5=>
  have hX:(∀x,X≠.bool x)∧X≠.nilIface∧∀a,X≠.agg a:=by
   match c,h1 with
   |0,⟨_,_,h⟩=>subst h;simp
   |1,⟨_,h⟩=>subst h;simp
   |_+2,⟨_,h⟩=>subst h;simp
  exact⟨⟨_,_,Og hX.1 h3,by rw[Rv];exact⟨h4,_,rfl⟩,h5⟩,hX.2⟩
def isX(v:AV):Bool:=match v with
 |.x _ _=>true
 |_=>false
def VD(d:TypeDesc)(c:Nat):Bool:=match d with
 |.bool=>Nat.beq c 0
 |.int _=>Nat.beq c 1
 |.float _=>Nat.beq c 2
 |.string=>Nat.beq c 3
 |_=>false
theorem Oi{c:Nat}(hu:P.underlying t=some d)(hd:VD d c=true)(h1:Jw c X)(h2:Jw c Y)(hc:bu .eql X Y=some r)(n:Nat):
  (Op.equalIn (n+1) t X Y).run P w=.ok r w:=by
 cases d<;>simp only[VD,ftQ] at hd<;>have hd:=aN hd<;>subst hd
 ·obtain⟨a,rfl⟩:=h1
  obtain⟨b,rfl⟩:=h2;simp only[bu,siQ] at hc;subst hc;simp[Op.equalIn,ai hu]
 ·obtain⟨k,a,rfl⟩:=h1
  obtain⟨k',b,rfl⟩:=h2;by_cases hk:k=k'
  ·subst hk
   simp only[bu,if_true,jY,siQ] at hc;subst hc;simp[Op.equalIn,ai hu]
  ·simp only[bu,hk,if_false] at hc;cases hc
 ·obtain⟨a,rfl⟩:=h1
  obtain⟨b,rfl⟩:=h2;simp only[bu,rn,siQ] at hc;subst hc;simp[Op.equalIn,ai hu,Op.floatEq]
 ·obtain⟨a,rfl⟩:=h1
  obtain⟨b,rfl⟩:=h2;simp only[bu,zA,siQ] at hc;subst hc;rw[run_equalIn_string w n t _ _ hu]
end
theorem zX{k:IntKind}(h1:k.min<=n)(h2:n<=k.max):k.wrap n=n:=by
 unfold IntKind.wrap;cases k<;>simp[IntKind.min,IntKind.max,IntKind.bits,IntKind.signed] at * <;>omega
theorem Gz(d:Ieee.Datum):d.order d=some .eq∨∃s m,d=.nan s m:=by
 cases d with
 |nan s m=>exact .inr ⟨s,m,rfl⟩
 |infinity s=>left;cases s<;>rfl
 |number s m i=>
  left;show some (compare (Ieee.signed s m (i-min i i).toNat) (Ieee.signed s m (i-min i i).toNat))=some .eq;congr 1;show compareOfLessAndEq _ _=.eq;unfold compareOfLessAndEq;rw[if_neg (Int.lt_irrefl _),if_pos rfl]
theorem yf(x:Nat):FloatKind.f64.format.order x x=some .eq∨∃s m,FloatKind.f64.format.read x=.nan s m:=Gz _
theorem CO:FloatKind.f64.format.read 0x433fffffffffffff=.number false 9007199254740991 0:=by kernel_rfl
theorem JD:FloatKind.f64.format.read 0xc33fffffffffffff=.number true 9007199254740991 0:=by kernel_rfl
theorem fsw:FloatKind.f64.format.signWeight=2 ^ 63:=rfl
theorem QB(s:Bool)(m d:Nat):Ieee.Toward.zero.cut s m d=m/(1<<<min d (m.log2+2)):=by
 unfold Ieee.Toward.cut;simp
theorem cut_le{d S:Nat}(h:m<=S*2 ^ d):Ieee.Toward.zero.cut s m d<=S:=by
 rw[QB,Nat.one_shiftLeft];rcases Nat.le_total d (m.log2+2) with hd|hd
 ·rw[Nat.min_eq_left hd]
  exact Nat.div_le_of_le_mul (by rw[Nat.mul_comm];exact h)
 ·rw[Nat.min_eq_right hd]
  have:m<2 ^ (m.log2+2):=dV Nat.lt_log2_self (Nat.pow_le_pow_right (by omega) (by omega));rw[Nat.div_eq_of_lt this];omega
theorem zY(h:(some (compare A B)==some Ordering.lt||some (compare A B)==some Ordering.eq)=true):A<=B:=by
 have:compare A B=.lt∨compare A B=.eq:=by simpa using h
 rcases this with h|h
 ·have:A<B:=by
   rw[show compare A B=compareOfLessAndEq A B from rfl] at h;unfold compareOfLessAndEq at h;split at h
   ·assumption
   ·split at h<;>cases h
  omega
 ·rw[y7] at h;omega
theorem JG(h:(some (compare A B)==some Ordering.gt||some (compare A B)==some Ordering.eq)=true):B<=A:=by
 have:compare A B=.gt∨compare A B=.eq:=by simpa using h
 rcases this with h|h
 ·rw[show compare A B=compareOfLessAndEq A B from rfl] at h
  unfold compareOfLessAndEq at h;split at h
  ·cases h
  ·split at h
   ·cases h
   ·omega
 ·rw[y7] at h;omega
theorem GA{t:Bool}(h:Ieee.signed false m (i-min i 0).toNat<=Ieee.signed false 9007199254740991 (0-min i 0).toNat):Ieee.Toward.zero.cut t (m<<<i.toNat) (-i).toNat<=9007199254740991:=by
 unfold Ieee.signed at h;simp only[ftQ,if_false] at h;have h:m<<<(i-min i 0).toNat<=9007199254740991<<<(0-min i 0).toNat:=by exact_mod_cast h
 apply cut_le;rw[Nat.shiftLeft_eq] at *;rw[Nat.shiftLeft_eq] at h;rcases Int.le_total i 0 with hi|hi
 ·rw[Int.min_eq_left hi] at h
  have e1:(i-i).toNat=0:=by omega
  have e2:(0-i).toNat=(-i).toNat:=by omega
  have e3:i.toNat=0:=by omega
  rw[e1,e2] at h;rw[e3];simpa using h
 ·rw[Int.min_eq_right hi] at h
  have e1:(i-0).toNat=i.toNat:=by omega
  have e2:(0-0:Int).toNat=0:=rfl;have e3:(-i).toNat=0:=by omega
  rw[e1,e2] at h;rw[e3];simpa using h
theorem L8(h:FloatKind.f64.decode x=.number s m i):Jg x=Ieee.signed s (Ieee.Toward.zero.cut s (m<<<i.toNat) (-i).toNat) 0:=by
 unfold Jg;rw[h];rfl
theorem vp{M S:Nat}(h:M<=S): -(S:Int)<=Ieee.signed s M 0∧Ieee.signed s M 0<=S:=by
 unfold Ieee.signed;cases s<;>simp<;>omega
theorem CQ(m u:Nat):Ieee.signed true m u= -Ieee.signed false m u:=by unfold Ieee.signed;simp
theorem zZ(h1:rn .leq x 0x433fffffffffffff=some true)(h2:rn .geq x 0xc33fffffffffffff=some true):
  ∃s m i,FloatKind.f64.decode x=.number s m i∧Ieee.signed false m (i-min i 0).toNat<=Ieee.signed false 9007199254740991 (0-min i 0).toNat:=by
 simp only[rn,siQ] at h1 h2;unfold Ieee.Format.order at h1 h2;rw[CO] at h1;rw[JD] at h2;have e:FloatKind.f64.decode x=FloatKind.f64.format.read x:=rfl;rw[e];cases hd:FloatKind.f64.format.read x with
 |nan s t=>rw[hd] at h1;cases h1
 |infinity s=>rw[hd] at h1 h2;cases s<;>first|(cases h1;done)|(cases h2;done)
 |number s m i=>
  rw[hd] at h1 h2;refine⟨s,m,i,rfl,?_⟩;have h1:=zY h1;have h2:=JG h2;cases s
  ·exact h1
  ·rw[CQ,CQ] at h2;omega
theorem GB(h1:rn .leq x 0x433fffffffffffff=some true)(h2:rn .geq x 0xc33fffffffffffff=some true):
  (∃s m i,FloatKind.f64.decode x=.number s m i)∧-9007199254740991<=Jg x∧Jg x<=9007199254740991:=by
 obtain⟨s,m,i,h,hb⟩:=zZ h1 h2;refine⟨⟨s,m,i,h⟩,?_⟩;rw[L8 h];exact vp (GA hb)
theorem VE(hx:x<18446744073709551616):Jf x=x%2 ^ 63:=by
 unfold Jf;have e0:(~~~BitVec.ofInt 64 9223372036854775808).toNat=2 ^ 63-1:=by decide
 have e1:(BitVec.ofInt 64 (x:Int)&&&~~~BitVec.ofInt 64 9223372036854775808).toNat=x%2 ^ 63:=by
  rw[BitVec.toNat_and,e0,Nat.and_two_pow_sub_one_eq_mod];have:(BitVec.ofInt 64 (x:Int)).toNat=x:=by
   rw[BitVec.toNat_ofInt];omega
  rw[this]
 rw[e1];have cL:x%2 ^ 63<2 ^ 63:=Nat.mod_lt _ (by decide);have:IntKind.u64.wrap ((x%2 ^ 63:Nat):Int)=((x%2 ^ 63:Nat):Int):=by
  apply zX<;>(simp[IntKind.min,IntKind.max,IntKind.bits,IntKind.signed];try omega)
 rw[this];rfl
theorem QC(x:Nat):FloatKind.f64.format.read (x%2 ^ 63)=(match FloatKind.f64.format.read x with
  |.number _ m i=>.number false m i
  |.infinity _=>.infinity false
  |.nan _ t=>.nan false t):=by
 unfold Ieee.Format.read;rw[fsw];have e1:x%2 ^ 63/2 ^ 63%2=0:=by omega
 have e2:x%2 ^ 63%2 ^ 63=x%2 ^ 63:=by omega
 simp only[e1,e2];have e3:((0:Nat)==1)=false:=rfl;rw[e3];split
 ·rfl
 ·split
  ·rfl
  ·split<;>rfl
theorem z6(hx:x<18446744073709551616)(hs:nU x x=true)(h:Z' (Jf x) 0x433fffffffffffff=true):
  ∃s m i,FloatKind.f64.decode x=.number s m i∧Ieee.signed false m (i-min i 0).toNat<=Ieee.signed false 9007199254740991 (0-min i 0).toNat:=by
 unfold Z' at h;unfold nU at hs;unfold Ieee.Format.order at h hs;rw[VE hx,QC,CO] at h;have e:FloatKind.f64.decode x=FloatKind.f64.format.read x:=rfl;rw[e];cases hd:FloatKind.f64.format.read x with
 |nan s t=>rw[hd] at hs;cases hs
 |infinity s=>rw[hd] at h;cases h
 |number s m i=>
  rw[hd] at h;exact⟨s,m,i,rfl,zY h⟩
theorem GC(h:tP x=true)(hs:nU x x=true):Z' (Jf x) 0x433fffffffffffff=true:=by
 unfold tP at h;rw[hs] at h;simp at h;exact h.1.2
theorem z7(hx:x<18446744073709551616)(h:tP x=true)(hs:nU x x=true):∃s m i,FloatKind.f64.decode x=.number s m i:=by
 obtain⟨s,m,i,h,_⟩:=z6 hx hs (GC h hs);exact⟨s,m,i,h⟩
theorem VF(hx:x<18446744073709551616)(h:tP x=true)(hs:nU x x=true): -9007199254740991<=Jg x∧Jg x<=9007199254740991:=by
 obtain⟨s,m,i,h,hb⟩:=z6 hx hs (GC h hs);rw[L8 h];exact vp (GA hb)
theorem VG(n:Int):FloatKind.f64.nearest n<18446744073709551616:=Ieee.Format.write_lt FloatKind.f64.format (.number (decide (n<0)) n.natAbs 0)
theorem QD(hs:nU x x=false):tP x=true:=by unfold tP;rw[hs];rfl
theorem VH{y:Nat}(hx:∃s m i,FloatKind.f64.decode x=.number s m i)(hy:∃s m i,FloatKind.f64.decode y=.number s m i):∃r,FloatKind.f64.format.add x y=some r∧r<18446744073709551616:=by
 obtain⟨s,m,i,hx⟩:=hx;obtain⟨t,n,j,hy⟩:=hy;have hx:FloatKind.f64.format.read x=_:=hx;have hy:FloatKind.f64.format.read y=_:=hy;unfold Ieee.Format.add;rw[hx,hy];exact⟨_,rfl,Ieee.Format.write_lt FloatKind.f64.format _⟩
theorem VI{y:Nat}(hx:∃s m i,FloatKind.f64.decode x=.number s m i)(hy:∃s m i,FloatKind.f64.decode y=.number s m i):∃r,FloatKind.f64.format.sub x y=some r∧r<18446744073709551616:=by
 obtain⟨s,m,i,hx⟩:=hx;obtain⟨t,n,j,hy⟩:=hy;have hx:FloatKind.f64.format.read x=_:=hx;have hy:FloatKind.f64.format.read y=_:=hy;unfold Ieee.Format.sub;rw[hx,hy];exact⟨_,rfl,Ieee.Format.write_lt FloatKind.f64.format _⟩
theorem VJ{y:Nat}(h:nU x x=false∨nU y y=false):FloatKind.f64.format.add x y=none:=by
 have key:∀z,nU z z=false->∃s t,FloatKind.f64.format.read z=.nan s t:=fun z hz=>by
  rcases yf z with h|h
  ·unfold nU at hz;rw[h] at hz;cases hz
  ·exact h
 unfold Ieee.Format.add;rcases h with h|h
 ·obtain⟨s,t,e⟩:=key _ h;rw[e];cases FloatKind.f64.format.read y<;>rfl
 ·obtain⟨s,t,e⟩:=key _ h;rw[e];cases FloatKind.f64.format.read x<;>rfl
theorem VK{y:Nat}(h:nU x x=false∨nU y y=false):FloatKind.f64.format.sub x y=none:=by
 have key:∀z,nU z z=false->∃s t,FloatKind.f64.format.read z=.nan s t:=fun z hz=>by
  rcases yf z with h|h
  ·unfold nU at hz;rw[h] at hz;cases hz
  ·exact h
 unfold Ieee.Format.sub;rcases h with h|h
 ·obtain⟨s,t,e⟩:=key _ h;rw[e];cases FloatKind.f64.format.read y<;>rfl
 ·obtain⟨s,t,e⟩:=key _ h;rw[e];cases FloatKind.f64.format.read x<;>rfl
set_option maxRecDepth 100000
section
variable{E:Env}{h:Heap}{aq:Nat}{w:World}
def rN(a x b y:Nat):Bool:=bc (Nat.beq a b) (Nat.beq (Nat.mod x (Nat.pow 256 a)) (Nat.mod y (Nat.pow 256 b))) false
theorem z'(a x b y:Nat):rN a x b y=((str a x).toList==(str b y).toList):=by
 rw[ByteArray.toList_eq,ByteArray.toList_eq,ek,ek];unfold rN;by_cases e:a=b
 ·subst e
  rw[show Nat.beq a a=true from Nat.beq_refl a,nW];have:(unpack a x==unpack a y)=decide (unpack a x=unpack a y):=by
   rw[Bool.eq_iff_iff];simp
  rw[this];have h2:=zz a x y;rw[Bool.eq_iff_iff,decide_eq_true_iff,h2];constructor
  ·intro hh;exact aN hh
  ·intro hh;show Nat.beq (x%256 ^ a) (y%256 ^ a)=true;rw[hh];exact Nat.beq_refl _
 ·have hb:Nat.beq a b=false:=by
   cases hh:Nat.beq a b with
   |false=>rfl
   |true=>exact absurd (aN hh) e
  rw[hb,o4];have:unpack a x≠unpack b y:=fun hh=>e (by have:=congrArg List.length hh;simpa using this)
  rw[eq_comm,Bool.eq_false_iff];intro hh;exact this (by simpa using hh)
def strLt(a:Nat):Nat->Nat->Nat->Bool:=
 Nat.rec (motive:=fun _=>Nat->Nat->Nat->Bool) (fun _ b _=>Nat.rec (motive:=fun _=>Bool) false (fun _ _=>true) b)
  (fun _ ih x b y=>Nat.rec (motive:=fun _=>Bool) false (fun l _=>
   bc (Nat.ble (Nat.succ (Nat.mod x 256)) (Nat.mod y 256)) true (bc (Nat.beq (Nat.mod x 256) (Nat.mod y 256)) (ih (Nat.div x 256) l (Nat.div y 256)) false)) b) a
theorem GD:∀(a x b y:Nat),strLt a x b y=Op.bytesLess (unpack a x) (unpack b y)
 |0,x,0,y=>rfl
 |0,x,b+1,y=>rfl
 |a+1,x,0,y=>rfl
 |a+1,x,b+1,y=>by
  show bc (Nat.ble (x%256+1) (y%256)) true (bc (Nat.beq (x%256) (y%256)) (strLt a (x/256) b (y/256)) false)=_;rw[GD a (x/256) b (y/256)];simp only[unpack,Op.bytesLess];have hx:(UInt8.ofNat (x%256)).toNat=x%256:=by rw[UInt8.toNat_ofNat'];exact Nat.mod_eq_of_lt (by have:=Nat.mod_lt x (show 256>0 by omega);omega)
  have hy:(UInt8.ofNat (y%256)).toNat=y%256:=by rw[UInt8.toNat_ofNat'];exact Nat.mod_eq_of_lt (by have:=Nat.mod_lt y (show 256>0 by omega);omega)
  have e1:decide (UInt8.ofNat (x%256)<UInt8.ofNat (y%256))=Nat.ble (x%256+1) (y%256):=by
   rw[Bool.eq_iff_iff,decide_eq_true_iff,UInt8.lt_iff_toNat_lt,hx,hy];exact⟨fun hh=>Nat.ble_eq_true_of_le hh,fun hh=>aU hh⟩
  have e2:(UInt8.ofNat (x%256)==UInt8.ofNat (y%256))=Nat.beq (x%256) (y%256):=by
   rw[Bool.eq_iff_iff,beq_iff_eq,←UInt8.toNat_inj,hx,hy];exact⟨fun hh=>by rw[hh];exact Nat.beq_refl _,fun hh=>aN hh⟩
  rw[e1,e2];cases Nat.ble (x%256+1) (y%256)<;>cases Nat.beq (x%256) (y%256)<;>simp[bc]
def FY(k:IntKind):Nat:=match k with
 |.i8=>0|.i16=>1|.i32=>2|.i64=>3|.u8=>4|.u16=>5|.u32=>6|.u64=>7
theorem s5{k:IntKind}(hh:Nat.beq (FY k) (FY k')=true):k=k':=by
 have:=aN hh;cases k<;>cases k'<;>first|rfl|(exact absurd this (by decide))
def um(a b:Int):Bool:=
 Int.rec (motive:=fun _=>Bool) (fun m=>Int.rec (motive:=fun _=>Bool) (fun n=>Nat.beq m n) (fun _=>false) b) (fun m=>Int.rec (motive:=fun _=>Bool) (fun _=>false) (fun n=>Nat.beq m n) b) a
theorem GF(a b:Int):um a b=(a==b):=by
 cases a<;>cases b
 ·rename_i m n
  show Nat.beq m n=_;rw[Bool.eq_iff_iff,beq_iff_eq];exact⟨fun hh=>by rw[aN hh],fun hh=>by injection hh with hh;rw[hh];exact Nat.beq_refl _⟩
 ·show false=_
  rw[eq_comm,Bool.eq_false_iff];intro hh;simp at hh
 ·show false=_
  rw[eq_comm,Bool.eq_false_iff];intro hh;simp at hh
 ·rename_i m n
  show Nat.beq m n=_;rw[Bool.eq_iff_iff,beq_iff_eq];exact⟨fun hh=>by rw[aN hh],fun hh=>by injection hh with hh;rw[hh];exact Nat.beq_refl _⟩
def CR(h:Heap)(id:Nat)(b:Bool):Bool:=match T.get .gone h id with
 |.cells _ _ _=>b
 |_=>false
def vq(P:Program)(h:Heap)(d:TypeDesc)(x y:AV)(k:Bool->Bool):Bool:=match d with
 |.bool=>match x,y with
  |.b a,.b b=>j7 (bc a b (bc b false true)) k
  |_,_=>false
 |.int _=>match x,y with
  |.i j a,.i j' b=>bc (Nat.beq (FY j) (FY j')) (j7 (um a b) k) false
  |_,_=>false
 |.float _=>match x,y with
  |.f .f64 a,.f .f64 b=>j7 (Op.floatEq .f64 a b) k
  |.nan,.f .f64 _=>k false
  |.f .f64 _,.nan=>k false
  |.nan,.nan=>k false
  |_,_=>false
 |.string=>match x,y with
  |.s a x,.s b y=>j7 (rN a x b y) k
  |_,_=>false
 |.pointer el=>match x,y with
  |.pn,.pn=>k true
  |.pn,.p _ _=>k false
  |.p _ _,.pn=>k false
  |.p i a,.p j b=>match P.info? el with
   |some inf=>bc (Nat.ble 1 inf.size) (bc (Nat.beq i j) (j7 (Nat.beq a b) k) (CR h i (CR h j (k false)))) false
   |none=>false
  |_,_=>false
 |.slice _=>match x,y with
  |.sn,.sn=>k true
  |.sn,.sl _ _ _ _=>k false
  |.sl _ _ _ _,.sn=>k false
  |.sn,.sx _ _ _ _=>k false
  |.sx _ _ _ _,.sn=>k false
  |.sn,.so _ _ _ _=>k false
  |.so _ _ _ _,.sn=>k false
  |_,_=>false
 |.map _ _=>match x,y with
  |.mpn,.mpn=>k true
  |.mpn,.mp _=>k false
  |.mp _,.mpn=>k false
  |_,_=>false
 |.func _ _ _=>match x,y with
  |.fnil,.fnil=>k true
  |.fnil,.fn _ _ _=>k false
  |.fn _ _ _,.fnil=>k false
  |_,_=>false
 |.interface _=>match x,y with
  |.inil,.inil=>k true
  |.inil,.ifc _ _=>k false
  |.ifc _ _,.inil=>k false
  |.ifc t _,.ifc u _=>bc (Nat.beq t u) false (k false)
  |_,_=>false
 |_=>false
theorem rO{a b:Nat}(hh:mB a∨mB b):Op.floatEq .f64 a b=false:=by
 unfold Op.floatEq;have e:FloatKind.f64.format.order a b=none:=by
  unfold Ieee.Format.order;rcases hh with⟨⟨s,m,e⟩,_⟩|⟨⟨s,m,e⟩,_⟩
  ·have:FloatKind.f64.format.read a=.nan s m:=e
   rw[this];cases FloatKind.f64.format.read b<;>rfl
  ·have:FloatKind.f64.format.read b=.nan s m:=e
   rw[this];cases FloatKind.f64.format.read a<;>rfl
 rw[e];rfl
theorem GG{id:Nat}{b:Bool}(he:CR h id b=true):∃n gB c,T.get .gone h id=.cells n gB c∧b=true:=by
 unfold CR at he;split at he
 ·rename_i n gB c hc;exact⟨n,gB,c,hc,he⟩
 ·cases he
set_option maxHeartbeats 1600000 in
theorem JH{x:AV}{k:Bool->Bool}(hu:P.underlying t=some d)(he:vq P h d x y k=true)(rx:Rv E x X)(ry:Rv E y Y)(hr:HR E h aq w)(n:Nat):
  ∃b,(Op.equalIn (n+1) t X Y).run P w=.ok b w∧k b=true:=by
 unfold vq at he;split at he
 ·split at he<;>try (cases he;done)
  rw[Rv] at rx;rw[Rv] at ry;subst rx;subst ry;rename_i a b;rw[ft] at he;refine⟨a==b,by simp[Op.equalIn,ai hu],?_⟩;have:bc a b (bc b false true)=(a==b):=by cases a<;>cases b<;>rfl
  rw[←this];exact he
 ·split at he<;>try (cases he;done)
  rw[Rv] at rx;rw[Rv] at ry;subst rx;subst ry;rename_i j a j' b;obtain⟨h1,jD⟩:=aa he;have:=s5 h1;subst this;rw[ft,GF] at jD;exact⟨a==b,by simp[Op.equalIn,ai hu],jD⟩
 ·split at he<;>try (cases he;done)
  ·rw[Rv] at rx;rw[Rv] at ry;subst rx;subst ry
   rw[ft] at he;exact⟨_,by simp[Op.equalIn,ai hu],he⟩
  ·rw[Rv] at rx;rw[Rv] at ry;subst ry
   obtain⟨a,rfl,ha⟩:=rx;exact⟨false,by simp[Op.equalIn,ai hu,rO (.inl ha)],he⟩
  ·rw[Rv] at rx;rw[Rv] at ry;subst rx
   obtain⟨a,rfl,ha⟩:=ry;exact⟨false,by simp[Op.equalIn,ai hu,rO (.inr ha)],he⟩
  ·rw[Rv] at rx;rw[Rv] at ry
   obtain⟨a,rfl,ha⟩:=rx;obtain⟨b,rfl,hb⟩:=ry;exact⟨false,by simp[Op.equalIn,ai hu,rO (.inl ha)],he⟩
 ·split at he<;>try (cases he;done)
  rw[Rv] at rx;rw[Rv] at ry;subst rx;subst ry;rw[ft,z'] at he;exact⟨_,by rw[run_equalIn_string w n t _ _ hu],he⟩
 ·rename_i el
  split at he<;>try (cases he;done)
  ·rw[Rv] at rx;rw[Rv] at ry;subst rx;subst ry
   exact⟨true,by simp[Op.equalIn,ai hu],he⟩
  ·rw[Rv] at rx;rw[Rv] at ry;subst rx
   obtain⟨L,_,rfl⟩:=ry;exact⟨false,by simp[Op.equalIn,ai hu],he⟩
  ·rw[Rv] at rx;rw[Rv] at ry;subst ry
   obtain⟨L,_,rfl⟩:=rx;exact⟨false,by simp[Op.equalIn,ai hu],he⟩
  ·rename_i i a j b
   split at he<;>try (cases he;done)
   rename_i inf hi;obtain⟨h1,he⟩:=aa he;have h1:=aU h1;have cR:inf.size≠0:=by omega
   rw[Rv] at rx;rw[Rv] at ry;obtain⟨L,hL,rfl⟩:=rx;obtain⟨M,hM,rfl⟩:=ry;rcases aR he with⟨YG,jD⟩|⟨YG,he⟩
   ·have YG:=aN YG
    subst YG;obtain rfl:L=M:=mL (hL.symm.trans hM);rw[ft] at jD;refine⟨Nat.beq a b,?_,jD⟩;have:((⟨L.aH,L.base+a,none⟩:Addr)==⟨L.aH,L.base+b,none⟩)=Nat.beq a b:=by
     rw[Bool.eq_iff_iff,beq_iff_eq];constructor
     ·intro hh;injection hh with _ hh _;have:a=b:=by omega
      subst this;exact Nat.beq_refl _
     ·intro hh;rw[aN hh]
    simp only[Op.equalIn,Sem.run_bind,ai hu,Result.andThen_ok,bG hi,ne_eq,cR,not_false_eq_true,if_true,sameAddr,BEq.rfl,Sem.run_pure,this]
   ·obtain⟨n1,e1,c1,CS,he⟩:=GG he
    obtain⟨n2,e2,c2,Aa,he⟩:=GG he;obtain⟨L',ar1,el1,tY,Oj,_⟩:=hr.cells CS;obtain⟨M',ar2,el2,hM',oH,_⟩:=hr.cells Aa;obtain rfl:L=L':=mL (hL.symm.trans tY);obtain rfl:M=M':=mL (hM.symm.trans hM');have pP:L.aH≠M.aH:=fun hh=>by
     have:=hr.inj i j L M (by rw[CS];rfl) (by rw[Aa];rfl) hL hM hh;subst this;rw[Nat.beq_refl] at YG;cases YG
    refine⟨false,?_,he⟩;have s1:w.shape? L.aH=some (el1,ar1.size):=by simp[World.shape?,Oj]
    have s2:w.shape? M.aH=some (el2,ar2.size):=by simp[World.shape?,oH]
    have f1:∀o,w.frozen? ⟨L.aH,o,none⟩=false:=fun o=>wN Oj o
    have f2:∀o,w.frozen? ⟨M.aH,o,none⟩=false:=fun o=>wN oH o
    simp[Op.equalIn,ai hu,bG hi,cR,sameAddr,pP,noView,viewAt,s1,s2,mayBeOne,stringish,f1,f2]
 ·split at he<;>try (cases he;done)
  ·rw[Rv] at rx;rw[Rv] at ry;subst rx;subst ry
   exact⟨true,by simp[Op.equalIn,ai hu],he⟩
  ·rw[Rv] at rx;rw[Rv] at ry;subst rx;obtain⟨L,_,rfl⟩:=ry
   exact⟨false,by simp[Op.equalIn,ai hu],he⟩
  ·rw[Rv] at rx;rw[Rv] at ry;subst ry;obtain⟨L,_,rfl⟩:=rx
   exact⟨false,by simp[Op.equalIn,ai hu],he⟩
  ·rw[Rv] at rx;rw[Rv] at ry;subst rx;obtain⟨L,_,_,_,_,_,_,_,rfl⟩:=ry
   exact⟨false,by simp[Op.equalIn,ai hu],he⟩
  ·rw[Rv] at rx;rw[Rv] at ry;subst ry;obtain⟨L,_,_,_,_,_,_,_,rfl⟩:=rx
   exact⟨false,by simp[Op.equalIn,ai hu],he⟩
  ·rw[Rv] at rx;rw[Rv] at ry;subst rx;obtain⟨L,_,rfl,_⟩:=ry
   exact⟨false,by simp[Op.equalIn,ai hu],he⟩
  ·rw[Rv] at rx;rw[Rv] at ry;subst ry;obtain⟨L,_,rfl,_⟩:=rx
   exact⟨false,by simp[Op.equalIn,ai hu],he⟩
 ·split at he<;>try (cases he;done)
  ·rw[Rv] at rx;rw[Rv] at ry;subst rx;subst ry
   exact⟨true,by simp[Op.equalIn,ai hu],he⟩
  ·rw[Rv] at rx;rw[Rv] at ry;subst rx;obtain⟨L,_,rfl⟩:=ry
   exact⟨false,by simp[Op.equalIn,ai hu],he⟩
  ·rw[Rv] at rx;rw[Rv] at ry;subst ry;obtain⟨L,_,rfl⟩:=rx
   exact⟨false,by simp[Op.equalIn,ai hu],he⟩
 ·split at he<;>try (cases he;done)
  ·rw[Rv] at rx;rw[Rv] at ry;subst rx;subst ry
   exact⟨true,by simp[Op.equalIn,ai hu],he⟩
  ·rw[Rv] at rx;rw[Rv] at ry;subst rx;obtain⟨_,_,rfl,_,_⟩:=ry
   exact⟨false,by simp[Op.equalIn,ai hu],he⟩
  ·rw[Rv] at rx;rw[Rv] at ry;subst ry;obtain⟨_,_,rfl,_,_⟩:=rx
   exact⟨false,by simp[Op.equalIn,ai hu],he⟩
 ·split at he<;>try (cases he;done)
  ·rw[Rv] at rx;rw[Rv] at ry;subst rx;subst ry
   exact⟨true,by simp[Op.equalIn,ai hu],he⟩
  ·rw[Rv] at rx;rw[Rv] at ry;subst rx;obtain⟨_,rfl,_⟩:=ry
   exact⟨false,by simp[Op.equalIn,ai hu],he⟩
  ·rw[Rv] at rx;rw[Rv] at ry;subst ry;obtain⟨_,rfl,_⟩:=rx
   exact⟨false,by simp[Op.equalIn,ai hu],he⟩
  ·rename_i t u _
   rcases aR he with⟨_,hh⟩|⟨htu,he⟩
   ·cases hh
   ·rw[Rv] at rx;rw[Rv] at ry
    obtain⟨V1,rfl,_⟩:=rx;obtain⟨V2,rfl,_⟩:=ry;have cR:=Nat.ne_of_beq_eq_false htu;exact⟨false,by simp[Op.equalIn,ai hu,cR],he⟩
 ·cases he
def JI(P:Program)(h:Heap)(d:TypeDesc)(x y:AV)(k:SE->Bool):Bool:=
 bc (bc (isX x) true (isX y)) (B7 .eql x y fun c e=>bc (VD d c) (k e) false) (vq P h d x y fun r=>k (.lb r))
theorem Ol{x:AV}{k:SE->Bool}(hu:P.underlying t=some d)(he:JI P h d x y k=true)(rx:Rv E x X)(ry:Rv E y Y)(hr:HR E h aq w)(n:Nat):
  ∃b e,(Op.equalIn (n+1) t X Y).run P w=.ok b w∧den E e=some (.bool b)∧k e=true:=by
 rcases aR he with⟨_,he⟩|⟨_,he⟩
 ·obtain⟨c,e,r,h1,h2,_,_,h3,h4,h5⟩:=L7 he rx ry
  obtain⟨h6,h5⟩:=aa h5;exact⟨r,e,Oi hu h6 h1 h2 h3 n,h4,h5⟩
 ·obtain⟨b,h1,h2⟩:=JH hu he rx ry hr n
  exact⟨b,.lb b,h1,rfl,h2⟩
def VL(r:SE)(rest:(SE->Bool)->Bool)(k:SE->Bool):Bool:=match r with
 |.lb x=>bc x (rest k) (k (.lb false))
 |e=>rest fun r2=>match r2 with
  |.lb x=>bc x (k e) (k (.lb false))
  |e2=>k (.and e e2)
def s6(P:Program)(ih:TypeId->AV->AV->(SE->Bool)->Bool)(xs ys:List AV)(fs:List Field):(SE->Bool)->Bool:=
 List.rec (motive:=fun _=>(SE->Bool)->Bool) (fun k=>k (.lb true))
  (fun f _ YM k=>bc (f.name== "_") (YM k) (uk P f.type xs f.offset fun a=>uk P f.type ys f.offset fun b=>ih f.type a b fun r=>VL r YM k)) fs
def vr(P:Program)(h:Heap)(ih:TypeId->AV->AV->(SE->Bool)->Bool)(t:TypeId)(x y:AV)(k:SE->Bool):Bool:=match P.underlying t with
 |some (.struct fs)=>bc (P.stoodInHeld t) false (match x with
  |.ag xs=>match y with
   |.ag ys=>s6 P ih xs ys fs.toList k
   |_=>false
  |_=>false)
 |some d=>JI P h d x y k
 |none=>false
def D1(P:Program)(h:Heap)(d:Nat):TypeId->AV->AV->(SE->Bool)->Bool:=
 Nat.rec (motive:=fun _=>TypeId->AV->AV->(SE->Bool)->Bool) (fun _ _ _ _=>false) (fun _ ih=>vr P h ih) d
theorem D2{P:Program}:∀(d:Nat){t:TypeId}{x y:AV}{X Y:Value}{k:SE->Bool},D1 P h d t x y k=true->Rv E x X->Rv E y Y->HR E h aq w->
  ∃b e,(Op.equalIn d t X Y).run P w=.ok b w∧den E e=some (.bool b)∧k e=true
 |0,_,_,_,_,_,_,he,_,_,_=>by cases he
 |d+1,t,x,y,X,Y,k,he,rx,ry,hr=>by
  replace he:vr P h (D1 P h d) t x y k=true:=he;unfold vr at he;split at he
  ·rename_i fs hu
   rcases aR he with⟨_,hh⟩|⟨QE,qu⟩
   ·cases hh
   clear he;split at qu<;>try (cases qu;done)
   rename_i xs;split at qu<;>try (cases qu;done)
   rename_i ys;have he:=qu;clear qu;rw[Rv] at rx;rw[Rv] at ry;obtain⟨vx,rfl,rx⟩:=rx;obtain⟨vy,rfl,ry⟩:=ry;have hfo:P.fieldsOf t=fs:=by simp[Program.fieldsOf,hu]
   rw[run_equalIn_struct w d t _ _ (by rw[hfo];exact hu) QE,hfo];generalize fs.toList=l at he;clear hu hfo;induction l generalizing k with
   |nil=>exact⟨true,.lb true,by simp[Op.eqFields],rfl,he⟩
   |cons f l tO=>
    have he:bc (f.name== "_") (s6 P (D1 P h d) xs ys l k)
      (uk P f.type xs f.offset fun a=>uk P f.type ys f.offset fun b=>D1 P h d f.type a b fun r=>VL r (s6 P (D1 P h d) xs ys l) k)=true:=he
    rcases aR he with⟨hn,he⟩|⟨hn,he⟩
    ·obtain⟨b,e,h1,h2,h3⟩:=tO _ he
     refine⟨b,e,?_,h2,h3⟩;have:f.name= "_":=by simpa using hn
     simp[Op.eqFields,this,h1]
    ·have BW:f.name≠ "_":=by simpa using hn
     obtain⟨a,A,g1,g2,he⟩:=vk (w:=w) (vs:=vx.toArray) he (by simpa using rx);obtain⟨b,B,g3,g4,he⟩:=vk (w:=w) (vs:=vy.toArray) he (by simpa using ry);obtain⟨r,e,g5,g6,he⟩:=D2 d he g2 g4 hr;have all:∀{b':Bool},(Op.eqFields d vx.toArray vy.toArray l).run P w=.ok b' w->(Op.eqFields d vx.toArray vy.toArray (f::l)).run P w=.ok (r&&b') w:=by
      intro b' h1;cases fw:r
      ·simp[Op.eqFields,BW,g1,g3,g5,fw]
      ·simp[Op.eqFields,BW,g1,g3,g5,fw,h1]
     have no:r=false->(Op.eqFields d vx.toArray vy.toArray (f::l)).run P w=.ok false w:=fun fw=>by
      simp[Op.eqFields,BW,g1,g3,g5,fw]
     unfold VL at he;split at he
     ·rename_i x
      simp only[den,siQ,Value.bool.injEq] at g6;subst g6;rcases aR he with⟨hx,he⟩|⟨hx,he⟩
      ·obtain⟨b',e',h1,h2,h3⟩:=tO _ he
       refine⟨b',e',?_,h2,h3⟩;have:=all h1;rw[hx,Bool.true_and] at this;exact this
      ·exact⟨false,.lb false,no hx,rfl,he⟩
     ·obtain⟨b',e',h1,h2,h3⟩:=tO _ he
      split at h3
      ·rename_i y
       simp only[den,siQ,Value.bool.injEq] at h2;subst h2;rcases aR h3 with⟨hy,h3⟩|⟨hy,h3⟩
       ·refine⟨r,e,?_,g6,h3⟩
        have:=all h1;rw[hy,Bool.and_true] at this;exact this
       ·refine⟨false,.lb false,?_,rfl,h3⟩
        have:=all h1;rw[hy,Bool.and_false] at this;exact this
      ·exact⟨r&&b',.and e e',all h1,by simp only[den,g6,h2],h3⟩
  ·rename_i dd hu _
   exact Ol (by assumption) he rx ry hr d
  ·cases he
end
end
end Go.Proofs.YtngagklmbbogiaaGreatDoor.Vx
