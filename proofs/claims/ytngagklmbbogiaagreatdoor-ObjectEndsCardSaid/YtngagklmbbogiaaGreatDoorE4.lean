/- Parts of one proof (Ob85 to Ob91). No condition. -/
import Derived.Test.YtngagklmbbogiaaGreatDoorE3
set_option linter.all false
namespace Go.Proofs.YtngagklmbbogiaaGreatDoor.Ob
open Go Go.RowKit Vx
set_option maxRecDepth 100000
noncomputable section
variable{a:An}{b bg no ov:Bool}{E E0:Env}{g:FuncId}{h:Heap}{e kd md:Int}{R:List An}{l:List V4}{ws:List Value}{ab ba base cap k mb n ob ph tb:Nat}{ok:Nat->Nat->Bool}{o:Oper}{A V:Value}{w w':World}{regs:aI}
abbrev SP:=Nat->Vx.S
def qH:SP:=fun _=>fj
def IE(hs:List Nat)(op:Op)(yes:Nat->List Operand->Bool)(no:Bool):Bool:=match op with
 |.call c=>(match c.callee with
  |.value (.func g)=>bc (hs.any (Nat.beq g)) (yes g c.args.toList) no
  |_=>no)
 |_=>no
def NI(fs:aB)(p:SE×Bool):Bool:=List.rec (motive:=fun _=>Bool) false (fun q _ ih=>bc (bc (eE q.1 p.1) (bc q.2 p.2 (bc p.2 false true)) false) true ih) fs
theorem IF{E:Env}{p:SE×Bool}:∀{fs:aB},Holds E fs->NI fs p=true->den E p.1=some (.bool p.2)
 |[],_,h=>by cases h
 |q::fs,hf,h=>by
  have h:bc (bc (eE q.1 p.1) (bc q.2 p.2 (bc p.2 false true)) false) true (NI fs p)=true:=h;rcases aR h with⟨h1,_⟩|⟨_,h1⟩
  ·obtain⟨h2,h3⟩:=aa h1
   have e:=cq h2;have e2:q.2=p.2:=by cases hq:q.2<;>cases hp:p.2<;>rw[hq,hp] at h3<;>first|rfl|cases h3
   rw[←e,←e2];exact hf q List.mem_cons_self
  ·exact IF (fun x hx=>hf x (List.mem_cons_of_mem _ hx)) h1
def absE(fs:aB)(s:Nat)(es:List FX):Bool:=List.rec (motive:=fun _=>Bool) true (fun e _ ih=>bc (match e.key with
 |.s l b=>NI fs (.cmp .eql (.sy s) (.ls l b),false)
 |_=>false) ih false) es
theorem NJ{E:Env}{fs:aB}{s:Nat}{S:ByteArray}(hf:Holds E fs)(d:den E (.sy s)=some (.string S)):∀(es:List FX)(ms:List MapEntry)(i:Nat),absE fs s es=true->j6 E es ms->Instr.findNow .string (.string S) ms i=some none
 |[],ms,i,_,r=>by
  have:ms=[]:=r;subst this;rfl
 |e::es,ms,i,he,r=>by
  obtain⟨m,y0,rfl,⟨r1,r2,_⟩,r4⟩:=r;have he:bc (match e.key with
   |.s l b=>NI fs (.cmp .eql (.sy s) (.ls l b),false)
   |_=>false) (absE fs s es) false=true:=he
  obtain⟨h1,h2⟩:=aa he;split at h1<;>try (cases h1;done)
  rename_i l b hk;rw[hk,Rv] at r1;have q:=IF hf h1;have dd:den E (.cmp .eql (.sy s) (.ls l b))=some (.bool (S.toList==(str l b).toList)):=by
   show(match den E (.sy s),den E (.ls l b) with|some X,some Y=>(bu .eql X Y).map Value.bool|_,_=>none)=_;rw[d];rfl
  rw[dd] at q;have q:(S.toList==(str l b).toList)=false:=Value.bool.inj (mL q);have e1:Instr.sameNow .string (.string S) m.key=some false:=by
   rw[r1];show some (S==str l b)=some false;rw[ta,q]
  simp only[Instr.findNow,e1];exact NJ hf d es y0 (i+1) h2 r4
def zq(P:Program)(op:Op)(regs:aI)(h:Heap)(yes:AV->Bool)(no:Bool):Bool:=match op with
 |.lookup t (.tmp m) (.tmp x) true=>(match T.get .no regs m,T.get .no regs x,P.underlying t with
  |.mp id,.x .s (.sy s),some (.map kt el)=>(match T.get .gone h id,P.underlying kt with
   |.map es _,some .string=>bc (absE (au h) s es) (nc P el true yes) no
   |_,_=>no)
  |_,_,_=>no)
 |_=>no
theorem Lx{P:Program}{a:Act}{yes:AV->Bool}(he:zq P o.op regs h yes no=true)(r:Rr E regs a.tmps)(hr:HR E h n w):
  no=true∨∃v W,(execOp a.eval o).run P w=.ok (.value W) w∧Rv E v W∧yes v=true:=by
 unfold zq at he;split at he
 ·rename_i t m x hop
  split at he
  ·rename_i id s kt el hm hx ht
   split at he
   ·rename_i es clock QL hd
    rcases aR he with⟨h1,he⟩|⟨_,he⟩
    ·right
     have rm:=r m;have rx:=r x;rw[hm,Rv] at rm;rw[hx,Rv] at rx;obtain⟨dx,S,hS,_⟩:=rx;obtain⟨L',tY,em⟩:=rm;have ho:=hr.obj id;rw[QL] at ho;obtain⟨L,ms,hL,hb,hms⟩:=ho;have hLL:L=L':=mL (hL.symm.trans tY);rw[←hLL] at em;have Ak:(getObj L.aH).run P w=.ok (.map ms clock) w:=by
      simp only[getObj,Sem.run,hb]
     rw[hS] at dx;have hf:=NJ (aD hr) dx es ms.toList 0 h1 hms;obtain⟨z,v,e1,e2,e3⟩:=rW (E:=E) (w:=w) he;refine⟨v,_,?_,e2,e3⟩;have e5:a.eval (.tmp m)=.map (some L.aH):=em;have e6:a.eval (.tmp x)=.string S:=hS;unfold execOp;simp only[hop];rw[e5,e6];have:=run_findKey (P:=P) (w:=w) hd hf;simp only[Instr.lookup,Sem.run_bind,ai ht,Result.andThen_ok,Ak,Sem.run_pure,iX hd rfl,this,e1]
    ·exact .inl he
   ·exact .inl he
  ·exact .inl he
 ·exact .inl he
abbrev wz:=Nat->Nat->List AV->Heap->Nat->(Nat->K)->Bool
def qp(P:Program)(call:aO)(HC:wz)(ext:iG)(nt:Nat)(hs:List Nat)(ops:Array Oper)(is:List Nat):SP->SP:=
 List.rec (motive:=fun _=>SP->SP) (fun kn=>kn)
  (fun i _ ih kn ph regs h aq=>match ops[i]? with
   |some o=>qv ops o regs h
    (fun h=>IE hs o.op (fun g xs=>yD regs xs fun args=>HC ph g args h aq fun BL v h' aL=>iI o.dst nt v regs fun av=>ih kn BL av h' aL)
     (zq P o.op regs h (fun v=>iI o.dst nt v regs fun av=>ih kn ph av h aq) (pU P call ext (YR fj regs) o.op regs h aq fun v h' aL=>iI o.dst nt v regs fun av=>ih kn ph av h' aL)))
    (fun h=>iI o.dst nt .un regs fun av=>ih kn ph av h aq)
   |none=>false) is
def jM(ops:Array Oper):Nat->Array Bool->List (List Nat)
 |0,_=>[[]]
 |n+1,listed=>match Region.ready .any ops listed with
  |[]=>[[]]
  |r::rs=>(r::rs).flatMap fun i=>(jM ops n (listed.setIfInBounds i true)).map (i:: ·)
theorem DI(ops:Array Oper):∀(fuel t:Nat)(listed:Array Bool),Region.linearise.go .any ops fuel t listed []∈jM ops fuel listed
 |0,t,listed=>by simp[Region.linearise.go,jM]
 |fuel+1,t,listed=>by
  simp only[Region.linearise.go];change (match (Region.ready .any ops listed)[t%(Region.ready .any ops listed).length]? with
   |some i=>Region.linearise.go .any ops fuel (t/(Region.ready .any ops listed).length) (listed.setIfInBounds i true) [i]
   |none=>[].reverse)∈_
  unfold jM;cases hr:Region.ready .any ops listed with
  |nil=>simp
  |cons r rs=>
   have cL:t%(r::rs).length<(r::rs).length:=Nat.mod_lt _ (by simp);rw[cN cL];dsimp only;rw[linearise_go_acc];refine List.mem_flatMap.2 ⟨_,List.getElem_mem cL,?_⟩;exact bU.2 ⟨_,DI ops fuel (t/(r::rs).length) _,by simp⟩
def NK(hs:List Nat)(ops:Array Oper):Bool:=ops.toList.any fun o=>IE hs o.op (fun _ _=>true) false
def EndsH(JF:Nat->JC)(ok:Nat->Prop)(w0:World)(F:Nat)(Z:Env->Heap->Prop)(E:Env)(k:Nat->K)(e:Ending)(w':World):Prop:=
 ∃ph V v h' n' E',e=.returned V∧Rv E' v V∧HR E' h' n' w'∧(JF ph).J E' h' w'∧jh ok w0 F Z E' h' w'∧E.le E'∧k ph v h' n'=true
def xR(JF:Nat->JC)(P:Program)(ok:Nat->Prop)(w0:World)(F:Nat)(Z:Env->Heap->Prop)(hs:List Nat)(HC:wz):Prop:=∀ph g args ARGS E h n w k,g∈hs->HC ph g args h n k=true->aP E args (ARGS:Array Value).toList->HR E h n w->(JF ph).J E h w->jh ok w0 F Z E h w->
 Calls P g ARGS w (EndsH JF ok w0 F Z E k)
def wA(P:Program)(hs:List Nat):Prop:=∀g,g∈hs->∃fn c,P.funcs[g]? =some fn∧fn.body=some c∧¬fn.name= "runtime.NumGoroutine"
def blkP(id:Nat)(kn:SP)(kx:Nat->SP):Nat->SP:=fun i ph=>Cc (Nat.beq i (Nat.mul 2 (Nat.succ id))) (kn ph) (kx i ph)
def BM(P:Program)(call:aO)(HC:wz)(ext:iG)(draw:jS)(nt:Nat)(hs:List Nat)(J:SP->(Nat->SP)->SP->SP)(c:Code):SP->(Nat->SP)->SP->SP:=
 Code.rec (motive:=fun _=>SP->(Nat->SP)->SP->SP)
  (fun kn _ _=>kn)
  (fun _ ops d kn _ _ ph regs h aq=>bc d (bc (NK hs ops) ((jM ops ops.size (Array.replicate ops.size false)).all fun is=>qp P call HC ext nt hs ops is kn ph regs h aq) (draw ops nt fj (kn ph) regs h aq)) (qp P call HC ext nt hs ops (List.range ops.size) kn ph regs h aq))
  (fun _ _ nK mu kn kx kr=>nK (mu kn kx kr) kx kr)
  (fun x _ _ At J8 kn kx kr ph regs h aq=>iC regs x fun v=>qt v h (fun h=>At kn kx kr ph regs h aq) (fun h=>J8 kn kx kr ph regs h aq))
  (fun id _ ih kn kx kr=>ih kn (blkP id kn kx) kr)
  (fun _ _ kn kx kr=>J kn kx kr)
  (fun _ _ _ _ _ _ _ _ _ _ _ _ _=>false)
  (fun id _ kx _=>kx (Nat.mul 2 (Nat.succ id)))
  (fun _ _ _ _ _ _ _ _ _=>false)
  (fun _ _ _ _ _ _ _ _=>false)
  (fun _ _ _ _ _ _ _ _=>false)
  (fun _ _ kr=>kr)
  (fun _ _ _ _ _ _ _ _=>false) c
def kL(JF:Nat->JC)(ok:Nat->Prop)(w0:World)(F:Nat)(Z:Env->Heap->Prop)(nt:Nat)(kn:SP)(kx:Nat->SP)(kr:SP):Exit->Act->World->Prop:=fun e a' w'=>
 ∃ph E' av h' aL,@Vx.St (JF ph) [] E' av h' aL nt a' w'∧jh ok w0 F Z E' h' w'∧(match e with
  |.normal=>kn ph av h' aL=true
  |.exit i=>kx (Nat.mul 2 (Nat.succ i)) ph av h' aL=true
  |.ret=>kr ph av h' aL=true
  |_=>False)
section
variable{JF:Nat->JC}
variable{P:Program}{call:aO}{HC:wz}{ext:iG}{draw:jS}(aQ:∀ph,@bj (JF ph) P call)(fO:om P ext)(cE:∀ph,@fz (JF ph) P draw){nt:Nat}{hs:List Nat}{J:SP->(Nat->SP)->SP->SP}{ok:Nat->Prop}{w0:World}{F:Nat}{Z:Env->Heap->Prop}{kr:SP}(hH:xR JF P ok w0 F Z hs HC)(hB:wA P hs)(hm:P.follows .mixedOrders=true)
include aQ fO hH hB
theorem Yl{a:Act}{k:Nat->K}(he:IE hs o.op (fun g xs=>yD regs xs fun args=>HC ph g args h n k) no=true)(r:Rr E regs a.tmps)(hr:HR E h n w)(hj:(JF ph).J E h w)(ci:jh ok w0 F Z E h w):
  no=true∨∀Q:Exit->Act->World->Prop,o.wp P a w (fun a' w'=>∃BL V v h' n' E',a'=a.put o.dst V∧Rv E' v V∧HR E' h' n' w'∧(JF BL).J E' h' w'∧jh ok w0 F Z E' h' w'∧E.le E'∧k BL v h' n'=true) Q:=by
 unfold IE at he;split at he
 ·rename_i c hop
  split at he
  ·rename_i g hc
   rcases aR he with⟨hg,he⟩|⟨_,he⟩
   ·refine .inr fun Q=>?_
    obtain⟨args,ra,he⟩:=sX r _ he;have ra:aP E args (c.args.map a.eval).toList:=by simpa using ra
    have yT:g∈hs:=by
     obtain⟨x,hx,hxe⟩:=List.any_eq_true.1 hg;rw[aN hxe];exact hx
    obtain⟨fn,cd,mP,hb,hn⟩:=hB g yT;have gY:(execOp a.eval o).run P w=.ok (.enter g (c.args.map a.eval)) w:=by
     have:(callFunc g (c.args.map a.eval)).run P w=.ok (.enter g (c.args.map a.eval)) w:=by simp[callFunc,mP,hb,hn]
     rw[←this];simp[execOp,hop,resolve,hc,Act.eval,Deferred.ofValue,invoke]
    unfold Oper.wp;rw[gY];simp only[Oper.upon];refine(hH ph g args _ E h n w k yT he ra hr hj ci).mono ?_;rintro e w' ⟨BL,V,v,h',n',E',rfl,q⟩;exact⟨BL,V,v,h',n',E',rfl,q⟩
   ·exact .inl he
  ·exact .inl he
 ·exact .inl he
theorem mU{ops:Array Oper}{kn:SP}{kx:Nat->SP}:∀(is:List Nat){ph:Nat}{E:Env}{regs:aI}{h:Heap}{aq:Nat}{a:Act}{w:World},qp P call HC ext nt hs ops is kn ph regs h aq=true->@Vx.St (JF ph) [] E regs h aq nt a w->jh ok w0 F Z E h w->
  wpOps P ops (kL JF ok w0 F Z nt kn kx kr) is a w
 |[],ph,E,regs,h,aq,a,w,he,st,ci=>⟨ph,E,regs,h,aq,st,ci,he⟩
 |s::is,ph,E,regs,h,aq,a,w,he,st,ci=>by
  letI Jp:JC:=JF ph
  have he:(match ops[s]? with
   |some o=>qv ops o regs h
    (fun h=>IE hs o.op (fun g xs=>yD regs xs fun args=>HC ph g args h aq fun BL v h' aL=>iI o.dst nt v regs fun av=>qp P call HC ext nt hs ops is kn BL av h' aL)
     (zq P o.op regs h (fun v=>iI o.dst nt v regs fun av=>qp P call HC ext nt hs ops is kn ph av h aq) (pU P call ext (YR fj regs) o.op regs h aq fun v h' aL=>iI o.dst nt v regs fun av=>qp P call HC ext nt hs ops is kn ph av h' aL)))
    (fun h=>iI o.dst nt .un regs fun av=>qp P call HC ext nt hs ops is kn ph av h aq)
   |none=>false)=true:=he
  cases VZ:ops[s]? with
  |none=>rw[VZ] at he;cases he
  |some o=>
  rw[VZ] at he;dsimp only at he;obtain⟨h,fw,fk,he⟩:=vH he st.regs st.heap;have ci:=ci.goes (w':=w) (E':=E) fk.goes;have st:@Vx.St (JF ph) [] E regs h aq nt a w:=⟨st.regs,st.size,st.defers,fw,JC.goes st.heap st.j fk.goes fw⟩;rw[wpOps_cons];unfold wpOp;simp only[VZ];rcases he with⟨h1,he⟩|⟨h1,he⟩
  ·rw[if_pos h1]
   refine .inl ?_;rcases Yl aQ fO hH hB he st.regs st.heap st.j ci with he|hw
   ·rcases Lx he st.regs st.heap with he|⟨v,W,gY,rv,he⟩
    rotate_left
    ·unfold Oper.wp
     rw[gY];simp only[Oper.upon];obtain⟨av,dB,hk⟩:=th he st rv;exact mU is hk dB ci
    refine Oper.wp_mono ?_ (y9 (aQ ph) fO he st.regs st.heap st.j (kL JF ok w0 F Z nt kn kx kr) fun V w' g=>?_)
    ·rintro a' w' ⟨V,rfl,v,h',aL,E',rv,cO,g,hk⟩
     obtain⟨av,dB,hk⟩:=th hk (st.mono g cO) rv;exact mU is hk dB (ci.goes g)
    ·obtain⟨v,h',aL,E',_,_,_,hk⟩:=g
     cases hk
   ·refine Oper.wp_mono ?_ (hw (kL JF ok w0 F Z nt kn kx kr))
    rintro a' w' ⟨BL,V,v,h',n',E',rfl,rv,cO,gQ,qE,hle,hk⟩;have st2:@Vx.St (JF BL) [] E' regs h' n' nt a w':=@Vx.St.mk (JF BL) _ _ _ _ _ _ _ _ (st.regs.mono hle) st.size st.defers cO gQ;have hp:=(letI Jq:JC:=JF BL;th hk st2 rv);obtain⟨av,dB,hk⟩:=hp;exact mU is hk dB qE
  ·rw[if_neg (by simp[h1])]
   obtain⟨av,dB,hk⟩:=th he st (V:=undef) (by rw[Rv]);exact mU is hk dB ci
include cE hm
theorem wD:∀(c:Code),(∀l∈aS c,∀(kn:SP)(kx:Nat->SP)(ph:Nat)(E:Env)(regs:aI)(h:Heap)(aq:Nat)(a:Act)(w:World),J kn kx kr ph regs h aq=true->@Vx.St (JF ph) [] E regs h aq nt a w->jh ok w0 F Z E h w->(Code.loop l).wp P (kL JF ok w0 F Z nt kn kx kr) a w)->
   ∀(kn:SP)(kx:Nat->SP)(ph:Nat)(E:Env)(regs:aI)(h:Heap)(aq:Nat)(a:Act)(w:World),BM P call HC ext draw nt hs J c kn kx kr ph regs h aq=true->@Vx.St (JF ph) [] E regs h aq nt a w->jh ok w0 F Z E h w->
    c.wp P (kL JF ok w0 F Z nt kn kx kr) a w:=by
 intro c;induction c with
 |skip=>exact fun _ kn kx ph E regs h aq a w he st cm=>wp_skip ⟨ph,E,regs,h,aq,st,cm,he⟩
 |region id ops d=>
  intro _ kn kx ph E regs h aq a w he st cm;letI Jp:JC:=JF ph
  have he:bc d (bc (NK hs ops) ((jM ops ops.size (Array.replicate ops.size false)).all fun is=>qp P call HC ext nt hs ops is kn ph regs h aq) (draw ops nt fj (kn ph) regs h aq)) (qp P call HC ext nt hs ops (List.range ops.size) kn ph regs h aq)=true:=he;rcases aR he with⟨rfl,q⟩|⟨rfl,q⟩
  ·rcases aR q with⟨_,q2⟩|⟨_,q2⟩
   ·refine wp_region_draw fun t=>?_
    have Qd:Region.schedule (P.follows .mixedOrders) ops t∈jM ops ops.size (Array.replicate ops.size false):=by
     simp only[Region.schedule,hm,Bool.true_or,if_true];exact DI ops _ _ _
    have dB:@Vx.St (JF ph) [] E regs h aq nt a {w with drawn:=w.drawn+1}:=⟨st.regs,st.size,st.defers,st.heap.drew,JC.goes st.heap st.j (bk.drew _ _ _) st.heap.drew⟩;exact mU aQ fO hH hB _ (Aad.1 q2 _ Qd) dB (cm.goes (bk.drew _ _ _))
   ·refine wp_mono (cE ph [] id ops nt (kn ph) (fun _=>fj) fj E regs h aq a w q2 st) fun e a' w' l=>?_
    obtain⟨E',av,h',aL,s1,s2,hk⟩:=Br (fun _ _ _=>rfl) (fun _ _ _ _=>rfl) cm l;refine⟨ph,E',av,h',aL,s1,s2,?_⟩;cases e with
    |normal=>exact hk
    |exit i=>cases hk
    |ret=>cases hk
    |goto l=>exact hk.elim
    |panic l=>exact hk.elim
    |outgrown=>exact hk.elim
  ·exact wp_region (mU aQ fO hH hB _ q st cm)
 |seq x y Qv P1=>
  intro hJ kn kx ph E regs h aq a w he st cm;refine wp_seq (wp_mono (Qv (fun l hl=>hJ l (List.mem_append_left _ hl)) (BM P call HC ext draw nt hs J y kn kx kr) kx ph E regs h aq a w he st cm) ?_)
  intro e a' w' hl;cases e with
  |normal=>
   obtain⟨BL,E',av,h',aL,dB,KN,hk⟩:=hl;exact P1 (fun l hl=>hJ l (List.mem_append_right _ hl)) kn kx BL E' av h' aL a' w' hk dB KN
  |_=>exact hl
 |cond x t e At J8=>
  intro hJ kn kx ph E regs h aq a w he st cm;letI Jp:JC:=JF ph
  have he:iC regs x (fun v=>qt v h (fun h=>BM P call HC ext draw nt hs J t kn kx kr ph regs h aq) (fun h=>BM P call HC ext draw nt hs J e kn kx kr ph regs h aq))=true:=he;obtain⟨v,rv,he⟩:=bN he st.regs;obtain⟨b,h1,hv,fw,fk,he⟩:=rM he rv st.heap;have cm1:=cm.goes (w':=w) (E':=E) fk.goes;have j1:=JC.goes st.heap st.j fk.goes fw;refine wp_cond hv ?_;rcases he with⟨rfl,he⟩|⟨rfl,he⟩
  ·exact At (fun l hl=>hJ l (List.mem_append_left _ hl)) kn kx ph E regs h1 aq a w he ⟨st.regs,st.size,st.defers,fw,j1⟩ cm1
  ·exact J8 (fun l hl=>hJ l (List.mem_append_right _ hl)) kn kx ph E regs h1 aq a w he ⟨st.regs,st.size,st.defers,fw,j1⟩ cm1
 |block id c ih=>
  intro hJ kn kx ph E regs h aq a w he st cm;refine wp_block (wp_mono (ih hJ kn (blkP id kn kx) ph E regs h aq a w he st cm) ?_);intro e a' w' hl;cases e with
  |exit i=>
   obtain⟨BL,E',av,h',aL,dB,KN,hk⟩:=hl;simp only[Exit.inBlock];have hk:Cc (Nat.beq (Nat.mul 2 (Nat.succ i)) (Nat.mul 2 (Nat.succ id))) (kn BL) (kx (Nat.mul 2 (Nat.succ i)) BL) av h' aL=true:=hk;rw[wV] at hk;rcases aR hk with⟨hi,hk⟩|⟨hi,hk⟩
   ·have hi:2*(i+1)=2*(id+1):=aN hi
    rw[if_pos (by omega)];exact⟨BL,E',av,h',aL,dB,KN,hk⟩
   ·have hi:2*(i+1)≠2*(id+1):=Nat.ne_of_beq_eq_false hi
    rw[if_neg (by omega)];exact⟨BL,E',av,h',aL,dB,KN,hk⟩
  |goto l=>obtain⟨_,_,_,_,_,_,_,hk⟩:=hl;exact hk.elim
  |panic l=>obtain⟨_,_,_,_,_,_,_,hk⟩:=hl;exact hk.elim
  |outgrown=>obtain⟨_,_,_,_,_,_,_,hk⟩:=hl;exact hk.elim
  |_=>exact hl
 |loop c ih=>exact fun hJ kn kx ph E regs h aq a w he st cm=>hJ c (by simp[aS]) kn kx ph E regs h aq a w he st cm
 |exit id=>exact fun _ kn kx ph E regs h aq a w he st cm=>wp_exit ⟨ph,E,regs,h,aq,st,cm,he⟩
 |ret=>exact fun _ kn kx ph E regs h aq a w he st cm=>wp_ret ⟨ph,E,regs,h,aq,st,cm,he⟩
 |_=>intro _ kn kx ph E regs h aq a w he;cases he
def ui(P:Program)(fn:Func)(fin:Nat->AV->Heap->Bool):SP:=fun ph=>nB P fn (fin ph)
theorem Uj{fn:Func}{c:Code}(mP:P.funcs[g]? =some fn)(hb:fn.body=some c)
  {args:List AV} {ARGS:Array Value} {aq:Nat} {fin:Nat->AV->Heap->Bool} {Fin:Value->World->Prop} (ra:aP E args ARGS.toList) (hle:args.length<=fn.ntmps) (hr:HR E h aq w0) (hj:(JF ph).J E h w0) (cm:jh ok w0 F Z E h w0)
  (hJ:∀l∈aS c,∀(kn:SP)(kx:Nat->SP)(ph:Nat)(E:Env)(regs:aI)(h:Heap)(aq:Nat)(a:Act)(w:World),J kn kx (ui P fn fin) ph regs h aq=true->@Vx.St (JF ph) [] E regs h aq fn.ntmps a w->jh ok w0 F Z E h w->(Code.loop l).wp P (kL JF ok w0 F Z fn.ntmps kn kx (ui P fn fin)) a w)
  (hk:BM P call HC ext draw fn.ntmps hs J c (ui P fn fin) (fun _=>qH) (ui P fn fin) ph (gw args fc 0) h aq=true)
  (KO:∀(ph:Nat)(E:Env)(h:Heap)(n:Nat)(w:World)(v:AV)(V:Value),HR E h n w->(JF ph).J E h w->jh ok w0 F Z E h w->Rv E v V->fin ph v h=true->Fin V w):
  Calls P g ARGS w0 fun e w'=>∃V,e=.returned V∧dH ok w0 w'∧Fin V w':=by
 have st:@Vx.St (JF ph) [] E _ h aq _ _ w0:=@Aw (JF ph) _ _ _ _ _ _ _ ra hle hr hj;refine calls_of_wp mP hb (wp_mono (wD aQ fO cE hH hB hm c hJ _ _ ph E _ h aq _ w0 hk st cm) ?_);intro e a' w' hl;obtain⟨BL,E',av,h',aL,dB,KN,hk⟩:=hl;letI Jp:JC:=JF BL
 have key:ui P fn fin BL av h' aL=true->a'.defers=[]∧∃v,(results fn a'.tmps).run P w'=.ok v w'∧∃V,Ending.returned v=.returned V∧dH ok w0 w'∧Fin V w':=by
  intro hk;obtain⟨v,V,h1,h2,h3⟩:=Av hk dB;exact⟨dB.defers,_,h1,V,rfl,KN.bJ,KO BL _ _ _ _ _ _ dB.heap dB.j KN h2 h3⟩
 cases e with
 |normal=>exact key hk
 |ret=>exact key hk
 |exit i=>cases hk
 |goto l=>exact hk.elim
 |panic l=>exact hk.elim
 |outgrown=>exact hk.elim
end
def BN(g:FuncId)(l:List V4)(T:Tr):Prop:=∀{w:World}{bp ba cap ab fb ob:Nat}{R:List An}{A S:Value},St w bp ba cap ab R A S l->BF w bp ba ab R fb ob g S->
 Calls P 49 #[.pointer (some ⟨bp,0,none⟩),.pointer (some ⟨fb,0,none⟩),.pointer (some ⟨ob,0,none⟩)] w fun e w'=>∃V,e=.returned V∧qS bp w w'∧cU R w.heap.size bp V w' (ev R T)
def nI(mb ba fb ob ab:Nat)(R:List An)(k:Nat):Prop:=Ir ab fb ob R k∨k=mb∨k=ba
theorem An.ok.same{i:Nat}(h:a.ok w ba i)(h1:w'.heap[ba]? =w.heap[ba]?)(h2:∀b,cn a.K b->w'.heap[b]? =w.heap[b]?):a.ok w' ba i:=
 {h with at_:=h.at_.same h1,keys:=h.keys.same h2}
theorem wK.same{fb:Nat}{S:Value}(M:wK w mb fb ob ab ba cap g S l R A kd md bg ov)(hz:w.heap.size<=w'.heap.size)(hs:∀k,nI mb ba fb ob ab R k->w'.heap[k]? =w.heap[k]?):
  wK w' mb fb ob ab ba cap g S l R A kd md bg ov:=by
 have Cx:=hs mb (.inr (.inl rfl));have ux:=hs ba (.inr (.inr rfl));have yR:=hs ab (.inl (.inr (.inr (.inl rfl))));refine {M with mc:=M.mc.same Cx,f:=M.f.same (hs fb (.inl (.inr (.inr (.inr (.inl rfl)))))),o:=M.o.same (hs ob (.inl (.inr (.inr (.inr (.inr rfl)))))),args:=?_,abs:=dV M.abs hz,mh:=M.mh.same (hs _ (.inl (.inr (.inl rfl)))),ans:=fun i x hx=>(M.ans i x hx).same ux fun b hb=>hs b (.inl (.inl ⟨x,gq hx,hb⟩)),row:=?_}
 ·rcases M.args with h|⟨arr,el,fr,c,h1,h2,h3⟩
  ·exact .inl h
  ·exact .inr ⟨arr,el,fr,c,h1,by rw[yR];exact h2,h3⟩
 ·rcases M.row with h|⟨h1,h2,h3,arr,h4,h5⟩
  ·exact .inl h
  ·exact .inr ⟨h1,h2,h3,arr,by rw[ux];exact h4,h5⟩
structure yX(T:Tr)(ok:Nat->Nat->Bool)(base n:Nat)(w:World)(mb fb ob ab ba cap:Nat)(g:FuncId)(S:Value)(l:List V4)(R:List An)(A:Value)(kd md:Int)(ov:Bool):Prop where
 m:wK w mb fb ob ab ba cap g S l R A kd md true ov
 mb_:base<=mb
 ba_:base<=ba
 len:R.length<=n
 keys:∀x∈R,∀b,cn x.K b->base<=b
 st:(ov=true∧A=bO)∨(ov=false∧(∀x∈R,x.o.k=1)∧∃q qm:Nat,ok q qm=true∧ev R T=.wait q qm)
inductive IG(ok:Nat->Nat->Bool)(V:Value):Prop
 |wait {ws:List Value} {q qm:Nat} (h:Ja V ws 0) (h0:ws.getD 0 undef=.int .u8 q) (h1:ws.getD 1 undef=.int .u8 qm) (kQ:ok q qm=true)
 |done {ws:List Value} (h:Ja V ws 0) (h0:ws.getD 0 undef=.int .u8 7) (h1:ws.getD 61 undef=.int .u8 1)
 |fail {ws:List Value} {er l x:Nat} (h:Ja V ws 0) (h0:ws.getD 0 undef=.int .u8 7) (hf:kB er l x=true) (h1:∀c,c<26->ws.getD (61+c) undef=((ou er l x).cells bO).getD c undef)
inductive Way(ok:Nat->Nat->Bool)(a:An)(V:Value):Prop
 |step {ws:List Value} (h:Ja V ws 160)
 |go (hk:a.o.k=1) (h:IG ok V)
 |ans (hk:a.o.k=2) (hm:gI a.o.v.k a.o.v.x a.o.v.s a.o.v.r=true) {ws:List Value} (h:Ja V ws 0) (h0:ws.getD 0 undef=.int .u8 7) (h1:∀c,c<23->ws.getD (61+c) undef=(a.o.cells bO).getD c undef)
theorem kR.done{R R':List An}(h:kR R R')(hd:∀x∈R',x.o.k=1):∀x∈R,x.o.k=1:=fun x hx=>by
 obtain⟨i,hi⟩:=List.getElem?_of_mem hx;have cL:=(bR.1 hi).1;have hl:=h.len;have hy:R'[i]? =some R'[i]:=cN (by omega);obtain⟨y,e1,e2,_⟩:=h.at hy;rw[hi] at e1;cases e1;rw[e2];exact hd _ (List.getElem_mem (by omega))
theorem NL{T:Tr}{ok:Nat->Nat->Bool}{base n:Nat}{w w':World}{mb fb ob ab ba cap:Nat}{g:FuncId}{S:Value}{l:List V4}{R Rp:List An}{kd md:Int}{o:iB}{V:Value}(Cx:base<=mb)(ux:base<=ba)(ML:base<=w.heap.size)(hkeys:∀x∈R,∀b,cn x.K b->base<=b)
  (hlen:Rp.length<=n) (qA:∀x∈Rp,x.o.k=1) {lf:ct} (dh:lf=ev Rp T) (vi:(∃q qm,lf=.wait q qm∧ok q qm=true)∨lf=.done∨∃er l x,lf=.fail er l x∧kB er l x=true) (h:NB w w' mb fb ob ab ba g S l kd md R Rp o V lf):
  Px mb ba w w'∧(∃gn bz R' A' yA yB zp,yX T ok base n w' mb fb ob ab gn bz g S l R' A' yA yB zp∧∀k,nI mb gn fb ob ab R' k->nI mb ba fb ob ab R k∨w.heap.size<=k)∧IG ok V:=by
 obtain⟨h1,h2⟩:=h;refine⟨h2,?_⟩;have ended:∀{ws:List Value},wK w' mb fb ob ab mb 0 g S l [] bO kd md true true->∃gn bz R' A' yA yB zp,yX T ok base n w' mb fb ob ab gn bz g S l R' A' yA yB zp∧∀k,nI mb gn fb ob ab R' k->nI mb ba fb ob ab R k∨w.heap.size<=k:=fun M'=>
  ⟨mb,0,[],bO,kd,md,true,⟨M',Cx,Cx,nzQ _,fun x hx=>(by cases hx),.inl ⟨rfl,rfl⟩⟩,fun k hk=>by
   rcases hk with(⟨x,hx,_⟩|hk)|hk|hk
   ·cases hx
   ·exact .inl (.inl (.inr hk))
   ·exact .inl (.inr (.inl hk))
   ·exact .inl (.inr (.inl hk))⟩
 rcases vi with⟨q,qm,rfl,kQ⟩|rfl|⟨er,le,x,rfl,hf⟩
 ·obtain⟨ws,R',A',gn,bz,hw,e0,e1,hs,M',hba',lA⟩:=h1
  have cC:=hs.len;refine⟨⟨gn,bz,R',A',q,qm,false,⟨M',Cx,?_,by omega,fun x hx b hb=>?_,.inr ⟨rfl,hs.done qA,q,qm,kQ,by rw[FE hs T];exact dh.symm⟩⟩,fun k hk=>?_⟩,.wait hw e0 e1 kQ⟩
  ·rcases hba' with rfl|rfl|h<;>omega
  ·rcases lA x hx b hb with⟨y,hy,hyb⟩|rfl|rfl|h
   ·exact hkeys y hy b hyb
   ·exact Cx
   ·exact ux
   ·omega
  ·rcases hk with(⟨x,hx,hb⟩|hk)|hk|hk
   ·rcases lA x hx k hb with h|h|h|h
    ·exact .inl (.inl (.inl h))
    ·exact .inl (.inr (.inl h))
    ·exact .inl (.inr (.inr h))
    ·exact .inr h
   ·exact .inl (.inl (.inr hk))
   ·exact .inl (.inr (.inl hk))
   ·rcases hba' with h|h|h
    ·exact .inl (.inr (.inl (hk.trans h)))
    ·exact .inl (.inr (.inr (hk.trans h)))
    ·exact .inr (by omega)
 ·obtain⟨ws,hw,e0,hc,M'⟩:=h1
  exact⟨ended (ws:=ws) M',.done hw e0 hc⟩
 ·obtain⟨ws,hw,e0,hc,M'⟩:=h1
  exact⟨ended (ws:=ws) M',.fail hw e0 hf hc⟩
theorem NN{T:Tr}(hg:cf ok (fun _ _=>False) 0 T)(hd:∀x∈R,x.o.k=1):(∃q qm,ev R T=.wait q qm∧ok q qm=true)∨ev R T=.done∨∃er l x,ev R T=.fail er l x∧kB er l x=true:=by
 rcases mI T 0 R hg (nzQ _) hd with⟨k,md,h1,h2,_⟩|⟨h1,_⟩|h
 ·exact .inl ⟨k,md,h1,h2⟩
 ·exact .inr (.inl h1)
 ·exact .inr (.inr h)
section
variable{T:Tr}{ok:Nat->Nat->Bool}(kQ:∀k md,ok k md=true->k<=255∧md<=255)(hg:cf ok (fun _ _=>False) 0 T){g:FuncId}{l:List V4}(law:BN g l T)
include kQ hg law
theorem Ym{fb:Nat}{S:Value}(I:yX T ok base n w mb fb ob ab ba cap g S l R A kd md ov)(hn:n<=39)(ML:base<=w.heap.size)
  (ao:a.o.ok) (ak:ia w a.K a.ks) (mS:qT a.ks) (fc:(a.ks.length:Int)<=9223372036854775807) (low:∀b,HM a.K b->b<base):
  Calls P 28 #[.pointer (some ⟨mb,0,none⟩),.agg (a.o.cells a.K).toArray] w fun e w'=>∃V,e=.returned V∧Px mb ba w w'∧(∃gn bz R' A' yA yB zp,yX T ok base (n+1) w' mb fb ob ab gn bz g S l R' A' yA yB zp∧∀k,nI mb gn fb ob ab R' k->nI mb ba fb ob ab R k∨w.heap.size<=k)∧Way ok a V:=by
 have M:=I.m;have G:Giv w mb ba a:=⟨ao,ak,fc,mS,fun b hb=>by have:=low b hb;have:=I.mb_;have:=I.ba_;omega⟩;have hl:R.length<=39:=Nat.le_trans I.len hn;have stay:∀w',Below w.heap.size w w'->Px mb ba w w'∧∃gn bz R' A' yA yB zp,yX T ok base (n+1) w' mb fb ob ab gn bz g S l R' A' yA yB zp∧∀k,nI mb gn fb ob ab R' k->nI mb ba fb ob ab R k∨w.heap.size<=k:=fun w' hb=>by
  have cL:∀k,nI mb ba fb ob ab R k->k<w.heap.size:=fun k hk=>by
   rcases hk with hk|rfl|rfl
   ·exact M.klt hk
   ·exact M.ZM
   ·exact M.wJ
  exact⟨⟨hb.size,fun k hk _ _=>hb.block k hk,hb.os,hb.output,hb.tape⟩,ba,cap,R,A,kd,md,ov,⟨M.same hb.size fun k hk=>hb.block k (cL k hk),I.mb_,I.ba_,Nat.le_succ_of_le I.len,I.keys,I.st⟩,fun k hk=>.inl hk⟩
 rcases I.st with⟨X7,hA⟩|⟨X7,hd,q,qm,hq,rj⟩
 ·refine(T5 M G hl rfl (.inl ⟨X7,hA⟩)).mono ?_
  rintro e w' ⟨V,ws,rfl,hw,hb⟩;obtain⟨h1,h2⟩:=stay w' hb;exact⟨V,rfl,h1,h2,.step hw⟩
 ·by_cases hf:Uh a kd md
  ·have Ga:=hf.1
   refine(Pz M G kQ hg hl Ga.len mS Ga.k8 (Ga.fits ao mS) (by rcases Ga.kind with h|h<;>omega) rfl X7 hd (fun w1 h0 hk=>Ui hf ao mS M.ZJ M.ZK w1 h0 hk) law).mono ?_;rintro e w' ⟨V,rfl,hN⟩;refine⟨V,rfl,?_⟩;rcases Ga.kind with hk|hk
   ·have Vf:∀x∈R++[a],x.o.k=1:=fun x hx=>by
     rcases List.mem_append.1 hx with hx|hx
     ·exact hd x hx
     ·obtain rfl:x=a:=by simpa using hx
      exact hk
    obtain⟨h1,h2,h3⟩:=NL (cap:=cap) I.mb_ I.ba_ ML I.keys (by rw[List.length_append];have:=I.len;show R.length+1<=n+1;omega) Vf rfl (NN hg Vf) hN;exact⟨h1,h2,.go hk h3⟩
   ·have X8:ev (R++[a]) T=.ans R.length:=by
     rcases mI T 0 R hg (nzQ _) hd with⟨k,m,_,_,h⟩|⟨h,_⟩|⟨_,_,_,h,_⟩
     ·exact h a (by omega)
     ·rw[rj] at h;cases h
     ·rw[rj] at h;cases h
    rw[X8] at hN;obtain⟨⟨ws,hw,e0,hc,M'⟩,h2⟩:=hN;refine⟨h2,⟨mb,0,[],bO,kd,md,true,⟨M',I.mb_,I.mb_,nzQ _,fun x hx=>(by cases hx),.inl ⟨rfl,rfl⟩⟩,fun k hk=>?_⟩,.ans hk Ga.may hw e0 hc⟩;rcases hk with(⟨x,hx,_⟩|hk)|hk|hk
    ·cases hx
    ·exact .inl (.inl (.inr hk))
    ·exact .inl (.inr (.inl hk))
    ·exact .inl (.inr (.inl hk))
  ·refine(T5 M G hl rfl (.inr ⟨X7,fun w1 h0 hk=>Yk hf ao mS fc M.ZJ M.ZK w1 h0 hk⟩)).mono ?_
   rintro e w' ⟨V,ws,rfl,hw,hb⟩;obtain⟨h1,h2⟩:=stay w' hb;exact⟨V,rfl,h1,h2,.step hw⟩
theorem Uk{fb:Nat}{S:Value}(M:wK w mb fb ob ab mb cap g S l [] bO kd md false false)(Cx:base<=mb)(ML:base<=w.heap.size)
  (ao:a.o.ok) (aK:a.K=bO) (Z0:a.ks=[]):
  Calls P 28 #[.pointer (some ⟨mb,0,none⟩),.agg (a.o.cells a.K).toArray] w fun e w'=>∃V,e=.returned V∧Px mb mb w w'∧(∃gn bz R' A' yA yB zp,yX T ok base n w' mb fb ob ab gn bz g S l R' A' yA yB zp∧∀k,nI mb gn fb ob ab R' k->nI mb mb fb ob ab [] k∨w.heap.size<=k)∧IG ok V:=by
 have G:Giv w mb mb a:=⟨ao,.inl (.inl ⟨aK,Z0⟩),by rw[Z0];decide,fun k hk=>(by rw[Z0] at hk;cases hk),fun b hb=>by obtain⟨_,_,_,e,_⟩:=hb;rw[aK] at e;cases e⟩;refine(Py M G kQ hg (by rw[Z0];exact nzQ _) rfl rfl rfl rfl rfl law).mono ?_;rintro e w' ⟨V,rfl,hN⟩;exact⟨V,rfl,NL (cap:=cap) Cx Cx ML (fun x hx=>(by cases hx)) (nzQ _) (fun x hx=>(by cases hx)) rfl (NN hg fun x hx=>(by cases hx)) hN⟩
end
def jx(E0:Env)(Ok:World->(Nat->Prop)->Prop)(E:Env)(h:Heap)(w:World):Prop:=∃w1 K,Ok w1 K∧bL E0 w1 K E h w
theorem Yn{Ok:World->(Nat->Prop)->Prop}{E':Env}{h':Heap}{n':Nat}(hr:HR E h n w)(j:jx E0 Ok E h w)(g:bk E h w E' h' w')(cO:HR E' h' n' w'):jx E0 Ok E' h' w':=by
 obtain⟨w1,K,o,j⟩:=j;exact⟨w1,K,o,(KJ E0 w1 K).goes hr j g cO⟩
theorem jx_flo{Ok:World->(Nat->Prop)->Prop}{a:AO}(hr:HR E h n w)(ha:a.live=false)(j:jx E0 Ok E h w):jx E0 Ok E (T.set a h 0) w:=by
 obtain⟨w1,K,o,j⟩:=j;exact⟨w1,K,o,(KJ E0 w1 K).Ve hr ha j⟩
@[reducible] def JX(E0:Env)(Ok:Nat->World->(Nat->Prop)->Prop):Nat->JC:=fun ph=>⟨jx E0 (Ok ph),fun hr j g cO=>Yn hr j g cO,fun hr ha j=>jx_flo hr ha j⟩
theorem HR.other(hr:HR E h n w)(hz:w.heap.size<=w'.heap.size)(hs:∀i L,(T.get .gone h i).live=true->E i=some L->w'.heap[L.aH]? =w.heap[L.aH]?):HR E h n w':=by
 refine⟨fun i=>?_,hr.inj,hr.lt,hr.fresh,fun i L hL=>dV (hr.kT i L hL) hz,hr.pos,hr.kU,hr.zero⟩;cases hl:(T.get .gone h i).live with
 |false=>exact ES (Env.le_refl _) (hr.obj i) hl
 |true=>exact RO.same (fun M hM=>hs i M hl hM) (hr.obj i)
def Ly(ok:Nat->Nat->Bool):List (Nat×Nat):=((List.range 5).flatMap fun k=>(List.range 14).map fun m=>(k,m)).filter fun p=>ok p.1 p.2
theorem Lz(cL:∀k m,ok k m=true->k<5∧m<14){m:Nat}(h:ok k m=true):(k,m)∈Ly ok:=by
 obtain⟨h1,h2⟩:=cL k m h;refine List.mem_filter.2 ⟨List.mem_flatMap.2 ⟨k,List.mem_range.2 h1,bU.2 ⟨m,List.mem_range.2 h2,rfl⟩⟩,h⟩
def sP:List (Nat×Nat×Nat):=[(1,4,1701869940),(2,8,8750038247350955892),(2,7,32760367581326953)]
theorem BO{er l x:Nat}(h:kB er l x=true):(er,l,x)∈sP:=by
 unfold kB at h;unfold sP;simp only[Bool.or_eq_true,Bool.and_eq_true,beq_iff_eq] at h;rcases h with⟨⟨rfl,rfl⟩,rfl⟩|⟨rfl,⟨rfl,rfl⟩|⟨rfl,rfl⟩⟩<;>simp
def wWait(p:Nat×Nat):List AV:=.i .u8 (.ofNat p.1)::.i .u8 (.ofNat p.2)::di 85
def NO:List AV:=.i .u8 7::di 60++(.i .u8 1::di 25)
def NP(f:Nat×Nat×Nat):List AV:=.i .u8 7::di 60++jw f.1 f.2.1 f.2.2
def Yo:List AV:=.i .u8 7::di 60++(List.take 23 Vt++di 3)
def Jd(l:List AV)(e:Int):AV:=.tu [.ag l,.i .i64 e]
def kgo(ok:Nat->Nat->Bool)(h:Heap)(n:Nat)(k:K):Bool:=bc (bc ((Ly ok).all fun p=>k (Jd (wWait p) 0) h n) (k (Jd NO 0) h n) false) (sP.all fun f=>k (Jd (NP f) 0) h n) false
def k1F:SE×Bool:=(.cmp .eql (aE 0) (.li .u8 1),true)
def k2F:aB:=[(.cmp .eql (aE 0) (.li .u8 1),false),(.cmp .eql (aE 0) (.li .u8 2),true),(wv 1,true)]
def Z1(ok:Nat->Nat->Bool)(b:Bool)(h:Heap)(n:Nat)(k:K):Bool:=bc b (kgo ok h n k)
 (bc (bc (k (Jd (di 87) 160) h n) (bQ (k1F::au h) h fun h1=>kgo ok h1 n k) false) (bQ (k2F++au h) h fun h1=>k (Jd Yo 0) h1 n) false)
def xS(ok:Nat->Nat->Bool)(b:Bool)(a:An)(V:Value):Prop:=(b=true∧IG ok V)∨(b=false∧Way ok a V)
theorem oQ{l:List AV}(h:Ja V ws e)(r:aP E l ws):Rv E (Jd l e) V:=by
 rw[h.v];unfold Jd;rw[Rv];refine⟨[.agg ws.toArray,.int .i64 e],rfl,ad (vX r) (ad (by rw[Rv]) aF)⟩
theorem kM(ws:List Value)(h:∀U∈ws,One U)(hn:ws.length=n):aP E (di n) ws:=fX n ws hn h
theorem jC{c:Nat}{U:Value}(h:ws.getD c undef=U)(hc:c<ws.length):ws[c]=U:=by
 rw[←h,cB,cN hc];rfl
theorem kO{l:List AV}(h:Ja V ws e)(h0:ws.getD 0 undef=.int .u8 7)(r:aP E l (ws.drop 61)):aP E (.i .u8 7::di 60++l) ws:=by
 have hl:=h.len;have e0:ws=(.int .u8 7::(ws.drop 1).take 60)++ws.drop 61:=by
  have h1:ws.drop 1=(ws.drop 1).take 60++(ws.drop 1).drop 60:=(List.take_append_drop 60 _).symm;rw[List.drop_drop] at h1;have h2:ws=ws[0]::ws.drop 1:=by
   have:=List.drop_eq_getElem_cons (l:=ws) (i:=0) (by omega)
   rwa [List.drop_zero] at this
  rw[jC h0 (by omega)] at h2;rw[List.cons_append,←h1];exact h2
 rw[e0];refine aP.append (ad (by rw[Rv]) (kM _ (fun U hU=>h.one U (List.mem_of_mem_drop (List.mem_of_mem_take hU))) ?_)) r
 rw[List.length_take,List.length_drop,hl];rfl
theorem BP(E:Env)(er l x:Nat):aP E (jw er l x) ((ou er l x).cells bO):=by
 have z:aP E zV z4.cells:=ad (by rw[Rv]<;>rfl) (ad (by rw[Rv]<;>rfl) (ad (by rw[Rv]<;>rfl) (ad (by rw[Rv]<;>rfl) aF)))
 exact aY (aY (aY (aY (aY (ad (by rw[Rv]<;>rfl) z) (ad (by rw[Rv]<;>rfl) (ad (by rw[Rv]<;>rfl) (ad (by rw[Rv]<;>rfl) aF)))) z) z) z)
  (ad (by rw[Rv]<;>rfl) (ad (by rw[Rv]<;>rfl) (ad (by rw[Rv]<;>rfl) (ad (by rw[Rv]<;>rfl) (ad (by rw[Rv]<;>rfl) (ad (by rw[Rv]<;>rfl) aF))))))
section
variable{ok:Nat->Nat->Bool}(cL:∀k m,ok k m=true->k<5∧m<14)
include cL
theorem Ul{k:K}(hk:kgo ok h n k=true)(hw:IG ok V):∃v,Rv E v V∧k v h n=true:=by
 obtain⟨h1,h3⟩:=aa hk;obtain⟨h1,h2⟩:=aa h1;cases hw with
 | @wait ws q qm hw e0 e1 kQ=>
   have hl:=hw.len;refine⟨_,oQ hw ?_,Aad.1 h1 _ (Lz cL kQ)⟩;have h2:ws=ws[0]::ws[1]::ws.drop 2:=by
    have a0:=List.drop_eq_getElem_cons (l:=ws) (i:=0) (by omega);have a1:=List.drop_eq_getElem_cons (l:=ws) (i:=1) (by omega);rw[List.drop_zero] at a0;rw[a1] at a0;exact a0
   rw[jC e0 (by omega),jC e1 (by omega)] at h2;rw[h2];exact ad (by rw[Rv];rfl) (ad (by rw[Rv];rfl) (kM _ (fun U hU=>hw.one U (List.mem_of_mem_drop hU)) (by rw[List.length_drop,hl])))
 | @done ws hw e0 e1=>
   have hl:=hw.len;refine⟨_,oQ hw (kO hw e0 ?_),h2⟩;have a:=List.drop_eq_getElem_cons (l:=ws) (i:=61) (by omega);rw[a,jC e1 (by omega)];exact ad (by rw[Rv]) (kM _ (fun U hU=>hw.one U (List.mem_of_mem_drop hU)) (by rw[List.length_drop,hl]))
 | @fail ws er l x hw e0 hf e1=>
   have hl:=hw.len;refine⟨_,oQ hw (kO hw e0 ?_),Aad.1 h3 _ (BO hf)⟩;have e2:ws.drop 61=(ou er l x).cells bO:=by
    have I9:((ou er l x).cells bO).length=26:=rfl;refine List.ext_getElem (by rw[List.length_drop,hl,I9]) fun c h1 h2=>?_
    have:=e1 c (by rw[I9] at h2;exact h2);rw[List.getElem_drop];rw[cB,cB,cN (by rw[hl];rw[I9] at h2;omega),cN h2] at this;exact this
   rw[e2];exact BP E er l x
theorem Um{k:K}(hk:Z1 ok b h n k=true)(hr:HR E h n w)(ao:a.o.ok)(cell:∀i U,a.o.syms[i]? =some U->den E (aE i)=some U)(hw:xS ok b a V):∃v h1,Rv E v V∧HR E h1 n w∧Fk h h1∧k v h1 n=true:=by
 have d0:=cell 0 (.int .u8 a.o.k) rfl;rcases hw with⟨rfl,hw⟩|⟨rfl,hw⟩
 ·have hk:kgo ok h n k=true:=hk
  obtain⟨v,r,hk⟩:=Ul cL (E:=E) hk hw;exact⟨v,h,r,hr,Fk.refl h,hk⟩
 ·have hk:bc (bc (k (Jd (di 87) 160) h n) (bQ (k1F::au h) h fun h1=>kgo ok h1 n k) false) (bQ (k2F++au h) h fun h1=>k (Jd Yo 0) h1 n) false=true:=hk
  obtain⟨h1,h3⟩:=aa hk;obtain⟨h1,h2⟩:=aa h1;cases hw with
  | @step ws hw=>exact⟨_,h,oQ hw (kM ws hw.one hw.len),hr,Fk.refl h,h1⟩
  |go yS hw=>
   obtain⟨hh,he,fw,fk⟩:=bZ h2 hr (ah ((bx d0).trans (by rw[eX yS];rfl)) (aD hr));obtain⟨v,r,hk⟩:=Ul cL (E:=E) he hw;exact⟨v,hh,r,fw,fk,hk⟩
  | @ans sq hm ws hw e0 e1=>
    obtain⟨hh,he,fw,fk⟩:=bZ h3 hr (aJ (ah ((bx d0).trans (by rw[gM (by omega)])) (ah ((bx d0).trans (by rw[eX sq])) (ah ((jc (cell 1 (.int .u8 a.o.v.k) rfl) (cell 2 (.float .f64 a.o.v.x) rfl) (cell 3 (.string a.o.v.s) rfl) (cell 4 (.int .i64 a.o.v.r) rfl)).trans (by rw[hm])) holds_nil))) (aD hr));refine⟨_,hh,oQ hw (kO hw e0 ?_),fw,fk,he⟩;have hl:=hw.len;have r2:aP E (List.take 23 Vt) (List.take 23 (a.o.cells bO)):=aP.take 23 (gP ao (by rw[Rv];rfl) cell);have e2:ws.drop 61=List.take 23 (a.o.cells bO)++ws.drop 84:=by
     have I9:(a.o.cells bO).length=26:=rfl;rw[←List.take_append_drop 23 (ws.drop 61),List.drop_drop];congr 1;refine List.ext_getElem (by simp only[List.length_take,List.length_drop,hl,I9]) fun c h1 h2=>?_
     have hc:c<23:=by rw[List.length_take,I9] at h2;omega
     have:=e1 c hc;rw[List.getElem_take,List.getElem_take,List.getElem_drop];rw[cB,cB,cN (by omega),cN (by omega)] at this;exact this
    rw[e2];exact aP.append r2 (kM _ (fun U hU=>hw.one U (List.mem_of_mem_drop hU)) (by rw[List.length_drop,hl]))
end
def Z2(ok:Nat->Nat->Bool)(l:List AV):Bool:=bc ((Ly ok).any fun p=>bc (cY (cV l 0) (.i .u8 (.ofNat p.1))) (cY (cV l 1) (.i .u8 (.ofNat p.2))) false) true
 (bc (cY (cV l 0) (.i .u8 7)) (bc (cY (cV l 61) (.i .u8 1)) true (sP.any fun f=>cH (List.drop 61 l) (jw f.1 f.2.1 f.2.2))) false)
def Un(ok:Nat->Nat->Bool)(b:Bool)(l:List AV)(h:Heap):Bool:=bc (bc (bc b true (nT (au h) [k1F])) (Z2 ok l) false) true
 (bc (bc (bc b false true) (nT (au h) k2F) false) (bc (cY (cV l 0) (.i .u8 7)) (cH (List.take 23 (List.drop 61 l)) (List.take 23 Vt)) false) false)
def LA(ok:Nat->Nat->Bool)(b:Bool)(v:AV)(h:Heap):Bool:=match v with
 |.tu [.ag l,x]=>bc (bc (Nat.beq (List.length l) 87) (cj l) false) (bc (bc (cY x (.i .i64 160)) (bc b false true) false) true (bc (cY x (.i .i64 0)) (Un ok b l h) false)) false
 |_=>false
def FL(ok:Nat->Nat->Bool)(b:Bool):wz:=fun ph g args h n k=>match args with
 |[.p 8 0,.ag l]=>bc (bc (cH l (oL 5)) (Nat.beq ph 0) false) (Z1 ok b h n (k 1)) false
 |_=>false
def IH(ok:Nat->Nat->Bool)(b:Bool)(ph:Nat)(v:AV)(h:Heap):Bool:=bc (Nat.beq ph 1) (LA ok b v h) false
def I7:Heap:=jq ((List.range 6).map (fun _=>AO.gone)++[.cells 1 ⟨0,some 105,true⟩ (fu [.p 8 0] ⟨1,fZ⟩ 0),.gone]) 9
def LB(ok:Nat->Nat->Bool)(b:Bool):Bool:=match Tryz.f15.body with
 |some c=>(match aS c with
  |[]=>bc (Nat.ble 2 Tryz.f15.ntmps) (BM P c0 (FL ok b) XT (fD P XT c0) Tryz.f15.ntmps [28] (fun _ _ _=>qH) c (ui P Tryz.f15 (IH ok b)) (fun _=>qH) (ui P Tryz.f15 (IH ok b)) 0 (gw [.p 7 0,.ag (oL 5)] fc 0) I7 9) false
  |_=>false)
 |none=>false
theorem tn_qt:LB ud true=true:=by kernel_rfl
theorem tn_qf:LB ud false=true:=by kernel_rfl
theorem Z3:LB nR true=true:=by kernel_rfl
theorem Z4:LB nR false=true:=by kernel_rfl
theorem tnT_at(h:LB ok b=true):∃c,Tryz.f15.body=some c∧aS c=[]∧2<=Tryz.f15.ntmps∧BM P c0 (FL ok b) XT (fD P XT c0) Tryz.f15.ntmps [28] (fun _ _ _=>qH) c (ui P Tryz.f15 (IH ok b)) (fun _=>qH) (ui P Tryz.f15 (IH ok b)) 0 (gw [.p 7 0,.ag (oL 5)] fc 0) I7 9=true:=by
 unfold LB at h;split at h
 ·rename_i c hc
  split at h
  ·rename_i hl
   obtain⟨h1,h2⟩:=aa h;exact⟨c,hc,hl,aU h1,h2⟩
  ·cases h
 ·cases h
def sT(tb mb:Nat)(a:An):List aZ:=[aw (.int .i64 (aG (jU [a]))),⟨0,0,0⟩,⟨0,0,0⟩,⟨0,0,0⟩,fP 0 a.K,aw (.int .i64 (aG (aA a.ks))),⟨tb,0,0⟩,⟨mb,0,0⟩]
theorem zr:∀i V,a.o.syms[i]? =some V->den (ae (sT tb mb a)) (aE i)=some V:=oC rfl
theorem PF:wA P [28]:=fun g hg=>by
 obtain rfl:g=28:=by simpa using hg
 refine⟨Tryz.f28,_,Tryz.func28,rfl,?_⟩;intro h;revert h;decide
theorem PG{v:AV}(he:LA ok b v h=true)(hr:HR E h n w)(rv:Rv E v V)(ao:a.o.ok)(cell:∀i U,a.o.syms[i]? =some U->den E (aE i)=some U):xS ok b a V:=by
 unfold LA at he;split at he<;>try (cases he;done)
 rename_i l x;obtain⟨h1,he⟩:=aa he;obtain⟨h1,h2⟩:=aa h1;have h1:=aN h1;rw[Rv] at rv;obtain⟨vs,rfl,rl⟩:=rv;obtain⟨V1,V2,e2,r1,r2⟩:=rl.two;subst e2;rw[Rv] at r1;obtain⟨ws,rfl,P5⟩:=r1;have hl:=P5.length;have FM:∀U∈ws,One U:=fun U hU=>by
  obtain⟨j,hj⟩:=List.getElem?_of_mem hU;have y8:=(bR.1 hj).1;have r:=P5.nth j;have hx:l[j]? =some (cV l j):=by
   have:j<l.length:=by omega
   rw[ff,cB,cN this];rfl
  have e:ws.getD j undef=U:=by rw[cB,hj];rfl
  rw[e] at r;exact bY (cM h2 _ (gq hx)) r
 have d0:=cell 0 (.int .u8 a.o.k) rfl;have fact:∀{c:Int}{t:Bool},den E (.cmp .eql (aE 0) (.li .u8 c))=some (.bool t)->(a.o.k=c↔t=true):=fun {c t} d=>by
  rw[bx d0] at d;have:=Value.bool.inj (mL d);rw[←this,decide_eq_true_iff]
 rcases aR he with⟨q,_⟩|⟨_,q⟩
 ·obtain⟨q1,q2⟩:=aa q
  rw[bV q1,Rv] at r2;cases b with
  |true=>cases q2
  |false=>exact .inr ⟨rfl,.step ⟨by rw[r2],by omega,FM⟩⟩
 ·obtain⟨q1,q⟩:=aa q
  rw[bV q1,Rv] at r2;have hw:Ja (.tuple #[.agg ws.toArray,V2]) ws 0:=⟨by rw[r2],by omega,FM⟩;unfold Un at q;rcases aR q with⟨q,_⟩|⟨_,q⟩
  ·obtain⟨q1,q⟩:=aa q
   have hgo:IG ok (.tuple #[.agg ws.toArray,V2]):=by
    unfold Z2 at q;have qJ:∀{j m:Nat},cY (cV l j) (.i .u8 (.ofNat m))=true->ws.getD j undef=.int .u8 m:=fun {j m} hs=>by
     have:=P5.nth j;rw[bV hs,Rv] at this;exact this
    rcases aR q with⟨q,_⟩|⟨_,q⟩
    ·obtain⟨p,hp,hq⟩:=List.any_eq_true.1 q
     obtain⟨a1,a2⟩:=aa hq;exact .wait hw (qJ a1) (qJ a2) (List.mem_filter.1 hp).2
    ·obtain⟨a1,q⟩:=aa q
     rcases aR q with⟨q,_⟩|⟨_,q⟩
     ·exact .done hw (qJ (m:=7) a1) (qJ (m:=1) q)
     ·obtain⟨f,hf,hq⟩:=List.any_eq_true.1 q
      have hfo:kB f.1 f.2.1 f.2.2=true:=by
       unfold sP at hf;simp only[mcQ,mnQ,or_false] at hf;rcases hf with rfl|rfl|rfl<;>decide
      refine .fail (er:=f.1) (l:=f.2.1) (x:=f.2.2) hw (qJ (m:=7) a1) hfo fun c hc=>?_
      have rr:=P5.drop 61;rw[bb hq] at rr;rw[←pw rr,cB,cB,List.getElem?_drop]
   cases b with
   |true=>exact .inl ⟨rfl,hgo⟩
   |false=>
    have hk:=iz (aD hr) (need:=[k1F]) q1 _ List.mem_cons_self;exact .inr ⟨rfl,.go ((fact hk).2 rfl) hgo⟩
  ·obtain⟨q1,q⟩:=aa q
   obtain⟨q1,q2⟩:=aa q1;obtain⟨q3,q4⟩:=aa q;cases b with
   |true=>cases q1
   |false=>
    have hk:=iz (aD hr) (need:=k2F) q2 _ (List.mem_cons_of_mem _ List.mem_cons_self);have hmm:=iz (aD hr) (need:=k2F) q2 _ (List.mem_cons_of_mem _ (List.mem_cons_of_mem _ List.mem_cons_self));have hmm:den E (wv 1)=some (.bool true):=hmm;have dm:den E (wv 1)=some (.bool (gI a.o.v.k a.o.v.x a.o.v.s a.o.v.r)):=jc (cell 1 (.int .u8 a.o.v.k) rfl) (cell 2 (.float .f64 a.o.v.x) rfl) (cell 3 (.string a.o.v.s) rfl) (cell 4 (.int .i64 a.o.v.r) rfl);rw[dm] at hmm;refine .inr ⟨rfl,.ans ((fact hk).2 rfl) (Value.bool.inj (mL hmm)) hw ?_ fun c T7=>?_⟩
    ·have:=P5.nth 0
     rw[bV q3,Rv] at this;exact this
    ·have rr:aP E (List.take 23 Vt) (List.take 23 (List.drop 61 ws)):=by
      rw[←bb q4];exact(P5.drop 61).take 23
     have r3:aP E (List.take 23 Vt) (List.take 23 (a.o.cells bO)):=aP.take 23 (gP ao (by rw[Rv];rfl) cell);have e2:=aP.exact (Env.le_refl E) _ _ _ T6 r3 rr;have e3:(List.take 23 (List.drop 61 ws)).getD c undef=(List.take 23 (a.o.cells bO)).getD c undef:=by rw[e2]
     rw[cB,cB,List.getElem?_take_of_lt T7,List.getElem?_take_of_lt T7,List.getElem?_drop] at e3;rw[cB,cB];exact e3
def FN(ok:Nat->Nat->Bool)(b:Bool)(w0:World)(mb:Nat)(a:An)(Kb Kc:Nat->Prop)(xU:World->(Nat->Prop)->Prop):Prop:=∀w:World,w0.heap.size<=w.heap.size->(∀k,k<w0.heap.size->w.heap[k]? =w0.heap[k]?)->
 Calls P 28 #[.pointer (some ⟨mb,0,none⟩),.agg (a.o.cells a.K).toArray] w fun e w'=>∃V,e=.returned V∧dH Kc w w'∧xS ok b a V∧∃K,xU w' K∧∀k,K k->(Kb k∨w.heap.size<=k)∧k<w'.heap.size
section
variable{ok:Nat->Nat->Bool}{b:Bool}(cL:∀k m,ok k m=true->k<5∧m<14){w0:World}{tb mb:Nat}(ht:cQ w0 tb 105 [.pointer (some ⟨mb,0,none⟩)]){a:An}(ao:a.o.ok)(ak:ia w0 a.K a.ks)(fc:(a.ks.length:Int)<=9223372036854775807)
 {Kb Kc:Nat->Prop} (hKc:∀k,Kc k->Kb k) (hKb:∀k,Kb k->k<w0.heap.size∧k≠tb) (Cx:Kb mb) {xU:World->(Nat->Prop)->Prop} (law:FN ok b w0 mb a Kb Kc xU)
def PH(w0:World)(tb:Nat)(Kb:Nat->Prop)(xU:World->(Nat->Prop)->Prop)(ph:Nat)(w1:World)(K:Nat->Prop):Prop:=(ph=0∧w1=w0∧K=fun k=>k<w0.heap.size∧k≠tb)∨(ph=1∧xU w1 K∧∀k,K k->Kb k∨w0.heap.size<=k)
include cL ht ao ak fc hKc hKb Cx law
theorem tnHook:xR (JX (ae (sT tb mb a)) (PH w0 tb Kb xU)) P Kc w0 9 (fun E _=>(ae (sT tb mb a)).le E) [28] (FL ok b):=by
 intro ph g args ARGS E h n w k hg he ra hr hj ci;obtain rfl:g=28:=by simpa using hg
 unfold FL at he;split at he<;>try (cases he;done)
 rename_i l;obtain⟨q1,q2⟩:=aa he;obtain⟨q3,q4⟩:=aa q1;have B5:=aN q4;clear he q1 q4;subst B5;obtain⟨w1,K,kQ,hj⟩:=hj;rcases kQ with⟨_,e1,e2⟩|⟨hc,_⟩
 case inr=>cases hc
 subst e1;subst e2;have hle:(ae (sT tb mb a)).le E:=hj.1;obtain⟨V1,V2,e2,r1,r2⟩:=ra.two;obtain rfl:ARGS=#[V1,V2]:=Array.ext' e2;rw[Rv] at r1;obtain⟨L,eL,rfl⟩:=r1;rw[show E 8=some ⟨mb,0,0⟩ from hle 8 _ rfl] at eL;cases eL
 rw[Rv] at r2;obtain⟨vs,rfl,rl⟩:=r2;rw[bb q3] at rl;have e5:ae (sT tb mb a) 5=some (fP 0 a.K):=rfl;have d6:den (ae (sT tb mb a)) (.sy 6)=some (.int .i64 (aG (aA a.ks))):=aj (i:=5) rfl (ax _ _);have r0:aP (ae (sT tb mb a)) (oL 5) (a.o.cells a.K):=gP ao (kK ak fc e5 d6) zr;have ev:=aP.exact hle _ _ _ (Is 5) r0 rl;subst ev;have same:∀k,k<w1.heap.size->w.heap[k]? =w1.heap[k]?:=fun k hk=>by
  by_cases e:k=tb
  ·subst e
   exact ci.bJ.same k hk fun hb=>(hKb k (hKc k hb)).2 rfl
  ·exact(hj.2.2 k ⟨hk,e⟩).1
 refine(law w hj.2.1 same).mono ?_;rintro e w' ⟨V,rfl,hb,hw,K',hp,hK⟩;have II:∀i L,(T.get .gone h i).live=true->E i=some L->¬Kb L.aH:=fun i L hl hL hb=>(hj.2.2 L.aH (hKb _ hb)).2.2 i L hl hL rfl
 have cO:HR E h n w':=HR.other hr hb.size fun i L hl hL=>hb.same L.aH (hr.kT i L hL) (fun h=>II i L hl hL (hKc _ h))
 obtain⟨v,OP,rv,jF,fk,hk⟩:=Um cL q2 cO ao (fun i U hi=>an hle _ _ (zr i U hi)) hw;have qE:jh Kc w1 9 (fun E _=>(ae (sT tb mb a)).le E) E h w':=⟨⟨Nat.le_trans ci.bJ.size hb.size,fun k hk hn=>(hb.same k (dV hk ci.bJ.size) hn).trans (ci.bJ.same k hk hn),hb.os.trans ci.bJ.os,hb.output.trans ci.bJ.output,hb.tape.trans ci.bJ.tape⟩,ci.iq,ci.bM,ci.z⟩;refine⟨1,V,v,OP,n,E,rfl,rv,jF,⟨w',K',.inr ⟨rfl,hp,fun k hk=>?_⟩,bL.fk ⟨hle,nrQ _,fun k hk=>⟨rfl,(hK k hk).2,fun i L hl hL e=>?_⟩⟩ fk⟩,qE.goes fk.goes,Env.le_refl _,hk⟩
 ·rcases(hK k hk).1 with h|h
  ·exact .inl h
  ·exact .inr (Nat.le_trans hj.2.1 h)
 ·rcases(hK k hk).1 with h|h
  ·exact II i L hl hL (by rw[e];exact h)
  ·have:=hr.kT i L hL
   omega
theorem NQ(hk:LB ok b=true):Calls P 15 #[.pointer (some ⟨tb,0,none⟩),.agg (a.o.cells a.K).toArray] w0 fun e w'=>∃V,e=.returned V∧dH Kc w0 w'∧xS ok b a V∧∃w1 K,xU w1 K∧w1.heap.size<=w'.heap.size∧(∀k,K k->w'.heap[k]? =w1.heap[k]?∧k<w1.heap.size)∧∀k,K k->Kb k∨w0.heap.size<=k:=by
 obtain⟨c,hc,hl,hn,hk⟩:=tnT_at hk;have hmlt:=(hKb mb Cx).1;have hz:0<w0.heap.size:=by omega
 have hr:HR (ae (sT tb mb a)) I7 9 w0:=by
  refine cX (C:=sT tb mb a) rfl (show 9<=9 from by decide) (.append (.dead _ _ fun a ha=>by obtain⟨_,_,rfl⟩:=bU.1 ha;rfl) ⟨?_,trivial,trivial⟩) (fun L hL=>?_) (show[tb].Nodup by simp)
  ·exact ht.ro rfl (ad (by rw[Rv];exact⟨⟨mb,0,0⟩,rfl,rfl⟩) aF) rfl
  ·have s0:∀V,(aw V).aH<w0.heap.size:=fun V=>by rw[bH];omega
   have kz:=pF ak hz;have xy:=ht.lt;unfold sT at hL;simp only[mcQ,mnQ,or_false] at hL;rcases hL with rfl|rfl|rfl|rfl|rfl|rfl|rfl|rfl<;>first|exact s0 _|assumption
 have cG:bM I7=9:=bX _ _;have lv:∀i,(T.get .gone I7 i).live=true->i=7:=fun i hi=>by
  obtain⟨j,x,rfl,g1,g2⟩:=bT (a:=.gone) hi;have hj:=(bR.1 g1).1;have hj:j<8:=hj;match j,hj,g1 with
  |0,_,g1=>cases g1;cases g2
  |1,_,g1=>cases g1;cases g2
  |2,_,g1=>cases g1;cases g2
  |3,_,g1=>cases g1;cases g2
  |4,_,g1=>cases g1;cases g2
  |5,_,g1=>cases g1;cases g2
  |6,_,g1=>rfl
  |7,_,g1=>cases g1;cases g2
 have e5:ae (sT tb mb a) 5=some (fP 0 a.K):=rfl;have d6:den (ae (sT tb mb a)) (.sy 6)=some (.int .i64 (aG (aA a.ks))):=aj (i:=5) rfl (ax _ _);have ra:aP (ae (sT tb mb a)) [.p 7 0,.ag (oL 5)] (#[.pointer (some ⟨tb,0,none⟩),.agg (a.o.cells a.K).toArray]:Array Value).toList:=
  ad (by rw[Rv];exact⟨⟨tb,0,0⟩,rfl,rfl⟩) (ad (by rw[Rv];exact⟨_,rfl,gP ao (kK ak fc e5 d6) zr⟩) aF)
 have AI:(JX (ae (sT tb mb a)) (PH w0 tb Kb xU) 0).J (ae (sT tb mb a)) I7 w0:=⟨w0,_,.inl ⟨rfl,rfl,rfl⟩,Env.le_refl _,nrQ _,fun k hk=>⟨rfl,hk.1,fun i L hl hL e=>by
  obtain rfl:=lv i hl;have hL:some (⟨tb,0,0⟩:aZ)=some L:=hL;cases hL
  exact hk.2 e.symm⟩⟩
 have aQ:∀ph,@bj (JX (ae (sT tb mb a)) (PH w0 tb Kb xU) ph) P c0:=fun ph=>@iL (JX (ae (sT tb mb a)) (PH w0 tb Kb xU) ph)
 refine(Uj (JF:=JX (ae (sT tb mb a)) (PH w0 tb Kb xU)) aQ dv (fun ph=>@ep (JX (ae (sT tb mb a)) (PH w0 tb Kb xU) ph) P XT mixed dv c0 (aQ ph)) (tnHook cL ht ao ak fc hKc hKb Cx law) PF mixed (Fin:=fun V w'=>xS ok b a V∧∃w1 K,xU w1 K∧w1.heap.size<=w'.heap.size∧(∀k,K k->w'.heap[k]? =w1.heap[k]?∧k<w1.heap.size)∧∀k,K k->Kb k∨w0.heap.size<=k)
  Tryz.func15 hc ra hn hr AI ⟨dH.refl _ _,fun k hk hf=>?_,cG,fun E' h' hle oN=>hle⟩ (fun l Em=>by rw[hl] at Em;cases Em) hk ?_).mono ?_
 ·obtain⟨i,L,a1,a2,_⟩:=hf
  have:=lv i a2;omega
 ·intro ph E h n w v V hr hj ci rv hf
  unfold IH at hf;obtain⟨h1,hf⟩:=aa hf;have h1:=aN h1;subst h1;obtain⟨w1,K,kQ,hj⟩:=hj;rcases kQ with⟨h,_⟩|⟨_,hp,hK⟩
  ·cases h
  ·exact⟨PG hf hr rv ao fun i U hi=>an hj.1 _ _ (zr i U hi),w1,K,hp,hj.2.1,fun k hk=>⟨(hj.2.2 k hk).1,(hj.2.2 k hk).2.1⟩,hK⟩
 ·rintro e w' ⟨V,rfl,hb,hf⟩
  exact⟨V,rfl,hb,hf⟩
end
theorem yX.same{T:Tr}{fb:Nat}{S:Value}(I:yX T ok base n w mb fb ob ab ba cap g S l R A kd md ov)(hz:w.heap.size<=w'.heap.size)(hs:∀k,nI mb ba fb ob ab R k->w'.heap[k]? =w.heap[k]?):
  yX T ok base n w' mb fb ob ab ba cap g S l R A kd md ov:={I with m:=I.m.same hz hs}
theorem wK.blt{fb:Nat}{S:Value}(M:wK w mb fb ob ab ba cap g S l R A kd md bg ov)(hk:nI mb ba fb ob ab R k):k<w.heap.size:=by
 rcases hk with hk|rfl|rfl
 ·exact M.klt hk
 ·exact M.ZM
 ·exact M.wJ
def qK(T:Tr)(ok:Nat->Nat->Bool)(g:FuncId)(l:List V4)(base n tb:Nat)(w:World)(K:Nat->Prop):Prop:=
 ∃mb fb ob ab ba cap S R A kd md ov,yX T ok base n w mb fb ob ab ba cap g S l R A kd md ov∧cQ w tb 105 [.pointer (some ⟨mb,0,none⟩)]∧¬nI mb ba fb ob ab R tb∧K=fun k=>nI mb ba fb ob ab R k∨k=tb
def mo(g:FuncId)(l:List V4)(base tb:Nat)(w:World)(K:Nat->Prop):Prop:=
 ∃mb fb ob ab cap S kd md,wK w mb fb ob ab mb cap g S l [] bO kd md false false∧base<=mb∧cQ w tb 105 [.pointer (some ⟨mb,0,none⟩)]∧¬nI mb mb fb ob ab [] tb∧K=fun k=>nI mb mb fb ob ab [] k∨k=tb
theorem qK.blt{T:Tr}{K:Nat->Prop}(h:qK T ok g l base n tb w K)(hk:K k):k<w.heap.size:=by
 obtain⟨mb,fb,ob,ab,ba,cap,S,R,A,kd,md,ov,I,hb,hn,rfl⟩:=h;rcases hk with hk|rfl
 ·exact I.m.blt hk
 ·exact hb.lt
theorem mo.blt{K:Nat->Prop}(h:mo g l base tb w K)(hk:K k):k<w.heap.size:=by
 obtain⟨mb,fb,ob,ab,cap,S,kd,md,M,Cx,hb,hn,rfl⟩:=h;rcases hk with hk|rfl
 ·exact M.blt hk
 ·exact hb.lt
theorem qK.same{T:Tr}{K:Nat->Prop}(h:qK T ok g l base n tb w K)(hz:w.heap.size<=w'.heap.size)(hs:∀k,K k->w'.heap[k]? =w.heap[k]?):qK T ok g l base n tb w' K:=by
 obtain⟨mb,fb,ob,ab,ba,cap,S,R,A,kd,md,ov,I,hb,hn,rfl⟩:=h;exact⟨mb,fb,ob,ab,ba,cap,S,R,A,kd,md,ov,I.same hz fun k hk=>hs k (.inl hk),hb.same (hs tb (.inr rfl)),hn,rfl⟩
theorem mo.same{K:Nat->Prop}(h:mo g l base tb w K)(hz:w.heap.size<=w'.heap.size)(hs:∀k,K k->w'.heap[k]? =w.heap[k]?):mo g l base tb w' K:=by
 obtain⟨mb,fb,ob,ab,cap,S,kd,md,M,Cx,hb,hn,rfl⟩:=h;exact⟨mb,fb,ob,ab,cap,S,kd,md,M.same hz fun k hk=>hs k (.inl hk),Cx,hb.same (hs tb (.inr rfl)),hn,rfl⟩
section
variable{T:Tr}{ok:Nat->Nat->Bool}(cL:∀k m,ok k m=true->k<5∧m<14)(hg:cf ok (fun _ _=>False) 0 T){g:FuncId}{l:List V4}(law:BN g l T)
include cL hg law
theorem PI(hk:LB ok false=true){K:Nat->Prop}(X:qK T ok g l base n tb w K)(hn:n<=39)(ML:base<=w.heap.size)(ao:a.o.ok)(ak:ia w a.K a.ks)(mS:qT a.ks)(fc:(a.ks.length:Int)<=9223372036854775807)(low:∀b,HM a.K b->b<base):
  Calls P 15 #[.pointer (some ⟨tb,0,none⟩),.agg (a.o.cells a.K).toArray] w fun e w'=>∃V,e=.returned V∧dH (fun k=>K k∧base<=k) w w'∧Way ok a V∧∃K',qK T ok g l base (n+1) tb w' K'∧∀k,K' k->(K k∨w.heap.size<=k)∧k<w'.heap.size:=by
 have kQ:∀k md,ok k md=true->k<=255∧md<=255:=fun k md h=>by have:=cL k md h;omega
 have X0:=X;obtain⟨mb,fb,ob,ab,ba,cap,S,R,A,kd,md,ov,I,hb,LC,rfl⟩:=X;have hs:FN ok false w mb a (nI mb ba fb ob ab R) (fun k=>k=mb∨k=ba) fun w1 K1=>∃gn bz R' A' yA yB zp,yX T ok base (n+1) w1 mb fb ob ab gn bz g S l R' A' yA yB zp∧K1=nI mb gn fb ob ab R':=fun w1 hz Qd=>by
  have I1:=I.same hz fun k hk=>Qd k (I.m.blt hk)
  refine(Ym kQ hg law I1 hn (Nat.le_trans ML hz) ao (ak.same fun b hb=>Qd b (by have:=low b hb;omega)) mS fc low).mono ?_;rintro e w' ⟨V,rfl,hm,⟨gn,bz,R',A',yA,yB,zp,I',hK⟩,hw⟩;refine⟨V,rfl,⟨hm.size,fun k hk hn=>hm.same k hk (fun e=>hn (.inl e)) (fun e=>hn (.inr e)),hm.os,hm.output,hm.tape⟩,.inr ⟨rfl,hw⟩,_,⟨gn,bz,R',A',yA,yB,zp,I',rfl⟩,fun k hk=>⟨hK k hk,I'.m.blt hk⟩⟩
 refine(NQ cL hb ao ak fc (fun k hk=>.inr hk) (fun k hk=>⟨I.m.blt hk,fun e=>LC (e▸hk)⟩) (.inr (.inl rfl)) hs hk).mono ?_;rintro e w' ⟨V,rfl,uZ,hw,w1,K1,⟨gn,bz,R',A',yA,yB,zp,I',rfl⟩,hz,Qd,hK⟩;have xy:=hb.lt;rcases hw with⟨h,_⟩|⟨_,hw⟩
 ·cases h
 refine⟨V,rfl,⟨uZ.size,fun k hk hn=>uZ.same k hk fun h=>hn ⟨.inl (.inr h),by rcases h with rfl|rfl<;>first|exact I.mb_|exact I.ba_⟩,uZ.os,uZ.output,uZ.tape⟩,hw,_,⟨mb,fb,ob,ab,gn,bz,S,R',A',yA,yB,zp,I'.same hz fun k hk=>(Qd k hk).1,hb.same (uZ.same tb xy fun h=>LC (.inr h)),fun h=>?_,rfl⟩,fun k hk=>?_⟩
 ·rcases hK tb h with h|h
  ·exact LC h
  ·omega
 ·rcases hk with hk|rfl
  ·refine⟨?_,dV (Qd k hk).2 hz⟩
   rcases hK k hk with h|h
   ·exact .inl (.inl h)
   ·exact .inr h
  ·exact⟨.inl (.inr rfl),dV xy uZ.size⟩
theorem LD(hk:LB ok true=true){K:Nat->Prop}(X:mo g l base tb w K)(ML:base<=w.heap.size)(ao:a.o.ok)(aK:a.K=bO)(Z0:a.ks=[]):
  Calls P 15 #[.pointer (some ⟨tb,0,none⟩),.agg (a.o.cells a.K).toArray] w fun e w'=>∃V,e=.returned V∧dH (fun k=>K k∧base<=k) w w'∧IG ok V∧∃K',qK T ok g l base n tb w' K'∧∀k,K' k->(K k∨w.heap.size<=k)∧k<w'.heap.size:=by
 have kQ:∀k md,ok k md=true->k<=255∧md<=255:=fun k md h=>by have:=cL k md h;omega
 obtain⟨mb,fb,ob,ab,cap,S,kd,md,M,Cx,hb,LC,rfl⟩:=X;have hs:FN ok true w mb a (nI mb mb fb ob ab []) (fun k=>k=mb∨k=mb) fun w1 K1=>∃gn bz R' A' yA yB zp,yX T ok base n w1 mb fb ob ab gn bz g S l R' A' yA yB zp∧K1=nI mb gn fb ob ab R':=fun w1 hz Qd=>by
  have M1:=M.same hz fun k hk=>Qd k (M.blt hk)
  refine(Uk kQ hg law (n:=n) M1 Cx (Nat.le_trans ML hz) ao aK Z0).mono ?_;rintro e w' ⟨V,rfl,hm,⟨gn,bz,R',A',yA,yB,zp,I',hK⟩,hw⟩;refine⟨V,rfl,⟨hm.size,fun k hk hn=>hm.same k hk (fun e=>hn (.inl e)) (fun e=>hn (.inr e)),hm.os,hm.output,hm.tape⟩,.inl ⟨rfl,hw⟩,_,⟨gn,bz,R',A',yA,yB,zp,I',rfl⟩,fun k hk=>⟨hK k hk,I'.m.blt hk⟩⟩
 refine(NQ cL hb ao (.inl (.inl ⟨aK,Z0⟩)) (by rw[Z0];decide) (fun k hk=>.inr hk) (fun k hk=>⟨M.blt hk,fun e=>LC (e▸hk)⟩) (.inr (.inl rfl)) hs hk).mono ?_;rintro e w' ⟨V,rfl,uZ,hw,w1,K1,⟨gn,bz,R',A',yA,yB,zp,I',rfl⟩,hz,Qd,hK⟩;have xy:=hb.lt;rcases hw with⟨_,hw⟩|⟨h,_⟩
 case inr=>cases h
 refine⟨V,rfl,⟨uZ.size,fun k hk hn=>uZ.same k hk fun h=>hn ⟨.inl (.inr h),by rcases h with rfl|rfl<;>exact Cx⟩,uZ.os,uZ.output,uZ.tape⟩,hw,_,⟨mb,fb,ob,ab,gn,bz,S,R',A',yA,yB,zp,I'.same hz fun k hk=>(Qd k hk).1,hb.same (uZ.same tb xy fun h=>LC (.inr h)),fun h=>?_,rfl⟩,fun k hk=>?_⟩
 ·rcases hK tb h with h|h
  ·exact LC h
  ·omega
 ·rcases hk with hk|rfl
  ·refine⟨?_,dV (Qd k hk).2 hz⟩
   rcases hK k hk with h|h
   ·exact .inl (.inl h)
   ·exact .inr h
  ·exact⟨.inl (.inr rfl),dV xy uZ.size⟩
end
end
end Go.Proofs.YtngagklmbbogiaaGreatDoor.Ob
