/- Parts of one proof (Ob15 to Ob23). No condition. -/
import Derived.Test.YtngagklmbbogiaaGreatDoorB1
set_option linter.all false
namespace Go.Proofs.YtngagklmbbogiaaGreatDoor.Ob
open Go Go.RowKit Vx
set_option maxRecDepth 100000
noncomputable section
variable{el:AO}{a a':Act}{E E':Env}{fn:Func}{g:FuncId}{h h':Heap}{R:List An}{ks:List Ky}{l:List V4}{ib:List Value}{F b b1 b2 b4 bp c d i id j k m n n' nt nx p t:Nat}{ok:Nat->Prop}{T0:Tr}{V:Value}{w w' w0:World}{call:aO}{ext:iG}
def gA(m:Nat):AV:=match m with
 |4=>.sn
 |m=>slN m
def ij(m:Nat):AO:=match m with
 |4=>.gone
 |m=>aoN m
def fF(m:Nat):aB:=match m with
 |4=>[]
 |m=>fN m
def Vn(k m:Nat):Bool:=match m with
 |4=>Nat.beq k 0
 |m=>Nat.ble k m
def qd(g:FuncId)(k:Nat)(q:List (Nat×Nat×Bool))(T:Tr):Bool:=(List.range 5).all fun m=>bc (Vn k m) (rT g (gA m) (ij m) (fF m++(kF q++f2)) T) true
theorem ig(a b:Int):a<b∨b<=a:=by omega
theorem nw(i:Nat):Vx.T.get AV.no fc i=.no:=Vx.T.mV _ _ _
theorem aJ{a b:aB}(ha:Holds E a)(hb:Holds E b):Holds E (a++b):=fun p hp=>by
 rcases List.mem_append.1 hp with h|h
 ·exact ha p h
 ·exact hb p h
section
variable{w:World}{bp ba cap ab:Nat}{R:List An}{A S:Value}{l:List V4}(s:St w bp ba cap ab R A S l)
include s
theorem St.Ze(n c:Nat):Holds (ae (sC R A ba cap ab bp n c l)) f2:=by
 have d:den (ae (sC R A ba cap ab bp n c l)) (.sy 2)=some (.int .i64 R.length):=aj (i:=1) rfl (ax _ _);have hl:=s.len;exact ah ((az d).trans (by rw[eX (by omega)])) holds_nil
theorem St.run{q:List (Nat×Nat×Bool)}{T:Tr}(h:qd g k q T=true)(kz:k<=l.length)(P9:k<=3)(hq:Cq l q):
  Calls P g #[.agg #[.pointer (some ⟨bp,0,none⟩),S]] w fun e w'=>∃V,e=.returned V∧qS bp w w'∧cU R w.heap.size bp V w' (ev R T):=by
 have h:=Aad.1 h;have at_:∀m,m<5->Vn k m=true->rT g (gA m) (ij m) (fF m++(kF q++f2)) T=true:=fun m hm ho=>by
  have:=h m (List.mem_range.2 hm);rw[ho] at this;exact this
 rcases s.args with⟨rfl,rfl⟩|⟨arr,el,fr,c,rfl,hb,cC,hc,P'⟩
 ·have hk0:k=0:=by simpa using kz
  subst hk0;refine s.go 0 0 (at_ 4 (by decide) rfl) ?_ (by show Rv _ .sn bO;rw[Rv];rfl) trivial (.inl rfl);exact aJ holds_nil (aJ (s.Zd 0 0 hq) (s.Ze 0 0))
 ·have hm:∃m,m<=3∧m<=l.length∧(m<3->m=l.length)∧(3<=m->3<=l.length)∧k<=m:=by
   rcases gC l.length 3 with h3|h3
   ·exact⟨l.length,by omega,by omega,fun _=>rfl,fun h=>by omega,kz⟩
   ·exact⟨3,by omega,by omega,fun h=>by omega,fun _=>h3,P9⟩
  obtain⟨m,m3,ml,mm,mg,mk⟩:=hm;have al:=s.al;have dl:den (ae (sC R A ba cap ab bp l.length c l)) (.sy 7)=some (.int .i64 l.length):=aj (i:=6) rfl (ax _ _);have dc:den (ae (sC R A ba cap ab bp l.length c l)) (.sy 8)=some (.int .i64 c):=aj (i:=7) rfl (ax _ _);have ho:Vn k m=true:=by
   unfold Vn;split
   ·omega
   ·exact Nat.ble_eq_true_of_le mk
  have e1:gA m=slN m:=by unfold gA;split<;>first|omega|rfl
  have e2:ij m=aoN m:=by unfold ij;split<;>first|omega|rfl
  have e3:fF m=fN m:=by unfold fF;split<;>first|omega|rfl
  have hr:=at_ m (by omega) ho;rw[e1,e2,e3] at hr;refine s.go l.length c hr ?_ ?_ ?_ (.inr rfl)
  ·refine aJ ?_ (aJ (s.Zd _ _ hq) (s.Ze _ _))
   match m,m3,mm,mg with
   |0,_,mm,_=>exact ah ((az dl).trans (by rw[eX (by have:=mm (by decide);omega)])) holds_nil
   |1,_,mm,_=>exact ah ((az dl).trans (by rw[eX (by have:=mm (by decide);omega)])) (ah ((az dl).trans (by rw[gM (by have:=mm (by decide);omega)])) holds_nil)
   |2,_,mm,_=>exact ah ((az dl).trans (by rw[eX (by have:=mm (by decide);omega)])) (ah ((az dl).trans (by rw[gM (by have:=mm (by decide);omega)])) holds_nil)
   |3,_,_,mg=>exact ah ((az dl).trans (by rw[gM (by have:=mg (by decide);omega)])) holds_nil
  ·unfold slN
   rw[Rv];exact⟨⟨ab,0,0⟩,l.length,c,rfl,dl,dc,ml,by omega,rfl⟩
  ·have hv:=s.ib l.length c al m m3 ml
   refine⟨⟨ab,0,0⟩,arr,el,fr,rfl,fun h=>absurd h (by decide),hb,by show 0+4*m<=_;omega,fun j hj=>?_,qL.vb (by decide)⟩;refine jf (g:=fun j=>arr.getD (0+j) undef) _ _ _ (fun i a hi=>?_) (fun i=>by rw[nw];simp[Rv]) j
   obtain⟨V,h1,h2,h3⟩:=hv i a hi;have cL:i/4<l.length:=by omega
   have e:arr.getD (0+(0+i)) undef=V:=by
    have hg:l[i/4]? =some (l.getD (i/4) z4):=by rw[cB,cN cL];rfl
    have:=hc (i/4) _ hg (i%4) (by omega);rw[show 4*(i/4)+i%4=0+(0+i) by omega] at this;rw[this,cB,h1];rfl
   rw[e];exact h2
end
def iN(g:FuncId)(ok:Nat->Nat->Bool):Prop:=∀l:List V4,(∀v∈l,v.k<=8)->∃T,cf ok (fun _ _=>False) 0 T∧∀{w:World}{bp ba cap ab:Nat}{R:List An}{A S:Value},St w bp ba cap ab R A S l->
 Calls P g #[.agg #[.pointer (some ⟨bp,0,none⟩),S]] w fun e w'=>∃V,e=.returned V∧qS bp w w'∧cU R w.heap.size bp V w' (ev R T)
theorem iO{ok:Nat->Nat->Bool}{q:List (Nat×Nat×Bool)}{T:Tr}(h:qd g k q T=true)(hg:cf ok (fun _ _=>False) 0 T)(kz:k<=l.length)(P9:k<=3)(hq:Cq l q):
  ∃T,cf ok (fun _ _=>False) 0 T∧∀{w:World}{bp ba cap ab:Nat}{R:List An}{A S:Value},St w bp ba cap ab R A S l->
   Calls P g #[.agg #[.pointer (some ⟨bp,0,none⟩),S]] w fun e w'=>∃V,e=.returned V∧qS bp w w'∧cU R w.heap.size bp V w' (ev R T):=⟨T,hg,fun s=>s.run h kz P9 hq⟩
def ud(k md:Nat):Bool:=k==4&&md==0||k==1&&(md==1||md==3||md==5||md==11)
def nR(k md:Nat):Bool:=(k==1||k==2||k==4)&&Nat.ble md 13
def oA(j:Nat):List (Nat×Nat×Bool):=[(j,5,false),(j,8,true)]
def pA(j:Nat):List (Nat×Nat×Bool):=[(j,5,true)]
def nA(j:Nat):List (Nat×Nat×Bool):=[(j,1,true),(j,0,false)]
def uA(j:Nat):List (Nat×Nat×Bool):=[(j,0,true)]
def vA(j:Nat):List (Nat×Nat×Bool):=[(j,1,false),(j,5,true)]
def te:Tr:=.fail 1 4 1701869940
theorem fJ(h:0<(l.getD j z4).k):j<l.length:=by
 rcases gC j l.length with h1|h1
 ·exact h1
 ·rw[cB,List.getElem?_eq_none h1] at h
  exact absurd h (by decide)
theorem k8(h:∀v∈l,v.k<=8)(j:Nat):(l.getD j z4).k<=8:=by
 rw[cB];cases hj:l[j]? with
 |none=>decide
 |some v=>exact h v (gq hj)
theorem ox:Cq l []:=fun p hp=>by cases hp
theorem iv{a b:List (Nat×Nat×Bool)}(ha:Cq l a)(hb:Cq l b):Cq l (a++b):=fun p hp=>by
 rcases List.mem_append.1 hp with h|h
 ·exact ha p h
 ·exact hb p h
theorem lR{b:Bool}{a:List (Nat×Nat×Bool)}(h3:j<3)(h:decide ((l.getD j z4).k<=(c:Int))=b)(ha:Cq l a):Cq l ((j,c,b)::a):=fun p hp=>by
 rcases mcQ.1 hp with rfl|h'
 ·exact⟨h3,h⟩
 ·exact ha p h'
theorem ic(h8:∀v∈l,v.k<=8)(h3:j<3)(h:5<(l.getD j z4).k):Cq l (oA j):=
 lR h3 (gM (by show ¬_<=((5:Nat):Int);omega)) (lR h3 (eX (k8 h8 j)) ox)
theorem kC(h3:j<3)(h:(l.getD j z4).k<=5):Cq l (pA j):=lR h3 (eX h) ox
theorem Zg(h3:j<3)(h:(l.getD j z4).k<=0):Cq l (uA j):=lR h3 (eX h) ox
theorem Zh(h3:j<3)(h:(l.getD j z4).k=1):Cq l (nA j):=
 lR h3 (eX (by show _<=((1:Nat):Int);omega)) (lR h3 (gM (by show ¬_<=((0:Nat):Int);omega)) ox)
theorem Zi(h3:j<3)(h:1<(l.getD j z4).k)(h':(l.getD j z4).k<=5):Cq l (vA j):=
 lR h3 (gM (by show ¬_<=((1:Nat):Int);omega)) (lR h3 (eX h') ox)
theorem c97a:qd 97 1 (oA 0) (.ask 1 3 0 .done)=true:=by kernel_rfl
theorem c97b:qd 97 0 (pA 0) .done=true:=by kernel_rfl
theorem run97:iN 97 ud:=fun l h8=>by
 rcases ig 5 (l.getD 0 z4).k with h|h
 ·exact iO c97a ⟨rfl,rfl,trivial⟩ (fJ (by omega)) (by decide) (ic h8 (by decide) h)
 ·exact iO c97b trivial (nzQ _) (by decide) (kC (by decide) h)
theorem c95a:qd 95 1 (oA 0) (.ask 1 1 0 .done)=true:=by kernel_rfl
theorem c95b:qd 95 0 (pA 0) te=true:=by kernel_rfl
theorem run95:iN 95 ud:=fun l h8=>by
 rcases ig 5 (l.getD 0 z4).k with h|h
 ·exact iO c95a ⟨rfl,rfl,trivial⟩ (fJ (by omega)) (by decide) (ic h8 (by decide) h)
 ·exact iO c95b rfl (nzQ _) (by decide) (kC (by decide) h)
theorem c96:qd 96 0 [] .done=true:=by kernel_rfl
theorem run96:iN 96 ud:=fun l h8=>iO c96 trivial (nzQ _) (by decide) ox
theorem c101a:qd 101 1 (oA 0) (.ask 1 4 0 (.ite 5 0 false 1 .done te))=true:=by kernel_rfl
theorem c101b:qd 101 0 (pA 0) .done=true:=by kernel_rfl
theorem run101:iN 101 nR:=fun l h8=>by
 rcases ig 5 (l.getD 0 z4).k with h|h
 ·exact iO c101a ⟨rfl,rfl,by decide,trivial,rfl⟩ (fJ (by omega)) (by decide) (ic h8 (by decide) h)
 ·exact iO c101b trivial (nzQ _) (by decide) (kC (by decide) h)
theorem c89a:qd 89 1 (oA 0) (.ask 4 0 0 .done)=true:=by kernel_rfl
theorem c89b:qd 89 1 (nA 0) (.ask 4 0 0 .done)=true:=by kernel_rfl
theorem c89c:qd 89 0 (uA 0) te=true:=by kernel_rfl
theorem c89d:qd 89 1 (vA 0) te=true:=by kernel_rfl
theorem run89:iN 89 nR:=fun l h8=>by
 rcases ig 5 (l.getD 0 z4).k with h|h
 ·exact iO c89a ⟨rfl,rfl,trivial⟩ (fJ (by omega)) (by decide) (ic h8 (by decide) h)
 rcases ig 1 (l.getD 0 z4).k with h1|h1
 ·exact iO c89d rfl (fJ (by omega)) (by decide) (Zi (by decide) h1 h)
 rcases ig 0 (l.getD 0 z4).k with h2|h2
 ·exact iO c89b ⟨rfl,rfl,trivial⟩ (fJ (by omega)) (by decide) (Zh (by decide) (by omega))
 ·exact iO c89c rfl (nzQ _) (by decide) (Zg (by decide) h2)
theorem c103a:qd 103 2 (oA 0++oA 1) (.ask 1 2 0 (.ite 5 0 false 1 .done te))=true:=by kernel_rfl
theorem c103b:qd 103 2 (oA 0++nA 1) (.ask 1 2 0 (.ite 5 0 false 1 .done te))=true:=by kernel_rfl
theorem c103c:qd 103 1 (oA 0++uA 1) te=true:=by kernel_rfl
theorem c103d:qd 103 2 (oA 0++vA 1) te=true:=by kernel_rfl
theorem c103e:qd 103 0 (pA 0) te=true:=by kernel_rfl
theorem run103:iN 103 nR:=fun l h8=>by
 rcases ig 5 (l.getD 0 z4).k with h0|h0
 ·have o0:=ic h8 (j:=0) (by decide) h0
  rcases ig 5 (l.getD 1 z4).k with h|h
  ·exact iO c103a ⟨rfl,rfl,by decide,trivial,rfl⟩ (fJ (by omega)) (by decide) (iv o0 (ic h8 (by decide) h))
  rcases ig 1 (l.getD 1 z4).k with h1|h1
  ·exact iO c103d rfl (fJ (by omega)) (by decide) (iv o0 (Zi (by decide) h1 h))
  rcases ig 0 (l.getD 1 z4).k with h2|h2
  ·exact iO c103b ⟨rfl,rfl,by decide,trivial,rfl⟩ (fJ (by omega)) (by decide) (iv o0 (Zh (by decide) (by omega)))
  ·exact iO c103c rfl (fJ (by omega)) (by decide) (iv o0 (Zg (by decide) h2))
 ·exact iO c103e rfl (nzQ _) (by decide) (kC (by decide) h0)
structure dH(ok:Nat->Prop)(w w':World):Prop where
 size:w.heap.size<=w'.heap.size
 same:∀k,k<w.heap.size->¬ok k->w'.heap[k]? =w.heap[k]?
 os:w'.os=w.os
 output:w'.output=w.output
 tape:w'.tape=w.tape
theorem dH.refl(ok:Nat->Prop)(w:World):dH ok w w:=⟨nrQ _,fun _ _ _=>rfl,rfl,rfl,rfl⟩
theorem dH.one(h:dH (· =bp) w w'):qS bp w w':=⟨h.size,fun k hk cR=>h.same k hk cR,h.os,h.output,h.tape⟩
structure jh(ok:Nat->Prop)(w0:World)(F:Nat)(Z:Env->Heap->Prop)(E:Env)(h:Heap)(w:World):Prop where
 bJ:dH ok w0 w
 iq:∀k,k<w0.heap.size->fp E h k->ok k
 bM:Vx.bM h=F
 z:∀E' h',E.le E'->(∀i,i<F->T.get .gone h' i=T.get .gone h i)->Z E' h'
theorem jh.goes{Z:Env->Heap->Prop}(c:jh ok w0 F Z E h w)(g:bk E h w E' h' w'):jh ok w0 F Z E' h' w':=
 ⟨⟨Nat.le_trans c.bJ.size g.size,fun k hk cR=>(g.fr k (dV hk c.bJ.size) fun hf=>cR (c.iq k hk hf)).trans (c.bJ.same k hk cR),g.os.trans c.bJ.os,g.output.trans c.bJ.output,g.tape.trans c.bJ.tape⟩,
   fun k hk hf=>c.iq k hk (g.CE k (dV hk c.bJ.size) hf),g.bM.trans c.bM,fun E2 h2 hle hk=>c.z E2 h2 (Env.le_trans g.ext hle) fun i hi=>(hk i hi).trans (g.gT i (by rw[c.bM];exact hi))⟩
section
variable[JC]
def dG(ok:Nat->Prop)(w0:World)(F:Nat)(Z:Env->Heap->Prop)(nt:Nat)(kn:S)(kx:Nat->S)(kr:S):Exit->Act->World->Prop:=fun e a' w'=>
 ∃E' av h' aL,Vx.St [] E' av h' aL nt a' w'∧jh ok w0 F Z E' h' w'∧(match e with
  |.normal=>kn av h' aL=true
  |.exit i=>kx (Nat.mul 2 (Nat.succ i)) av h' aL=true
  |.ret=>kr av h' aL=true
  |_=>False)
theorem Br{Z:Env->Heap->Prop}{kn:S}{kx:Nat->S}{kr:S}{e:Exit}(hp:∀regs h n,kx 0 regs h n=false)(hg:∀l regs h n,kx (Nat.succ (Nat.mul 2 l)) regs h n=false)
  (c:jh ok w0 F Z E h w) (l:Vx.Leaves [] E h w nt kn kx kr e a' w'):dG ok w0 F Z nt kn kx kr e a' w':=by
 obtain⟨E',av,h',aL,st,g,hk⟩:=l;refine⟨E',av,h',aL,st,c.goes g,?_⟩;cases e with
 |normal|exit|ret=>exact hk
 |goto l=>
  have hk:kx (Nat.succ (Nat.mul 2 l)) av h' aL=true:=hk;rw[hg] at hk;cases hk
 |panic l=>
  obtain⟨_,V,v,_,_,hk⟩:=hk;rw[hp] at hk;cases hk
 |outgrown=>exact hk.elim
def zj(P:Program)(call:aO)(ext:iG)(draw:jS)(nt:Nat)(J:S->(Nat->S)->S->S)(c:Code):S->(Nat->S)->S->S:=Wv P call ext draw nt (fun _ S0=>S0) J c
theorem kG{P:Program}{draw:jS}(aQ:bj P call)(fO:om P ext)(cE:fz P draw){J:S->(Nat->S)->S->S}{Z:Env->Heap->Prop}{kr:S}:
  ∀(c:Code),(∀l∈aS c,∀(kn:S)(kx:Nat->S)(E:Env)(regs:aI)(h:Heap)(aq:Nat)(a:Act)(w:World),J kn kx kr regs h aq=true->Vx.St [] E regs h aq nt a w->jh ok w0 F Z E h w->(Code.loop l).wp P (dG ok w0 F Z nt kn kx kr) a w)->
   ∀(kn:S)(kx:Nat->S)(E:Env)(regs:aI)(h:Heap)(aq:Nat)(a:Act)(w:World),zj P call ext draw nt J c kn kx kr regs h aq=true->Vx.St [] E regs h aq nt a w->jh ok w0 F Z E h w->
    c.wp P (dG ok w0 F Z nt kn kx kr) a w:=by
 intro c;induction c with
 |skip=>exact fun _ kn kx E regs h aq a w he st cm=>wp_skip ⟨E,regs,h,aq,st,cm,he⟩
 |region id ops d=>
  intro _ kn kx E regs h aq a w he st cm;have toB:∀e a' w',Vx.Leaves [] E h w nt kn (fun _=>fj) fj e a' w'->dG ok w0 F Z nt kn kx kr e a' w':=fun e a' w' l=>by
   obtain⟨E',av,h',aL,s1,s2,hk⟩:=Br (fun _ _ _=>rfl) (fun _ _ _ _=>rfl) cm l;refine⟨E',av,h',aL,s1,s2,?_⟩;cases e with
   |normal=>exact hk
   |exit i=>cases hk
   |ret=>cases hk
   |goto l=>exact hk.elim
   |panic l=>exact hk.elim
   |outgrown=>exact hk.elim
  have he:bc d (draw ops nt fj kn regs h aq) (vJ P call ext nt ops ops.toList fj kn regs h aq)=true:=he;rcases aR he with⟨rfl,he⟩|⟨rfl,he⟩
  ·exact wp_mono (cE [] id ops nt kn (fun _=>fj) fj E regs h aq a w he st) toB
  ·have:=vK aQ fO (kx:=fun _=>fj) (kr:=fj) ops.toList 0 (by simp) he st
   rw[←List.range_eq_range',Array.length_toList] at this;exact wp_mono (wp_region this) toB
 |seq x y Qv P1=>
  intro hJ kn kx E regs h aq a w he st cm;refine wp_seq (wp_mono (Qv (fun l hl=>hJ l (List.mem_append_left _ hl)) (zj P call ext draw nt J y kn kx kr) kx E regs h aq a w he st cm) ?_)
  intro e a' w' hl;cases e with
  |normal=>
   obtain⟨E',av,h',aL,dB,KN,hk⟩:=hl;exact P1 (fun l hl=>hJ l (List.mem_append_right _ hl)) kn kx E' av h' aL a' w' hk dB KN
  |_=>exact hl
 |cond x t e At J8=>
  intro hJ kn kx E regs h aq a w he st cm;have he:iC regs x (fun v=>qt v h (fun h=>zj P call ext draw nt J t kn kx kr regs h aq) (fun h=>zj P call ext draw nt J e kn kx kr regs h aq))=true:=he;obtain⟨v,rv,he⟩:=bN he st.regs;obtain⟨b,h1,hv,fw,fk,he⟩:=rM he rv st.heap;have cm1:=cm.goes (w':=w) (E':=E) fk.goes;have j1:=JC.goes st.heap st.j fk.goes fw;refine wp_cond hv ?_;rcases he with⟨rfl,he⟩|⟨rfl,he⟩
  ·exact At (fun l hl=>hJ l (List.mem_append_left _ hl)) kn kx E regs h1 aq a w he ⟨st.regs,st.size,st.defers,fw,j1⟩ cm1
  ·exact J8 (fun l hl=>hJ l (List.mem_append_right _ hl)) kn kx E regs h1 aq a w he ⟨st.regs,st.size,st.defers,fw,j1⟩ cm1
 |block id c ih=>
  intro hJ kn kx E regs h aq a w he st cm;refine wp_block (wp_mono (ih hJ kn (blkK id kn kx) E regs h aq a w he st cm) ?_);intro e a' w' hl;cases e with
  |exit i=>
   obtain⟨E',av,h',aL,dB,KN,hk⟩:=hl;simp only[Exit.inBlock];have hk:Cc (Nat.beq (Nat.mul 2 (Nat.succ i)) (Nat.mul 2 (Nat.succ id))) kn (kx (Nat.mul 2 (Nat.succ i))) av h' aL=true:=hk;rw[wV] at hk;rcases aR hk with⟨hi,hk⟩|⟨hi,hk⟩
   ·have hi:2*(i+1)=2*(id+1):=aN hi
    rw[if_pos (by omega)];exact⟨E',av,h',aL,dB,KN,hk⟩
   ·have hi:2*(i+1)≠2*(id+1):=Nat.ne_of_beq_eq_false hi
    rw[if_neg (by omega)];exact⟨E',av,h',aL,dB,KN,hk⟩
  |goto l=>obtain⟨_,_,_,_,_,_,hk⟩:=hl;exact hk.elim
  |panic l=>obtain⟨_,_,_,_,_,_,hk⟩:=hl;exact hk.elim
  |outgrown=>obtain⟨_,_,_,_,_,_,hk⟩:=hl;exact hk.elim
  |_=>exact hl
 |loop c ih=>exact fun hJ kn kx E regs h aq a w he st cm=>hJ c (by simp[aS]) kn kx E regs h aq a w he st cm
 |exit id=>exact fun _ kn kx E regs h aq a w he st cm=>wp_exit ⟨E,regs,h,aq,st,cm,he⟩
 |ret=>exact fun _ kn kx E regs h aq a w he st cm=>wp_ret ⟨E,regs,h,aq,st,cm,he⟩
 |_=>intro _ kn kx E regs h aq a w he;cases he
def nB(P:Program)(fn:Func)(fin:AV->Heap->Bool):S:=fun regs h aq=>C0 P fn regs h fun v=>fin v h
theorem SD{P:Program}{draw:jS}(aQ:bj P call)(fO:om P ext)(cE:fz P draw){J:S->(Nat->S)->S->S}{Z:Env->Heap->Prop}{c:Code}(mP:P.funcs[g]? =some fn)(hb:fn.body=some c)
  {args:List AV} {ARGS:Array Value} {aq:Nat} {fin:AV->Heap->Bool} {Fin:Value->World->Prop} (ra:aP E args ARGS.toList) (hle:args.length<=fn.ntmps) (hr:HR E h aq w0) (hj:JC.J E h w0) (cm:jh ok w0 F Z E h w0)
  (hJ:∀l∈aS c,∀(kn:S)(kx:Nat->S)(E:Env)(regs:aI)(h:Heap)(aq:Nat)(a:Act)(w:World),J kn kx (nB P fn fin) regs h aq=true->Vx.St [] E regs h aq fn.ntmps a w->jh ok w0 F Z E h w->(Code.loop l).wp P (dG ok w0 F Z fn.ntmps kn kx (nB P fn fin)) a w)
  (hk:zj P call ext draw fn.ntmps J c (nB P fn fin) (fun _=>fj) (nB P fn fin) (gw args fc 0) h aq=true)
  (KO:∀(E:Env)(h:Heap)(n:Nat)(w:World)(v:AV)(V:Value),HR E h n w->JC.J E h w->jh ok w0 F Z E h w->Rv E v V->fin v h=true->Fin V w):
  Calls P g ARGS w0 fun e w'=>∃V,e=.returned V∧dH ok w0 w'∧Fin V w':=by
 have st:=Aw ra hle hr hj;refine calls_of_wp mP hb (wp_mono (kG aQ fO cE c hJ _ _ E _ h aq _ w0 hk st cm) ?_);intro e a' w' hl;obtain⟨E',av,h',aL,dB,KN,hk⟩:=hl;have key:nB P fn fin av h' aL=true->a'.defers=[]∧∃v,(results fn a'.tmps).run P w'=.ok v w'∧∃V,Ending.returned v=.returned V∧dH ok w0 w'∧Fin V w':=by
  intro hk;obtain⟨v,V,h1,h2,h3⟩:=Av hk dB;exact⟨dB.defers,_,h1,V,rfl,KN.bJ,KO _ _ _ _ _ _ dB.heap dB.j KN h2 h3⟩
 cases e with
 |normal=>exact key hk
 |ret=>exact key hk
 |exit i=>cases hk
 |goto l=>exact hk.elim
 |panic l=>exact hk.elim
 |outgrown=>exact hk.elim
end
def ji(p:Nat)(m:Nat):SE:=Nat.rec (motive:=fun _=>SE) (.sy p) (fun _ e=>.cD 4 e (.li .i64 1)) m
theorem fY{E:Env}{p d:Nat}(h:den E (.sy p)=some (.int .i64 d))(hd:d<=1000):∀m,m<100->den E (ji p m)=some (.int .i64 (d+m:Nat))
 |0,_=>h
 |m+1,hm=>by
  have ih:=fY h hd m (by omega);show den E (.cD 4 (ji p m) (.li .i64 1))=_;simp only[den,ih,js];rw[if_pos (by omega)];rfl
def HZ(p i m:Nat)(le:Bool)(c:Nat):SE:=bif le then .cmp .leq (jv (ji p m) i) (.li .u8 (.ofNat c)) else .cmp .eql (jv (ji p m) i) (.li .u8 (.ofNat c))
def px(p m:Nat):SE:=.cmp .lss (ji p m) (.sy 2)
def jr(p:Nat)(fs:aB)(k:ct->Bool)(T:Tr):Bool:=Tr.rec (motive:=fun _=>Bool)
 (fun i m le c _ _ t f=>bc (bc (Nat.ble m 99) (bc (Nat.beq (cr fs (px p m)) 1) (WX i) false) false) (pick (cr fs (HZ p i m le c)) t f) false)
 (fun m i _ _ t f=>false)
 (fun m i _ _ t f=>false)
 (fun q md m _ t=>bc (Nat.ble m 99) (pick (cr fs (px p m)) (pick (cr fs (HZ p 0 m false 1)) t (k (.ans m))) (k (.wait q md))) false)
 (k .done) (fun er l x=>k (.fail er l x)) (fun d=>k (.go d)) T
def upL(d:Nat):ct->ct
 |.ans m=>.ans (d+m)
 |l=>l
section
variable{E0 E:Env}{w0:World}{ba cap:Nat}{R:List An}(X:Ctx E0 w0 ba cap R)
include X
theorem kH(hle:E0.le E)(hp:den E (ji p m)=some (.int .i64 (d+m:Nat))):den E (px p m)=some (.bool (decide (d+m<R.length))):=by
 have dN:den E (.sy 2)=some (.int .i64 R.length):=an hle _ _ X.many;have d2:den E (px p m)=(bu .lss (.int .i64 (d+m:Nat)) (.int .i64 R.length)).map Value.bool:=by
  show(match den E (ji p m),den E (.sy 2) with|some X,some Y=>(bu .lss X Y).map Value.bool|_,_=>none)=_;rw[dN,hp]
 rw[d2];show some (Value.bool (decide (((d+m:Nat):Int)<(R.length:Int))))=_;rw[show decide (((d+m:Nat):Int)<(R.length:Int))=decide (d+m<R.length) from decide_eq_decide.2 Int.ofNat_lt]
theorem zk(hle:E0.le E)(hp:den E (ji p m)=some (.int .i64 (d+m:Nat))){a:An}(hi:WX i=true)(ha:R[d+m]? =some a)(le:Bool)(c:Nat):den E (HZ p i m le c)=some (.bool (gG le (a.u8 i) c)):=by
 obtain⟨n,hn⟩:=Sz (o:=a.o) hi;have BX:=(bR.1 hn).1;have d:den E (jv (ji p m) i)=some (.int .u8 n):=eI (an hle _ _ X.rows) hp ha (by rw[iA BX];exact hn) (gO a.o _ (gq hn));have e1:a.u8 i=n:=by unfold An.u8;rw[hn]
 rw[e1];cases le
 ·exact(bx (k:=.u8) (c:=(c:Int)) d)
 ·exact(az (k:=.u8) (c:=(c:Int)) d)
theorem jj(hle:E0.le E){p d:Nat}(hp:∀m,m<100->den E (ji p m)=some (.int .i64 (d+m:Nat))){fs:aB}(hf:Holds E fs){k:ct->Bool}:∀{T:Tr},jr p fs k T=true->∃lf,k lf=true∧ev R (later d T)=upL d lf
 |.ite i m le c t f,he=>by
  have he:bc (bc (Nat.ble m 99) (bc (Nat.beq (cr fs (px p m)) 1) (WX i) false) false) (pick (cr fs (HZ p i m le c)) (jr p fs k t) (jr p fs k f)) false=true:=he;obtain⟨h1,h2⟩:=aa he;obtain⟨h0,h1⟩:=aa h1;obtain⟨h1,h3⟩:=aa h1;have Hi:=hp m (by have:=aU h0;omega);have hm:d+m<R.length:=gD ((aX hf (kH X hle Hi)).1 (aN h1));have hR:=cN hm;have da:=zk X hle Hi h3 hR le c;have e:ev R (later d (.ite i m le c t f))=bif gG le (R[d+m].u8 i) c then ev R (later d t) else ev R (later d f):=by
   show(match R[d+m]? with|some a=>bif gG le (a.u8 i) c then ev R (later d t) else ev R (later d f)|none=>ct.bad)=_;rw[hR]
  rw[e];rcases iu h2 with⟨h4,h5⟩|⟨h4,h5⟩
  ·rw[(aX hf da).1 h4]
   exact jj hle hp hf h5
  ·rw[(aX hf da).2 h4]
   exact jj hle hp hf h5
 |.more m i t f,he=>by cases he
 |.sym m i t f,he=>by cases he
 |.ask q md m t,he=>by
  have he:bc (Nat.ble m 99) (pick (cr fs (px p m)) (pick (cr fs (HZ p 0 m false 1)) (jr p fs k t) (k (.ans m))) (k (.wait q md))) false=true:=he;obtain⟨h0,he⟩:=aa he;have Hi:=hp m (by have:=aU h0;omega);have e:ev R (later d (.ask q md m t))=(match R[d+m]? with|some a=>bif decide (a.o.k=1) then ev R (later d t) else .ans (d+m)|none=>ct.wait q md):=rfl;rw[e];rcases iu he with⟨h4,h5⟩|⟨h4,h5⟩
  ·have hm:d+m<R.length:=gD ((aX hf (kH X hle Hi)).1 h4)
   have hR:=cN hm;have da:=zk X hle Hi (i:=0) rfl hR false 1;have ea:gG false ((R[d+m]).u8 0) 1=decide ((R[d+m]).o.k=1):=rfl;rw[ea] at da;rw[hR];dsimp only;rcases iu h5 with⟨h6,h7⟩|⟨h6,h7⟩
   ·rw[(aX hf da).1 h6]
    exact jj hle hp hf h7
   ·rw[(aX hf da).2 h6]
    exact⟨.ans m,h7,rfl⟩
  ·have hm:¬d+m<R.length:=of_decide_eq_false ((aX hf (kH X hle Hi)).2 h4)
   rw[List.getElem?_eq_none (by omega)];exact⟨.wait q md,h5,rfl⟩
 |.done,he=>⟨.done,he,rfl⟩
 |.fail er l x,he=>⟨.fail er l x,he,rfl⟩
 |.go x,he=>⟨.go x,he,rfl⟩
end
def dQ(p F:Nat)(v:AV)(h:Heap):ct->Bool
 |.ans m=>bc (Nat.ble m 99) (qC v fun l=>Dq l (au h) fun e id S=>bc (eE e (ji p m)) (match T.get .gone h id with
  |.glob g _ _=>bc (bc (Nat.beq g (Nat.add 3000001 (Nat.mul 10 S))) (bc (Nat.ble id 2999999) (Nat.ble S 99998) false) false) (bc (Nat.ble (Nat.succ F) id) (sE F h) false) false
  |_=>false) false) false
 |.wait q md=>dZ F v h (.wait q md)
 |.done=>dZ F v h .done
 |.fail er l x=>dZ F v h (.fail er l x)
 |.go _=>false
 |.bad=>false
theorem eY{E0:Env}{w1:World}{ba cap:Nat}(X:Ctx E0 w0 ba cap R)(hle:E0.le E')(cO:HR E' h' n' w'){Z:Env->Heap->Prop}(gs:jh (· =bp) w1 F Z E' h' w')
  (eF:E' F=some ⟨bp,0,0⟩) (hp:∀m,m<100->den E' (ji p m)=some (.int .i64 (d+m:Nat))) {v:AV} (rv:Rv E' v V) {lf:ct} (he:dQ p F v h' lf=true):cU R w1.heap.size bp V w' (upL d lf):=by
 have ag:∀{k:List AV->Bool},qC v k=true->∃l vs,v=.ag l∧V=.agg vs∧aP E' l vs.toList∧k l=true:=fun {k} hk=>by
  unfold qC at hk;split at hk<;>try (cases hk;done)
  rename_i l;rw[Rv] at rv;obtain⟨vs,rfl,rl⟩:=rv;exact⟨l,_,rfl,rfl,by simpa using rl,hk⟩
 cases lf with
 |wait q md=>
  obtain⟨l,vs,rfl,rfl,rl,hk⟩:=ag he;obtain⟨h1,h2⟩:=aa hk;rw[bb h1] at rl;refine⟨by rw[show zO.cells bO=vs.toList from(tq rl).symm],?_⟩;unfold plW at h2;split at h2<;>try (cases h2;done)
  rename_i c hc;obtain⟨b2,h2⟩:=aa h2;obtain⟨b3,b4⟩:=aa h2;have fG:=cO.obj F;rw[hc] at fG;obtain⟨L,arr,el,eL,hb,cC,dr,dz⟩:=fG;rw[eF] at eL;cases eL
  have fo:=dr.2.1 _ rfl;subst fo;have BY:=qc b2 (dz 2 (by decide));have xh:=qc b3 (dz 3 (by decide));rw[Nat.zero_add] at BY xh;refine⟨arr,hb,by have:0+89<=arr.size:=cC;omega,BY,xh,fun j hj=>?_⟩;have oV:=dz (j+2) (by omega);rw[Nat.zero_add] at oV;have dh:leaf (c.get (j+2))=true:=cM b4 _ (bU.2 ⟨j,List.mem_range.2 hj,rfl⟩);exact bY dh oV
 |done=>
  obtain⟨l,vs,rfl,rfl,rl,hk⟩:=ag he;obtain⟨h1,h2⟩:=aa hk;obtain⟨h2,h3⟩:=aa h2;obtain⟨o,ok,ho⟩:=Bo (lQ h1 rl);have a0:=qc h2 (rl.nth 0);have a23:=E6 h3 (rl.nth 23);refine⟨o,ok,?_,?_⟩
  ·rw[ho] at a0
   have a0:Value.int .u8 o.k=.int .u8 1:=a0;injection a0
  ·rw[a23] at ho
   rw[←ho]
 |fail er l x=>
  obtain⟨m,vs,rfl,rfl,rl,hk⟩:=ag he;rw[bb hk] at rl;show Value.agg vs=_;rw[←pw rl]
 |ans m=>
  obtain⟨hm99,he⟩:=aa he;obtain⟨l,vs,rfl,rfl,rl,hk⟩:=ag he;obtain⟨e,id,S,m',a,hx,hR,de,qY,rk,_,hS⟩:=sv X hle hk (aD cO) rl (fun e h=>wc rl e h);obtain⟨h1,hy⟩:=aa hx;clear hx;have:=cq h1;subst this;obtain rfl:d+m=m':=by
   rw[hp m (by have:=aU hm99;omega)] at de;injection de with de;injection de with _ de;omega
  split at hy<;>try (cases hy;done)
  rename_i g c t hg;obtain⟨h2,h3⟩:=aa hy;obtain⟨b1,b2⟩:=aa h2;obtain⟨b2,b3⟩:=aa b2;obtain⟨b4,b5⟩:=aa h3;have b1:g=3000001+10*S:=aN b1;have b2:=aU b2;have b3:=aU b3;have b4:F+1<=id:=aU b4;obtain rfl:g=3000000+10*S+1:=by omega
  have dU:=cO.obj id;rw[hg] at dU;obtain⟨yS,_⟩:=lB dU (by omega) b3 hS rk;have ll:∀L:aZ,E' id=some L->w1.heap.size<=L.aH:=fun L eL=>by
   rcases gC L.aH w1.heap.size with cL|ll
   ·exfalso
    have bD:(T.get .gone h' id).live=true:=by rw[hg];rfl
    have:=gs.iq L.aH cL ⟨id,L,by rw[gs.bM];omega,bD,eL,rfl⟩;unfold sE at b5;split at b5<;>try (cases b5;done)
    rename_i cc hc;have:=cO.inj id F L ⟨bp,0,0⟩ bD (by rw[hc];rfl) eL eF this;omega
   ·exact ll
  refine⟨a,_,hR,by rw[←qY],yS,fun b hb=>?_,?_,?_⟩
  ·obtain⟨L,eL,rfl⟩:=uU dU (by omega) b3 rk hb
   exact ll L eL
  ·obtain⟨L,arr,el,fr,eL,_,hb,_⟩:=dU
   exact⟨L.aH,arr,el,fr,ll L eL,hb⟩
  ·unfold sE at b5
   split at b5<;>try (cases b5;done)
   rename_i cc hc;have fG:=cO.obj F;rw[hc] at fG;obtain⟨L,arr,el,eL,hb,_⟩:=fG;rw[eF] at eL;cases eL;exact⟨arr,el,hb⟩
 |go x=>cases he
 |bad=>cases he
inductive Rg where
 |lit (b:Bool)
 |bc|bo|bv|keys|len|idx
structure Lp where
 rg:List (Nat×Rg)
 b1:Nat
 b2:Nat
 rt:Nat
 ue:Nat
 ks:Nat
 am:Nat
 T1:Tr
 T2:Tr
def I6(id S:Nat):AV:=.sz id (.fn 20 (.sy S))
def xk(S:Nat):AV:=.x (.i .i64) (.fn 20 (.sy S))
def Rg.pV(L:Lp):Rg->AV
 |.lit b=>.b b
 |.bc=>.p L.b1 0
 |.bo=>.p L.rt 0
 |.bv=>.p L.b2 0
 |.keys=>I6 L.ue L.ks
 |.len=>xk L.ks
 |.idx=>.i .i64 0
def Rg.BY:Rg->AV
 |.lit b=>.b b
 |.bc=>.p 21 0
 |.bo=>.p 31 0
 |.bv=>.p 22 0
 |.keys=>I6 26 27
 |.len=>xk 27
 |.idx=>.x (.i .i64) (.sy 23)
def Rg.xh:Rg->AV
 |.idx=>.x (.i .i64) (.cD 4 (.sy 23) (.li .i64 1))
 |r=>r.BY
def Lp.rs1(L:Lp):List (Nat×AV):=L.rg.map fun p=>(p.1,p.2.pV L)
def Lp.rs(L:Lp):List (Nat×AV):=L.rg.map fun p=>(p.1,p.2.BY)
def Lp.rs2(L:Lp):List (Nat×AV):=L.rg.map fun p=>(p.1,p.2.xh)
def lS(m:Nat):AO:=.cells 2 ⟨0,some 102,true⟩ (fu [.p 30 0,gA m] ⟨2,fZ⟩ 0)
def O9:AO:=.cells 4 ⟨0,some 31,true⟩ (fu (vS 9) ⟨4,fZ⟩ 0)
def mw:AO:=.glob 6602302 2 (gw [.x .s (.cD 200 (.sy 27) (.sy 23)),.x (.i .i64) (.cD 201 (.sy 27) (.sy 23))] fc 0)
def E8:AO:=.cells 89 BZ (fu ([pq,.x (.i .i64) (.sy 25)]++di 87) ⟨89,fZ⟩ 0)
def E9:AO:=.cells 26 ⟨0,some 36,true⟩ (fu jL ⟨26,fZ⟩ 0)
def hRd(m:Nat)(el:AO):Heap:=jq ([.gone,.gone,.gone,.gone,.gone,ij m]++(List.range 14).map (fun _=>AO.gone)++[lS m,O9,.gone,el,.gone,.gone,.gone,.gone,.gone,E8,E9]) 30
def Wk:aB:=[(.cmp .leq (.sy 25) (.li .i64 62),true),(.cmp .leq (.sy 25) (.li .i64 (-1)),false),(.cmp .leq (.sy 23) (.li .i64 1024),true),(.cmp .leq (.sy 23) (.li .i64 (-1)),false),(.cmp .leq (.fn 20 (.sy 27)) (.li .i64 1024),true)]
def Dr:SE:=.cmp .leq (.fn 20 (.sy 27)) (.sy 23)
def fA:aB:=[(.cmp .lss (.sy 23) (.fn 20 (.sy 27)),true),(Dr,false)]
def fB:aB:=[(Dr,true)]
def iP(h:Heap)(k:AV->Bool):Bool:=match T.get .gone h 30 with
 |.cells 89 ⟨0,some 124,true⟩ c=>bc (HS (c.get 0)) (bc (k (c.get 1)) (cj ((List.range 87).map fun j=>c.get (Nat.add j 2))) false) false
 |_=>false
def dA(i n t:Nat)(l:List AV)(h:Heap):Bool:=match T.get .gone h i with
 |.cells n' ⟨0,some t',true⟩ c=>bc (Nat.beq n n') (bc (Nat.beq t t') (cH ((List.range n).map fun j=>c.get j) l) false) false
 |_=>false
def isGo(n:Nat)(lf:ct):Bool:=match lf with
 |.go m=>Nat.beq n m
 |_=>false
def oJ(i S:Nat)(h:Heap):Bool:=match T.get .gone h i with
 |.glob g _ _=>Nat.beq g (Nat.add 3000001 (Nat.mul 10 S))
 |_=>false
def KP(L:Lp)(m:Nat)(regs:aI)(h:Heap):Bool:=
 bc (fi L.rs1 regs) (bc (dA L.b1 2 102 [.p 30 0,gA m] h) (bc (dA L.b2 4 31 (vS 9) h) (bc (bc (dA L.rt 26 36 jL h) (oJ L.ue L.ks h) false) (bc (iP h fun v=>cY v (.i .i64 (Int.ofNat (Nat.succ L.am))))
  (bc (Nat.beq (cr (au h) (.cmp .eql (.sy L.ks) (.cD 226 (.sy 1) (zi L.am)))) 1) (bc (Nat.beq (cr (au h) (sw L.am)) 1) (qb (au h) (isGo 0) L.T1) false) false) false) false) false) false) false
def Fa(L:Lp)(h:Heap):Bool:=
 bc (match T.get .gone h 21 with
  |.gone=>true
  |_=>false) (bc (bc (Nat.ble 31 L.b1) (bc (Nat.ble 31 L.b2) (bc (Nat.ble 31 L.rt) (Nat.ble 31 L.ue) false) false) false) (bc (bc (Nat.ble L.ue 2999999) (Nat.ble L.ks 99998) false)
   (bc (bc (Nat.beq L.b1 L.b2) true (bc (Nat.beq L.b1 L.rt) true (bc (Nat.beq L.b2 L.rt) true (bc (Nat.beq L.ue L.b1) true (bc (Nat.beq L.ue L.b2) true (Nat.beq L.ue L.rt)))))) false true) false) false) false
def Bs(L:Lp)(regs:aI)(h:Heap):Bool:=
 bc (bc (fi L.rs2 regs) (dA 31 26 36 jL h) false) (bc (Nat.beq (cr (au h) (px 25 0)) 1) (jr 25 (au h) (fun lf=>match lf with
  |.go n=>bc (Nat.ble n 20) (iP h fun v=>cY v (.x (.i .i64) (ji 25 n))) false
  |_=>false) L.T2) false) false
def SG(L:Lp)(v:AV)(h:Heap):Bool:=qC v fun _=>match T.get .gone h 21 with
 |.gone=>qb (au h) (dZ 30 v h) L.T1
 |_=>pick (cr (au h) Dr) (dQ 25 30 v h .done) (jr 25 (au h) (dQ 25 30 v h) L.T2)
def qD:jS:=fD P XT c2
def Fb(L:Lp)(fn:Func)(cl:Code)(m:Nat)(q:List (Nat×Nat×Bool))(el:AO)(fs:aB)(kn:S)(kx:Nat->S)(kr:S):Bool:=
 bQ (fs++(Wk++(fF m++(kF q++f2)))) (hRd m el) fun h=>zj P c2 XT qD fn.ntmps (fun _ _ _=>fj) cl kn kx kr (gd L.rs) h 32
def J1(L:Lp)(fn:Func)(cl:Code)(m:Nat)(q:List (Nat×Nat×Bool)):S->(Nat->S)->S->S:=fun kn kx kr regs h aq=>
 bc (bc (Fa L h) (KP L m regs h) false) (bc (Fb L fn cl m q mw fA (fun regs h _=>Bs L regs h) (fun _=>fj) kr) (Fb L fn cl m q .gone fB fj kx kr) false) false
def lpT(L:Lp)(fn:Func)(args:List AV)(m:Nat)(q:List (Nat×Nat×Bool)):Bool:=match fn.body with
 |some c=>(match aS c with
  |[cl]=>bc (Nat.ble (List.length args) fn.ntmps) (bQ (fF m++(kF q++f2)) (hS (ij m)) fun h=>zj P c2 XT qD fn.ntmps (J1 L fn cl m q) c (nB P fn (SG L)) (fun _=>fj) (nB P fn (SG L)) (gw args fc 0) h 31) false
  |_=>false)
 |none=>false
def zm(f:Bool):Lp where
 rg:=[(1,.lit f),(2,.bc),(4,.bo),(5,.bv),(41,.keys),(42,.len),(43,.idx)]
 b1:=31
 b2:=35
 rt:=32
 ue:=53
 ks:=52
 am:=1
 T1:=.ask 1 3 0 (.ite 5 0 false 1 .done (.ask 1 11 1 (.go 0)))
 T2:=.ask 1 5 0 (.ite 6 0 false 1 (.ite 22 0 false 1 .done (bif f then .ite 20 0 false 1 .done (.go 1) else .go 1)) (.go 1))
def cQ(w:World)(b t:Nat)(ib:List Value):Prop:=∃arr:Array Value,w.heap[b]? =some (.cells arr t (0,0))∧ib.length<=arr.size∧∀j,j<ib.length->arr.getD j undef=ib.getD j undef
theorem cQ.ro{l:List AV}(h:cQ w b t ib)(hE:E id=some ⟨b,0,0⟩)(hl:aP E l ib)(hn:l.length=n):RO E w id (.cells n ⟨0,some t,true⟩ (fu l ⟨n,fZ⟩ 0)):=by
 obtain⟨arr,hb,hs,hc⟩:=h;have hv:=hl.length;refine⟨⟨b,0,0⟩,arr,t,hE,hb,by show 0+n<=_;omega,nV.gJ _ _ _ _ _,fun j hj=>?_⟩;have:=ef n l ib hl j (by omega);show Rv E _ (arr.getD (0+j) undef);rw[Nat.zero_add,hc j (by omega)];exact this
theorem cQ.same(h:cQ w b t ib)(e:w'.heap[b]? =w.heap[b]?):cQ w' b t ib:=by
 obtain⟨arr,hb,h2⟩:=h;exact⟨arr,by rw[e];exact hb,h2⟩
def aT(bp:Nat)(K:Value):aZ:=match K with
 |.slice (some ⟨b,off,none⟩) _ c=>⟨b,off,c+1⟩
 |_=>⟨bp,0,0⟩
def sB(R:List An)(A:Value)(ba cap ab bp n c:Nat)(l:List V4):List aZ:=
 [aw (.int .i64 (aG (jU R))),aw (.int .i64 R.length),(match A with|.slice none _ _=>⟨ba,0,0⟩|_=>⟨ba,0,cap+1⟩),⟨bp,0,0⟩,⟨bp,0,0⟩,⟨ab,0,0⟩,aw (.int .i64 n),aw (.int .i64 c)]++
 ((l.getD 0 z4).cells++(l.getD 1 z4).cells++(l.getD 2 z4).cells).map aw
def sR(R:List An)(A:Value)(ba cap ab bp n c:Nat)(l:List V4)(b1 b2 b4:Nat)(K:Value)(ks:List Ky)(i d:Nat):List aZ:=sB R A ba cap ab bp n c l++
 [⟨b1,0,0⟩,⟨b2,0,0⟩,aw (.int .i64 i),⟨(aT bp K).aH,(aT bp K).base+i*2,0⟩,aw (.int .i64 d),aT bp K,aw (.int .i64 (aG (aA ks))),⟨bp,0,0⟩,⟨bp,0,0⟩,⟨bp,0,0⟩,⟨b4,0,0⟩]
def Rg.val(b1 b2 b4:Nat)(K:Value)(n i:Nat):Rg->Value
 |.lit b=>.bool b
 |.bc=>.pointer (some ⟨b1,0,none⟩)
 |.bo=>.pointer (some ⟨b4,0,none⟩)
 |.bv=>.pointer (some ⟨b2,0,none⟩)
 |.keys=>K
 |.len=>.int .i64 n
 |.idx=>.int .i64 i
structure yr(w0:World)(bp:Nat)(A S:Value)(v0:V4)(L:Lp)(nt b1 b2 b4:Nat)(K:Value)(ks:List Ky)(i d:Nat)(a:Act)(w:World):Prop where
 regs:∀p∈L.rg,a.tmps.getD p.1 undef=p.2.val b1 b2 b4 K ks.length i
 size:a.tmps.size=nt
 defers:a.defers=[]
 bJ:qS bp w0 w
 lq:cQ w b1 102 [.pointer (some ⟨bp,0,none⟩),S]
 nD:cQ w b2 31 v0.cells
 sG:cQ w b4 36 (zO.cells bO)
 keys:fE w K ks
 mj:ks.length<=1024
 mS:qT ks
 pl:∃want,dE w bp A (.int .i64 d) want
 qe:w0.heap.size<=b1
 re:w0.heap.size<=b2
 oW:w0.heap.size<=b4
 qf:∀b,cn K b->w0.heap.size<=b
 xl:b1≠b2
 nS:b1≠b4
 qV:b2≠b4
 Qa:∀b,cn K b->b≠b1∧b≠b2∧b≠b4
 il:i<=ks.length
 dl:d<=62
section
variable{w0:World}{bp ba cap ab:Nat}{R:List An}{A S:Value}{l:List V4}(s:St w0 bp ba cap ab R A S l)
include s
theorem Fc(n c b1 b2 b4:Nat)(K:Value)(ks:List Ky)(i d:Nat):(ae (sB R A ba cap ab bp n c l)).le (ae (sR R A ba cap ab bp n c l b1 b2 b4 K ks i d)):=by
 intro x L h;cases x with
 |zero=>cases h
 |succ x=>
  show(sR R A ba cap ab bp n c l b1 b2 b4 K ks i d)[x]? =some L;have h:(sB R A ba cap ab bp n c l)[x]? =some L:=h;unfold sR;rw[iA (bR.1 h).1];exact h
theorem oK(n c:Nat):(ae (sB R A ba cap ab bp n c l)).le (ae (sC R A ba cap ab bp n c l)):=by
 intro x L h;cases x with
 |zero=>cases h
 |succ x=>
  show(sC R A ba cap ab bp n c l)[x]? =some L;have h:(sB R A ba cap ab bp n c l)[x]? =some L:=h;have e:sC R A ba cap ab bp n c l=sB R A ba cap ab bp n c l++((List.range 9).map (fun _=>⟨bp,0,0⟩)++[⟨bp,0,0⟩]):=by unfold sC sB;simp;rfl
  rw[e,iA (bR.1 h).1];exact h
theorem St.yU(n c:Nat):Ctx (ae (sB R A ba cap ab bp n c l)) w0 ba cap R:=by
 refine⟨s.ans,s.len,s.fits,aj (i:=0) rfl (ax _ _),aj (i:=1) rfl (ax _ _),?_,s.mh⟩;rcases s.row with rfl|⟨h,rfl⟩
 ·exact .inl rfl
 ·exact .inr ⟨h,ba,rfl⟩
theorem St.Fe(n c:Nat):Rv (ae (sB R A ba cap ab bp n c l)) Ob.pq A:=by
 unfold Ob.pq;rw[Rv];have d:den (ae (sB R A ba cap ab bp n c l)) (.sy 2)=some (.int .i64 R.length):=aj (i:=1) rfl (ax _ _);have hl:=s.len;rcases s.row with rfl|⟨rfl,rfl⟩
 ·exact⟨⟨ba,0,cap+1⟩,R.length,rfl,d,by omega,fun h=>absurd (show cap+1=0 from h) (by omega),by show _=(if cap+1=0 then _ else _);rw[if_neg (by omega)];rfl⟩
 ·exact⟨⟨ba,0,0⟩,0,rfl,d,by omega,fun _=>rfl,rfl⟩
end
theorem xm{K:Value}{S:Nat}(hk:fE w K ks)(hl:ks.length<=1024)(e:E id=some (aT bp K))(d:den E (.sy S)=some (.int .i64 (aG (aA ks)))):Rv E (I6 id S) K:=by
 unfold I6;rw[Rv];have dl:=bC d;have kz:(aA ks).length=ks.length:=by unfold aA;rw[gp]
 rw[kz] at dl;rcases hk with⟨rfl,rfl⟩|⟨b,off,cap,arr,el,fr,rfl,h2,h3,h4⟩
 ·exact⟨⟨bp,0,0⟩,0,e,dl,by omega,fun _=>rfl,rfl⟩
 ·exact⟨⟨b,off,cap+1⟩,ks.length,e,dl,by omega,fun h=>absurd (show cap+1=0 from h) (by omega),by show _=(if cap+1=0 then _ else _);rw[if_neg (by omega)];rfl⟩
theorem iQ{S I:Nat}{k:Ky}(dS:den E (.sy S)=some (.int .i64 (aG (aA ks))))(dI:den E (.sy I)=some (.int .i64 i))(hk:ks[i]? =some k)(hc:([Value.string k.1,Value.int .i64 k.2])[c]? =some V)(ok:jk V):
  den E (.cD (200+c) (.sy S) (.sy I))=some V:=by
 have Aa:c<2:=(bR.1 hc).1;have e1:den E (.cD (200+c) (.sy S) (.sy I))=js (200+c) (.int .i64 (aG (aA ks))) (.int .i64 i):=by
  show(match den E (.sy S),den E (.sy I) with|some X,some Y=>js (200+c) X Y|_,_=>none)=_;rw[dS,dI]
 rw[e1,HP (by omega) (by omega),show 200+c-200=c by omega];unfold va;rw[Int.toNat_natCast,Int.toNat_natCast,u',ns hk];show((HL k)[c]?).map ru=some V;have e2:(HL k)[c]? =some (yN V):=by
  match c,Aa,hc with
  |0,_,hc=>cases hc;rfl
  |1,_,hc=>cases hc;rfl
 rw[e2];show some (ru (yN V))=some V;rw[gz ok]
section
variable{w0:World}{bp ba cap ab:Nat}{R:List An}{A S:Value}{l:List V4}(s:St w0 bp ba cap ab R A S l)
include s
theorem W0{L:Lp}{K:Value}(hd:yr w0 bp A S (l.getD 0 z4) L nt b1 b2 b4 K ks i d a w)(fo:(el=mw∧i<ks.length)∨el=.gone)
  (nQ:RO (ae (sB R A ba cap ab bp n c l)) w0 6 (ij m)) (iR:ij m=.gone∨(ij m).live=true) (jg:Rv (ae (sB R A ba cap ab bp n c l)) (gA m) S):
  HR (ae (sR R A ba cap ab bp n c l b1 b2 b4 K ks i d)) (hRd m el) 32 w:=by
 have low:=Fc s n c b1 b2 b4 K ks i d;have W1:ae (sR R A ba cap ab bp n c l b1 b2 b4 K ks i d) 21=some ⟨b1,0,0⟩:=rfl;have e22:ae (sR R A ba cap ab bp n c l b1 b2 b4 K ks i d) 22=some ⟨b2,0,0⟩:=rfl;have e24:ae (sR R A ba cap ab bp n c l b1 b2 b4 K ks i d) 24=some ⟨(aT bp K).aH,(aT bp K).base+i*2,0⟩:=rfl;have xj:ae (sR R A ba cap ab bp n c l b1 b2 b4 K ks i d) 26=some (aT bp K):=rfl;have jX:ae (sR R A ba cap ab bp n c l b1 b2 b4 K ks i d) 30=some ⟨bp,0,0⟩:=rfl;have Vo:ae (sR R A ba cap ab bp n c l b1 b2 b4 K ks i d) 31=some ⟨b4,0,0⟩:=rfl;have e6:ae (sB R A ba cap ab bp n c l) 6=some ⟨ab,0,0⟩:=rfl;have d23:den (ae (sR R A ba cap ab bp n c l b1 b2 b4 K ks i d)) (.sy 23)=some (.int .i64 i):=aj (i:=22) rfl (ax _ _);have d25:den (ae (sR R A ba cap ab bp n c l b1 b2 b4 K ks i d)) (.sy 25)=some (.int .i64 d):=aj (i:=24) rfl (ax _ _);have d27:den (ae (sR R A ba cap ab bp n c l b1 b2 b4 K ks i d)) (.sy 27)=some (.int .i64 (aG (aA ks))):=aj (i:=26) rfl (ax _ _);have wh:=s.Bq;have zh:bp<w.heap.size:=dV wh hd.bJ.size;have yR:ab<w.heap.size:=dV s.abs hd.bJ.size;have ux:ba<w.heap.size:=dV s.wJ hd.bJ.size;have vg:∀{b t ib},cQ w b t ib->b<w.heap.size:=fun h=>by obtain⟨_,h,_⟩:=h;exact(cW.1 h).1
 have hk:=hd.keys;have kin:(aT bp K).aH<w.heap.size:=by
  rcases hk with⟨rfl,_⟩|⟨b,off,cp,arr,e,fr,rfl,h2,_⟩
  ·exact zh
  ·exact(cW.1 h2).1
 obtain⟨want,bn,yP,Ck,wY,yQ,Bj,_⟩:=hd.pl;have nv:aP (ae (sR R A ba cap ab bp n c l b1 b2 b4 K ks i d)) ([Ob.pq,.x (.i .i64) (.sy 25)]++di 87) (A::.int .i64 d::(List.range 87).map fun j=>bn.getD (j+2) undef):=
  ad ((s.Fe n c).mono low) (ad (by rw[Rv];have:=hd.dl;exact⟨d25,_,rfl,by show(-9223372036854775808:Int)<=d;omega,by show(d:Int)<=9223372036854775807;omega⟩) (fX 87 _ (by rw[gp,ot]) fun V hV=>by
   obtain⟨j,hj,rfl⟩:=bU.1 hV;exact Bj j (List.mem_range.1 hj)))
 have Cr:(l.getD 0 z4).ok:=by
  rw[cB];cases hj:l[0]? with
  |none=>exact ow
  |some v=>exact s.P7 v (gq hj)
 have rel:RO (ae (sR R A ba cap ab bp n c l b1 b2 b4 K ks i d)) w 24 el:=by
  rcases fo with⟨rfl,hi⟩|rfl
  ·rcases hk with⟨_,rfl⟩|⟨b,off,cp,arr,e,fr,rfl,h2,h3,h4⟩
   ·cases hi
   ·have Ce:ks[i]? =some ks[i]:=cN hi
    obtain⟨c1,c2⟩:=h4 i _ Ce;obtain⟨o1,o2,o3⟩:=hd.mS _ (List.getElem_mem hi);refine⟨⟨b,off+i*2,0⟩,arr,e,fr,e24,fun h=>absurd h (by decide),h2,by show off+i*2+2<=_;omega,fun j hj=>?_,⟨fun h=>absurd h.2.1 (by decide),fun h=>absurd h.2.1 (by decide),fun _=>⟨⟨b,off,cp+1⟩,i,xj,d23,rfl,rfl⟩⟩⟩;refine jf (g:=fun j=>arr.getD (off+i*2+j) undef) _ _ _ (fun q x hx=>?_) (fun q=>by rw[nw];simp[Rv]) j
    have q2:q<2:=(bR.1 hx).1;match q,q2,hx with
    |0,_,hx=>
     cases hx
     have:=iQ (c:=0) d27 d23 Ce rfl (eV _);show Rv _ _ (arr.getD (off+i*2+(0+0)) undef);rw[show off+i*2+(0+0)=off+2*i by omega,c1,Rv];exact⟨this,_,rfl,o1⟩
    |1,_,hx=>
     cases hx
     have:=iQ (c:=1) d27 d23 Ce rfl (ax _ _);show Rv _ _ (arr.getD (off+i*2+(0+1)) undef);rw[show off+i*2+(0+1)=off+(2*i+1) by omega,c2,Rv];exact⟨this,_,rfl,o2,o3⟩
  ·trivial
 have rao:RO (ae (sR R A ba cap ab bp n c l b1 b2 b4 K ks i d)) w 6 (ij m):=by
  refine RO.wide low (RO.same (fun M hM=>?_) nQ)
  rw[e6] at hM;cases hM;exact hd.bJ.same _ s.abs s.KM
 have z26:(zO.cells bO).length=26:=rfl;have rz:aP (ae (sR R A ba cap ab bp n c l b1 b2 b4 K ks i d)) jL (zO.cells bO):=by
  have z:aP (ae (sR R A ba cap ab bp n c l b1 b2 b4 K ks i d)) zV z4.cells:=ad (by rw[Rv]<;>rfl) (ad (by rw[Rv]<;>rfl) (ad (by rw[Rv]<;>rfl) (ad (by rw[Rv]<;>rfl) aF)))
  exact aY (aY (aY (aY (aY (ad (by rw[Rv]<;>rfl) z) (ad (by rw[Rv]<;>rfl) (ad (by rw[Rv]<;>rfl) (ad (by rw[Rv]<;>rfl) aF)))) z) z) z)
   (ad (by rw[Rv]<;>rfl) (ad (by rw[Rv]<;>rfl) (ad (by rw[Rv]<;>rfl) (ad (by rw[Rv]<;>rfl) (ad (by rw[Rv]<;>rfl) (ad (by rw[Rv]<;>rfl) aF))))))
 refine cX (C:=sR R A ba cap ab bp n c l b1 b2 b4 K ks i d) rfl (show 30<=32 from by decide)
  (.append (.append (l:=[AO.gone,.gone,.gone,.gone,.gone,ij m]) ⟨trivial,trivial,trivial,trivial,trivial,rao,trivial⟩ (.dead _ _ fun a ha=>by obtain⟨_,_,rfl⟩:=bU.1 ha;rfl)) ⟨?_,?_,trivial,rel,trivial,trivial,trivial,trivial,trivial,?_,?_,trivial⟩) (fun L hL=>?_) ?_
 ·exact hd.lq.ro W1 (ad (by rw[Rv];exact⟨⟨bp,0,0⟩,jX,rfl⟩) (ad (jg.mono low) aF)) rfl
 ·refine hd.nD.ro e22 (iM Cr fun i V hi=>?_) rfl
  have yG:i<4:=(bR.1 hi).1;match i,yG,hi with
  |0,_,hi=>cases hi;exact aj (i:=8) rfl (ax _ _)
  |1,_,hi=>cases hi;exact aj (i:=9) rfl (lN _)
  |2,_,hi=>cases hi;exact aj (i:=10) rfl (eV _)
  |3,_,hi=>cases hi;exact aj (i:=11) rfl (ax _ _)
 ·refine⟨⟨bp,0,0⟩,bn,124,jX,yP,by show 0+89<=_;omega,nV.gJ _ _ _ _ _,fun j hj=>?_⟩
  have:=ef 89 _ _ nv j hj;rw[show(0:Nat)+j=j by omega];have e:(A::Value.int .i64 d::(List.range 87).map fun j=>bn.getD (j+2) undef).getD j undef=bn.getD j undef:=by
   match j,hj with
   |0,_=>exact wY.symm
   |1,_=>exact yQ.symm
   |j+2,hj=>exact eQ bn 87 j (by omega)
  rw[←e];exact this
 ·exact hd.sG.ro Vo rz rfl
 ·have s0:∀V,(aw V).aH<w.heap.size:=fun V=>by rw[bH];omega
  unfold sR sB at hL;simp only[List.mem_append,bU] at hL;rcases hL with(hL|⟨_,_,rfl⟩)|hL
  ·simp only[mcQ,mnQ,or_false] at hL
   rcases hL with rfl|rfl|rfl|rfl|rfl|rfl|rfl|rfl<;>first|exact s0 _|assumption|(split<;>exact ux)
  ·exact s0 _
  ·simp only[mcQ,mnQ,or_false] at hL
   rcases hL with rfl|rfl|rfl|rfl|rfl|rfl|rfl|rfl|rfl|rfl|rfl<;>first|exact s0 _|assumption|exact vg hd.lq|exact vg hd.nD|exact vg hd.sG
 ·have n1:ab≠b1:=by have:=hd.qe;have:=s.abs;omega
  have n2:ab≠b2:=by have:=hd.re;have:=s.abs;omega
  have n4:ab≠b4:=by have:=hd.oW;have:=s.abs;omega
  have p1:b1≠bp:=by have:=hd.qe;omega
  have p2:b2≠bp:=by have:=hd.re;omega
  have p4:bp≠b4:=by have:=hd.oW;omega
  have cR:=s.KM;have h12:=hd.xl;have W2:=hd.nS;have h24:=hd.qV;have kb:i<ks.length->(aT bp K).aH≠ab∧(aT bp K).aH≠bp∧(aT bp K).aH≠b1∧(aT bp K).aH≠b2∧(aT bp K).aH≠b4:=fun hi=>by
   rcases hk with⟨_,rfl⟩|⟨b,off,cp,arr,e,fr,rfl,h2,h3,h4⟩
   ·cases hi
   ·have hb:cn (.slice (some ⟨b,off,none⟩) ks.length cp) b:=⟨off,ks.length,cp,rfl⟩
    have h1:=hd.qf b hb;have h2:=hd.Qa b hb;have:=s.abs;exact⟨by show b≠_;omega,by show b≠_;omega,h2.1,h2.2.1,h2.2.2⟩
  rcases fo with⟨rfl,hi⟩|rfl<;>rcases iR with hg|hg
  ·show(jT ([AO.gone,.gone,.gone,.gone,.gone,ij m]++_) _).Nodup
   rw[hg];show[b1,b2,(aT bp K).aH,bp,b4].Nodup;have:=kb hi;simp;grind
  ·show(if (ij m).live then ab::[b1,b2,(aT bp K).aH,bp,b4] else[b1,b2,(aT bp K).aH,bp,b4]).Nodup
   rw[if_pos hg];have:=kb hi;simp;grind
  ·show(jT ([AO.gone,.gone,.gone,.gone,.gone,ij m]++_) _).Nodup
   rw[hg];show[b1,b2,bp,b4].Nodup;simp;grind
  ·show(if (ij m).live then ab::[b1,b2,bp,b4] else[b1,b2,bp,b4]).Nodup
   rw[if_pos hg];simp;grind
end
theorem py{E:Env}{arr:Array Value}:∀(n o:Nat)(f:Nat->AV),(∀j,j<n->Rv E (f (o+j)) (arr.getD (o+j) undef))->aP E ((List.range' o n).map f) ((List.range' o n).map fun j=>arr.getD j undef)
 |0,_,_,_=>aF
 |n+1,o,f,h=>by
  rw[List.range'_succ,List.map_cons,List.map_cons];exact ad (by have:=h 0 (by omega);rw[Nat.add_zero] at this;exact this) (py n (o+1) f fun j hj=>by have:=h (j+1) (by omega);rw[show o+(j+1)=o+1+j by omega] at this;exact this)
theorem iS{l:List AV}(hr:HR E' h nx w)(hle:E.le E')(he:dA i n t l h=true)(hE:E' i=some ⟨b,0,0⟩)(hex:F0 l=true)(rl:aP E l ib):cQ w b t ib:=by
 unfold dA at he;split at he<;>try (cases he;done)
 rename_i n' t' c hc;obtain⟨h1,he⟩:=aa he;obtain⟨h2,h3⟩:=aa he;have h1:=aN h1;have h2:=aN h2;subst h1 h2;have dU:=hr.obj i;rw[hc] at dU;obtain⟨L,arr,el,eL,hb,cC,dr,dz⟩:=dU;rw[hE] at eL;cases eL;have fo:=dr.2.1 _ rfl;subst fo;have r2:=py n 0 (fun j=>c.get j) (arr:=arr) (E:=E') fun j hj=>by rw[Nat.zero_add];have:=dz j hj;rw[Nat.zero_add] at this;exact this
 rw[←List.range_eq_range',bb h3] at r2;have e:=aP.exact hle _ _ _ hex rl r2;refine⟨arr,hb,?_,fun j hj=>?_⟩
 ·rw[←e,gp,ot];have:0+n<=arr.size:=cC;omega
 ·have hn:j<n:=by rw[←e,gp,ot] at hj;exact hj
  rw[←e,cB,fL,List.getElem?_range hn];rfl
theorem ik{A:Value}{k:AV->Bool}(hr:HR E' h nx w)(hle:E.le E')(he:iP h k=true)(hE:E' 30=some ⟨bp,0,0⟩)(rA:Rv E pq A):∃v V,k v=true∧Rv E' v V∧∃want,dE w bp A V want:=by
 unfold iP at he;split at he<;>try (cases he;done)
 rename_i c hc;obtain⟨b1,he⟩:=aa he;obtain⟨b2,b3⟩:=aa he;have dU:=hr.obj 30;rw[hc] at dU;obtain⟨L,arr,el,eL,hb,cC,dr,dz⟩:=dU;rw[hE] at eL;cases eL;have fo:=dr.2.1 _ rfl;subst fo;have u6:=dz 0 (by decide);have pV:=dz 1 (by decide);have e0:c.get 0=pq:=by
  unfold HS at b1;split at b1
  ·rename_i q;exact q
  ·cases b1
 rw[e0] at u6;have e1:=Rv.exact hle _ _ _ (by rfl) rA u6;refine⟨_,_,b2,pV,fun j=>arr.getD (j+2) undef,arr,hb,by have:0+89<=arr.size:=cC;omega,by rw[←e1,Nat.zero_add],by rw[Nat.zero_add],fun j hj=>?_,fun j hj=>rfl⟩;have oV:=dz (j+2) (by omega);rw[Nat.zero_add] at oV;have dh:leaf (c.get (j+2))=true:=cM b3 _ (bU.2 ⟨j,List.mem_range.2 hj,rfl⟩);exact bY dh oV
theorem eZ:aP E jL (zO.cells bO):=by
 have z:aP E zV z4.cells:=ad (by rw[Rv]<;>rfl) (ad (by rw[Rv]<;>rfl) (ad (by rw[Rv]<;>rfl) (ad (by rw[Rv]<;>rfl) aF)))
 exact aY (aY (aY (aY (aY (ad (by rw[Rv]<;>rfl) z) (ad (by rw[Rv]<;>rfl) (ad (by rw[Rv]<;>rfl) (ad (by rw[Rv]<;>rfl) aF)))) z) z) z)
  (ad (by rw[Rv]<;>rfl) (ad (by rw[Rv]<;>rfl) (ad (by rw[Rv]<;>rfl) (ad (by rw[Rv]<;>rfl) (ad (by rw[Rv]<;>rfl) (ad (by rw[Rv]<;>rfl) aF))))))
section
variable{w0:World}{bp ba cap ab:Nat}{R:List An}{A S:Value}{l:List V4}(s:St w0 bp ba cap ab R A S l)
include s
theorem SH[JC]{L:Lp}{K:Value}(hd:yr w0 bp A S (l.getD 0 z4) L nt b1 b2 b4 K ks i d a w)(hi:i<ks.length){av:aI}{Z:Env->Heap->Prop}
  (st:Vx.St [] E' av h' n' nt a' w') (ci:jh (fun k=>k=bp∨k=b4) w 30 Z E' h' w') (hle:(ae (sR R A ba cap ab bp n c l b1 b2 b4 K ks i d)).le E') (hk:Bs L av h'=true):
  ∃q,yr w0 bp A S (l.getD 0 z4) L nt b1 b2 b4 K ks (i+1) (d+q) a' w'∧ev R (later d L.T2)=.go q:=by
 have low:=Fc s n c b1 b2 b4 K ks i d;have X:=s.yU n c;have xj:ae (sR R A ba cap ab bp n c l b1 b2 b4 K ks i d) 26=some (aT bp K):=rfl;have d23:den (ae (sR R A ba cap ab bp n c l b1 b2 b4 K ks i d)) (.sy 23)=some (.int .i64 i):=aj (i:=22) rfl (ax _ _);have d25:den (ae (sR R A ba cap ab bp n c l b1 b2 b4 K ks i d)) (.sy 25)=some (.int .i64 d):=aj (i:=24) rfl (ax _ _);have d27:den (ae (sR R A ba cap ab bp n c l b1 b2 b4 K ks i d)) (.sy 27)=some (.int .i64 (aG (aA ks))):=aj (i:=26) rfl (ax _ _);have hd62:=hd.dl;have kz:=hd.mj;have hp:∀m,m<100->den E' (ji 25 m)=some (.int .i64 (d+m:Nat)):=fY (an hle _ _ d25) (by omega);unfold Bs at hk;obtain⟨k1,k2⟩:=aa hk;obtain⟨k1,k4⟩:=aa k1;obtain⟨k2,k3⟩:=aa k2;have hf:=aD st.heap;have cL:d+0<R.length:=gD ((aX hf (kH X (Env.le_trans low hle) (hp 0 (by decide)))).1 (aN k2));obtain⟨lf,dh,rj⟩:=jj X (Env.le_trans low hle) hp hf k3;split at dh
 case h_2=>cases dh
 rename_i q;obtain⟨hq,dh⟩:=aa dh;have hq:=aU hq;obtain⟨v,V,hv,rv,want,Cu⟩:=ik st.heap hle dh (hle 30 _ rfl) ((s.Fe n c).mono low);have hV:V=.int .i64 (d+q:Nat):=by
  rw[bV hv,Rv,hp q (by omega)] at rv;have:=rv.1;injection this with this;exact this.symm
 subst hV;have vg:∀{b t ib},cQ w b t ib->b<w.heap.size:=fun h=>by obtain⟨_,h,_⟩:=h;exact(cW.1 h).1
 have wh:=s.Bq;have qe:=hd.qe;have re:=hd.re;have oW:=hd.oW;have hR:=s.len;refine⟨q,⟨fun p Hi=>?_,st.size,st.defers,?_,?_,?_,?_,?_,hd.mj,hd.mS,⟨want,Cu⟩,hd.qe,hd.re,hd.oW,hd.qf,hd.xl,hd.nS,hd.qV,hd.Qa,hi,by omega⟩,rj⟩
 ·have r:=st.regs p.1
  rw[cK k1 p.1 p.2.xh (bU.2 ⟨p,Hi,rfl⟩)] at r;have dl:den (ae (sR R A ba cap ab bp n c l b1 b2 b4 K ks i d)) (.fn 20 (.sy 27))=some (.int .i64 ks.length):=by
   rw[bC d27];unfold aA;rw[gp]
  have hex:pZ p.2.xh=true:=by cases p.2<;>rfl
  have r0:Rv (ae (sR R A ba cap ab bp n c l b1 b2 b4 K ks i d)) p.2.xh (p.2.val b1 b2 b4 K ks.length (i+1)):=by
   cases p.2 with
   |lit b=>show Rv _ (.b b) (.bool b);rw[Rv]
   |bc=>show Rv _ (.p 21 0) _;rw[Rv];exact⟨⟨b1,0,0⟩,rfl,rfl⟩
   |bo=>show Rv _ (.p 31 0) _;rw[Rv];exact⟨⟨b4,0,0⟩,rfl,rfl⟩
   |bv=>show Rv _ (.p 22 0) _;rw[Rv];exact⟨⟨b2,0,0⟩,rfl,rfl⟩
   |keys=>exact xm hd.keys hd.mj xj d27
   |len=>show Rv _ (xk 27) (.int .i64 ks.length);unfold xk;rw[Rv];exact⟨dl,_,rfl,by show(-9223372036854775808:Int)<=(ks.length:Int);omega,by show(ks.length:Int)<=9223372036854775807;omega⟩
   |idx=>
    show Rv _ (.x (.i .i64) (.cD 4 (.sy 23) (.li .i64 1))) (.int .i64 (i+1:Nat));have:den (ae (sR R A ba cap ab bp n c l b1 b2 b4 K ks i d)) (.cD 4 (.sy 23) (.li .i64 1))=some (.int .i64 (i+1:Nat)):=by
     simp only[den] at d23;simp only[den,d23,js];rw[if_pos (by omega)];rfl
    rw[Rv];exact⟨this,_,rfl,by show(-9223372036854775808:Int)<=((i+1:Nat):Int);omega,by show((i+1:Nat):Int)<=9223372036854775807;omega⟩
  exact Rv.exact hle _ _ _ hex r0 r
 ·exact⟨Nat.le_trans hd.bJ.size ci.bJ.size,fun k hk cR=>(ci.bJ.same k (dV hk hd.bJ.size) (by intro h;rcases h with h|h<;>omega)).trans (hd.bJ.same k hk cR),ci.bJ.os.trans hd.bJ.os,ci.bJ.output.trans hd.bJ.output,ci.bJ.tape.trans hd.bJ.tape⟩
 ·exact hd.lq.same (ci.bJ.same _ (vg hd.lq) (by have:=hd.nS;intro h;rcases h with h|h<;>omega))
 ·exact hd.nD.same (ci.bJ.same _ (vg hd.nD) (by have:=hd.qV;intro h;rcases h with h|h<;>omega))
 ·exact iS st.heap hle k4 (hle 31 _ rfl) (by rfl) eZ
 ·refine hd.keys.same fun b hb=>ci.bJ.same b ?_ ?_
  ·rcases hd.keys with⟨rfl,_⟩|⟨b',off,cp,arr,e,fr,rfl,h2,_⟩
   ·obtain⟨_,_,_,e⟩:=hb;cases e
   ·obtain⟨_,_,_,e⟩:=hb
    cases e
    exact(cW.1 h2).1
  ·have h1:=hd.qf b hb
   have h2:=hd.Qa b hb;intro h;rcases h with h|h
   ·omega
   ·exact h2.2.2 h
end
theorem W3(m:Nat)(el:AO):T.get .gone (hRd m el) 21=lS m:=by kernel_rfl
theorem SI{b:AO}(h:([AO.gone,.gone,.gone,.gone,.gone,ij m]++(List.range 14).map (fun _=>AO.gone)++[lS m,O9,.gone,el,.gone,.gone,.gone,.gone,.gone,E8,E9])[j]? =some b)(hl:b.live=true):
  j=5∨j=20∨j=21∨(j=23∧el.live=true)∨j=29∨j=30:=by
 have hj:j<31:=(bR.1 h).1;by_cases h5:j=5
 ·exact .inl h5
 by_cases h20:j=20
 ·exact .inr (.inl h20)
 by_cases h21:j=21
 ·exact .inr (.inr (.inl h21))
 by_cases WJ:j=23
 ·subst WJ;cases h;exact .inr (.inr (.inr (.inl ⟨rfl,hl⟩)))
 by_cases SC:j=29
 ·exact .inr (.inr (.inr (.inr (.inl SC))))
 by_cases h30:j=30
 ·exact .inr (.inr (.inr (.inr (.inr h30))))
 exfalso;have hi:j∈[0,1,2,3,4,6,7,8,9,10,11,12,13,14,15,16,17,18,19,22,24,25,26,27,28]:=by simp;omega
 simp only[mcQ,mnQ,or_false] at hi;rcases hi with rfl|rfl|rfl|rfl|rfl|rfl|rfl|rfl|rfl|rfl|rfl|rfl|rfl|rfl|rfl|rfl|rfl|rfl|rfl|rfl|rfl|rfl|rfl|rfl|rfl<;>(cases h;cases hl)
section
variable{w0:World}{bp ba cap ab:Nat}{R:List An}{A S:Value}{l:List V4}(s:St w0 bp ba cap ab R A S l)
include s
theorem M0{L:Lp}{K:Value}(hd:yr w0 bp A S (l.getD 0 z4) L nt b1 b2 b4 K ks i d a w){fs:aB}(fo:(el=mw∧i<ks.length)∨el=.gone)
  (nQ:RO (ae (sB R A ba cap ab bp n c l)) w0 6 (ij m)) (iR:ij m=.gone∨(ij m).live=true) (jg:Rv (ae (sB R A ba cap ab bp n c l)) (gA m) S) {q:List (Nat×Nat×Bool)} (hq:Holds (ae (sB R A ba cap ab bp n c l)) (fF m++(kF q++f2)))
  (dX:Holds (ae (sR R A ba cap ab bp n c l b1 b2 b4 K ks i d)) fs) {k:Heap->Bool} (hk:bQ (fs++(Wk++(fF m++(kF q++f2)))) (hRd m el) k=true):
  ∃h1,k h1=true∧@Vx.St (KJ (ae (sB R A ba cap ab bp n c l)) w0 (cg ba R)) [] (ae (sR R A ba cap ab bp n c l b1 b2 b4 K ks i d)) (gd L.rs) h1 32 nt a w∧
   jh (fun k=>k=bp∨k=b4) w 30 (fun E h=>(ae (sR R A ba cap ab bp n c l b1 b2 b4 K ks i d)).le E∧T.get .gone h 21=lS m) (ae (sR R A ba cap ab bp n c l b1 b2 b4 K ks i d)) h1 w:=by
 have low:=Fc s n c b1 b2 b4 K ks i d;have hr:=W0 s hd fo nQ iR jg (n:=n) (c:=c);have xj:ae (sR R A ba cap ab bp n c l b1 b2 b4 K ks i d) 26=some (aT bp K):=rfl;have d23:den (ae (sR R A ba cap ab bp n c l b1 b2 b4 K ks i d)) (.sy 23)=some (.int .i64 i):=aj (i:=22) rfl (ax _ _);have d25:den (ae (sR R A ba cap ab bp n c l b1 b2 b4 K ks i d)) (.sy 25)=some (.int .i64 d):=aj (i:=24) rfl (ax _ _);have d27:den (ae (sR R A ba cap ab bp n c l b1 b2 b4 K ks i d)) (.sy 27)=some (.int .i64 (aG (aA ks))):=aj (i:=26) rfl (ax _ _);have dl:den (ae (sR R A ba cap ab bp n c l b1 b2 b4 K ks i d)) (.fn 20 (.sy 27))=some (.int .i64 ks.length):=by
  rw[bC d27];unfold aA;rw[gp]
 have kz:=hd.mj;have uy:=hd.il;have Qp:=hd.dl;have hf:Holds (ae (sR R A ba cap ab bp n c l b1 b2 b4 K ks i d)) (fs++(Wk++(fF m++(kF q++f2)))):=by
  refine aJ dX (aJ ?_ fun p hp=>an low _ _ (hq p hp))
  exact ah ((az d25).trans (by rw[eX (by omega)])) (ah ((az d25).trans (by rw[gM (by omega)])) (ah ((az d23).trans (by rw[eX (by omega)])) (ah ((az d23).trans (by rw[gM (by omega)]))
   (ah ((az dl).trans (by rw[eX (by omega)])) holds_nil))))
 obtain⟨h1,he,fw,fk⟩:=bZ hk hr hf;have cG:bM (hRd m el)=30:=bX _ _;have wh:=s.Bq;have yR:=s.abs;have qe:=hd.qe;have re:=hd.re;have oW:=hd.oW;have live:∀x M,(T.get .gone (hRd m el) x).live=true->ae (sR R A ba cap ab bp n c l b1 b2 b4 K ks i d) x=some M->(x=30∧M.aH=bp)∨(x=31∧M.aH=b4)∨(x<30∧(M.aH=ab∨w0.heap.size<=M.aH)):=fun x M hl hM=>by
  obtain⟨j,b,rfl,g1,g2⟩:=bT (a:=.gone) hl;have hM:(sR R A ba cap ab bp n c l b1 b2 b4 K ks i d)[j]? =some M:=hM;rcases SI g1 g2 with rfl|rfl|rfl|⟨rfl,g⟩|rfl|rfl
  ·cases hM;exact .inr (.inr ⟨by decide,.inl rfl⟩)
  ·cases hM;exact .inr (.inr ⟨by decide,.inr qe⟩)
  ·cases hM;exact .inr (.inr ⟨by decide,.inr re⟩)
  ·cases hM
   refine .inr (.inr ⟨by decide,.inr ?_⟩);rcases fo with⟨_,hi⟩|rfl
   ·rcases hd.keys with⟨_,rfl⟩|⟨b',off,cp,arr,e,fr,rfl,h2,_⟩
    ·cases hi
    ·exact hd.qf b' ⟨off,ks.length,cp,rfl⟩
   ·cases g
  ·cases hM;exact .inl ⟨rfl,rfl⟩
  ·cases hM;exact .inr (.inl ⟨rfl,rfl⟩)
 refine⟨h1,he,@Vx.St.mk (KJ (ae (sB R A ba cap ab bp n c l)) w0 (cg ba R)) _ _ _ _ _ _ _ _ (fun t=>?_) hd.size hd.defers fw ?_,⟨dH.refl _ _,fun k hk Cn=>?_,fk.bM.trans cG,fun E' h' hle oN=>⟨hle,?_⟩⟩⟩
 ·rcases iK L.rs t with g|⟨v,hv,g⟩
  ·rw[g];simp[Rv]
  ·rw[g]
   obtain⟨p,hp,e⟩:=bU.1 hv;cases e
   rw[hd.regs p hp];cases p.2 with
   |lit b=>show Rv _ (.b b) (.bool b);rw[Rv]
   |bc=>show Rv _ (.p 21 0) _;rw[Rv];exact⟨⟨b1,0,0⟩,rfl,rfl⟩
   |bo=>show Rv _ (.p 31 0) _;rw[Rv];exact⟨⟨b4,0,0⟩,rfl,rfl⟩
   |bv=>show Rv _ (.p 22 0) _;rw[Rv];exact⟨⟨b2,0,0⟩,rfl,rfl⟩
   |keys=>exact xm hd.keys hd.mj xj d27
   |len=>show Rv _ (xk 27) (.int .i64 ks.length);unfold xk;rw[Rv];exact⟨dl,_,rfl,by show(-9223372036854775808:Int)<=(ks.length:Int);omega,by show(ks.length:Int)<=9223372036854775807;omega⟩
   |idx=>show Rv _ (.x (.i .i64) (.sy 23)) (.int .i64 i);rw[Rv];exact⟨d23,_,rfl,by show(-9223372036854775808:Int)<=(i:Int);omega,by show(i:Int)<=9223372036854775807;omega⟩
 ·refine bL.fk (h:=hRd m el) ⟨low,hd.bJ.size,fun k hk=>?_⟩ fk
  have qR:k<w0.heap.size∧k≠bp∧k≠ab:=by
   rcases hk with rfl|⟨x,hx,hb⟩|rfl
   ·exact⟨s.wJ,s.O8,s.WZ⟩
   rotate_left
   ·exact⟨s.mh.lt,s.SB,s.P8⟩
   ·refine⟨?_,s.kb x hx k hb⟩
    obtain⟨j,hj⟩:=List.getElem?_of_mem hx;obtain⟨off,n',c',hK⟩:=hb;rcases(s.ans j x hj).keys with⟨g1,_⟩|⟨b,tX,bz,arr,el,fr,g1,g2,_⟩
    ·rw[hK] at g1;cases g1
    ·rw[hK] at g1;cases g1
     exact(cW.1 g2).1
  refine⟨hd.bJ.same k qR.1 qR.2.1,qR.1,fun x M hl hM e=>?_⟩;rcases live x M hl hM with⟨_,g⟩|⟨_,g⟩|⟨_,g|g⟩<;>omega
 ·obtain⟨x,M,a1,a2,a3,rfl⟩:=Cn
  rw[fk.bM,cG] at a1;rw[fk.live] at a2;rcases live x M a2 a3 with⟨_,g⟩|⟨_,g⟩|⟨g,_⟩
  ·exact .inl g
  ·exact .inr g
  ·omega
 ·rw[oN 21 (by decide),fk.same 21 (.inr (.inr (.inl (by rw[cG];decide))))]
  exact W3 m el
end
def Tl(am:Nat)(T2:Tr):Nat->Nat->Nat->Tr
 |0,_,_=>.done
 |n+1,i,d=>.more am i (dM (fun q=>Tl am T2 n (i+1) (d+q)) (later d T2)) .done
theorem tA{am:Nat}{t f:Tr}{x:An}(h:R[am]? =some x):ev R (.more am i t f)=bif decide (i<x.ks.length) then ev R t else ev R f:=by
 show(match R[am]? with|some a=>bif decide (i<a.ks.length) then ev R t else ev R f|none=>ct.bad)=_;rw[h]
def W4(R:List An)(L:Lp)(T0:Tr)(ks:List Ky)(i d:Nat):Prop:=ev R T0=ev R (Tl L.am L.T2 (1025-i) i d)∧∃x,R[L.am]? =some x∧x.ks=ks
theorem W4.at{L:Lp}(h:W4 R L T0 ks i d)(hi:i<ks.length)(hk:ks.length<=1024):ev R T0=match ev R (later d L.T2) with
  |.go q=>ev R (Tl L.am L.T2 (1025-(i+1)) (i+1) (d+q))
  |lf=>lf:=by
 obtain⟨h1,x,hx,rfl⟩:=h;rw[h1,show 1025-i=(1025-(i+1))+1 by omega];show ev R (.more L.am i (dM (fun q=>Tl L.am L.T2 (1025-(i+1)) (i+1) (d+q)) (later d L.T2)) .done)=_;rw[tA hx,eX hi,cond_true,eJ];cases ev R (later d L.T2)<;>rfl
theorem W4.end_{L:Lp}(h:W4 R L T0 ks i d)(hi:ks.length<=i)(hk:i<=1024):ev R T0=.done:=by
 obtain⟨h1,x,hx,rfl⟩:=h;rw[h1,show 1025-i=(1025-(i+1))+1 by omega];show ev R (.more L.am i (dM (fun q=>Tl L.am L.T2 (1025-(i+1)) (i+1) (d+q)) (later d L.T2)) .done)=_;rw[tA hx,gM (by omega),cond_false];rfl
section
variable{w0:World}{bp ba cap ab:Nat}{R:List An}{A S:Value}{l:List V4}(s:St w0 bp ba cap ab R A S l)
def Zl(R:List An)(A:Value)(ba cap ab bp n c:Nat)(l:List V4)(L:Lp)(T0:Tr)(m:Nat)(E:Env)(h:Heap):Prop:=
 ((ae (sC R A ba cap ab bp n c l)).le E∧T.get .gone h 21=.gone)∨
 ∃b1 b2 b4 K ks i d,(ae (sR R A ba cap ab bp n c l b1 b2 b4 K ks i d)).le E∧T.get .gone h 21=lS m∧W4 R L T0 ks i d∧i<=ks.length∧ks.length<=1024∧d<=62
include s
theorem inConv{L:Lp}{K:Value}(hd:yr w0 bp A S (l.getD 0 z4) L nt b1 b2 b4 K ks i d a w)(hR:W4 R L T0 ks i d)
  (ci:jh (fun k=>k=bp∨k=b4) w 30 (fun E h=>(ae (sR R A ba cap ab bp n c l b1 b2 b4 K ks i d)).le E∧T.get .gone h 21=lS m) E' h' w'):jh (· =bp) w0 30 (Zl R A ba cap ab bp n c l L T0 m) E' h' w':=by
 have oW:=hd.oW;refine⟨⟨Nat.le_trans hd.bJ.size ci.bJ.size,fun k hk cR=>(ci.bJ.same k (dV hk hd.bJ.size) (by intro h;rcases h with h|h;exact cR h;omega)).trans (hd.bJ.same k hk cR),ci.bJ.os.trans hd.bJ.os,ci.bJ.output.trans hd.bJ.output,ci.bJ.tape.trans hd.bJ.tape⟩,fun k hk hf=>?_,ci.bM,fun E2 h2 hle oN=>?_⟩
 ·rcases ci.iq k (dV hk hd.bJ.size) hf with h|h
  ·exact h
  ·omega
 ·obtain⟨z1,z2⟩:=ci.z E2 h2 hle oN
  exact .inr ⟨b1,b2,b4,K,ks,i,d,z1,z2,hR,hd.il,hd.mj,hd.dl⟩
theorem SJ{L:Lp}{cl:Code}{K:Value}{q:List (Nat×Nat×Bool)}{kn kr:Vx.S}{kx:Nat->Vx.S}(hn:aS cl=[])
  (nQ:RO (ae (sB R A ba cap ab bp n c l)) w0 6 (ij m)) (iR:ij m=.gone∨(ij m).live=true) (jg:Rv (ae (sB R A ba cap ab bp n c l)) (gA m) S) (hq:Holds (ae (sB R A ba cap ab bp n c l)) (fF m++(kF q++f2)))
  (hA:Fb L fn cl m q mw fA (fun regs h _=>Bs L regs h) (fun _=>fj) kr=true) (hB:Fb L fn cl m q .gone fB fj kx kr=true):
  ∀(N i d:Nat)(a:Act)(w:World),ks.length-i=N->yr w0 bp A S (l.getD 0 z4) L fn.ntmps b1 b2 b4 K ks i d a w->W4 R L T0 ks i d->
   Code.rounds P cl (@dG (KJ (ae (sB R A ba cap ab bp n c l)) w0 (cg ba R)) (· =bp) w0 30 (Zl R A ba cap ab bp n c l L T0 m) fn.ntmps kn kx kr) (N+1) a w:=by
 letI J:JC:=KJ (ae (sB R A ba cap ab bp n c l)) w0 (cg ba R)
 have X:=s.yU n c;have aQ:bj P c2:=yq X;have cE:fz P qD:=ep mixed dv c2 aQ;have d27:∀(i d:Nat),den (ae (sR R A ba cap ab bp n c l b1 b2 b4 K ks i d)) (.fn 20 (.sy 27))=some (.int .i64 ks.length):=fun i d=>by
  rw[bC (aj (i:=26) rfl (ax _ _))];unfold aA;rw[gp]
 have d23:∀(i d:Nat),den (ae (sR R A ba cap ab bp n c l b1 b2 b4 K ks i d)) (.sy 23)=some (.int .i64 i):=fun i d=>aj (i:=22) rfl (ax _ _)
 have Ff:∀(i d:Nat),den (ae (sR R A ba cap ab bp n c l b1 b2 b4 K ks i d)) Dr=some (.bool (decide (ks.length<=i))):=fun i d=>by
  have d2:den (ae (sR R A ba cap ab bp n c l b1 b2 b4 K ks i d)) Dr=(bu .leq (.int .i64 ks.length) (.int .i64 i)).map Value.bool:=by
   show(match den _ (.fn 20 (.sy 27)),den _ (.sy 23) with|some X,some Y=>(bu .leq X Y).map Value.bool|_,_=>none)=_;rw[d27,d23]
  rw[d2];show some (Value.bool (decide ((ks.length:Int)<=(i:Int))))=_;rw[show decide ((ks.length:Int)<=(i:Int))=decide (ks.length<=i) from decide_eq_decide.2 Int.ofNat_le]
 have ltD:∀(i d:Nat),den (ae (sR R A ba cap ab bp n c l b1 b2 b4 K ks i d)) (.cmp .lss (.sy 23) (.fn 20 (.sy 27)))=some (.bool (decide (i<ks.length))):=fun i d=>by
  have d2:den (ae (sR R A ba cap ab bp n c l b1 b2 b4 K ks i d)) (.cmp .lss (.sy 23) (.fn 20 (.sy 27)))=(bu .lss (.int .i64 i) (.int .i64 ks.length)).map Value.bool:=by
   show(match den _ (.sy 23),den _ (.fn 20 (.sy 27)) with|some X,some Y=>(bu .lss X Y).map Value.bool|_,_=>none)=_;rw[d27,d23]
  rw[d2];show some (Value.bool (decide ((i:Int)<(ks.length:Int))))=_;rw[show decide ((i:Int)<(ks.length:Int))=decide (i<ks.length) from decide_eq_decide.2 Int.ofNat_lt]
 have out:∀{i d:Nat}{a:Act}{w:World}{Kn:Vx.S}{e:Exit}{a':Act}{w':World},yr w0 bp A S (l.getD 0 z4) L fn.ntmps b1 b2 b4 K ks i d a w->W4 R L T0 ks i d->∀{KX:Nat->Vx.S},(∀x regs h n,KX x regs h n=true->kx x regs h n=true)->e≠.normal->
   dG (fun k=>k=bp∨k=b4) w 30 (fun E h=>(ae (sR R A ba cap ab bp n c l b1 b2 b4 K ks i d)).le E∧T.get .gone h 21=lS m) fn.ntmps Kn KX kr e a' w'->dG (· =bp) w0 30 (Zl R A ba cap ab bp n c l L T0 m) fn.ntmps kn kx kr e a' w':=by
  intro i d a w Kn e a' w' hd hR KX O' cR hl;obtain⟨E',av,h',n',dB,ci,hk⟩:=hl;refine⟨E',av,h',n',dB,inConv s hd hR ci,?_⟩;cases e with
  |normal=>exact absurd rfl cR
  |exit x=>exact O' _ _ _ _ hk
  |ret=>exact hk
  |goto l=>exact hk.elim
  |panic l=>exact hk.elim
  |outgrown=>exact hk.elim
 intro N;induction N with
 |zero=>
  intro i d a w hN hd hR;have uy:=hd.il;have hi:ks.length<=i:=by omega
  obtain⟨h1,he,st,ci⟩:=M0 s hd (el:=.gone) (fs:=fB) (.inr rfl) nQ iR jg hq (ah ((Ff i d).trans (by rw[eX hi])) holds_nil) hB;rw[rounds_succ];refine wp_mono (kG aQ dv cE cl (fun l hl=>by rw[hn] at hl;cases hl) fj kx _ _ h1 32 a w he st ci) ?_
  intro e a' w' hl;cases e with
  |normal=>obtain⟨_,_,_,_,_,_,hk⟩:=hl;cases hk
  |_=>exact out hd hR (fun _ _ _ _ h=>h) (by intro h;cases h) hl
 |succ N ih=>
  intro i d a w hN hd hR;have hi:i<ks.length:=by omega
  obtain⟨h1,he,st,ci⟩:=M0 s hd (el:=mw) (fs:=fA) (.inl ⟨rfl,hi⟩) nQ iR jg hq (ah ((ltD i d).trans (by rw[eX hi])) (ah ((Ff i d).trans (by rw[gM (by omega)])) holds_nil)) hA;rw[rounds_succ];refine wp_mono (kG aQ dv cE cl (fun l hl=>by rw[hn] at hl;cases hl) (fun regs h _=>Bs L regs h) (fun _=>fj) _ _ h1 32 a w he st ci) ?_
  intro e a' w' hl;cases e with
  |normal=>
   obtain⟨E',av,h',n',dB,qE,hk⟩:=hl;obtain⟨q',qw,rj⟩:=SH s hd hi dB qE (qE.z E' h' (Env.le_refl _) fun _ _=>rfl).1 hk;refine ih (i+1) (d+q') a' w' (by omega) qw ⟨?_,hR.2⟩;rw[hR.at hi hd.mj,rj]
  |_=>exact out hd hR (KX:=fun _=>fj) (fun _ _ _ _ h=>by cases h) (by intro h;cases h) hl
end
end
end Go.Proofs.YtngagklmbbogiaaGreatDoor.Ob
