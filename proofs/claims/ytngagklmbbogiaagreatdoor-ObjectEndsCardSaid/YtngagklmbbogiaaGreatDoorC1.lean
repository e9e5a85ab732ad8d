/- Parts of one proof (Ob31c to Ob41). No condition. -/
import Derived.Test.YtngagklmbbogiaaGreatDoorB6
import Derived.Test.YtngagklmbbogiaaGreatDoorB7
import Derived.Test.YtngagklmbbogiaaGreatDoorB4
set_option linter.all false
namespace Go.Proofs.YtngagklmbbogiaaGreatDoor.Ob
open Go Go.RowKit Vx
set_option maxRecDepth 100000
noncomputable section
variable{ARGS:Array Value}{f:Bool}{E E0:Env}{g g':FuncId}{R:List An}{ba bp cap id m n:Nat}{ok:Nat->Nat->Bool}{A:Value}{w w0:World}{L:aZ}{lf:ct}
theorem dWx:([0,1,2,3,4,5,6,7,9,10,12,13].all dW)=true:=by kernel_rfl
theorem dWy:([14,15,16,17,19,20].all dW)=true:=by kernel_rfl
theorem dAll(fs:aB)(h:fs∈iw 25 6 TD):mT c3 211 [.p 30 0,.ag (vS 9)] fs TD=true:=by
 obtain⟨i,hi,rfl⟩:=List.getElem_of_mem h;have hn:(iw 25 6 TD).length=23:=aN waysN;have e:(iw 25 6 TD)[i]=(iw 25 6 TD).getD i []:=by rw[cB,cN hi];rfl
 rw[e];show dW i=true;have hx:=Aad.1 dWx;have hy:=Aad.1 dWy;rw[hn] at hi;by_cases h1:i∈[0,1,2,3,4,5,6,7,9,10,12,13]
 ·exact hx i h1
 by_cases h2:i∈[14,15,16,17,19,20]
 ·exact hy i h2
 have:i=8∨i=11∨i=18∨i=21∨i=22:=by
  simp only[mcQ,mnQ,or_false,not_or] at h1 h2;omega
 rcases this with rfl|rfl|rfl|rfl|rfl
 ·exact dW8
 ·exact dW11
 ·exact dW18
 ·exact dW21
 ·exact dW22
theorem runD{d:Nat}(s:Zw w bp ba cap R A d){v:V4}(hv:v.ok):
  Calls P 211 #[.pointer (some ⟨bp,0,none⟩),.agg v.cells.toArray] w fun e w'=>∃V,e=.returned V∧qS bp w w'∧PlB w' bp∧Junk w.heap.size w'∧Tg R w.heap.size bp A d V w' (ev R (later d TD)):=by
 have hr:aP (ae (sM R A ba cap bp [v] d)) (vS 9) v.cells:=iM hv fun i V hi=>by
  have ok:=Bp v V (gq hi);have yG:i<4:=(bR.1 hi).1;rw[show 9+i=(8+i)+1 by omega];refine aj ?_ ok;match i,yG,hi with
  |0,_,hi=>cases hi;rfl
  |1,_,hi=>cases hi;rfl
  |2,_,hi=>cases hi;rfl
  |3,_,hi=>cases hi;rfl
 have d25:den (ae (sM R A ba cap bp [v] d)) (.sy 25)=some (.int .i64 d):=aj (i:=24) rfl (ax _ _);have Qp:=s.dl;obtain⟨fs,h1,h2⟩:=Ti (n:=5) (s.ctx [v]) (s.low [v]) (fY d25 (by omega)) (q:=1) (md:=7) (lV [4,5,0,1,2,3] 0 false false) (tG [4,5,0,1,2,3] 0 false false) (by decide);exact s.go [v] c3_ok (dAll fs h1) h2 (ad (by rw[Rv];exact⟨_,rfl,rfl⟩) (ad (by rw[Rv];exact⟨v.cells,rfl,hr⟩) aF))
def Pf(p:ct->Prop):Tr->Prop
 |.ite _ _ _ _ t f=>Pf p t∧Pf p f
 |.more _ _ t f=>Pf p t∧Pf p f
 |.sym _ _ t f=>Pf p t∧Pf p f
 |.ask k md _ t=>p (.wait k md)∧Pf p t
 |.done=>p .done
 |.fail er l x=>p (.fail er l x)
 |.go d=>p (.go d)
theorem qi{R:List An}{p:ct->Prop}:∀T:Tr,Pf p T->p (ev R T)∨(∃m a,ev R T=.ans m∧R[m]? =some a∧a.o.k≠1)∨ev R T=.bad
 |.ite i m le c t f,h=>by
  show p (match R[m]? with|some a=>bif gG le (a.u8 i) c then ev R t else ev R f|none=>ct.bad)∨(∃m' a',(match R[m]? with|some a=>bif gG le (a.u8 i) c then ev R t else ev R f|none=>ct.bad)=.ans m'∧R[m']? =some a'∧a'.o.k≠1)∨(match R[m]? with|some a=>bif gG le (a.u8 i) c then ev R t else ev R f|none=>ct.bad)=.bad;cases R[m]? with
  |none=>exact .inr (.inr rfl)
  |some a=>
   dsimp only;cases gG le (a.u8 i) c
   ·exact qi f h.2
   ·exact qi t h.1
 |.more m i t f,h=>by
  show p (match R[m]? with|some a=>bif decide (i<a.ks.length) then ev R t else ev R f|none=>ct.bad)∨(∃m' a',(match R[m]? with|some a=>bif decide (i<a.ks.length) then ev R t else ev R f|none=>ct.bad)=.ans m'∧R[m']? =some a'∧a'.o.k≠1)∨(match R[m]? with|some a=>bif decide (i<a.ks.length) then ev R t else ev R f|none=>ct.bad)=.bad;cases R[m]? with
  |none=>exact .inr (.inr rfl)
  |some a=>
   dsimp only;cases decide (i<a.ks.length)
   ·exact qi f h.2
   ·exact qi t h.1
 |.sym m i t f,h=>by
  show p (match R[m]? with|some a=>bif a.nN i then ev R t else ev R f|none=>ct.bad)∨(∃m' a',(match R[m]? with|some a=>bif a.nN i then ev R t else ev R f|none=>ct.bad)=.ans m'∧R[m']? =some a'∧a'.o.k≠1)∨(match R[m]? with|some a=>bif a.nN i then ev R t else ev R f|none=>ct.bad)=.bad;cases R[m]? with
  |none=>exact .inr (.inr rfl)
  |some a=>
   dsimp only;cases a.nN i
   ·exact qi f h.2
   ·exact qi t h.1
 |.ask q md m t,h=>by
  have e:ev R (.ask q md m t)=(match R[m]? with|some a=>bif decide (a.o.k=1) then ev R t else .ans m|none=>ct.wait q md):=rfl;rw[e];cases hR:R[m]? with
  |none=>exact .inl h.1
  |some a=>
   dsimp only;by_cases h1:a.o.k=1
   ·rw[eX h1];exact qi t h.2
   ·rw[gM h1];exact .inr (.inl ⟨m,a,rfl,hR,h1⟩)
 |.done,h=>.inl h
 |.fail er l x,h=>.inl h
 |.go d,h=>.inl h
theorem jV{p:ct->Prop}(n:Nat):∀T:Tr,Pf p T->Pf p (later n T)
 |.ite i m le c t f,h=>⟨jV n t h.1,jV n f h.2⟩
 |.more m i t f,h=>⟨jV n t h.1,jV n f h.2⟩
 |.sym m i t f,h=>⟨jV n t h.1,jV n f h.2⟩
 |.ask q md m t,h=>⟨h.1,jV n t h.2⟩
 |.done,h=>h
 |.fail er l x,h=>h
 |.go d,h=>h
theorem wm{R:List An}{ok:Nat->Nat->Bool}{G:Nat->Nat->Prop}:∀(T:Tr)(j:Nat),cf ok G j T->j<=R.length->ev R T≠.bad
 |.ite i m le c t f,j,h,hj=>by
  show(match R[m]? with|some a=>bif gG le (a.u8 i) c then ev R t else ev R f|none=>ct.bad)≠.bad;have:=h.1;rw[cN (show m<R.length by omega)];dsimp only;cases gG le (R[m].u8 i) c
  ·exact wm f j h.2.2 hj
  ·exact wm t j h.2.1 hj
 |.more m i t f,j,h,hj=>by
  show(match R[m]? with|some a=>bif decide (i<a.ks.length) then ev R t else ev R f|none=>ct.bad)≠.bad;have:=h.1;rw[cN (show m<R.length by omega)];dsimp only;cases decide (i<R[m].ks.length)
  ·exact wm f j h.2.2 hj
  ·exact wm t j h.2.1 hj
 |.sym m i t f,j,h,hj=>by
  show(match R[m]? with|some a=>bif a.nN i then ev R t else ev R f|none=>ct.bad)≠.bad;have:=h.1;rw[cN (show m<R.length by omega)];dsimp only;cases R[m].nN i
  ·exact wm f j h.2.2 hj
  ·exact wm t j h.2.1 hj
 |.ask q md m t,j,h,hj=>by
  show(match R[m]? with|some a=>bif decide (a.o.k=1) then ev R t else .ans m|none=>ct.wait q md)≠.bad;obtain⟨rfl,h2,h3⟩:=h;by_cases hm:m<R.length
  ·rw[cN hm]
   dsimp only;cases decide (R[m].o.k=1)
   ·intro e;cases e
   ·exact wm t (m+1) h3 hm
  ·rw[List.getElem?_eq_none (by omega)]
   intro e;cases e
 |.done,_,_,_=>by intro e;cases e
 |.fail er l x,_,_,_=>by intro e;cases e
 |.go d,_,_,_=>by intro e;cases e
def pD(lf:ct):Prop:=lf=.wait 1 7∨lf=.wait 1 8∨lf=.fail 1 4 1701869940∨∃q,q<=12∧lf=.go q
theorem tL:∀(l:List Nat)(p:Nat)(d a:Bool),p+2*l.length<=12->Pf pD (uG p d a l)
 |[],p,d,a,h=>by
  show Pf pD (bif d&&a then te else .go p);cases d&&a
  ·exact .inr (.inr (.inr ⟨p,by simpa using h,rfl⟩))
  ·exact .inr (.inr (.inl rfl))
 |i::l,p,d,a,h=>by
  have h:p+2*(l.length+1)<=12:=h;refine⟨.inl rfl,⟨.inr (.inl rfl),?_⟩,tL l (p+1) d a (by omega)⟩;cases Nat.ble 2 i&&Nat.ble i 3
  ·exact tL l (p+2) _ a (by omega)
  ·exact⟨tL l (p+2) d true (by omega),tL l (p+2) d true (by omega),tL l (p+2) d true (by omega),.inr (.inr (.inl rfl))⟩
theorem Zx(R:List An)(d:Nat):pD (ev R (later d TD))∨∃m a,ev R (later d TD)=.ans m∧R[m]? =some a∧a.o.k≠1:=by
 rcases qi (R:=R) _ (jV d TD (tL _ 0 false false (by decide))) with h|h|h
 ·exact .inl h
 ·exact .inr h
 ·exfalso
  by_cases hd:d<=R.length
  ·exact wm (later d TD) (d+0) (fI d TD 0 (lV _ 0 false false)) hd h
  ·have e:ev R (later d TD)=.wait 1 7:=by
    show(match R[d+0]? with|some a=>_|none=>ct.wait 1 7)=_;rw[List.getElem?_eq_none (by omega)]
   rw[e] at h;cases h
def Tj:ct->Nat
 |.wait _ md=>if md=7 then 0 else 1
 |.ans _=>2
 |.fail _ _ _=>3
 |.go _=>4
 |_=>5
def lcM(d:Nat):ct->Nat
 |.ans m=>m
 |.go q=>d+q
 |_=>0
def kE(d:Nat):SE:=.sy (Nat.add 21 (Nat.mul 2 d))
def mE(d:Nat):SE:=.sy (Nat.add 22 (Nat.mul 2 d))
def tV(l:List AV)(id:Nat)(h:Heap)(k:Heap->Bool):Bool:=N8 l ⟨89,fZ⟩ 0 fun c'=>T.dj (.cells 89 BZ c') h id k
def Xf:AO:=.cells 0 BZ (fu [] ⟨89,fZ⟩ 0)
def Zy(d id n:Nat)(fs:aB)(h:Heap)(k:AV->Heap->Nat->Bool):Bool:=
 o5 (.cmp .eql (kE d) (.li .i64 0)) fs
  (fun fs=>tV ([.no,.no,.i .u8 1,.i .u8 7]++di 85) id h fun h1=>bQ fs h1 fun h2=>k (.ag jL) h2 n)
  (fun fs=>o5 (.cmp .eql (kE d) (.li .i64 1)) fs
   (fun fs=>tV ([.no,.no,.i .u8 1,.i .u8 8]++di 85) id h fun h1=>bQ fs h1 fun h2=>k (.ag jL) h2 n)
   (fun fs=>o5 (.cmp .eql (kE d) (.li .i64 2)) fs
    (fun fs=>T.dj Xf h id fun h1=>aM (Nat.succ n) fun n1=>T.dj (.glob (Nat.add 3000001 (Nat.mul 10 n)) 0 fc) h1 n1 fun h2=>
     bQ ((.cmp .eql (.sy n) (.cD 226 (.sy 1) (mE d)),true)::(.cmp .leq (.fn 20 (.sy n)) (.li .i64 1024),true)::(.cmp .lss (mE d) (.sy 2),true)::(.cmp .leq (mE d) (.li .i64 (-1)),false)::(.cmp .eql (jv (mE d) 0) (.li .u8 1),false)::fs) h2 fun h3=>aM (Nat.add n 2) fun n2=>k (.ag (Co (jv (mE d)) (.sz n1 (.fn 20 (.sy n))))) h3 n2)
    (fun fs=>o5 (.cmp .eql (kE d) (.li .i64 3)) fs
     (fun fs=>T.dj Xf h id fun h1=>bQ fs h1 fun h2=>k (.ag (jw 1 4 1701869940)) h2 n)
     (fun fs=>tV ([pq,.x (.i .i64) (mE d)]++di 87) id h fun h1=>bQ ((.cmp .leq (mE d) (.li .i64 62),true)::(.cmp .leq (mE d) (.li .i64 (-1)),false)::fs) h1 fun h2=>aM (Nat.add n 25) fun n1=>k (.ag (.i .u8 1::List.drop 1 (je n .sn))) h2 n1))))
def intN(v:AV)(k:Nat->Bool):Bool:=match v with
 |.i .i64 (.ofNat d)=>k d
 |_=>false
def Tk:Ct:=fun args h n k=>match args with
 |[.p id 0,.ag vl]=>(match T.get .gone h id with
  |.cells m gB c=>bc (bc (bc (Nat.beq m 89) (Da gB BZ) false) (bc (bc (Nat.ble n 99998) (HS (c.get 0)) false) (bc (Bn [0,1,2,3] vl) (Gl c 87 2 fun l=>cj l) false) false) false)
    (intN (c.get 1) fun d=>bc (Nat.ble d 5) (jO h id (Zy d id n (au h) h k)) false) false
  |_=>false)
 |_=>false
theorem Fq{E:Env}:∀(l:List AV)(o:Nat)(f:Nat->Value),(∀j a,l[j]? =some a->Rv E a (f (o+j)))->aP E l ((List.range' o l.length).map f)
 |[],_,_,_=>aF
 |v::l,o,f,h=>by
  rw[List.length_cons,List.range'_succ,List.map_cons];exact ad (h 0 v rfl) (Fq l (o+1) f fun j a hj=>by have:=h (j+1) a hj;rw[show o+(j+1)=o+1+j by omega] at this;exact this)
theorem BA:∀n,(di n).length=n
 |0=>rfl
 |n+1=>by show(AV.any::di n).length=n+1;rw[List.length_cons,BA n]
theorem H7:∀(n j:Nat)(a:AV),(di n)[j]? =some a->a=.any
 |0,_,_,h=>by cases h
 |n+1,0,a,h=>by cases h;rfl
 |n+1,j+1,a,h=>H7 n j a h
theorem Fs(hL:E id=some L)(hLb:L.aH=bp)(gi:L.base=0){arr:Array Value}(hb:w.heap[bp]? =some (.cells arr 124 (0,0)))(cC:89<=arr.size)
  (xi:∀j,j<87->(arr.getD (j+2) undef).oneCell'=true∧(arr.getD (j+2) undef).cells=#[arr.getD (j+2) undef]) {l:List AV} {q:Nat} (hq:l.length+q=89) (hq2:2<=l.length) (hl:∀j a,l[j]? =some a->Rv E a (arr.getD j undef)):
  RO E w id (.cells 89 BZ (fu (l++di q) ⟨89,fZ⟩ 0)):=by
 have hlen:(l++di q).length=89:=by rw[List.length_append,BA,hq]
 have qU:aP E (l++di q) ((List.range' 0 (l++di q).length).map fun j=>arr.getD j undef):=Fq _ 0 _ fun j a hj=>by
  rw[Nat.zero_add];by_cases y8:j<l.length
  ·rw[iA y8] at hj;exact hl j a hj
  ·rw[zE (by omega)] at hj
   have oV:j-l.length<q:=by have:=(bR.1 hj).1;rw[BA] at this;exact this
   rw[H7 _ _ _ hj,Rv];have:=xi (j-2) (by omega);rw[show j-2+2=j by omega] at this;exact this
 refine⟨L,arr,124,hL,by rw[hLb];exact hb,by rw[gi];omega,by
  have:=nV.gJ bp L.room 124 arr.size 89;have e:L=⟨bp,0,L.room⟩:=by cases L;simp_all
  rw[e];exact this,fun j hj=>?_⟩
 have:=ef 89 _ _ qU j (by rw[hlen];exact hj);rw[gi,Nat.zero_add];rw[hlen,cB,fL,List.getElem?_range' hj] at this;simpa using this
theorem Nf(hL:E id=some L)(hLb:L.aH=bp)(gi:L.base=0)(h:PlB w bp):RO E w id Xf:=by
 obtain⟨arr,hb,cC⟩:=h;exact⟨L,arr,124,hL,by rw[hLb];exact hb,by rw[gi];omega,by
  have:=nV.gJ bp L.room 124 arr.size 0;have e:L=⟨bp,0,L.room⟩:=by cases L;simp_all
  rw[e];exact this,fun j hj=>absurd hj (Nat.not_lt_zero _)⟩
theorem Xg{v:AV}{V:Value}{k:Nat->Bool}(he:intN v k=true)(r:Rv E v V):∃d:Nat,V=.int .i64 d∧k d=true:=by
 unfold intN at he;split at he<;>try (cases he;done)
 rw[Rv] at r;exact⟨_,r,he⟩
def Ng(E0:Env)(R:List An):Prop:=∀d,d<=5->den E0 (kE d)=some (.int .i64 (Tj (ev R (later d TD)):Nat))∧den E0 (mE d)=some (.int .i64 (lcM d (ev R (later d TD)):Nat))
theorem Tm(h:pD lf∨∃m,lf=.ans m):(Tj lf=0∧lf=.wait 1 7)∨(Tj lf=1∧lf=.wait 1 8)∨(Tj lf=2∧∃m,lf=.ans m)∨(Tj lf=3∧lf=.fail 1 4 1701869940)∨(Tj lf=4∧∃q,q<=12∧lf=.go q):=by
 rcases h with(rfl|rfl|rfl|⟨q,hq,rfl⟩)|⟨m,rfl⟩
 ·exact .inl ⟨rfl,rfl⟩
 ·exact .inr (.inl ⟨rfl,rfl⟩)
 ·exact .inr (.inr (.inr (.inl ⟨rfl,rfl⟩)))
 ·exact .inr (.inr (.inr (.inr ⟨rfl,q,hq,rfl⟩)))
 ·exact .inr (.inr (.inl ⟨rfl,m,rfl⟩))
theorem xz(er l x:Nat):aP E (jw er l x) ((ou er l x).cells bO):=by
 have z:aP E zV z4.cells:=ad (by rw[Rv]<;>rfl) (ad (by rw[Rv]<;>rfl) (ad (by rw[Rv]<;>rfl) (ad (by rw[Rv]<;>rfl) aF)))
 exact aY (aY (aY (aY (aY (ad (by rw[Rv]<;>rfl) z) (ad (by rw[Rv]<;>rfl) (ad (by rw[Rv]<;>rfl) (ad (by rw[Rv]<;>rfl) aF)))) z) z) z)
  (ad (by rw[Rv]<;>rfl) (ad (by rw[Rv]<;>rfl) (ad (by rw[Rv]<;>rfl) (ad (by rw[Rv]<;>rfl) (ad (by rw[Rv]<;>rfl) (ad (by rw[Rv]<;>rfl) aF))))))
set_option maxHeartbeats 1000000 in
theorem Tn(X:Ctx E0 w0 ba cap R)(hT:Ng E0 R):@gL (KJ E0 w0 (cg ba R)) P 211 Tk:=by
 intro args ARGS E h n w k he ra hr hj;have hj:bL E0 w0 (cg ba R) E h w:=hj;unfold Tk at he;split at he<;>try (cases he;done)
 rename_i id vl;split at he<;>try (cases he;done)
 rename_i m89 gB c hc;obtain⟨a1,Bl⟩:=aa he;clear he;obtain⟨a1,a2⟩:=aa a1;obtain⟨b1,b2⟩:=aa a1;obtain⟨a2,a3⟩:=aa a2;obtain⟨c1,c2⟩:=aa a2;obtain⟨b4,b7⟩:=aa a3;rw[kW] at b7;have b1:=aN b1;have b2:=sf b2;have c1:=aU c1;have c2:=E3 c2;subst b1 b2;obtain⟨PV,WV,hA,rp,rwv⟩:=ra.two;have hA:ARGS=#[PV,WV]:=by apply Array.ext';simpa using hA
 subst hA;rw[Rv] at rp;obtain⟨L,eL,rfl⟩:=rp;rw[Rv] at rwv;obtain⟨vs,rfl,WL⟩:=rwv;obtain⟨v,hv,rfl⟩:=ty4 (lQ b4 WL);have bD:(T.get .gone h id).live=true:=by rw[hc];rfl
 obtain⟨L',bn,el,qM,hb,cC,dr,dz⟩:=hr.cells hc;rw[eL] at qM;cases qM;have fo:el=124:=dr.2.1 _ rfl;have gi:L.base=0:=dr.2.2 rfl;subst fo;have u6:=dz 0 (by decide);have pV:=dz 1 (by decide);rw[gi] at u6 pV cC;rw[Nat.zero_add] at u6 pV cC;rw[c2] at u6;obtain⟨d,hmi,P6⟩:=Xg Bl pV;clear Bl;obtain⟨hd5,Sq⟩:=aa P6;clear P6;have hd5:=aU hd5;obtain⟨jI,he⟩:=gU Sq;clear Sq;have xi:∀j,j<87->(bn.getD (j+2) undef).oneCell'=true∧(bn.getD (j+2) undef).cells=#[bn.getD (j+2) undef]:=fun j hj=>by
  have oV:=dz (j+2) (by omega);rw[gi,Nat.zero_add] at oV;exact bY (cM b7 _ (bU.2 ⟨j+2,List.mem_range'_1.2 ⟨by omega,by omega⟩,rfl⟩)) oV
 have hp:dE w L.aH (bn.getD 0 undef) (.int .i64 d) (fun j=>bn.getD (j+2) undef):=⟨bn,hb,cC,rfl,hmi,xi,fun _ _=>rfl⟩;have cR:∀b,cg ba R b->b≠L.aH:=fun b WQ e2=>(hj.2.2 b WQ).2.2 id L bD eL e2.symm
 have jm:∀b,cg ba R b->w.heap[b]? =w0.heap[b]?:=fun b WQ=>(hj.2.2 b WQ).1
 have s:Zw w L.aH ba cap R (bn.getD 0 undef) d:=by
  refine⟨⟨_,hp⟩,fun i a ha=>?_,X.len,X.fits,?_,?_,cR ba (.inl rfl),fun a ha b hb=>cR b (.inr (.inl ⟨a,ha,hb⟩)),by omega,X.mh.same (jm _ (.inr (.inr rfl))),cR _ (.inr (.inr rfl))⟩
  ·have X1:=X.at_ i a ha
   have yT:=gq ha;exact⟨X1.o,X1.at_.same (jm ba (.inl rfl)),X1.keys.same fun b hb=>jm b (.inr (.inl ⟨a,yT,hb⟩)),X1.len,X1.aH,X1.mS,X1.k8⟩
  ·rcases KI X hj.1 u6 with⟨h1,h0⟩|h1
   ·exact .inr ⟨h0,h1⟩
   ·exact .inl h1
  ·have:=(hj.2.2 ba (.inl rfl)).2.1
   have:=hj.2.1;omega
 obtain⟨dk,dm⟩:=hT d hd5;have dk:=an hj.1 _ _ dk;have dm:=an hj.1 _ _ dm;have vi:=Zx R d;rw[gi,Nat.add_zero];refine(runD s hv).mono ?_;rintro e w' ⟨V,rfl,fH,hplB,⟨jb,E4,WR,WS,O4,KK⟩,kI⟩;have fk:∀c:Nat,den E (.cmp .eql (kE d) (.li .i64 (c:Int)))=some (.bool (decide (((Tj (ev R (later d TD)):Nat):Int)=c))):=fun c=>bx (k:=.i64) (c:=(c:Int)) dk
 have BB:∀{ao:AO},ao.live=true->RO E w' id ao->HR E (T.set ao h id) n w'∧bk E h w E (T.set ao h id) w':=fun hl dU=>HR.Bf hr bD hl eL fH.size fH.same dU fH.os fH.output fH.tape jI
 have sH:=Tm (vi.imp (fun z=>z) fun⟨m,a,h1,_⟩=>⟨m,h1⟩);generalize hL:ev R (later d TD)=lf at *;unfold Zy at he;obtain⟨fs,dX,hx⟩:=gW _ he (aD hr) (fk 0);clear he;have Zz:∀md:Nat,Tg R w.heap.size L.aH (bn.getD 0 undef) d V w' (.wait 1 md)->∀{fs:aB},Holds E fs->tV ([.no,.no,.i .u8 1,.i .u8 (.ofNat md)]++di 85) id h (fun h1=>bQ fs h1 fun h2=>k (.ag jL) h2 n)=true->
   ∃v h' n' E',Rv E' v V∧HR E' h' n' w'∧bk E h w E' h' w'∧k v h' n'=true:=by
  rintro md ⟨rfl,arr,g1,g2,g3,g4,g5⟩ fs dX he;unfold tV at he;rw[jn,T.bh] at he;have dU:RO E w' id (.cells 89 BZ (fu ([.no,.no,.i .u8 1,.i .u8 (.ofNat md)]++di 85) ⟨89,fZ⟩ 0)):=by
   refine Fs (l:=[.no,.no,.i .u8 1,.i .u8 (.ofNat md)]) eL rfl gi g1 g2 g5 rfl (by show 2<=4;omega) fun j a hj=>?_
   have hj4:j<4:=(bR.1 hj).1;match j,hj4,hj with
   |0,_,hj=>cases hj;simp[Rv]
   |1,_,hj=>cases hj;simp[Rv]
   |2,_,hj=>cases hj;rw[Rv];exact g3
   |3,_,hj=>cases hj;rw[Rv];exact g4
  obtain⟨jF,H8⟩:=BB rfl dU;obtain⟨h3,he,wa,K6⟩:=bZ he jF dX;exact⟨.ag jL,h3,n,E,by rw[Rv];exact⟨_,rfl,eZ⟩,wa,H8.trans K6.goes,he⟩
 suffices To:∃v h' n' E',Rv E' v V∧HR E' h' n' w'∧bk E h w E' h' w'∧k v h' n'=true by
  obtain⟨v,h',n',E',q1,q2,q3,q4⟩:=To;exact .inl ⟨V,rfl,v,h',n',E',q1,q2,q3,q4⟩
 rcases hx with⟨hx,he⟩|⟨hx,he⟩
 ·have hx:=gD hx
  rcases sH with⟨q0,rfl⟩|⟨q0,rfl⟩|⟨q0,m,rfl⟩|⟨q0,rfl⟩|⟨q0,q,hq,rfl⟩<;>first|(exfalso;rw[q0] at hx;omega)|skip
  exact Zz 7 kI dX he
 have ZA:=of_decide_eq_false hx;clear hx;obtain⟨fs,dX,hx⟩:=gW _ he dX (fk 1);clear he;rcases hx with⟨hx,he⟩|⟨hx,he⟩
 ·have hx:=gD hx
  rcases sH with⟨q0,rfl⟩|⟨q0,rfl⟩|⟨q0,m,rfl⟩|⟨q0,rfl⟩|⟨q0,q,hq,rfl⟩<;>first|(exfalso;rw[q0] at hx;omega)|skip
  exact Zz 8 kI dX he
 have hx1:=of_decide_eq_false hx;clear hx;obtain⟨fs,dX,hx⟩:=gW _ he dX (fk 2);clear he;rcases hx with⟨hx,he⟩|⟨hx,he⟩
 ·have hx:=gD hx
  rcases sH with⟨q0,rfl⟩|⟨q0,rfl⟩|⟨q0,m,rfl⟩|⟨q0,rfl⟩|⟨q0,q,hq,rfl⟩<;>first|(exfalso;rw[q0] at hx;omega)|skip
  have dm:den E (mE d)=some (.int .i64 (m:Nat)):=dm;obtain⟨a,K',ha,rfl,lA,HU,_⟩:=kI;have hm:m<R.length:=(bR.1 ha).1;have yS:a.o.k≠1:=by
   rcases vi with hl|⟨m',a',h1,h2,h3⟩
   ·rcases hl with hl|hl|hl|⟨_,_,hl⟩<;>cases hl
   ·cases h1;rw[ha] at h2;cases h2;exact h3
  have X1:=X.at_ m a ha;rw[T.bh,aC,T.bh] at he;obtain⟨L2,Oj,oH,Tp⟩:=pt lA HU O4 KK X1.len;have cod:jk (Value.int .i64 (aG (aA a.ks))):=ax _ _;have e1:Vx.br (df E n (.int .i64 (aG (aA a.ks)))) (n+1) L2 (n+1)=some L2:=by unfold Vx.br;rw[if_pos rfl]
  have len:(df E n (.int .i64 (aG (aA a.ks)))).le (Vx.br (df E n (.int .i64 (aG (aA a.ks)))) (n+1) L2):=eW (by
   unfold df;rw[if_neg (by omega)];exact hr.fresh (n+1) (by omega))
  have dS:den (Vx.br (df E n (.int .i64 (aG (aA a.ks)))) (n+1) L2) (.sy n)=some (.int .i64 (aG (aA a.ks))):=an len _ _ (den_add cod);obtain⟨q3,q4⟩:=Tp _ n (n+1) c1 (by omega) e1 dS;obtain⟨jF,g2⟩:=HR.tv hr bD rfl eL fH (Nf eL rfl gi hplB) jI (V:=.int .i64 (aG (aA a.ks))) Oj oH (a:=.glob (3000000+10*n+1) 0 fc) q3;have hle:=g2.ext;have Xh:=an hle _ _ dm;have d1:=an (Env.le_trans hj.1 hle) _ _ X.rows;have dN:=an (Env.le_trans hj.1 hle) _ _ X.many;have kz:(aA a.ks).length=a.ks.length:=by unfold aA;rw[gp]
  have cell:∀i V,a.o.syms[i]? =some V->den (Vx.br (df E n (.int .i64 (aG (aA a.ks)))) (n+1) L2) (jv (mE d) i)=some V:=fun i V hi=>by
   have BX:=(bR.1 hi).1;exact eI d1 Xh ha (by rw[iA BX];exact hi) (gO a.o V (gq hi))
  have Ou:Holds (Vx.br (df E n (.int .i64 (aG (aA a.ks)))) (n+1) L2) ((.cmp .eql (.sy n) (.cD 226 (.sy 1) (mE d)),true)::(.cmp .leq (.fn 20 (.sy n)) (.li .i64 1024),true)::(.cmp .lss (mE d) (.sy 2),true)::(.cmp .leq (mE d) (.li .i64 (-1)),false)::(.cmp .eql (jv (mE d) 0) (.li .u8 1),false)::fs):=by
   refine ah ?_ (ah ((az (k:=.i64) (c:=1024) (n:=a.ks.length) (by rw[bC dS,kz])).trans (by have:=X1.len;rw[eX (by omega)])) (ah ?_ (ah ((az Xh).trans (by rw[gM (by omega)])) (ah ((bx (k:=.u8) (c:=1) (cell 0 (.int .u8 a.o.k) rfl)).trans (by rw[gM yS])) fun p hp=>an hle _ _ (dX p hp)))))
   ·have d26:den (Vx.br (df E n (.int .i64 (aG (aA a.ks)))) (n+1) L2) (.cD 226 (.sy 1) (mE d))=some (.int .i64 (aG (aA a.ks))):=eI (i:=26) d1 Xh ha rfl (ax _ _)
    have d0:den (Vx.br (df E n (.int .i64 (aG (aA a.ks)))) (n+1) L2) (.cmp .eql (.sy n) (.cD 226 (.sy 1) (mE d)))=(bu .eql (.int .i64 (aG (aA a.ks))) (.int .i64 (aG (aA a.ks)))).map Value.bool:=by
     show(match den _ (.sy n),den _ (.cD 226 (.sy 1) (mE d)) with|some X,some Y=>(bu .eql X Y).map Value.bool|_,_=>none)=_;rw[dS,d26]
    show den _ (.cmp .eql (.sy n) (.cD 226 (.sy 1) (mE d)))=some (.bool true);rw[d0];simp[bu,jY]
   ·have d0:den (Vx.br (df E n (.int .i64 (aG (aA a.ks)))) (n+1) L2) (.cmp .lss (mE d) (.sy 2))=(bu .lss (.int .i64 m) (.int .i64 R.length)).map Value.bool:=by
     show(match den _ (mE d),den _ (.sy 2) with|some X,some Y=>(bu .lss X Y).map Value.bool|_,_=>none)=_;rw[Xh,dN]
    show den _ (.cmp .lss (mE d) (.sy 2))=some (.bool true);rw[d0];show some (Value.bool (decide ((m:Int)<(R.length:Int))))=_;rw[eX (by omega)]
  have eg:Nat.add 3000001 (Nat.mul 10 n)=3000000+10*n+1:=by show 3000001+10*n=_;omega
  rw[eg] at he;obtain⟨h3,he,wa,K6⟩:=bZ he jF Ou;rw[aC] at he;exact⟨_,h3,n+2,_,by rw[Rv];exact⟨_,rfl,gP X1.o q4 cell⟩,wa,g2.trans K6.goes,he⟩
 have hx2:=of_decide_eq_false hx;clear hx;obtain⟨fs,dX,hx⟩:=gW _ he dX (fk 3);clear he;rcases hx with⟨hx,he⟩|⟨hx,he⟩
 ·have hx:=gD hx
  rcases sH with⟨q0,rfl⟩|⟨q0,rfl⟩|⟨q0,m,rfl⟩|⟨q0,rfl⟩|⟨q0,q,hq,rfl⟩<;>first|(exfalso;rw[q0] at hx;omega)|skip
  have hV:V=.agg ((ou 1 4 1701869940).cells bO).toArray:=kI;subst hV;rw[T.bh] at he;obtain⟨jF,H8⟩:=BB (ao:=Xf) rfl (Nf eL rfl gi hplB);obtain⟨h3,he,wa,K6⟩:=bZ he jF dX;exact⟨.ag (jw 1 4 1701869940),h3,n,E,by rw[Rv];exact⟨_,rfl,xz _ _ _⟩,wa,H8.trans K6.goes,he⟩
 ·have hx3:=of_decide_eq_false hx
  rcases sH with⟨q0,rfl⟩|⟨q0,rfl⟩|⟨q0,m,rfl⟩|⟨q0,rfl⟩|⟨q0,q,hq,rfl⟩<;>first|(exfalso;rw[q0] at ZA hx1 hx2 hx3;omega)|skip
  have dm:den E (mE d)=some (.int .i64 (d+q:Nat)):=dm;obtain⟨⟨o,ho,ho1,rfl⟩,Bi,arr,g1,g2,g3,g4,g5,_⟩:=kI;unfold tV at he;rw[jn,T.bh] at he;have dU:RO E w' id (.cells 89 BZ (fu ([pq,.x (.i .i64) (mE d)]++di 87) ⟨89,fZ⟩ 0)):=by
   refine Fs (l:=[pq,.x (.i .i64) (mE d)]) eL rfl gi g1 g2 g5 rfl (by show 2<=2;omega) fun j a hj=>?_
   have hj4:j<2:=(bR.1 hj).1;match j,hj4,hj with
   |0,_,hj=>cases hj;rw[g3];exact u6
   |1,_,hj=>cases hj;rw[g4,Rv];exact⟨dm,_,rfl,by show(-9223372036854775808:Int)<=((d+q:Nat):Int);omega,by show((d+q:Nat):Int)<=9223372036854775807;omega⟩
  obtain⟨jF,H8⟩:=BB rfl dU;obtain⟨h3,he,wa,K6⟩:=bZ he jF (ah ((az dm).trans (by rw[eX (by omega)])) (ah ((az dm).trans (by rw[gM (by omega)])) dX));rw[aC] at he;have vQ:0<w'.heap.size:=by have:=fH.size;have:=(cW.1 hb).1;omega
  obtain⟨ZB,g4'⟩:=HR.Sd vQ o.syms wa;rw[nq] at ZB;refine⟨.ag (.i .u8 1::List.drop 1 (je n .sn)),h3,n+25,_,?_,ZB,(H8.trans K6.goes).trans g4',he⟩;have r0:aP (Bd E n o.syms) (je n .sn) (o.cells bO):=uT ho (by rw[Rv];rfl) fun i V hi=>tp vQ o.syms wa (fun U hU=>gO o U hU) i V hi
  rw[Rv];refine⟨o.cells bO,rfl,?_⟩;have e0:je n .sn=.x (.i .u8) (.sy n)::List.drop 1 (je n .sn):=rfl;rw[e0,aP] at r0;obtain⟨V0,us,h1,_,h2⟩:=r0;have h3:o.cells bO=.int .u8 o.k::us:=by
   have:(o.cells bO).head? =some V0:=by rw[h1];rfl
   have h4:(o.cells bO).head? =some (.int .u8 o.k):=rfl;rw[h4] at this;cases this
   exact h1
  rw[h3,ho1];exact ad (by rw[Rv]) h2
def tK:ct->Nat
 |.wait _ _=>0
 |.done=>1
 |.fail er l _=>if er=1 then 2 else if l=8 then 3 else 4
 |.ans _=>5
 |_=>6
def tM:ct->Nat
 |.ans m=>m
 |_=>0
def tW:ct->Nat
 |.wait k _=>k
 |_=>0
def tD:ct->Nat
 |.wait _ md=>md
 |_=>0
def LfOK(R:List An)(lf:ct):Prop:=(∃k md,k<=255∧md<=255∧lf=.wait k md)∨lf=.done∨lf=.fail 1 4 1701869940∨lf=.fail 2 8 8750038247350955892∨lf=.fail 2 7 32760367581326953∨∃m a,lf=.ans m∧R[m]? =some a∧a.o.k≠1
theorem lW{ok:Nat->Nat->Bool}:∀(T:Tr)(j:Nat),cf ok (fun _ _=>False) j T->Pf (fun lf=>match lf with
  |.wait k md=>ok k md=true
  |.done=>True
  |.fail er l x=>kB er l x=true
  |_=>False) T
 |.ite _ _ _ _ t f,j,h=>⟨lW t j h.2.1,lW f j h.2.2⟩
 |.more _ _ t f,j,h=>⟨lW t j h.2.1,lW f j h.2.2⟩
 |.sym _ _ t f,j,h=>⟨lW t j h.2.1,lW f j h.2.2⟩
 |.ask _ _ _ t,j,h=>⟨h.2.1,lW t (j+1) h.2.2⟩
 |.done,_,_=>trivial
 |.fail _ _ _,_,h=>h
 |.go _,_,h=>h.elim
theorem Pg{er l x:Nat}(h:kB er l x=true):(er=1∧l=4∧x=1701869940)∨(er=2∧l=8∧x=8750038247350955892)∨(er=2∧l=7∧x=32760367581326953):=by
 unfold kB at h;simp only[Bool.or_eq_true,Bool.and_eq_true,beq_iff_eq] at h;rcases h with⟨⟨h1,h2⟩,h3⟩|⟨h1,⟨h2,h3⟩|⟨h2,h3⟩⟩
 ·exact .inl ⟨h1,h2,h3⟩
 ·exact .inr (.inl ⟨h1,h2,h3⟩)
 ·exact .inr (.inr ⟨h1,h2,h3⟩)
theorem Nh(kQ:∀k md,ok k md=true->k<=255∧md<=255){T:Tr}(hg:cf ok (fun _ _=>False) 0 T)(R:List An):LfOK R (ev R T):=by
 rcases qi (R:=R) T (lW T 0 hg) with h|h|h
 ·cases hl:ev R T with
  |wait k md=>rw[hl] at h;obtain⟨h1,h2⟩:=kQ k md h;exact .inl ⟨k,md,h1,h2,rfl⟩
  |done=>exact .inr (.inl rfl)
  |fail er l x=>
   rw[hl] at h;rcases Pg h with⟨rfl,rfl,rfl⟩|⟨rfl,rfl,rfl⟩|⟨rfl,rfl,rfl⟩
   ·exact .inr (.inr (.inl rfl))
   ·exact .inr (.inr (.inr (.inl rfl)))
   ·exact .inr (.inr (.inr (.inr (.inl rfl))))
  |ans m=>rw[hl] at h;exact h.elim
  |go d=>rw[hl] at h;exact h.elim
  |bad=>rw[hl] at h;exact h.elim
 ·exact .inr (.inr (.inr (.inr (.inr h))))
 ·exact absurd h (wm T 0 hg (nzQ _))
theorem mn(k md:Nat)(h:ud k md=true):k<=255∧md<=255:=by
 unfold ud at h;simp only[Bool.or_eq_true,Bool.and_eq_true,beq_iff_eq] at h;omega
theorem oP(k md:Nat)(h:nR k md=true):k<=255∧md<=255:=by
 unfold nR at h;simp only[Bool.or_eq_true,Bool.and_eq_true,beq_iff_eq] at h;have:=aU h.2;omega
def Ts(E0:Env)(lf:ct):Prop:=den E0 (.sy 21)=some (.int .i64 (tK lf:Nat))∧den E0 (.sy 22)=some (.int .i64 (tM lf:Nat))∧den E0 (.sy 23)=some (.int .u8 (tW lf:Nat))∧den E0 (.sy 24)=some (.int .u8 (tD lf:Nat))
theorem HR.drop{h:Heap}{w':World}(hr:HR E h n w)(hold:(T.get .gone h id).live=true)(hL:E id=some L)(cC:w.heap.size<=w'.heap.size)
  (jm:∀k,k<w.heap.size->k≠L.aH->w'.heap[k]? =w.heap[k]?) (VZ:w'.os=w.os) (hou:w'.output=w.output) (hta:w'.tape=w.tape) (jI:bM h<=id):
  HR E (T.set .gone h id) n w'∧bk E h w E (T.set .gone h id) w':=by
 have h0:id≠0:=fun e=>by rw[e,hr.zero] at hold;cases hold
 have z:T.get .gone (T.set .gone h id) 0=T.get .gone h 0:=T.ay _ _ _ _ _ (Ne.symm h0);have fl:bM (T.set .gone h id)=bM h:=by unfold bM;rw[z]
 have aV:∀i,(T.get AO.gone (T.set .gone h id) i).live=true->(T.get .gone h i).live=true:=fun i hi=>by
  by_cases e:i=id
  ·rw[e];exact hold
  ·rwa [T.ay _ _ _ _ _ e] at hi
 refine⟨⟨fun i=>?_,fun i j A B hi hj=>hr.inj i j A B (aV i hi) (aV j hj),fun i hi=>?_,hr.fresh,fun i M hM=>dV (hr.kT i M hM) cC,hr.pos,by rw[fl];exact hr.kU,by rw[z];exact hr.zero⟩,
  Env.le_refl _,cC,fun k hk hn=>jm k hk fun e=>hn ⟨id,L,jI,hold,hL,e.symm⟩,fun k hk⟨i,M,a1,a2,a3,a4⟩=>⟨i,M,by rw[←fl];exact a1,aV i a2,a3,a4⟩,fl,fun i hi=>T.ay _ _ _ _ _ (by omega),VZ,hou,hta⟩
 ·by_cases e:i=id
  ·subst e
   rcases T.bd AO.gone .gone h i with q|q<;>rw[q]<;>trivial
  ·rw[T.ay _ _ _ _ _ e]
   cases hl:(T.get .gone h i).live with
   |false=>exact ES (Env.le_refl _) (hr.obj i) hl
   |true=>
    refine RO.same (fun M hM=>jm M.aH (hr.kT i M hM) fun e2=>e ?_) (hr.obj i)
    exact hr.inj i id M L hl hold hM hL e2
 ·cases hl:(T.get .gone (T.set .gone h id) i).live with
  |false=>rfl
  |true=>have:=aV i hl;rw[hr.lt i hi] at this;cases this
def tI(c:Nat):SE:=.cmp .eql (.sy 21) (.li .i64 (.ofNat c))
def Tt:AO:=.cells 0 0 (fu [] ⟨89,fZ⟩ 0)
def innO(n:Nat)(fs:aB)(h:Heap)(k:AV->Heap->Nat->Bool):Bool:=
 o5 (tI 0) fs
  (fun fs=>tV ([.no,.no,.x (.i .u8) (.sy 23),.x (.i .u8) (.sy 24)]++di 85) 30 h fun h1=>bQ fs h1 fun h2=>k (.ag jL) h2 n)
  (fun fs=>o5 (tI 1) fs
   (fun fs=>T.dj .gone h 30 fun h1=>bQ fs h1 fun h2=>aM (Nat.add n 25) fun n1=>k (.ag (.i .u8 1::List.drop 1 (je n .sn))) h2 n1)
   (fun fs=>o5 (tI 2) fs
    (fun fs=>T.dj .gone h 30 fun h1=>bQ fs h1 fun h2=>k (.ag (jw 1 4 1701869940)) h2 n)
    (fun fs=>o5 (tI 3) fs
     (fun fs=>T.dj .gone h 30 fun h1=>bQ fs h1 fun h2=>k (.ag (jw 2 8 8750038247350955892)) h2 n)
     (fun fs=>o5 (tI 4) fs
      (fun fs=>T.dj .gone h 30 fun h1=>bQ fs h1 fun h2=>k (.ag (jw 2 7 32760367581326953)) h2 n)
      (fun fs=>T.dj Tt h 30 fun h1=>aM (Nat.succ n) fun n1=>T.dj (.glob (Nat.add 3000001 (Nat.mul 10 n)) 0 fc) h1 n1 fun h2=>
       bQ ((.cmp .eql (.sy n) (.cD 226 (.sy 1) (.sy 22)),true)::(.cmp .leq (.fn 20 (.sy n)) (.li .i64 1024),true)::(.cmp .lss (.sy 22) (.sy 2),true)::(.cmp .leq (.sy 22) (.li .i64 (-1)),false)::(.cmp .eql (jv (.sy 22) 0) (.li .u8 1),false)::fs) h2 fun h3=>aM (Nat.add n 2) fun n2=>k (.ag (Co (jv (.sy 22)) (.sz n1 (.fn 20 (.sy n))))) h3 n2)))))
def Xi(v:AV):Bool:=match v with
 |.i .i64 (.ofNat 0)=>true
 |_=>false
def K7(yp:List AV->Bool):Ct:=fun args h n k=>bc (yp args) (match T.get .gone h 30 with
 |.cells m gB c=>bc (bc (bc (Nat.beq m 89) (Da gB BZ) false) (bc (bc (Nat.ble n 99998) (HS (c.get 0)) false) (bc (Xi (c.get 1)) (Gl c 87 2 fun l=>cj l) false) false) false) (jO h 30 (innO n (au h) h k)) false
 |_=>false) false
def qF(ba ab:Nat)(R:List An)(k:Nat):Prop:=cg ba R k∨k=ab
set_option maxHeartbeats 1000000 in
theorem Dv{ab:Nat}{S:Value}{l:List V4}(s:St w0 bp ba cap ab R A S l)(X:Ctx E0 w0 ba cap R)(jX:E0 30=some ⟨bp,0,0⟩)(rA:Rv E0 pq A)(dh:LfOK R lf)(hT:Ts E0 lf)
  (law:∀{w:World},St w bp ba cap ab R A S l->Calls P g ARGS w fun e w'=>∃V,e=.returned V∧qS bp w w'∧cU R w.heap.size bp V w' lf) {yp:List AV->Bool} (hchk:∀args,yp args=true->∀(E:Env)(VS:Array Value),E0.le E->aP E args VS.toList->VS=ARGS):
  @gL (KJ E0 w0 (qF ba ab R)) P g (K7 yp):=by
 intro args VS E h n w k he ra hr hj;have hj:bL E0 w0 (qF ba ab R) E h w:=hj;unfold K7 at he;obtain⟨YO,heZ⟩:=aa he;clear he;obtain rfl:=hchk args YO E VS hj.1 ra;split at heZ<;>try (cases heZ;done)
 rename_i m89 gB c hc;obtain⟨a1,Bl⟩:=aa heZ;clear heZ;obtain⟨a1,a2⟩:=aa a1;obtain⟨b1,b2⟩:=aa a1;obtain⟨a2,a3⟩:=aa a2;obtain⟨c1,c2⟩:=aa a2;obtain⟨c3,b7⟩:=aa a3;rw[kW] at b7;have b1:=aN b1;have b2:=sf b2;have c1:=aU c1;have c2:=E3 c2;subst b1 b2;have eL:=hj.1 _ _ jX;have bD:(T.get .gone h 30).live=true:=by rw[hc];rfl
 obtain⟨L',bn,el,qM,hb,cC,dr,dz⟩:=hr.cells hc;rw[eL] at qM;cases qM;have fo:el=124:=dr.2.1 _ rfl;subst fo;have hb:w.heap[bp]? =some (.cells bn 124 (0,0)):=hb;have cC:0+89<=bn.size:=cC;have hbpw:bp<w.heap.size:=(cW.1 hb).1;have u6:=dz 0 (by decide);have pV:=dz 1 (by decide);have u6:Rv E (c.get 0) (bn.getD 0 undef):=u6;have pV:Rv E (c.get 1) (bn.getD 1 undef):=pV;rw[c2] at u6;have Vr:=Rv.exact hj.1 _ _ _ (by rfl) rA u6;have hM0:bn.getD 1 undef=.int .i64 0:=by
  unfold Xi at c3;split at c3<;>try (cases c3;done)
  rename_i q;rw[q,Rv] at pV;exact pV
 obtain⟨jI,he⟩:=gU Bl;clear Bl;have xi:∀j,j<87->(bn.getD (j+2) undef).oneCell'=true∧(bn.getD (j+2) undef).cells=#[bn.getD (j+2) undef]:=fun j hj=>by
  have oV:=dz (j+2) (by omega);have oV:Rv E (c.get (j+2)) (bn.getD (0+(j+2)) undef):=oV;rw[Nat.zero_add] at oV;exact bY (cM b7 _ (bU.2 ⟨j+2,List.mem_range'_1.2 ⟨by omega,by omega⟩,rfl⟩)) oV
 have jm:∀b,qF ba ab R b->w.heap[b]? =w0.heap[b]?:=fun b WQ=>(hj.2.2 b WQ).1
 have hsz0:=hj.2.1;have s1:St w bp ba cap ab R A S l:=by
  refine⟨⟨_,bn,hb,by omega,Vr,hM0,xi,fun _ _=>rfl⟩,fun i a ha=>?_,s.len,s.fits,s.row,by have:=s.wJ;omega,by have:=s.abs;omega,s.O8,s.WZ,s.KM,s.kb,?_,s.P7,s.al,s.mh.same (jm _ (.inl (.inr (.inr rfl)))),s.SB,s.P8⟩
  ·have X1:=s.ans i a ha
   have yT:=gq ha;exact⟨X1.o,X1.at_.same (jm ba (.inl (.inl rfl))),X1.keys.same fun b hb=>jm b (.inl (.inr (.inl ⟨a,yT,hb⟩))),X1.len,X1.aH,X1.mS,X1.k8⟩
  ·rcases s.args with h|⟨arr,el,fr,c,h1,h2,h3⟩
   ·exact .inl h
   ·exact .inr ⟨arr,el,fr,c,h1,by rw[jm ab (.inr rfl)];exact h2,h3⟩
 obtain⟨dk,dm,dw,dd⟩:=hT;have dk:=an hj.1 _ _ dk;have dm:=an hj.1 _ _ dm;have dw:=an hj.1 _ _ dw;have dd:=an hj.1 _ _ dd;have fk:∀c:Nat,den E (tI c)=some (.bool (decide (((tK lf:Nat):Int)=c))):=fun c=>bx (k:=.i64) (c:=(c:Int)) dk
 refine(law s1).mono ?_;rintro e w' ⟨V,rfl,fH,kI⟩;have vQ:0<w'.heap.size:=by have:=fH.size;omega
 have BB:∀{ao:AO},ao.live=true->RO E w' 30 ao->HR E (T.set ao h 30) n w'∧bk E h w E (T.set ao h 30) w':=fun hl dU=>HR.Bf hr bD hl eL fH.size fH.same dU fH.os fH.output fH.tape jI
 have H9:HR E (T.set .gone h 30) n w'∧bk E h w E (T.set .gone h 30) w':=HR.drop hr bD eL fH.size fH.same fH.os fH.output fH.tape jI
 suffices To:∃v h' n' E',Rv E' v V∧HR E' h' n' w'∧bk E h w E' h' w'∧k v h' n'=true by
  obtain⟨v,h',n',E',q1,q2,q3,q4⟩:=To;exact .inl ⟨V,rfl,v,h',n',E',q1,q2,q3,q4⟩
 unfold innO at he;have Tu:∀{er l x:Nat},cU R w.heap.size bp V w' (.fail er l x)->∀{fs:aB},Holds E fs->T.dj .gone h 30 (fun h1=>bQ fs h1 fun h2=>k (.ag (jw er l x)) h2 n)=true->∃v h' n' E',Rv E' v V∧HR E' h' n' w'∧bk E h w E' h' w'∧k v h' n'=true:=by
  intro er l x kI fs dX he;have hV:V=.agg ((ou er l x).cells bO).toArray:=kI;subst hV;rw[T.bh] at he;obtain⟨jF,H8⟩:=H9;obtain⟨h3,he,wa,K6⟩:=bZ he jF dX;exact⟨.ag (jw er l x),h3,n,E,by rw[Rv];exact⟨_,rfl,xz _ _ _⟩,wa,H8.trans K6.goes,he⟩
 obtain⟨fs,dX,hx⟩:=gW _ he (aD hr) (fk 0);clear he;rcases hx with⟨hx,he⟩|⟨hx,he⟩
 ·have hx:=gD hx
  rcases dh with⟨q,md,hq,nM,rfl⟩|rfl|rfl|rfl|rfl|⟨m,a,rfl,_,_⟩<;>first|(exfalso;revert hx;decide)|(exfalso;exact absurd hx (by show ¬((5:Nat):Int)=0;omega))|skip
  obtain⟨rfl,arr,g1,g2,g3,g4,g5⟩:=kI;unfold tV at he;rw[jn,T.bh] at he;have dU:RO E w' 30 (.cells 89 BZ (fu ([.no,.no,.x (.i .u8) (.sy 23),.x (.i .u8) (.sy 24)]++di 85) ⟨89,fZ⟩ 0)):=by
   refine Fs (l:=[.no,.no,.x (.i .u8) (.sy 23),.x (.i .u8) (.sy 24)]) eL rfl rfl g1 g2 g5 rfl (by show 2<=4;omega) fun j a hj=>?_
   have hj4:j<4:=(bR.1 hj).1;match j,hj4,hj with
   |0,_,hj=>cases hj;simp[Rv]
   |1,_,hj=>cases hj;simp[Rv]
   |2,_,hj=>cases hj;rw[g3,Rv];exact⟨dw,_,rfl,by show(0:Int)<=(q:Int);omega,by show(q:Int)<=255;omega⟩
   |3,_,hj=>cases hj;rw[g4,Rv];exact⟨dd,_,rfl,by show(0:Int)<=(md:Int);omega,by show(md:Int)<=255;omega⟩
  obtain⟨jF,H8⟩:=BB rfl dU;obtain⟨h3,he,wa,K6⟩:=bZ he jF dX;exact⟨.ag jL,h3,n,E,by rw[Rv];exact⟨_,rfl,eZ⟩,wa,H8.trans K6.goes,he⟩
 have ZA:=of_decide_eq_false hx;clear hx;obtain⟨fs,dX,hx⟩:=gW _ he dX (fk 1);clear he;rcases hx with⟨hx,he⟩|⟨hx,he⟩
 ·have hx:=gD hx
  rcases dh with⟨q,md,hq,nM,rfl⟩|rfl|rfl|rfl|rfl|⟨m,a,rfl,_,_⟩<;>first|(exfalso;exact ZA rfl)|(exfalso;revert hx;decide)|(exfalso;exact absurd hx (by show ¬((5:Nat):Int)=1;omega))|skip
  obtain⟨o,ho,ho1,rfl⟩:=kI;rw[T.bh] at he;obtain⟨jF,H8⟩:=H9;obtain⟨h3,he,wa,K6⟩:=bZ he jF dX;rw[aC] at he;obtain⟨ZB,g4'⟩:=HR.Sd vQ o.syms wa;rw[nq] at ZB;refine⟨.ag (.i .u8 1::List.drop 1 (je n .sn)),h3,n+25,_,?_,ZB,(H8.trans K6.goes).trans g4',he⟩;have r0:aP (Bd E n o.syms) (je n .sn) (o.cells bO):=uT ho (by rw[Rv];rfl) fun i V hi=>tp vQ o.syms wa (fun U hU=>gO o U hU) i V hi
  rw[Rv];refine⟨o.cells bO,rfl,?_⟩;have e0:je n .sn=.x (.i .u8) (.sy n)::List.drop 1 (je n .sn):=rfl;rw[e0,aP] at r0;obtain⟨V0,us,h1,_,h2⟩:=r0;have h3:o.cells bO=.int .u8 o.k::us:=by
   have:(o.cells bO).head? =some V0:=by rw[h1];rfl
   have h4:(o.cells bO).head? =some (.int .u8 o.k):=rfl;rw[h4] at this;cases this
   exact h1
  rw[h3,ho1];exact ad (by rw[Rv]) h2
 have hx1:=of_decide_eq_false hx;clear hx;obtain⟨fs,dX,hx⟩:=gW _ he dX (fk 2);clear he;rcases hx with⟨hx,he⟩|⟨hx,he⟩
 ·have hx:=gD hx
  rcases dh with⟨q,md,hq,nM,rfl⟩|rfl|rfl|rfl|rfl|⟨m,a,rfl,_,_⟩<;>first|(exfalso;exact ZA rfl)|(exfalso;exact hx1 rfl)|(exfalso;revert hx;decide)|(exfalso;exact absurd hx (by show ¬((5:Nat):Int)=2;omega))|skip
  exact Tu kI dX he
 have hx2:=of_decide_eq_false hx;clear hx;obtain⟨fs,dX,hx⟩:=gW _ he dX (fk 3);clear he;rcases hx with⟨hx,he⟩|⟨hx,he⟩
 ·have hx:=gD hx
  rcases dh with⟨q,md,hq,nM,rfl⟩|rfl|rfl|rfl|rfl|⟨m,a,rfl,_,_⟩<;>first|(exfalso;exact ZA rfl)|(exfalso;exact hx1 rfl)|(exfalso;exact hx2 rfl)|(exfalso;revert hx;decide)|(exfalso;exact absurd hx (by show ¬((5:Nat):Int)=3;omega))|skip
  exact Tu kI dX he
 have hx3:=of_decide_eq_false hx;clear hx;obtain⟨fs,dX,hx⟩:=gW _ he dX (fk 4);clear he;rcases hx with⟨hx,he⟩|⟨hx,he⟩
 ·have hx:=gD hx
  rcases dh with⟨q,md,hq,nM,rfl⟩|rfl|rfl|rfl|rfl|⟨m,a,rfl,_,_⟩<;>first|(exfalso;exact ZA rfl)|(exfalso;exact hx1 rfl)|(exfalso;exact hx2 rfl)|(exfalso;exact hx3 rfl)|(exfalso;revert hx;decide)|(exfalso;exact absurd hx (by show ¬((5:Nat):Int)=4;omega))|skip
  exact Tu kI dX he
 ·have hx4:=of_decide_eq_false hx
  rcases dh with⟨q,md,hq,nM,rfl⟩|rfl|rfl|rfl|rfl|⟨m,a,rfl,ha,yS⟩<;>first|(exfalso;exact ZA rfl)|(exfalso;exact hx1 rfl)|(exfalso;exact hx2 rfl)|(exfalso;exact hx3 rfl)|(exfalso;exact hx4 rfl)|skip
  have dm:den E (.sy 22)=some (.int .i64 (m:Nat)):=dm;obtain⟨a',K',L6,rfl,lA,HU,⟨jb,E4,WR,WS,O4,KK⟩,carr,cel,qZ⟩:=kI;rw[ha] at L6;cases L6;have hm:m<R.length:=(bR.1 ha).1;have X1:=X.at_ m a ha;rw[T.bh,aC,T.bh] at he;obtain⟨L2,Oj,oH,Tp⟩:=pt lA HU O4 KK X1.len;have cod:jk (Value.int .i64 (aG (aA a.ks))):=ax _ _;have e1:Vx.br (df E n (.int .i64 (aG (aA a.ks)))) (n+1) L2 (n+1)=some L2:=by unfold Vx.br;rw[if_pos rfl]
  have len:(df E n (.int .i64 (aG (aA a.ks)))).le (Vx.br (df E n (.int .i64 (aG (aA a.ks)))) (n+1) L2):=eW (by
   unfold df;rw[if_neg (by omega)];exact hr.fresh (n+1) (by omega))
  have dS:den (Vx.br (df E n (.int .i64 (aG (aA a.ks)))) (n+1) L2) (.sy n)=some (.int .i64 (aG (aA a.ks))):=an len _ _ (den_add cod);obtain⟨q3,q4⟩:=Tp _ n (n+1) c1 (by omega) e1 dS;have dU:RO E w' 30 Tt:=⟨⟨bp,0,0⟩,carr,cel,eL,qZ,nzQ _,nV.DS _ _ _ _,fun j hj=>absurd hj (Nat.not_lt_zero _)⟩;obtain⟨jF,g2⟩:=HR.tv hr bD rfl eL fH dU jI (V:=.int .i64 (aG (aA a.ks))) Oj oH (a:=.glob (3000000+10*n+1) 0 fc) q3;have hle:=g2.ext;have Xh:=an hle _ _ dm;have d1:=an (Env.le_trans hj.1 hle) _ _ X.rows;have dN:=an (Env.le_trans hj.1 hle) _ _ X.many;have kz:(aA a.ks).length=a.ks.length:=by unfold aA;rw[gp]
  have cell:∀i V,a.o.syms[i]? =some V->den (Vx.br (df E n (.int .i64 (aG (aA a.ks)))) (n+1) L2) (jv (.sy 22) i)=some V:=fun i V hi=>by
   have BX:=(bR.1 hi).1;exact eI d1 Xh ha (by rw[iA BX];exact hi) (gO a.o V (gq hi))
  have Ou:Holds (Vx.br (df E n (.int .i64 (aG (aA a.ks)))) (n+1) L2) ((.cmp .eql (.sy n) (.cD 226 (.sy 1) (.sy 22)),true)::(.cmp .leq (.fn 20 (.sy n)) (.li .i64 1024),true)::(.cmp .lss (.sy 22) (.sy 2),true)::(.cmp .leq (.sy 22) (.li .i64 (-1)),false)::(.cmp .eql (jv (.sy 22) 0) (.li .u8 1),false)::fs):=by
   refine ah ?_ (ah ((az (k:=.i64) (c:=1024) (n:=a.ks.length) (by rw[bC dS,kz])).trans (by have:=X1.len;rw[eX (by omega)])) (ah ?_ (ah ((az Xh).trans (by rw[gM (by omega)])) (ah ((bx (k:=.u8) (c:=1) (cell 0 (.int .u8 a.o.k) rfl)).trans (by rw[gM yS])) fun p hp=>an hle _ _ (dX p hp)))))
   ·have d26:den (Vx.br (df E n (.int .i64 (aG (aA a.ks)))) (n+1) L2) (.cD 226 (.sy 1) (.sy 22))=some (.int .i64 (aG (aA a.ks))):=eI (i:=26) d1 Xh ha rfl (ax _ _)
    have d0:den (Vx.br (df E n (.int .i64 (aG (aA a.ks)))) (n+1) L2) (.cmp .eql (.sy n) (.cD 226 (.sy 1) (.sy 22)))=(bu .eql (.int .i64 (aG (aA a.ks))) (.int .i64 (aG (aA a.ks)))).map Value.bool:=by
     show(match den _ (.sy n),den _ (.cD 226 (.sy 1) (.sy 22)) with|some X,some Y=>(bu .eql X Y).map Value.bool|_,_=>none)=_;rw[dS,d26]
    show den _ (.cmp .eql (.sy n) (.cD 226 (.sy 1) (.sy 22)))=some (.bool true);rw[d0];simp[bu,jY]
   ·have d0:den (Vx.br (df E n (.int .i64 (aG (aA a.ks)))) (n+1) L2) (.cmp .lss (.sy 22) (.sy 2))=(bu .lss (.int .i64 m) (.int .i64 R.length)).map Value.bool:=by
     show(match den _ (.sy 22),den _ (.sy 2) with|some X,some Y=>(bu .lss X Y).map Value.bool|_,_=>none)=_;rw[Xh,dN]
    show den _ (.cmp .lss (.sy 22) (.sy 2))=some (.bool true);rw[d0];show some (Value.bool (decide ((m:Int)<(R.length:Int))))=_;rw[eX (by omega)]
  have eg:Nat.add 3000001 (Nat.mul 10 n)=3000000+10*n+1:=by show 3000001+10*n=_;omega
  rw[eg] at he;obtain⟨h3,he,wa,K6⟩:=bZ he jF Ou;rw[aC] at he;exact⟨_,h3,n+2,_,by rw[Rv];exact⟨_,rfl,gP X1.o q4 cell⟩,wa,g2.trans K6.goes,he⟩
def sW(R:List An)(A:Value)(ba cap ab bp n c:Nat)(l:List V4)(lf:ct):List aZ:=sB R A ba cap ab bp n c l++
 [aw (.int .i64 (tK lf:Nat)),aw (.int .i64 (tM lf:Nat)),aw (.int .u8 (tW lf:Nat)),aw (.int .u8 (tD lf:Nat)),⟨bp,0,0⟩,⟨bp,0,0⟩,⟨bp,0,0⟩,⟨bp,0,0⟩,⟨bp,0,0⟩,⟨bp,0,0⟩]
def hW:Heap:=jq ((List.range 29).map (fun _=>AO.gone)++[MZ]) 30
def tJ(fs:aB)(c:Nat):Nat:=cr fs (tI c)
def Ph(v:AV)(s:Nat):Bool:=match v with
 |.x (.i .u8) (.sy t)=>Nat.beq s t
 |_=>false
def plWS(h:Heap):Bool:=match T.get .gone h 30 with
 |.cells 89 ⟨0,some 124,true⟩ c=>bc (Ph (c.get 2) 23) (bc (Ph (c.get 3) 24) (cj ((List.range 87).map fun j=>c.get (Nat.add j 2))) false) false
 |_=>false
def H'(v:AV)(h:Heap):Bool:=pick (tJ (au h) 0) (qC v fun l=>bc (cH l jL) (plWS h) false) (pick (tJ (au h) 1) (dZ 30 v h .done) (pick (tJ (au h) 2) (dZ 30 v h (.fail 1 4 1701869940)) (pick (tJ (au h) 3) (dZ 30 v h (.fail 2 8 8750038247350955892))
 (pick (tJ (au h) 4) (dZ 30 v h (.fail 2 7 32760367581326953)) (dQ 22 30 v h (.ans 0))))))
def SW(g:FuncId)(yp:List AV->Bool):fV:=fun x=>bif Nat.beq x g then some (K7 yp) else none
def wT(g' g:FuncId)(m:Nat)(yp:List AV->Bool):Bool:=bQ [] hW fun h=>Vx.run (SW g yp) 40 g' [.ag [.p 30 0,gA m]] h 31 fun v h' _=>qC v fun _=>H' v h'
section
variable{w:World}{bp ba cap ab:Nat}{R:List An}{A S:Value}{l:List V4}(s:St w bp ba cap ab R A S l)
include s
theorem St.lowW(n c:Nat)(lf:ct):(ae (sB R A ba cap ab bp n c l)).le (ae (sW R A ba cap ab bp n c l lf)):=by
 intro x L h;cases x with
 |zero=>cases h
 |succ x=>
  show(sW R A ba cap ab bp n c l lf)[x]? =some L;have h:(sB R A ba cap ab bp n c l)[x]? =some L:=h;unfold sW;rw[iA (bR.1 h).1];exact h
theorem St.wrap(kQ:∀k md,ok k md=true->k<=255∧md<=255){T:Tr}(hg:cf ok (fun _ _=>False) 0 T){yp:List AV->Bool}{ex:List AV}{c:Nat}(hex:F0 ex=true)(hchk:∀args,yp args=true->args=ex)
  (r0:aP (ae (sW R A ba cap ab bp n c l (ev R T))) ex ARGS.toList) (jg:Rv (ae (sB R A ba cap ab bp n c l)) (gA m) S)
  (law:∀{w:World},St w bp ba cap ab R A S l->Calls P g ARGS w fun e w'=>∃V,e=.returned V∧qS bp w w'∧cU R w.heap.size bp V w' (ev R T)) (hk:wT g' g m yp=true):
  Calls P g' #[.agg #[.pointer (some ⟨bp,0,none⟩),S]] w fun e w'=>∃V,e=.returned V∧qS bp w w'∧cU R w.heap.size bp V w' (ev R T):=by
 have zh:=s.Bq;have low:=s.lowW n c (ev R T);have jX:ae (sW R A ba cap ab bp n c l (ev R T)) 30=some ⟨bp,0,0⟩:=rfl;have XB:=s.yU n c;have X:Ctx (ae (sW R A ba cap ab bp n c l (ev R T))) w ba cap R:=by
  refine⟨s.ans,s.len,s.fits,an low _ _ XB.rows,an low _ _ XB.many,?_,s.mh⟩;rcases XB.place with h|⟨h,b,h2⟩
  ·exact .inl (low _ _ h)
  ·exact .inr ⟨h,b,low _ _ h2⟩
 have rA:=(s.Fe n c).mono low;have TT:Ts (ae (sW R A ba cap ab bp n c l (ev R T))) (ev R T):=⟨aj (i:=20) rfl (ax _ _),aj (i:=21) rfl (ax _ _),aj (i:=22) rfl (ax _ _),aj (i:=23) rfl (ax _ _)⟩;have dh:=Nh kQ hg R;obtain⟨want,bn,yP,Ck,wY,yQ,Bj,_⟩:=s.pl;have nv:aP (ae (sW R A ba cap ab bp n c l (ev R T))) ([Ob.pq,.i .i64 0]++di 87) (A::.int .i64 0::(List.range 87).map fun j=>bn.getD (j+2) undef):=
  ad rA (ad (by rw[Rv]) (fX 87 _ (by rw[gp,ot]) fun V hV=>by
   obtain⟨j,hj,rfl⟩:=bU.1 hV;exact Bj j (List.mem_range.1 hj)))
 have lv:∀(b:AO)(i:Nat),((List.range 29).map (fun _=>AO.gone)++[MZ])[i]? =some b->b.live=true->i=29:=by
  intro b i hb hl;have hi:i<30:=(bR.1 hb).1;rcases gC i 29 with h|h
  ·exfalso
   rw[iA (by rw[gp,ot];exact h),fL,List.getElem?_range h] at hb;cases hb;cases hl
  ·omega
 have hr:HR (ae (sW R A ba cap ab bp n c l (ev R T))) hW 31 w:=by
  refine cX (C:=sW R A ba cap ab bp n c l (ev R T)) rfl (show 30<=31 from by decide) (.append (.dead _ _ fun a ha=>by obtain⟨_,_,rfl⟩:=bU.1 ha;rfl) ⟨?_,trivial⟩) (fun L hL=>?_) (show[bp].Nodup by simp)
  ·refine⟨⟨bp,0,0⟩,bn,124,jX,yP,by show 0+89<=_;omega,nV.gJ _ _ _ _ _,fun j hj=>?_⟩
   have:=ef 89 _ _ nv j hj;rw[show(0:Nat)+j=j by omega];have e:(A::Value.int .i64 0::(List.range 87).map fun j=>bn.getD (j+2) undef).getD j undef=bn.getD j undef:=by
    match j,hj with
    |0,_=>exact wY.symm
    |1,_=>exact yQ.symm
    |j+2,hj=>exact eQ bn 87 j (by omega)
   rw[←e];exact this
  ·have s0:∀V,(aw V).aH<w.heap.size:=fun V=>by rw[bH];omega
   have ux:=s.wJ;have yR:=s.abs;unfold sW sB at hL;simp only[List.mem_append,bU] at hL;rcases hL with(hL|⟨_,_,rfl⟩)|hL
   ·simp only[mcQ,mnQ,or_false] at hL
    rcases hL with rfl|rfl|rfl|rfl|rfl|rfl|rfl|rfl<;>first|exact s0 _|assumption|(split<;>exact ux)
   ·exact s0 _
   ·simp only[mcQ,mnQ,or_false] at hL
    rcases hL with rfl|rfl|rfl|rfl|rfl|rfl|rfl|rfl|rfl|rfl<;>first|exact s0 _|assumption
 have cG:bM hW=30:=bX _ _;have hj:bL (ae (sW R A ba cap ab bp n c l (ev R T))) w (qF ba ab R) (ae (sW R A ba cap ab bp n c l (ev R T))) hW w:=by
  refine⟨Env.le_refl _,nrQ _,fun k hk=>⟨rfl,?_,fun i L hl hL e=>?_⟩⟩
  ·rcases hk with(rfl|⟨a,ha,off,n',c',hK⟩|rfl)|rfl
   ·exact s.wJ
   ·obtain⟨i,hi⟩:=List.getElem?_of_mem ha
    rcases(s.ans i a hi).keys with⟨h1,_⟩|⟨b,tX,bz,arr,el,fr,h1,h2,_⟩
    ·rw[hK] at h1;cases h1
    ·rw[hK] at h1;cases h1
     exact(cW.1 h2).1
   ·exact s.mh.lt
   ·exact s.abs
  ·obtain⟨j,b,rfl,h1,h2⟩:=bT (a:=.gone) hl
   obtain rfl:=lv b j h1 h2;have:ae (sW R A ba cap ab bp n c l (ev R T)) 30=some L:=hL;rw[jX] at this;cases this;rcases hk with(rfl|⟨a,ha,hb⟩|rfl)|rfl
   ·exact s.O8 e.symm
   ·exact(s.kb a ha k hb).1 e.symm
   ·exact s.SB e.symm
   ·exact s.KM e.symm
 have qa:∀k,fp (ae (sW R A ba cap ab bp n c l (ev R T))) hW k->k=bp:=by
  rintro k ⟨i,L,a1,a2,a3,rfl⟩;obtain⟨j,b,rfl,h1,h2⟩:=bT (a:=.gone) a2;obtain rfl:=lv b j h1 h2;have:ae (sW R A ba cap ab bp n c l (ev R T)) 30=some L:=a3;rw[jX] at this;cases this;rfl
 have za:@fg (KJ (ae (sW R A ba cap ab bp n c l (ev R T))) w (qF ba ab R)) P (SW g yp):=fun x C hC=>by
  unfold SW at hC;cases hx:Nat.beq x g with
  |true=>
   rw[hx] at hC;cases hC
   obtain rfl:=aN hx;exact Dv s X jX rA dh TT law fun args hc E VS hle r=>by
    rw[hchk args hc] at r;exact Array.ext' (aP.exact hle _ _ _ hex r0 r)
  |false=>rw[hx] at hC;cases hC
 have ra:aP (ae (sW R A ba cap ab bp n c l (ev R T))) [.ag [.p 30 0,gA m]] (#[.agg #[.pointer (some ⟨bp,0,none⟩),S]]:Array Value).toList:=
  ad (by rw[Rv];exact⟨[.pointer (some ⟨bp,0,none⟩),S],rfl,ad (by rw[Rv];exact⟨⟨bp,0,0⟩,jX,rfl⟩) (ad (jg.mono low) aF)⟩) aF
 refine(@jK (KJ (ae (sW R A ba cap ab bp n c l (ev R T))) w (qF ba ab R)) P _ (@eH (KJ (ae (sW R A ba cap ab bp n c l (ev R T))) w (qF ba ab R)) _ za 40) _ _ _ _ [] g' _ _ (fun v h'=>qC v fun _=>H' v h') hk hr (fun h' fk=>bL.fk hj fk) holds_nil ra (fun v h=>rfl)).mono ?_;rintro e w' ⟨V,v,h',n',E',rfl,rv,cO,gQ,gs,xg,hk⟩;have sq:H' v h'=true:=by
  unfold qC at hk;split at hk
  ·exact hk
  ·cases hk
 have ci:jh (· =bp) w 30 (fun _ _=>True) E' h' w':=jh.goes (w:=w) ⟨dH.refl _ _,fun k _ hk=>qa k hk,cG,fun _ _ _ _=>trivial⟩ gs;have eF:=gs.ext _ _ jX;refine⟨V,rfl,ci.bJ.one,?_⟩;have lI:∀lf,dZ 30 v h' lf=true->cU R w.heap.size bp V w' lf:=fun lf h=>pz X gQ.1 cO ci eF rv h
 obtain⟨dk,dm,dw,dd⟩:=TT;have dk:=an gQ.1 _ _ dk;have dm:=an gQ.1 _ _ dm;have dw:=an gQ.1 _ _ dw;have dd:=an gQ.1 _ _ dd;generalize ev R T=lf at *;have fk:∀c:Nat,den E' (tI c)=some (.bool (decide (((tK lf:Nat):Int)=c))):=fun c=>bx (k:=.i64) (c:=(c:Int)) dk
 have kx:∀{c:Nat}{a b:Bool},pick (tJ (au h') c) a b=true->(tK lf=c∧a=true)∨(tK lf≠c∧b=true):=fun {c a b} h=>by
  rcases iu h with⟨h1,h2⟩|⟨h1,h2⟩
  ·exact .inl ⟨by have:=gD ((aX xg (fk c)).1 h1);omega,h2⟩
  ·exact .inr ⟨by have:=of_decide_eq_false ((aX xg (fk c)).2 h1);omega,h2⟩
 unfold H' at sq;rcases kx sq with⟨q0,fS⟩|⟨q0,fS⟩
 ·rcases dh with⟨q,md,hq,nM,rfl⟩|rfl|rfl|rfl|rfl|⟨m,a,rfl,_,_⟩<;>first|(exfalso;revert q0;decide)|(exfalso;exact absurd q0 (by show ¬(5:Nat)=0;omega))|skip
  unfold qC at fS;split at fS<;>try (cases fS;done)
  rename_i l0;obtain⟨h1,h2⟩:=aa fS;rw[Rv] at rv;obtain⟨vs,rfl,rl⟩:=rv;rw[bb h1] at rl;refine⟨by rw[show zO.cells bO=vs from(tq rl).symm],?_⟩;unfold plWS at h2;split at h2<;>try (cases h2;done)
  rename_i c hc;obtain⟨b2,h2⟩:=aa h2;obtain⟨b3,b4⟩:=aa h2;have fG:=cO.obj 30;rw[hc] at fG;obtain⟨L,arr,el,eL,hb,cC,dr,dz⟩:=fG;rw[eF] at eL;cases eL;have fo:=dr.2.1 _ rfl;subst fo;have xw:∀{v:AV}{s q:Nat}{V:Value},Ph v s=true->den E' (.sy s)=some (.int .u8 (q:Nat))->Rv E' v V->V=.int .u8 q:=fun {v s q V} h d r=>by
   unfold Ph at h;split at h<;>try (cases h;done)
   obtain rfl:=aN h;rw[Rv] at r;have:=r.1;rw[d] at this;exact(mL this).symm
  have BY:=xw b2 dw (dz 2 (by decide));have xh:=xw b3 dd (dz 3 (by decide));rw[Nat.zero_add] at BY xh;refine⟨arr,hb,by have:0+89<=arr.size:=cC;omega,BY,xh,fun j hj=>?_⟩;have oV:=dz (j+2) (by omega);rw[Nat.zero_add] at oV;have dh:leaf (c.get (j+2))=true:=cM b4 _ (bU.2 ⟨j,List.mem_range.2 hj,rfl⟩);exact bY dh oV
 rcases kx fS with⟨q1,fS⟩|⟨q1,fS⟩
 ·rcases dh with⟨q,md,hq,nM,rfl⟩|rfl|rfl|rfl|rfl|⟨m,a,rfl,_,_⟩<;>first|(exfalso;exact q0 rfl)|(exfalso;revert q1;decide)|(exfalso;exact absurd q1 (by show ¬(5:Nat)=1;omega))|skip
  exact lI _ fS
 rcases kx fS with⟨q2,fS⟩|⟨q2,fS⟩
 ·rcases dh with⟨q,md,hq,nM,rfl⟩|rfl|rfl|rfl|rfl|⟨m,a,rfl,_,_⟩<;>first|(exfalso;exact q0 rfl)|(exfalso;exact q1 rfl)|(exfalso;revert q2;decide)|(exfalso;exact absurd q2 (by show ¬(5:Nat)=2;omega))|skip
  exact lI _ fS
 rcases kx fS with⟨q3,fS⟩|⟨q3,fS⟩
 ·rcases dh with⟨q,md,hq,nM,rfl⟩|rfl|rfl|rfl|rfl|⟨m,a,rfl,_,_⟩<;>first|(exfalso;exact q0 rfl)|(exfalso;exact q1 rfl)|(exfalso;exact q2 rfl)|(exfalso;revert q3;decide)|(exfalso;exact absurd q3 (by show ¬(5:Nat)=3;omega))|skip
  exact lI _ fS
 rcases kx fS with⟨q4,fS⟩|⟨q4,fS⟩
 ·rcases dh with⟨q,md,hq,nM,rfl⟩|rfl|rfl|rfl|rfl|⟨m,a,rfl,_,_⟩<;>first|(exfalso;exact q0 rfl)|(exfalso;exact q1 rfl)|(exfalso;exact q2 rfl)|(exfalso;exact q3 rfl)|(exfalso;revert q4;decide)|(exfalso;exact absurd q4 (by show ¬(5:Nat)=4;omega))|skip
  exact lI _ fS
 ·rcases dh with⟨q,md,hq,nM,rfl⟩|rfl|rfl|rfl|rfl|⟨m,a,rfl,ha,_⟩<;>first|(exfalso;exact q0 rfl)|(exfalso;exact q1 rfl)|(exfalso;exact q2 rfl)|(exfalso;exact q3 rfl)|(exfalso;exact q4 rfl)|skip
  have hR:=s.len;have hm:=(bR.1 ha).1;exact eY X gQ.1 cO ci eF (fY (p:=22) (d:=m) dm (by omega)) rv fS
end
def chkF(m:Nat)(f:Bool):List AV->Bool:=fun args=>match args with
 |[.ag l,.b f']=>bc (cH l [.p 30 0,gA m]) (bc f f' (bc f' false true)) false
 |_=>false
theorem Xj(args:List AV)(h:chkF m f args=true):args=[.ag [.p 30 0,gA m],.b f]:=by
 unfold chkF at h;split at h<;>try (cases h;done)
 rename_i l f';obtain⟨h1,h2⟩:=aa h;rw[bb h1];cases f<;>cases f'<;>first|rfl|cases h2
def K8(g' g:FuncId)(f:Bool):Bool:=(List.range 5).all fun m=>wT g' g m (chkF m f)
theorem Pj(kQ:∀k md,ok k md=true->k<=255∧md<=255)(h:wi g (.bool f) ok)(hk:K8 g' g f=true):iN g' ok:=fun l h8=>by
 obtain⟨T,hg,hT⟩:=h l h8;refine⟨T,hg,fun {w bp ba cap ab R A S} s=>?_⟩;obtain⟨m,n,c,m5,ho,hh,jg,nQ,iR⟩:=s.Ds (k:=0) (q:=[]) (nzQ _) (by decide) ox;have hm:=Aad.1 hk m (List.mem_range.2 m5);have low:=s.lowW n c (ev R T);refine s.wrap kQ hg (ex:=[.ag [.p 30 0,gA m],.b f]) (n:=n) (c:=c) ?_ Xj (ARGS:=#[.agg #[.pointer (some ⟨bp,0,none⟩),S],.bool f]) ?_ jg (fun s=>hT s) hm
 ·show bc (F0 [.p 30 0,gA m]) (bc (pZ (.b f)) true false) false=true
  show bc (bc (pZ (.p 30 0)) (bc (pZ (gA m)) true false) false) (bc (pZ (.b f)) true false) false=true;rw[Bu m m5];rfl
 ·exact ad (by rw[Rv];exact⟨[.pointer (some ⟨bp,0,none⟩),S],rfl,ad (by rw[Rv];exact⟨⟨bp,0,0⟩,rfl,rfl⟩) (ad (jg.mono low) aF)⟩) (ad (by rw[Rv]) aF)
theorem w98:K8 98 217 true=true:=by kernel_rfl
theorem w99:K8 99 217 false=true:=by kernel_rfl
theorem w91:K8 91 213 true=true:=by kernel_rfl
theorem w102:K8 102 213 false=true:=by kernel_rfl
theorem run98:iN 98 ud:=Pj mn (SQ true) w98
theorem run99:iN 99 ud:=Pj mn (SQ false) w99
theorem run91:iN 91 nR:=Pj oP W5 w91
theorem run102:iN 102 nR:=Pj oP run213 w102
end
end Go.Proofs.YtngagklmbbogiaaGreatDoor.Ob
