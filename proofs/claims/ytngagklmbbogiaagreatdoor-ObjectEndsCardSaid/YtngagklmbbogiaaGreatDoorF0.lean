/- ObjectEnds: what is given, opened. No condition. -/
import Derived.Test.YtngagklmbbogiaaGreatDoorE7
import Derived.WideShapes
import Derived.Lib.Hide
import Derived.HandedShaped
import Derived.Deep.Slices
set_option linter.all false
namespace Go.Proofs.YtngagklmbbogiaaGreatDoor.Ob
open Go.ChangeShapes Go.WideShapes Go.ChangeAt Go.RowKit
set_option maxRecDepth 100000
noncomputable section
variable{a:Addr}{cs:List Value}{cap fuel len n:Nat}{e:TypeId}{V:Value}{W:World}
def UX:List TypeDesc:=[.int .u8,.float .f64,.string,.int .i64]
def LL:List TypeDesc:=[.string,.int .i64]
theorem PS(h:Vx.uc Vx.uR UX cs):∃(c:Int)(x:Nat)(s:ByteArray)(r:Int),cs=[.int .u8 c,.float .f64 x,.string s,.int .i64 r]∧(0<=c∧c<=255)∧x<18446744073709551616∧(s.size:Int)<=9223372036854775807∧(-9223372036854775808<=r∧r<=9223372036854775807):=by
 obtain⟨v0,cs1,e0,h0,k1⟩:=Vx.mR h;obtain⟨v1,cs2,e1,h1,k2⟩:=Vx.mR k1;obtain⟨v2,cs3,e2,h2,k3⟩:=Vx.mR k2;obtain⟨v3,cs4,e3,h3,k4⟩:=Vx.mR k3;have e4:cs4=[]:=by cases cs4 with|nil=>rfl|cons=>exact k4.elim
 obtain⟨c,rfl,w0⟩:=h0;obtain⟨x,rfl,w1⟩:=h1;obtain⟨s,rfl,w2⟩:=h2;obtain⟨r,rfl,w3⟩:=h3;exact⟨c,x,s,r,by rw[e0,e1,e2,e3,e4],Vx.kv w0,Vx.AY w1,by have:s.size<=9223372036854775807:=w2;omega,Vx.kv w3⟩
theorem BV(h:Vx.uc Vx.uR LL cs):∃(s:ByteArray)(r:Int),cs=[.string s,.int .i64 r]∧(s.size:Int)<=9223372036854775807∧(-9223372036854775808<=r∧r<=9223372036854775807):=by
 obtain⟨v0,cs1,e0,h0,k1⟩:=Vx.mR h;obtain⟨v1,cs2,e1,h1,k2⟩:=Vx.mR k1;have e2:cs2=[]:=by cases cs2 with|nil=>rfl|cons=>exact k2.elim
 obtain⟨s,rfl,w0⟩:=h0;obtain⟨r,rfl,w1⟩:=h1;exact⟨s,r,by rw[e0,e1,e2],by have:s.size<=9223372036854775807:=w0;omega,Vx.kv w1⟩
theorem UY{P:Program}{fits:TypeId->Bool}{count off:Nat}:∀{d:Nat},rowAt P fits d e count off n=true->off<=count*P.cellsOf e
 |0,h=>by cases h
 |d+1,h=>by
  unfold rowAt at h;dsimp only at h;split at h
  ·cases h
  ·rename_i hs
   have hd:=Nat.div_add_mod off (P.cellsOf e);have cL:=Nat.mod_lt off (Nat.pos_of_ne_zero hs);rw[Bool.or_eq_true] at h;rcases h with h|h
   ·simp only[Bool.and_eq_true,beq_iff_eq,decide_eq_true_eq] at h
    obtain⟨⟨h1,h2⟩,_⟩:=h;have:=Nat.mul_le_mul_right (P.cellsOf e) (show off/P.cellsOf e<=count by omega);rw[Nat.mul_comm (P.cellsOf e)] at hd;omega
   ·rw[Bool.and_eq_true,decide_eq_true_eq] at h
    have:=Nat.mul_le_mul_right (P.cellsOf e) (Nat.succ_le_of_lt h.1);rw[Nat.succ_mul] at this;rw[Nat.mul_comm (P.cellsOf e)] at hd;omega
theorem xY{P:Program}{e:TypeId}{count off:Nat}:∀{d:Nat}{u:TypeId}{n:Nat},liesAt P d e count off u n=true->off<=count*P.cellsOf e
 |0,_,_,h=>by cases h
 |d+1,_,_,h=>by
  unfold liesAt at h;rw[Bool.or_eq_true] at h;rcases h with h|h
  ·exact UY h
  ·split at h
   ·exact xY h
   ·cases h
section
variable{P:Program}{W:World}{b0:Nat}{t:TypeId}{v:Value}
theorem IY(hu:P.underlying t=some (.slice e))(h:Cell.okWide P W .any b0 t (.slice (some a) len cap)):len<=cap∧(cap:Int)<=IntKind.i64.max∧a.spot=none∧∃arr el fr,W.heap[a.block]? =some (.cells arr el fr)∧a.off<=arr.size:=by
 unfold Cell.okWide at h;rw[hu] at h;dsimp only at h;unfold Cell.ok at h;rw[hu] at h;obtain⟨h1,h2,_,h3,row,cells,h4,h5⟩:=h;refine⟨h1,h2,h3,?_⟩;unfold World.shape? at h4;cases hb:W.heap[a.block]? with
 |none=>rw[hb] at h4;cases h4
 |some o=>
  rw[hb] at h4;cases o<;>try (cases h4;done)
  cases h4
  have h6:=xY h5;exact⟨_,_,_,rfl,Nat.le_trans h6 (Nat.div_mul_le_self _ _)⟩
end
theorem N2(h:W.cell? a=some V):∃arr el fr,W.heap[a.block]? =some (.cells arr el fr)∧arr[a.off]? =some V:=by
 unfold World.cell? at h;split at h
 ·rename_i c el fr hb
  split at h
  ·cases h
  ·exact⟨c,el,fr,hb,h⟩
 ·cases h
theorem zy(n:Nat):(a.add n).off=a.off+n∧(a.add n).block=a.block:=by
 unfold Addr.add;by_cases e:n=0
 ·rw[if_pos e];exact⟨by omega,rfl⟩
 ·rw[if_neg e];exact⟨rfl,rfl⟩
theorem PT(h:W.cell? a=some V):a.spot=none:=by
 unfold World.cell? at h;split at h
 ·split at h
  ·cases h
  ·rename_i hs
   cases e:a.spot with
   |none=>rfl
   |some s=>rw[e] at hs;exact absurd rfl hs
 ·cases h
theorem table(h:W.ShapedOpen Tryz.prog):∃(arr:Array Value)(fr:Nat×Nat)(zs:List Int),W.heap[2]? =some (.cells arr 265 fr)∧arr.toList.take 20=zs.map (Value.int .u64)∧zs.length=20∧(∀z∈zs,0<=z∧z<=18446744073709551615)∧arr.size=20:=by
 have e:∃z,((begin Tryz.prog (fun _ _=>0) default).world.heap[2]?).bind Obj.row? =some (z,265)∧z.size=20:=by
  have e1:(match ((begin Tryz.prog (fun _ _=>0) default).world.heap[2]?).bind Obj.row? with|some (z,t)=>Nat.beq z.size 20&&Nat.beq t 265|none=>false)=true:=by kernel_rfl
  cases h0:((begin Tryz.prog (fun _ _=>0) default).world.heap[2]?).bind Obj.row? with
  |none=>rw[h0] at e1;cases e1
  |some p=>
   rw[h0] at e1;obtain⟨z,t⟩:=p;have e1:(Nat.beq z.size 20&&Nat.beq t 265)=true:=e1;rw[Bool.and_eq_true] at e1;exact⟨z,by rw[aN e1.2],aN e1.1⟩
 obtain⟨z,e,hz⟩:=e;obtain⟨cs,hh,hs,hr⟩:=h.1 2 z 265 (gD (by kernel_rfl)) e;obtain⟨ts,hts,_,pM⟩:=hr (by kernel_rfl);have ec:Tryz.prog.cellTypes Tryz.prog.depth 265=some (List.replicate 20 210):=by kernel_rfl
 rw[ec] at hts;cases hts
 have cC:cs.size=20:=by rw[hs,hz]
 have hc:∀i(hi:i<cs.size),∃n:Int,cs[i]=.int .u64 n∧0<=n∧n<=18446744073709551615:=fun i hi=>by
  obtain⟨u,hu,kQ⟩:=pM i cs[i] (by simp[hi]);have:u=210:=by
   have h1:=gq hu;exact(List.mem_replicate.1 h1).2
  subst this;unfold Cell.ok at kQ;rw[Tryz.underlying210] at kQ;cases hv:cs[i]<;>rw[hv] at kQ<;>simp at kQ
  case int k' n=>
   obtain⟨rfl,hn⟩:=kQ;exact⟨n,rfl,hn⟩
 have hl:∀(l:List Value),(∀v∈l,∃n:Int,v=.int .u64 n∧0<=n∧n<=18446744073709551615)->∃zs:List Int,l=zs.map (Value.int .u64)∧∀z∈zs,0<=z∧z<=18446744073709551615:=by
  intro l;induction l with
  |nil=>exact fun _=>⟨[],rfl,fun z hz=>by cases hz⟩
  |cons v l ih=>
   intro hv;obtain⟨n,rfl,hn⟩:=hv v (by simp);obtain⟨zs,rfl,JQ⟩:=ih fun v Al=>hv v (by simp[Al])
   refine⟨n::zs,rfl,fun z hz=>?_⟩;rcases mcQ.1 hz with rfl|hz
   ·exact hn
   ·exact JQ z hz
 obtain⟨zs,JQ,hb⟩:=hl cs.toList fun v hv=>by
  obtain⟨i,hi,rfl⟩:=List.getElem_of_mem hv;exact hc i (by simpa using hi)
 refine⟨cs,_,zs,hh,?_,?_,hb,cC⟩
 ·rw[←JQ,List.take_of_length_le (by simp;omega)]
 ·have:=congrArg List.length JQ
  simp at this;omega
theorem var0(h:W.ShapedOpen Tryz.prog):∃(arr:Array Value)(fr:Nat×Nat),W.heap[0]? =some (.cells arr 4 fr)∧arr.size=1:=by
 have e:∃z,((begin Tryz.prog (fun _ _=>0) default).world.heap[0]?).bind Obj.row? =some (z,4)∧z.size=1:=by
  have e1:(match ((begin Tryz.prog (fun _ _=>0) default).world.heap[0]?).bind Obj.row? with|some (z,t)=>Nat.beq z.size 1&&Nat.beq t 4|none=>false)=true:=by kernel_rfl
  cases h0:((begin Tryz.prog (fun _ _=>0) default).world.heap[0]?).bind Obj.row? with
  |none=>rw[h0] at e1;cases e1
  |some p=>
   rw[h0] at e1;obtain⟨z,t⟩:=p;have e1:(Nat.beq z.size 1&&Nat.beq t 4)=true:=e1;rw[Bool.and_eq_true] at e1;exact⟨z,by rw[aN e1.2],aN e1.1⟩
 obtain⟨z,e,hz⟩:=e;obtain⟨cs,hh,hs,_⟩:=h.1 0 z 4 (gD (by kernel_rfl)) e;exact⟨cs,_,hh,by rw[hs,hz]⟩
def IZ(row n C:Nat):Bool:=(List.range (n+1)).all fun off=> !(liesAt Tryz.prog Tryz.prog.depth row 1 off 36 C)
theorem lieT1:((List.range 21).all (IZ 265 20))=true:=by kernel_rfl
theorem lieT2(k:Nat):IZ 265 20 (k+21)=true:=by kernel_rfl
theorem lieM1:((List.range 2).all (IZ 4 1))=true:=by kernel_rfl
theorem lieM2(k:Nat):IZ 4 1 (k+2)=true:=by kernel_rfl
theorem lieT(C:Nat):IZ 265 20 C=true:=by
 rcases gC C 21 with h|h
 ·exact Aad.1 lieT1 C (List.mem_range.2 h)
 ·obtain⟨k,rfl⟩:∃k,C=k+21:=⟨C-21,by omega⟩
  exact lieT2 k
theorem lieM(C:Nat):IZ 4 1 C=true:=by
 rcases gC C 2 with h|h
 ·exact Aad.1 lieM1 C (List.mem_range.2 h)
 ·obtain⟨k,rfl⟩:∃k,C=k+2:=⟨C-2,by omega⟩
  exact lieM2 k
theorem cellsT:Tryz.prog.cellsOf 265=20:=by kernel_rfl
theorem cellsM:Tryz.prog.cellsOf 4=1:=by kernel_rfl
theorem DN{b0:Nat}(h:Value.okWide Tryz.prog W .any b0 23 (.slice (some a) len cap)){g row:Nat}{arr:Array Value}{fr:Nat×Nat}(hb:W.heap[g]? =some (.cells arr row fr))(hs:arr.size=n)(hc:Tryz.prog.cellsOf row=n)(hn:0<n)
  (no:IZ row n cap=true):a.block≠g:=by
 rintro rfl;unfold IZ at no;unfold Value.okWide at h;rw[Tryz.underlying23] at h;dsimp only at h;unfold Cell.okWide at h;rw[Tryz.underlying23] at h;dsimp only at h;unfold Cell.ok at h;rw[Tryz.underlying23] at h;obtain⟨_,_,_,_,row',cells,h4,h5⟩:=h;unfold World.shape? at h4;rw[hb] at h4;cases h4
 rw[hs,hc,Nat.div_self hn] at h5;have hle:=xY h5;rw[hc,Nat.one_mul] at hle;have:=Aad.1 no a.off (List.mem_range.2 (by omega));rw[h5] at this;cases this
theorem cz5:Tryz.prog.cellsOf 5=1:=by kernel_rfl
theorem cz31:Tryz.prog.cellsOf 31=4:=by kernel_rfl
theorem cz4:Tryz.prog.cellsOf 4=1:=by kernel_rfl
theorem cz33:Tryz.prog.cellsOf 33=16:=by kernel_rfl
theorem cz34:Tryz.prog.cellsOf 34=1:=by kernel_rfl
theorem cz36:Tryz.prog.cellsOf 36=26:=by kernel_rfl
theorem cz38:Tryz.prog.cellsOf 38=2:=by kernel_rfl
theorem cz9:Tryz.prog.cellsOf 9=1:=by kernel_rfl
theorem du{l:List Value}(h:l.length=n+1):∃v l',l=v::l'∧l'.length=n:=by
 cases l with
 |nil=>cases h
 |cons v l=>exact⟨v,l,rfl,by simpa using h⟩
section
variable{H:Type}{enc:TypeId×Value->H}{W:World}{hd:Bool}
theorem FV{k:Nat}(h:W.cells? 0 (a.add (k*n)) n=some cs):∀(i:Nat) V,i<n->cs[i]? =some V->∃arr el fr,W.heap[a.block]? =some (.cells arr el fr)∧arr[a.off+(n*k+i)]? =some V:=fun i V vg hi=>by
 unfold World.cells? at h;rw[if_pos (nzQ _)] at h;have:=mapM_some_get h i i (by rw[List.getElem?_range vg]);rw[hi,Deep.add_add] at this;obtain⟨arr',wP,fr',g1,g2⟩:=N2 this;rw[(zy _).1] at g2;rw[(zy _).2] at g1;rw[Nat.mul_comm k n] at g2;exact⟨arr',wP,fr',g1,g2⟩
theorem PU{K:Value}{x:DataW H×List MemPlace}(h:DataW.trod enc Tryz.prog W 0 (fun _=>true) hd fuel 34 [K]=some x):∃ks:List Ky,ia W K ks∧qT ks∧(ks.length:Int)<=9223372036854775807:=by
 rcases Deep.open_slice Tryz.underlying34 h with⟨h0,_⟩|⟨a,len,cap,m,n,D,Pl,h0,_,P',hcm,hm,_,fo⟩
 ·injection h0 with h0 _
  exact⟨[],.inl (.inl ⟨h0,rfl⟩),fun k hk=>(by cases hk),by decide⟩
 injection h0 with h0 _
 subst h0;rw[if_pos rfl] at hm;subst hm;by_cases hz:m=0
 ·subst hz
  obtain rfl:len=0:=by omega
  exact⟨[],.inr ⟨rfl,a,rfl⟩,fun k hk=>(by cases hk),by decide⟩
 rw[cz38] at fo;have each:∀k,∃ky:Ky,k<m->((ky.1.size:Int)<=9223372036854775807∧-9223372036854775808<=ky.2∧ky.2<=9223372036854775807)∧∃arr el fr,W.heap[a.block]? =some (.cells arr el fr)∧arr[a.off+(2*k+0)]? =some (.string ky.1)∧arr[a.off+(2*k+1)]? =some (.int .i64 ky.2):=fun k=>by
  by_cases hk:k<m
  ·obtain⟨cs,hc,ht⟩:=fo k hk
   obtain⟨s,r,rfl,p1,p2⟩:=BV (Vx.iJ 4 38 LL _ _ _ (by kernel_rfl) ht).1;obtain⟨arr,el,fr,g1,g2⟩:=FV hc 0 _ (by decide) rfl;obtain⟨arr',wP,fr',q1,q2⟩:=FV hc 1 _ (by decide) rfl;rw[g1] at q1;cases q1;exact⟨(s,r),fun _=>⟨⟨p1,p2⟩,arr,el,fr,g1,g2,q2⟩⟩
  ·exact⟨(ByteArray.empty,0),fun h=>absurd h hk⟩
 obtain⟨ky,hky⟩:=Classical.axiomOfChoice each;obtain⟨_,arr,el,fr,hb,YO,_⟩:=hky 0 (by omega);have za:a.spot=none:=by
  obtain⟨cs,hc,ht⟩:=fo 0 (by omega);obtain⟨s,r,rfl,p1,p2⟩:=BV (Vx.iJ 4 38 LL _ _ _ (by kernel_rfl) ht).1;unfold World.cells? at hc;rw[if_pos (nzQ _)] at hc;have:=mapM_some_get hc 0 0 rfl;have e0:(a.add (0*2)).add 0=a:=by unfold Addr.add;rfl
  rw[e0] at this;exact PT this
 have all:∀k,k<m->arr[a.off+2*k]? =some (.string (ky k).1)∧arr[a.off+(2*k+1)]? =some (.int .i64 (ky k).2):=fun k hk=>by
  obtain⟨_,arr',wP,fr',q1,q2,q3⟩:=hky k hk;rw[hb] at q1;cases q1;exact⟨q2,q3⟩
 have hl:((List.range len).map ky).length=len:=by rw[gp,ot]
 have hcm:m<=9223372036854775807:=hcm;refine⟨(List.range len).map ky,.inl (.inr ⟨a.block,a.off,m,arr,el,fr,?_,hb,?_,fun j k hj=>?_⟩),fun k hk=>?_,by rw[hl];omega⟩
 ·rw[hl]
  obtain⟨ab,ao,asp⟩:=a;have:asp=none:=za;subst this;rfl
 ·rw[hl]
  cases len with
  |zero=>have:=(cW.1 YO).1;omega
  |succ q=>have:=(cW.1 (all q (by omega)).2).1;omega
 ·have y8:=(bR.1 hj).1
  rw[hl] at y8;rw[fL,List.getElem?_range y8] at hj;cases hj
  obtain⟨q1,q2⟩:=all j (by omega);exact⟨by rw[Ai,q1];rfl,by rw[Ai,q2];rfl⟩
 ·obtain⟨j,hj,rfl⟩:=bU.1 hk
  exact(hky j (by have:=List.mem_range.1 hj;omega)).1
theorem UZ{x:DataW H×List MemPlace}(h:DataW.trod enc Tryz.prog W 0 (fun _=>true) hd fuel 36 cs=some x):∃a:An,CA W a∧cs=a.o.cells a.K:=by
 obtain⟨xs,n,rfl,ex,hl,hlen,I0⟩:=DataW.trod_struct Tryz.underlying36 h;have hlen:xs.length=8:=hlen;rw[cz36] at hl;obtain⟨c0,l0,e0,hl0⟩:=du hl;obtain⟨c1,l1,e1,hl1⟩:=du hl0;obtain⟨c2,l2,e2,hl2⟩:=du hl1;obtain⟨c3,l3,e3,hl3⟩:=du hl2;obtain⟨c4,l4,e4,hl4⟩:=du hl3;obtain⟨c5,l5,e5,hl5⟩:=du hl4;obtain⟨c6,l6,e6,hl6⟩:=du hl5;obtain⟨c7,l7,e7,hl7⟩:=du hl6;obtain⟨c8,l8,e8,hl8⟩:=du hl7;obtain⟨c9,l9,e9,hl9⟩:=du hl8;obtain⟨c10,l10,Vu,hl10⟩:=du hl9;obtain⟨c11,l11,Jb,hl11⟩:=du hl10;obtain⟨c12,l12,e12,hl12⟩:=du hl11;obtain⟨c13,l13,e13,hl13⟩:=du hl12;obtain⟨c14,l14,Np,hl14⟩:=du hl13;obtain⟨c15,l15,e15,hl15⟩:=du hl14;obtain⟨c16,l16,e16,hl16⟩:=du hl15;obtain⟨c17,l17,e17,hl17⟩:=du hl16;obtain⟨c18,l18,e18,hl18⟩:=du hl17;obtain⟨c19,l19,e19,hl19⟩:=du hl18;obtain⟨c20,l20,Qc,hl20⟩:=du hl19;obtain⟨c21,l21,W1,hl21⟩:=du hl20;obtain⟨c22,l22,e22,hl22⟩:=du hl21;obtain⟨YC,l23,Vq,hl23⟩:=du hl22;obtain⟨YD,l24,e24,hl24⟩:=du hl23;obtain⟨Vy,l25,e25,hl25⟩:=du hl24;have xj:l25=[]:=List.eq_nil_of_length_eq_zero hl25;obtain rfl:cs=[c0,c1,c2,c3,c4,c5,c6,c7,c8,c9,c10,c11,c12,c13,c14,c15,c16,c17,c18,c19,c20,c21,c22,YC,YD,Vy]:=by rw[e0,e1,e2,e3,e4,e5,e6,e7,e8,e9,Vu,Jb,e12,e13,Np,e15,e16,e17,e18,e19,Qc,W1,e22,Vq,e24,e25,xj]
 have f0:=I0 0 _ rfl;rw[cN (show 0<xs.length by omega)] at f0;have f0:DataW.trod enc Tryz.prog W 0 (fun _=>true) hd n 5 [c0]=some (xs[0]'(by omega)):=by
  rw[←f0];show _=DataW.trod enc Tryz.prog W 0 (fun _=>true) hd n 5 (List.take (Tryz.prog.cellsOf 5) [c0,c1,c2,c3,c4,c5,c6,c7,c8,c9,c10,c11,c12,c13,c14,c15,c16,c17,c18,c19,c20,c21,c22,YC,YD,Vy]);rw[cz5];rfl
 have f1:=I0 1 _ rfl;rw[cN (show 1<xs.length by omega)] at f1;have f1:DataW.trod enc Tryz.prog W 0 (fun _=>true) hd n 31 [c1,c2,c3,c4]=some (xs[1]'(by omega)):=by
  rw[←f1];show _=DataW.trod enc Tryz.prog W 0 (fun _=>true) hd n 31 (List.take (Tryz.prog.cellsOf 31) [c1,c2,c3,c4,c5,c6,c7,c8,c9,c10,c11,c12,c13,c14,c15,c16,c17,c18,c19,c20,c21,c22,YC,YD,Vy]);rw[cz31];rfl
 have f2:=I0 2 _ rfl;rw[cN (show 2<xs.length by omega)] at f2;have f2:DataW.trod enc Tryz.prog W 0 (fun _=>true) hd n 4 [c5]=some (xs[2]'(by omega)):=by
  rw[←f2];show _=DataW.trod enc Tryz.prog W 0 (fun _=>true) hd n 4 (List.take (Tryz.prog.cellsOf 4) [c5,c6,c7,c8,c9,c10,c11,c12,c13,c14,c15,c16,c17,c18,c19,c20,c21,c22,YC,YD,Vy]);rw[cz4];rfl
 have f3:=I0 3 _ rfl;rw[cN (show 3<xs.length by omega)] at f3;have f3:DataW.trod enc Tryz.prog W 0 (fun _=>true) hd n 4 [c6]=some (xs[3]'(by omega)):=by
  rw[←f3];show _=DataW.trod enc Tryz.prog W 0 (fun _=>true) hd n 4 (List.take (Tryz.prog.cellsOf 4) [c6,c7,c8,c9,c10,c11,c12,c13,c14,c15,c16,c17,c18,c19,c20,c21,c22,YC,YD,Vy]);rw[cz4];rfl
 have f4:=I0 4 _ rfl;rw[cN (show 4<xs.length by omega)] at f4;have f4:DataW.trod enc Tryz.prog W 0 (fun _=>true) hd n 33 [c7,c8,c9,c10,c11,c12,c13,c14,c15,c16,c17,c18,c19,c20,c21,c22]=some (xs[4]'(by omega)):=by
  rw[←f4];show _=DataW.trod enc Tryz.prog W 0 (fun _=>true) hd n 33 (List.take (Tryz.prog.cellsOf 33) [c7,c8,c9,c10,c11,c12,c13,c14,c15,c16,c17,c18,c19,c20,c21,c22,YC,YD,Vy]);rw[cz33];rfl
 have f5:=I0 5 _ rfl;rw[cN (show 5<xs.length by omega)] at f5;have f5:DataW.trod enc Tryz.prog W 0 (fun _=>true) hd n 34 [YC]=some (xs[5]'(by omega)):=by
  rw[←f5];show _=DataW.trod enc Tryz.prog W 0 (fun _=>true) hd n 34 (List.take (Tryz.prog.cellsOf 34) [YC,YD,Vy]);rw[cz34];rfl
 have f6:=I0 6 _ rfl;rw[cN (show 6<xs.length by omega)] at f6;have f6:DataW.trod enc Tryz.prog W 0 (fun _=>true) hd n 5 [YD]=some (xs[6]'(by omega)):=by
  rw[←f6];show _=DataW.trod enc Tryz.prog W 0 (fun _=>true) hd n 5 (List.take (Tryz.prog.cellsOf 5) [YD,Vy]);rw[cz5];rfl
 have f7:=I0 7 _ rfl;rw[cN (show 7<xs.length by omega)] at f7;have f7:DataW.trod enc Tryz.prog W 0 (fun _=>true) hd n 9 [Vy]=some (xs[7]'(by omega)):=by
  rw[←f7];show _=DataW.trod enc Tryz.prog W 0 (fun _=>true) hd n 9 (List.take (Tryz.prog.cellsOf 9) [Vy]);rw[cz9];rfl
 obtain⟨ks,hk,mS,fc⟩:=PU f5;have st:∀{s:ByteArray},s.size<=maxLen->(s.size:Int)<=9223372036854775807:=fun {s} h=>by have:s.size<=9223372036854775807:=h;omega
 have a0:=(Vx.iJ 4 5 [.int .u8] _ _ _ (by kernel_rfl) f0).1;obtain⟨x0,q0,w0⟩:=a0.1;have a1:=(Vx.iJ 4 31 [.int .u8,.float .f64,.string,.int .i64] _ _ _ (by kernel_rfl) f1).1;obtain⟨x1,q1,w1⟩:=a1.1;obtain⟨x2,q2,w2⟩:=a1.2.1;obtain⟨x3,q3,w3⟩:=a1.2.2.1;obtain⟨x4,q4,w4⟩:=a1.2.2.2.1;have a2:=(Vx.iJ 4 4 [.bool] _ _ _ (by kernel_rfl) f2).1;obtain⟨x5,q5⟩:=a2.1;have a3:=(Vx.iJ 4 4 [.bool] _ _ _ (by kernel_rfl) f3).1;obtain⟨x6,q6⟩:=a3.1;have a4:=(Vx.iJ 4 33 [.int .u8,.int .u8,.float .f64,.string,.int .i64,.int .u8,.float .f64,.string,.int .i64,.int .u8,.float .f64,.string,.int .i64,.bool,.bool,.bool] _ _ _ (by kernel_rfl) f4).1;obtain⟨x7,q7,w7⟩:=a4.1;obtain⟨x8,q8,w8⟩:=a4.2.1;obtain⟨x9,q9,w9⟩:=a4.2.2.1;obtain⟨x10,q10,w10⟩:=a4.2.2.2.1;obtain⟨x11,q11,w11⟩:=a4.2.2.2.2.1;obtain⟨x12,O7,w12⟩:=a4.2.2.2.2.2.1;obtain⟨x13,q13,w13⟩:=a4.2.2.2.2.2.2.1;obtain⟨x14,q14,w14⟩:=a4.2.2.2.2.2.2.2.1;obtain⟨x15,q15,w15⟩:=a4.2.2.2.2.2.2.2.2.1;obtain⟨x16,q16,w16⟩:=a4.2.2.2.2.2.2.2.2.2.1;obtain⟨x17,q17,w17⟩:=a4.2.2.2.2.2.2.2.2.2.2.1;obtain⟨x18,q18,w18⟩:=a4.2.2.2.2.2.2.2.2.2.2.2.1;obtain⟨x19,q19,w19⟩:=a4.2.2.2.2.2.2.2.2.2.2.2.2.1;obtain⟨x20,q20⟩:=a4.2.2.2.2.2.2.2.2.2.2.2.2.2.1;obtain⟨x21,q21⟩:=a4.2.2.2.2.2.2.2.2.2.2.2.2.2.2.1;obtain⟨x22,q22⟩:=a4.2.2.2.2.2.2.2.2.2.2.2.2.2.2.2.1;have a6:=(Vx.iJ 4 5 [.int .u8] _ _ _ (by kernel_rfl) f6).1;obtain⟨x24,q24,w24⟩:=a6.1;have a7:=(Vx.iJ 4 9 [.string] _ _ _ (by kernel_rfl) f7).1;obtain⟨x25,q25,w25⟩:=a7.1;refine⟨⟨⟨x0,⟨x1,x2,x3,x4⟩,x5,x6,x7,⟨x8,x9,x10,x11⟩,⟨x12,x13,x14,x15⟩,⟨x16,x17,x18,x19⟩,x20,x21,x22,x24,x25⟩,ks,YC⟩,⟨⟨Vx.kv w0,⟨Vx.kv w1,Vx.AY w2,st w3,Vx.kv w4⟩,Vx.kv w7,⟨Vx.kv w8,Vx.AY w9,st w10,Vx.kv w11⟩,⟨Vx.kv w12,Vx.AY w13,st w14,Vx.kv w15⟩,⟨Vx.kv w16,Vx.AY w17,st w18,Vx.kv w19⟩,Vx.kv w24,st w25⟩,hk,mS,fc⟩,?_⟩;rw[q0,q1,q2,q3,q4,q5,q6,q7,q8,q9,q10,q11,O7,q13,q14,q15,q16,q17,q18,q19,q20,q21,q22,q24,q25];rfl
end
end
end Go.Proofs.YtngagklmbbogiaaGreatDoor.Ob
