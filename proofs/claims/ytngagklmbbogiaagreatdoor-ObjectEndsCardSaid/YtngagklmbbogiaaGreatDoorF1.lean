/- The law ObjectEnds of bailifflaw21 holds: the given function answers true for any name, arguments and answers, and turns nothing. No condition. -/
import Derived.Test.YtngagklmbbogiaaGreatDoorCards
import Derived.Test.YtngagklmbbogiaaGreatDoorTie
import Derived.Test.YtngagklmbbogiaaGreatDoorF0
import Derived.Deep.DeepHandedRow
import Derived.Lib.LaidTab
set_option linter.all false
namespace Go.Proofs.YtngagklmbbogiaaGreatDoor.Ob
open Go.ChangeShapes Go.WideShapes Go.ChangeAt Go.RowKit
set_option maxRecDepth 100000
variable{hd:Bool}{b0:Nat}{l:Value}{W:World}
def RowV(W:World)(n:Nat)(kinds:List TypeDesc)(l:Value):Prop:=l=.slice none 0 0∨∃(L:Vx.aZ)(len cap:Nat)(arr:Array Value)(el:TypeId)(fr:Nat×Nat),l=.slice (some ⟨L.aH,L.base,none⟩) len cap∧len<=9223372036854775807∧cap<=9223372036854775807∧
 W.heap[L.aH]? =some (.cells arr el fr)∧L.base+n*len<=arr.size∧∀k,k<len->∃cs,Vx.uc Vx.uR kinds cs∧∀(i:Nat)(V:Value),cs[i]? =some V->arr.getD (L.base+(n*k+i)) undef=V
section
variable{H:Type}{enc:TypeId×Value->H}
theorem U0{sp:Nat->Bool}{fuel n:Nat}{tS tE:TypeId}{kinds:List TypeDesc}{x:DataW H×List MemPlace}(hu:Tryz.prog.underlying tS=some (.slice tE))(hn:Tryz.prog.cellsOf tE=n)(hpos:0<n)(kz:kinds.length=n)(jI:Vx.MH Tryz.prog 4 tE=some kinds)
  (hs:∃a len cap,l=.slice a len cap) (hv:Cell.okWide Tryz.prog W .any b0 tS l) (h:DataW.trod enc Tryz.prog W 0 sp hd fuel tS [l]=some x):RowV W n kinds l:=by
 rcases Deep.open_slice hu h with⟨h0,_⟩|⟨a,len,cap,q,m,D,Pl,h0,_,P',_,hq,_,fo⟩
 ·injection h0 with h0 _
  exact .inl h0
 injection h0 with h0 _
 subst h0;obtain⟨_,wQ,U5,arr,el,fr,hb,JR⟩:=IY hu hv;have hlq:len<=q:=by rw[hq];split<;>omega
 have each:∀k,k<len->∃cs,Vx.uc Vx.uR kinds cs∧a.off+n*(k+1)<=arr.size∧∀(i:Nat)(V:Value),cs[i]? =some V->arr.getD (a.off+(n*k+i)) undef=V:=fun k hk=>by
  obtain⟨cs,hc,ht⟩:=fo k (by omega);obtain⟨dz,_⟩:=Vx.iJ 4 tE kinds _ _ _ jI ht;have hlen:cs.length=n:=by rw[←kz];exact dz.length.symm
  rw[hn] at hc;unfold World.cells? at hc;rw[if_pos (nzQ _)] at hc;have cell:∀(i:Nat) V,cs[i]? =some V->arr[a.off+(n*k+i)]? =some V:=fun i V hi=>by
   have vg:i<n:=by have:=(bR.1 hi).1;omega
   have:=mapM_some_get hc i i (by rw[List.getElem?_range vg]);rw[hi,Deep.add_add] at this;obtain⟨arr',wP,fr',g1,g2⟩:=N2 this;rw[(zy _).1] at g2;rw[(zy _).2,hb] at g1;cases g1
   rw[Nat.mul_comm k n] at g2;exact g2
  refine⟨cs,dz,?_,fun i V hi=>?_⟩
  ·obtain⟨V,hV⟩:∃V,cs[n-1]? =some V:=⟨cs[n-1]'(by omega),cN (by omega)⟩
   have:=(cW.1 (cell _ V hV)).1;rw[Nat.mul_succ];omega
  ·rw[Ai,cell i V hi];rfl
 have hc:cap<=9223372036854775807:=by
  have e:IntKind.i64.max=9223372036854775807:=rfl;omega
 obtain⟨ab,ao,asp⟩:=a;have:asp=none:=U5;subst this;refine .inr ⟨⟨ab,ao,0⟩,len,cap,arr,el,fr,rfl,by omega,hc,hb,?_,fun k hk=>?_⟩
 ·cases len with
  |zero=>exact JR
  |succ m=>exact(each m (Nat.lt_succ_self _)).choose_spec.2.1
 ·obtain⟨cs,h1,_,h3⟩:=each k hk
  exact⟨cs,h1,h3⟩
theorem PW{sp:Nat->Bool}{d:DataW H}{p:List MemPlace}(hv:Value.okWide Tryz.prog W .any b0 22 l)(h:DataW.Trod enc Tryz.prog W 0 sp hd 22 l d p):∃lv:List V4,eK W l lv∧(∀v∈lv,v.ok)∧lv.length<=9223372036854775807:=by
 have hs:=okWide_slice Tryz.underlying22 hv;obtain⟨fuel,hf⟩:=h;obtain⟨a0,YE,YF,rfl⟩:=hs;unfold Value.okWide at hv;rw[Tryz.underlying22] at hv;have hr:RowV W 4 UX (.slice a0 YE YF):=U0 Tryz.underlying22 (by kernel_rfl) (by decide) rfl (by kernel_rfl) ⟨_,_,_,rfl⟩ hv hf;rcases hr with hr|⟨L,len,cap,arr,el,fr,hr,h1,h2,h3,h4,h5⟩
 ·exact⟨[],.inl ⟨hr,rfl⟩,fun v hv=>(by cases hv),by decide⟩
 rw[hr];have each:∀k,∃v:V4,k<len->v.ok∧∀(i:Nat) V,v.cells[i]? =some V->arr.getD (L.base+(4*k+i)) undef=V:=fun k=>by
  by_cases hk:k<len
  ·obtain⟨cs,hc,hat⟩:=h5 k hk
   obtain⟨c,x,s,r,rfl,p1,p2,p3,p4⟩:=PS hc;exact⟨⟨c,x,s,r⟩,fun _=>⟨⟨p1,p2,p3,p4⟩,hat⟩⟩
  ·exact⟨z4,fun h=>absurd h hk⟩
 obtain⟨a,ha⟩:=Classical.axiomOfChoice each;have hl:((List.range len).map a).length=len:=by rw[gp,ot]
 refine⟨(List.range len).map a,.inr ⟨L.aH,L.base,cap,arr,el,fr,by rw[hl],h3,by rw[hl];exact h4,fun j v hj i hi=>?_⟩,fun v hv=>?_,by rw[hl];exact h1⟩
 ·have y8:=(bR.1 hj).1
  rw[hl] at y8;rw[fL,List.getElem?_range y8] at hj;cases hj
  obtain⟨V,hV⟩:∃V,(a j).cells[i]? =some V:=⟨(a j).cells[i]'hi,cN hi⟩;have:=(ha j y8).2 i V hV;rw[cB,hV,←this,Nat.add_assoc];rfl
 ·obtain⟨j,hj,rfl⟩:=bU.1 hv
  exact(ha j (List.mem_range.1 hj)).1
theorem PX{d:DataW H}{p:List MemPlace}(hsh:W.ShapedOpen Tryz.prog)(hv:Value.okWide Tryz.prog W .any b0 23 l)(h:DataW.Trod enc Tryz.prog W 0 (fun _=>true) hd 23 l d p):∃R:List An,oR W l R∧(∀a∈R,CA W a)∧R.length<=9223372036854775807:=by
 obtain⟨a0,YE,YF,rfl⟩:=okWide_slice Tryz.underlying23 hv;obtain⟨fuel,hf⟩:=h;rcases Deep.open_slice Tryz.underlying23 hf with⟨h0,_⟩|⟨a,len,cap,m,n,D,Pl,h0,_,P',hcm,hm,_,fo⟩
 ·have h0:([.slice a0 YE YF]:List Value)=[.slice none 0 0]:=h0
  injection h0 with h0 _
  exact⟨[],.inl ⟨h0,rfl⟩,fun a ha=>(by cases ha),by decide⟩
 have h0:([.slice a0 YE YF]:List Value)=[.slice (some a) len cap]:=h0;injection h0 with h0 _
 rw[h0] at hv⊢;rw[if_pos rfl] at hm;subst hm;have hv2:=hv;unfold Value.okWide at hv2;rw[Tryz.underlying23] at hv2;obtain⟨_,wQ,U5,arr,el,fr,hb,JR⟩:=IY Tryz.underlying23 hv2;obtain⟨arrT,frT,zs,t1,t2,t3,t4,t5⟩:=table hsh;obtain⟨arrM,frM,m1,m2⟩:=var0 hsh;have n2:a.block≠2:=DN hv t1 t5 cellsT (by decide) (lieT m);have n0:a.block≠0:=DN hv m1 m2 cellsM (by decide) (lieM m);rw[cz36] at fo;have each:∀k,∃x:An,k<len->CA W x∧a.off+26*(k+1)<=arr.size∧∀c,c<26->arr.getD (a.off+(26*k+c)) undef=(x.o.cells x.K).getD c undef:=fun k=>by
  by_cases hk:k<len
  ·obtain⟨cs,hc,ht⟩:=fo k (by omega)
   obtain⟨x,gx,rfl⟩:=UZ ht;have cell:∀i V,(x.o.cells x.K)[i]? =some V->arr[a.off+(26*k+i)]? =some V:=fun i V hi=>by
    have I9:i<26:=(bR.1 hi).1;obtain⟨arr',wP,fr',q1,q2⟩:=FV hc i V I9 hi;rw[hb] at q1;cases q1;exact q2
   refine⟨x,fun _=>⟨gx,?_,fun c hc=>?_⟩⟩
   ·have:=(cW.1 (cell 25 _ (cN (show 25<(x.o.cells x.K).length from(by decide:25<26))))).1
    omega
   ·obtain⟨V,hV⟩:∃V,(x.o.cells x.K)[c]? =some V:=⟨(x.o.cells x.K)[c]'hc,cN hc⟩
    rw[cB,hV,Ai,cell c V hV]
  ·exact⟨⟨zO,[],bO⟩,fun h=>absurd h hk⟩
 obtain⟨x,hx⟩:=Classical.axiomOfChoice each;have hl:((List.range len).map x).length=len:=by rw[gp,ot]
 have hcm:m<=9223372036854775807:=hcm;refine⟨(List.range len).map x,.inr ⟨a.block,a.off,m,arr,el,fr,?_,hb,?_,n2,n0,fun j y hj c hc=>?_⟩,fun y hy=>?_,by rw[hl];omega⟩
 ·rw[hl]
  obtain⟨ab,ao,asp⟩:=a;have:asp=none:=U5;subst this;rfl
 ·rw[hl]
  cases len with
  |zero=>exact JR
  |succ q=>exact(hx q (Nat.lt_succ_self _)).2.1
 ·have y8:=(bR.1 hj).1
  rw[hl] at y8;rw[fL,List.getElem?_range y8] at hj;cases hj
  rw[Nat.add_assoc];exact(hx j y8).2.2 c hc
 ·obtain⟨j,hj,rfl⟩:=bU.1 hy
  exact(hx j (List.mem_range.1 hj)).1
end
theorem YJ(hL:laidMetH Tryz.prog Rows.objectEndsRow.laid W):fq W:=by
 have hL:laidMet Tryz.prog Rows.objectEndsRow.laid W:=hL;obtain⟨ps,⟨_,_,_,_,_,_,_,_,_,_,⟨_,_,_,_,_,_,_,_,_,_,⟨g,t,cs,fuel,p,q,hg,CU,hvar,hd,_⟩,_⟩,_⟩,_⟩:=hL;obtain rfl:g=2:=mL (hg.symm.trans (by kernel_rfl));obtain rfl:t=265:=mL (CU.symm.trans (by kernel_rfl));rw[show Rows.laid_internal_strconv_uint64pow10 (H:=Unit)=Lib.tabData .u64 Lib.pow10Tab from by kernel_rfl] at hd;have hc:=Lib.cells_of_tab Tryz.underlying265 Tryz.underlying210 (by kernel_rfl) (by kernel_rfl) hd;unfold World.var? at hvar;rw[hg] at hvar;have hvar:(match W.heap[(2:Nat)]? with|some (Obj.cells cs _ _)=>some cs|_=>none)=some cs:=hvar;split at hvar<;>cases hvar
 rename_i el fr hb;exact⟨el,fr,by rw[hb,←hc]⟩
theorem own:ownKnob Tryz.prog.godebug=none:=by kernel_rfl
set_option maxRecDepth 100000 in
theorem U6(H:Type)(enc:TypeId×Value->H)(W:World)(base:Nat)(args:Array Value)(ds gs:List (DataW H))(before:List MemPlace)
  (hval0:∀(j:Nat) t v,Tryz.f4.params[j]? =some t->args[j]? =some v->Value.okWide Tryz.prog W .any base t v)
  (hW:DataW.Whole enc Tryz.prog Tryz.f4.params.toList Rows.objectEndsSpec.vars false W args.toList ds gs before) (hL:laidMetH Tryz.prog Rows.objectEndsRow.laid W) (hsh:W.ShapedOpen Tryz.prog):
  Calls Tryz.prog 4 args W fun e W'=>∃v,e=.returned v∧Rows.objectEndsSpec.post enc Tryz.prog Tryz.f4 false true false false W args v W':=by
 have PY:∀(j:Nat) t v,Tryz.f4.params[j]? =some t->args[j]? =some v->Value.okWide Tryz.prog W .any base t v:=hval0;have hW':=hW;obtain⟨p,q,Vr,hV,rfl,hfz,Zb⟩:=hW;have hA:DataW.TrodAll enc Tryz.prog W 0 (fun _=>true) true Tryz.f4.params.toList args.toList ds p:=Vr;rw[Tryz.params4] at hA PY;obtain⟨v0,r0,d0,s0,p0,q0,e0,rfl,rfl,h0,hA⟩:=trodAll_cons hA;obtain⟨v1,r1,d1,s1,p1,q1,rfl,rfl,rfl,h1,hA⟩:=trodAll_cons hA;obtain⟨v2,r2,d2,s2,p2,q2,rfl,rfl,rfl,h2,hA⟩:=trodAll_cons hA;obtain⟨rfl,rfl,rfl⟩:=trodAll_nil hA;obtain rfl:args=#[v0,v1,v2]:=by apply Array.ext';exact e0
 obtain⟨S,rfl,rfl,rfl,hS⟩:=_root_.Go.ChangeMaps.open_string Tryz.underlying9 (PY 0 9 _ rfl rfl) h0;obtain⟨lv,ha,qf,hA⟩:=PW (PY 1 22 _ rfl rfl) h1;obtain⟨R,ho,xX,hR⟩:=PX hsh (PY 2 23 _ rfl rfl) h2;obtain⟨rfl,rfl⟩:=trodVars_none hV;simp only[List.append_nil,List.nil_append] at hW';have cL:∀y∈p1++p2,y.block<W.heap.size:=fun y hy=>hW'.lt y hy
 have hw:=YB (NM:=S) (by have:S.size<=9223372036854775807:=hS;omega) ha qf hA ho hR (YJ hL) xX;refine hw.mono fun e W'⟨he,hb⟩=>?_
 have hg:Below W.heap.size W W':={size:=hb.size,block:=fun k hk=>hb.same k hk fun h=>h,os:=hb.os,output:=hb.output,tape:=hb.tape};subst he;have U7:laidOutB Tryz.prog=true:=by kernel_rfl
 have hr9:Tryz.prog.readableRec 9=true:=by kernel_rfl
 have hr22:Tryz.prog.readableRec 22=true:=by kernel_rfl
 have hr23:Tryz.prog.readableRec 23=true:=by kernel_rfl
 have hrow9:9<Tryz.prog.types.size:=gD (by kernel_rfl);have hrow22:22<Tryz.prog.types.size:=gD (by kernel_rfl);have hrow23:23<Tryz.prog.types.size:=gD (by kernel_rfl)
 exact⟨_,rfl,Vx.Kq (pa:=p1++p2) (pv:=[]) hW' (fun _ _ _=>(trodAll_cons_mk (shut_bool Tryz.underlying4 _) trodAll_mk0))
  (fun sp za=>by
   have a2:=trodAll_cons_mk (WideElems.Trod_stays (sp':=sp) U7 hr23 hrow23 h2 (fun y hy=>hg.same (cL y (List.mem_append_right _ hy))) (fun y hy=>za y (List.mem_append_right _ hy))) trodAll_mk0;rw[List.append_nil] at a2;have a1:=trodAll_cons_mk (WideElems.Trod_stays (sp':=sp) U7 hr22 hrow22 h1 (fun y hy=>hg.same (cL y (List.mem_append_left _ hy))) (fun y hy=>za y (List.mem_append_left _ hy))) a2;have a0:=trodAll_cons_mk (WideElems.Trod_stays (sp':=sp) (W':=W') U7 hr9 hrow9 h0 (fun _ hx=>by cases hx) (fun _ hx=>by cases hx)) a1;rw[List.nil_append] at a0;exact a0)
  (fun _ _=>rfl) (List.append_nil _).symm hg (ok_one (by kernel_rfl) rfl (okWide_bool_mk Tryz.underlying4 _))⟩
def LM:DataW Unit->List Value
 |.lit (.int k n)=>[.int k n]
 |_=>[]
def cells1:DataW Unit->List Value
 |.agg ps=>ps.flatMap LM
 |d=>LM d
def LQ:DataW Unit->List Value
 |.agg ps=>ps.flatMap cells1
 |d=>LM d
def DO:Array Value:=#[.string ByteArray.empty,.slice none 0 0,.slice none 0 0]
noncomputable def xZ(os:Os):World:=
 {World.holding Tryz.prog os ⟨#[],DO,[]⟩ with heap:=((((World.holding Tryz.prog os ⟨#[],DO,[]⟩).heap.modify 3 fun|.cells _ t fr=>.cells (LQ (Rows.laid_math_bits_deBruijn32tab (H:=Unit))).toArray t fr|o=>o).modify 4 fun|.cells _ t fr=>.cells (LQ (Rows.laid_math_bits_deBruijn64tab (H:=Unit))).toArray t fr|o=>o).modify 2 fun|.cells _ t fr=>.cells (LQ (Rows.laid_internal_strconv_uint64pow10 (H:=Unit))).toArray t fr|o=>o)}
theorem U8(os:Os):laidMet Tryz.prog Rows.objectEndsRow.laid ((xZ os).forCall (fun _ _=>0) ⟨#[],DO,[]⟩).memory:=
 laidMet_of_run' 8 (by kernel_rfl) (by kernel_rfl)
theorem reads(os:Os){H:Type}(enc:TypeId×Value->H):∃ds places,DataW.whole enc Tryz.prog ((xZ os).forCall (fun _ _=>0) ⟨#[],DO,[]⟩).memory Tryz.f4.params.toList Rows.objectEndsSpec.vars false DO.toList 8=some (ds,[],places):=
 ⟨[.lit (.string []),.nil,.nil],[],by kernel_rfl⟩
set_option maxRecDepth 100000 in
theorem lifted(os:Os)(started:os.Started)(H:Type)(enc:TypeId×Value->H)(F:Stop.Interp):
  ReturnsInHanded {} Tryz.checked os 4 .any ((OpenSpec.ofChange Rows.objectEndsSpec).preRow enc Tryz.prog Tryz.f4 Rows.objectEndsRow.domain false Rows.objectEndsRow.laid) (((OpenSpec.ofChange Rows.objectEndsSpec).at F).post enc Tryz.prog Tryz.f4 false true false false):=by
 obtain⟨ds,places,hx⟩:=reads os enc
 refine returnsInHanded_of_row (C:=Tryz.checked) (s:=OpenSpec.ofChange Rows.objectEndsSpec) own started (by kernel_rfl) Tryz.func4
  (witness_row_at (enc:=enc) (C:=Tryz.checked) false (xZ os) DO rfl (by kernel_rfl) (by kernel_rfl) (by kernel_rfl)
   (OpenSpec.preRow_of_cond 8 hx (by kernel_rfl) (fun k hk=>by cases hk) (by kernel_rfl) (U8 os))) ?_
 intro W base args ds gs before PY hW _ _ _ hL hsh _;exact U6 H enc W base args ds gs before PY hW hL hsh
theorem said:Rows.ObjectEndsSaid:=
 OpenClaim.holds_of_cond 4 Tryz.f4 rfl rfl rfl rfl rfl rfl rfl ⟨rfl,rfl,rfl,rfl,rfl⟩ rfl rfl rfl rfl rfl (by kernel_rfl) Tryz.func4 (by kernel_rfl)
  (gD (by kernel_rfl)) (by unfold Func.isWrapper;first|(rw[if_pos (by decide+kernel)];kernel_rfl)|(rw[if_neg (by decide+kernel)];exact⟨rfl,rfl⟩))
  (fun os started H enc _ F=>by rw[OpenClaim.pre_eq_preRow];exact lifted os started H enc F)
theorem plain(f:FuncId)(fn:Func)(hf:Tryz.pinned.checked.prog.funcNamed "bailiff/bailifflaw21.ObjectEnds"=some f)(mP:Tryz.pinned.checked.prog.funcs[f]? =some fn):
  false=Tryz.pinned.checked.prog.looks []∧∀(j:Nat) t,fn.params[j]? =some t->Tryz.pinned.checked.prog.wantsStandIn t=false:=by
 obtain rfl:f=4:=mL ((show Tryz.prog.funcNamed "bailiff/bailifflaw21.ObjectEnds"=some 4 by kernel_rfl).symm.trans hf)|>.symm;obtain rfl:fn=Tryz.f4:=(mL (Tryz.func4.symm.trans mP)).symm;have st9:Tryz.prog.wantsStandIn 9=false:=by kernel_rfl
 have st22:Tryz.prog.wantsStandIn 22=false:=by kernel_rfl
 have st23:Tryz.prog.wantsStandIn 23=false:=by kernel_rfl
 refine⟨by kernel_rfl,fun j t ht=>?_⟩;rw[Tryz.params4] at ht;match j,ht with
 |0,ht=>cases ht;exact st9
 |1,ht=>cases ht;exact st22
 |2,ht=>cases ht;exact st23
 |j+3,ht=>simp at ht
end Go.Proofs.YtngagklmbbogiaaGreatDoor.Ob
namespace Go.Proofs.YtngagklmbbogiaaGreatDoor.objectEnds
theorem proved:Rows.ObjectEndsCardSaid:=
 Claim7.holds_tied_plain_at .later [] _ _ _ _ Ob.said (fun _ h=>by cases h) (by kernel_rfl) (fun _ h=>by cases h) objectEnds_row_tie rfl ⟨rfl,rfl⟩ (by kernel_rfl) rfl Ob.plain (by kernel_rfl)
end Go.Proofs.YtngagklmbbogiaaGreatDoor.objectEnds
