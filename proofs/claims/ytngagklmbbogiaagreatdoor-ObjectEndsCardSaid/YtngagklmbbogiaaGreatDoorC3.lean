/- getOwnPropertyDescriptor against its tree. No condition. -/
import Derived.Test.YtngagklmbbogiaaGreatDoorC2
set_option linter.all false
namespace Go.Proofs.YtngagklmbbogiaaGreatDoor.Ob
open Go Go.RowKit Vx
set_option maxRecDepth 100000
variable{g:FuncId}{ok:Nat->Nat->Bool}{fm:aB}{cc:aO}
def pB(ok:Nat->Nat->Bool)(g:Nat->Nat->Bool):Nat->Tr->Bool
 |j,.ite _ m _ _ t f=>Nat.blt m j&&(pB ok g j t&&pB ok g j f)
 |j,.more m _ t f=>Nat.blt m j&&(pB ok g j t&&pB ok g j f)
 |j,.sym m _ t f=>Nat.blt m j&&(pB ok g j t&&pB ok g j f)
 |j,.ask k md m t=>Nat.beq m j&&(ok k md&&pB ok g (j+1) t)
 |_,.done=>true
 |_,.fail er l x=>kB er l x
 |j,.go d=>g j d
theorem jy{ok:Nat->Nat->Bool}{g:Nat->Nat->Bool}{G:Nat->Nat->Prop}(hg:∀j d,g j d=true->G j d):∀(T:Tr)(j:Nat),pB ok g j T=true->cf ok G j T
 |.ite _ m _ _ t f,j,h=>by
  simp only[pB,Bool.and_eq_true] at h;exact⟨aU h.1,jy hg t j h.2.1,jy hg f j h.2.2⟩
 |.more m _ t f,j,h=>by
  simp only[pB,Bool.and_eq_true] at h;exact⟨aU h.1,jy hg t j h.2.1,jy hg f j h.2.2⟩
 |.sym m _ t f,j,h=>by
  simp only[pB,Bool.and_eq_true] at h;exact⟨aU h.1,jy hg t j h.2.1,jy hg f j h.2.2⟩
 |.ask k md m t,j,h=>by
  simp only[pB,Bool.and_eq_true] at h;exact⟨aN h.1,h.2.1,jy hg t (j+1) h.2.2⟩
 |.done,_,_=>trivial
 |.fail er l x,_,h=>h
 |.go d,j,h=>hg j d h
theorem pC{T:Tr}(h:pB ok (fun _ _=>false) 0 T=true):cf ok (fun _ _=>False) 0 T:=jy (fun _ _ h=>by cases h) T 0 h
theorem Pn(Nd:∀{E0:Env}{w0:World}{ba cap:Nat}{R:List An},Ctx E0 w0 ba cap R->@bj (KJ E0 w0 (cg ba R)) P cc){l:List V4}{k:Nat}{q:List (Nat×Nat×Bool)}{T:Tr}(h:Pm cc g k q fm T=true)(hg:cf ok (fun _ _=>False) 0 T)(kz:k<=l.length)(P9:k<=3)(hq:Cq l q)
  (hfm:∀{w:World}{bp ba cap ab:Nat}{R:List An}{A S:Value},St w bp ba cap ab R A S l->∀n c,Holds (ae (sC R A ba cap ab bp n c l)) fm):
  ∃T,cf ok (fun _ _=>False) 0 T∧∀{w:World}{bp ba cap ab:Nat}{R:List An}{A S:Value},St w bp ba cap ab R A S l->
   Calls P g #[.agg #[.pointer (some ⟨bp,0,none⟩),S]] w fun e w'=>∃V,e=.returned V∧qS bp w w'∧cU R w.heap.size bp V w' (ev R T):=by
 refine⟨T,hg,fun {w bp ba cap ab R A S} s=>?_⟩;obtain⟨m,n,c,m5,ho,hh,jg,nQ,iR⟩:=s.Ds kz P9 hq;have hm:=Aad.1 h m (List.mem_range.2 m5);rw[ho] at hm;have hm:Xm cc g [.ag [.p 30 0,gA m]] (ij m) (fF m++(kF q++f2)++fm) T=true:=hm;have low:=oK s n c;have ra:aP (ae (sC R A ba cap ab bp n c l)) [.ag [.p 30 0,gA m]] (#[.agg #[.pointer (some ⟨bp,0,none⟩),S]]:Array Value).toList:=
  ad (by rw[Rv];exact⟨[.pointer (some ⟨bp,0,none⟩),S],rfl,ad (by rw[Rv];exact⟨⟨bp,0,0⟩,rfl,rfl⟩) (ad (jg.mono low) aF)⟩) aF
 exact s.goC Nd n c hm (aJ (fun p hp=>an low _ _ (hh p hp)) (hfm s n c)) ra (nQ.wide low) iR
theorem all2{q:List (Nat×Nat×Bool)}{T:Tr}(h2:Xm cc g [.ag [.p 30 0,gA 2]] (ij 2) (fF 2++(kF q++f2)++fm) T=true)(h3:Xm cc g [.ag [.p 30 0,gA 3]] (ij 3) (fF 3++(kF q++f2)++fm) T=true):Pm cc g 2 q fm T=true:=
 Aad.2 fun m hm=>by
  have:=List.mem_range.1 hm;match m,this with
  |0,_=>rfl
  |1,_=>rfl
  |2,_=>exact h2
  |3,_=>exact h3
  |4,_=>rfl
theorem c92a:Pm c4 92 1 (oA 0++pA 1) (qG 1) (TA 0)=true:=by kernel_rfl
theorem c92c:Pm c4 92 0 (pA 0) [] te=true:=by kernel_rfl
theorem c90c:Pm c4 90 0 (pA 0) [] te=true:=by kernel_rfl
theorem c90a:Pm c4 90 1 (oA 0++pA 1++pA 2) (qG 1) te=true:=by kernel_rfl
end Go.Proofs.YtngagklmbbogiaaGreatDoor.Ob
