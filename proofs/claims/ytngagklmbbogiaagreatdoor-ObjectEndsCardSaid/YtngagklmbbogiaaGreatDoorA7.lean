/- Parts of one proof (Shelf to Con). No condition. -/
import Derived.Shelf.Lays
import Derived.Shelf.LaysM
import Derived.Shelf.SlGeneric
import Derived.Shelf.SlLaysE0
import Derived.Shelf.SlicesE.Clone
import Derived.Ground.SlgnProg
import Derived.Test.YtngagklmbbogiaaGreatDoorA6
set_option linter.all false
namespace Go.Proofs
open Go.Shelf
def Tryz.EU:Go.Shelf.Ren:=⟨fun|41=>180|n=>n,fun|22=>34|23=>38|4=>4|n=>n,fun|n=>n⟩
theorem Tryz.Bg:Go.Proofs.SlLaysE0.n41 Tryz.prog Tryz.EU:={
 mixed:=by kernel_rfl
 f41:=⟨Tryz.f180.name,by decide,Tryz.func180.trans (congrArg some (by kernel_rfl))⟩
 t4:=Tryz.underlying4
 a4:=Tryz.isAgg4
 z4:=Tryz.sizeOf4
 v4:=Tryz.zeroValue4
 t22:=Tryz.underlying34
 a22:=Tryz.isAgg34
 z22:=Tryz.sizeOf34
 v22:=Tryz.zeroValue34}
def Tryz.HK:Go.Shelf.Ren:=⟨fun|41=>47|n=>n,fun|22=>22|23=>31|4=>4|n=>n,fun|n=>n⟩
theorem Tryz.MO:Go.Proofs.SlLaysE0.n41 Tryz.prog Tryz.HK:={
 mixed:=by kernel_rfl
 f41:=⟨Tryz.f47.name,by decide,Tryz.func47.trans (congrArg some (by kernel_rfl))⟩
 t4:=Tryz.underlying4
 a4:=Tryz.isAgg4
 z4:=Tryz.sizeOf4
 v4:=Tryz.zeroValue4
 t22:=Tryz.underlying22
 a22:=Tryz.isAgg22
 z22:=Tryz.sizeOf22
 v22:=Tryz.zeroValue22}
def Tryz.EV:Go.Shelf.Ren:=⟨fun|173=>302|246=>307|283=>315|284=>316|285=>317|286=>318|129=>324|317=>323|318=>325|319=>326|320=>327|337=>328|338=>329|n=>n,fun|2=>2|3=>3|9=>9|4=>4|171=>253|0=>0|53=>210|37=>199|5=>5|173=>256|212=>265|51=>261|20=>20|213=>266|46=>237|232=>270|233=>271|n=>n,fun|17=>2|18=>3|19=>4|n=>n⟩
theorem Tryz.Sf:Go.Proofs.LaysM.n173 Tryz.prog Tryz.EV:={
 mixed:=by kernel_rfl
 f129:=Tryz.func324.trans (congrArg some (by kernel_rfl))
 f173:=Tryz.func302.trans (congrArg some (by kernel_rfl))
 f246:=Tryz.func307.trans (congrArg some (by kernel_rfl))
 f283:=Tryz.func315.trans (congrArg some (by kernel_rfl))
 f284:=Tryz.func316.trans (congrArg some (by kernel_rfl))
 f285:=Tryz.func317.trans (congrArg some (by kernel_rfl))
 f286:=Tryz.func318.trans (congrArg some (by kernel_rfl))
 f317:=Tryz.func323.trans (congrArg some (by kernel_rfl))
 f318:=Tryz.func325.trans (congrArg some (by kernel_rfl))
 f319:=Tryz.func326.trans (congrArg some (by kernel_rfl))
 f320:=Tryz.func327.trans (congrArg some (by kernel_rfl))
 f337:=Tryz.func328.trans (congrArg some (by kernel_rfl))
 f338:=Tryz.func329.trans (congrArg some (by kernel_rfl))
 t0:=Tryz.underlying0
 a0:=Tryz.isAgg0
 z0:=Tryz.sizeOf0
 v0:=Tryz.zeroValue0
 t2:=Tryz.underlying2
 a2:=Tryz.isAgg2
 z2:=Tryz.sizeOf2
 v2:=Tryz.zeroValue2
 t3:=Tryz.underlying3
 a3:=Tryz.isAgg3
 z3:=Tryz.sizeOf3
 v3:=Tryz.zeroValue3
 t4:=Tryz.underlying4
 a4:=Tryz.isAgg4
 z4:=Tryz.sizeOf4
 v4:=Tryz.zeroValue4
 t5:=Tryz.underlying5
 a5:=Tryz.isAgg5
 z5:=Tryz.sizeOf5
 v5:=Tryz.zeroValue5
 t9:=Tryz.underlying9
 a9:=Tryz.isAgg9
 z9:=Tryz.sizeOf9
 v9:=Tryz.zeroValue9
 t20:=Tryz.underlying20
 a20:=Tryz.isAgg20
 z20:=Tryz.sizeOf20
 v20:=Tryz.zeroValue20
 t37:=Tryz.underlying199
 a37:=Tryz.isAgg199
 z37:=Tryz.sizeOf199
 v37:=Tryz.zeroValue199
 t46:=Tryz.underlying237
 a46:=Tryz.isAgg237
 z46:=Tryz.sizeOf237
 v46:=Tryz.zeroValue237
 t51:=Tryz.underlying261
 a51:=Tryz.isAgg261
 z51:=Tryz.sizeOf261
 v51:=Tryz.zeroValue261
 t53:=Tryz.underlying210
 a53:=Tryz.isAgg210
 z53:=Tryz.sizeOf210
 v53:=Tryz.zeroValue210
 t171:=Tryz.underlying253
 a171:=Tryz.isAgg253
 z171:=Tryz.sizeOf253
 v171:=Tryz.zeroValue253
 t173:=Tryz.underlying256
 a173:=Tryz.isAgg256
 z173:=Tryz.sizeOf256
 v173:=Tryz.zeroValue256
 t212:=Tryz.underlying265
 a212:=Tryz.isAgg265
 z212:=Tryz.sizeOf265
 v212:=Tryz.zeroValue265
 t213:=Tryz.underlying266
 a213:=Tryz.isAgg266
 z213:=Tryz.sizeOf266
 t232:=Tryz.underlying270
 a232:=Tryz.isAgg270
 z232:=Tryz.sizeOf270
 v232:=Tryz.zeroValue270
 t233:=Tryz.underlying271
 a233:=Tryz.isAgg271
 z233:=Tryz.sizeOf271
 v233:=Tryz.zeroValue271
 g17:=by kernel_rfl
 g18:=by kernel_rfl
 g19:=by kernel_rfl
 i0:=by kernel_rfl
 i2:=by kernel_rfl
 i3:=by kernel_rfl
 i4:=by kernel_rfl
 i5:=by kernel_rfl
 i9:=by kernel_rfl
 i20:=by kernel_rfl
 i37:=by kernel_rfl
 i46:=by kernel_rfl
 i51:=by kernel_rfl
 i53:=by kernel_rfl
 i171:=by kernel_rfl
 i173:=by kernel_rfl
 i212:=by kernel_rfl
 i232:=by kernel_rfl
 i233:=by kernel_rfl
 m17:=by kernel_rfl
 m18:=by kernel_rfl
 m19:=by kernel_rfl}
end Go.Proofs
namespace Go.Proofs.YtngagklmbbogiaaGreatDoor.Con
open Go Vx
set_option maxRecDepth 100000
noncomputable section
variable{b:Bool}{s:ByteArray}{m n:Int}{g x:Nat}
abbrev P:Program:=Tryz.prog
theorem d1:den (ew [] 1 [.float .f64 x]) (.sy 1)=some (.float .f64 x):=iZ 0 rfl (lN _)
theorem rf(hx:x<18446744073709551616):Rv (ew [] 1 [.float .f64 x]) (.x .f (.sy 1)) (.float .f64 x):=jJ (s:=.f) 0 rfl (lN _) ⟨_,rfl,hx⟩
theorem two(x:Nat):nU x x=true∨nU x x=false:=by cases nU x x<;>simp
def c0:aO:=run (fun _=>none) 40
theorem iL:bj P c0:=eH fg.none 40
def R1(g:Nat)(fs:aB)(args:List AV)(spec:SE):Bool:=bQ fs (dY [] 1) (fun h=>c0 g args h 2 (fun v h _=>yM spec v h))
theorem one{fs:aB}{args:List AV}{ARGS:Array Value}{spec:SE}(hf:Holds (ew [] 1 [.float .f64 x]) fs)(ra:aP (ew [] 1 [.float .f64 x]) args ARGS.toList)(hd:den (ew [] 1 [.float .f64 x]) spec=some (.bool b))
  (he:R1 g fs args spec=true) (w:World) (hs:0<w.heap.size):Calls P g ARGS w fun e w'=>e=.returned (.bool b)∧RowKit.Below w.heap.size w w':=
 EJ iL (Vs:=[.float .f64 x]) rfl hf ra hd he w hs
theorem r1(hx:x<18446744073709551616):aP (ew [] 1 [.float .f64 x]) [.x .f (.sy 1)] [.float .f64 x]:=ad (rf hx) aF
theorem fN(h:nU x x=b):Holds (ew [] 1 [.float .f64 x]) [(.cmp .eql (.sy 1) (.sy 1),b)]:=ah ((p8 d1 d1).trans (by rw[h])) holds_nil
theorem nm_nan:R1 104 [(.cmp .eql (.sy 1) (.sy 1),false)] [.x .f (.sy 1)] (.lb true)=true:=by kernel_rfl
theorem nm_num:R1 104 [(.cmp .eql (.sy 1) (.sy 1),true)] [.x .f (.sy 1)] (mayS (.sy 1))=true:=by kernel_rfl
theorem KH:∀(x:Nat)(w:World),x<18446744073709551616->0<w.heap.size->Calls P 104 #[.float .f64 x] w fun e w'=>e=.returned (.bool (tP x))∧RowKit.Below w.heap.size w w':=by
 intro x w hx hs;rcases two x with h|h
 ·exact one (fN h) (r1 hx) (R5 d1 h) nm_num w hs
 ·exact one (fN h) (r1 hx) (by rw[QD h];rfl) nm_nan w hs
def S1:fV:=fun g=>match g with
 |104=>some (orC (HA .f .b 7) (vY c0 104))
 |_=>none
theorem Sg:fg P S1:=by
 intro g C hC;unfold S1 at hC;split at hC<;>cases hC
 ·exact xc (AZ (s0:=.f) (s1:=.b) (c:=7) fun V w hV hs=>by obtain⟨x,rfl,hx⟩:=hV;exact⟨_,rfl,⟨_,rfl⟩,KH x w hx hs⟩) (ja iL 104)
def c1:aO:=run S1 40
theorem MP:bj P c1:=eH Sg 40
theorem v1:den (ew [] 1 [.float .f64 x,.string s,.int .i64 m]) (.sy 1)=some (.float .f64 x):=iZ 0 rfl (lN _)
theorem v2:den (ew [] 1 [.float .f64 x,.string s,.int .i64 m]) (.sy 2)=some (.string s):=iZ 1 rfl (eV _)
theorem v3:den (ew [] 1 [.float .f64 x,.string s,.int .i64 m]) (.sy 3)=some (.int .i64 m):=iZ 2 rfl (ax _ _)
def RV(sp:Nat->SE->SE->SE->SE)(g:Nat)(n:Nat):Bool:=bQ [] (dY [] 1) (fun h=>c1 g [.ag [.i .u8 (Int.ofNat n),.x .f (.sy 1),.x .s (.sy 2),.x (.i .i64) (.sy 3)]] h 4 (fun v h _=>yM (sp n (.sy 1) (.sy 2) (.sy 3)) v h))
def RG(g:Nat)(fs:aB)(spec:SE):Bool:=bQ fs (dY [] 1) (fun h=>c1 g [.ag [.x (.i .u8) (.sy 1),.x .f (.sy 2),.x .s (.sy 3),.x (.i .i64) (.sy 4)]] h 5 (fun v h _=>yM spec v h))
theorem vrv(hx:x<18446744073709551616)(hs:(s.size:Int)<=9223372036854775807)(hm: -9223372036854775808<=m∧m<=9223372036854775807):
  aP (ew [] 1 [.float .f64 x,.string s,.int .i64 m]) [.ag [.i .u8 n,.x .f (.sy 1),.x .s (.sy 2),.x (.i .i64) (.sy 3)]] [.agg #[.int .u8 n,.float .f64 x,.string s,.int .i64 m]]:=
 ad (vX (ad (by rw[Rv]) (ad (jJ (s:=.f) 0 rfl (lN _) ⟨_,rfl,hx⟩) (ad (jJ (s:=.s) 1 rfl (eV _) ⟨_,rfl,hs⟩) (ad (jJ (s:=.i .i64) 2 rfl (ax _ _) ⟨_,rfl,hm⟩) aF))))) aF
theorem grv(hn:0<=n∧n<=255)(hx:x<18446744073709551616)(hs:(s.size:Int)<=9223372036854775807)(hm: -9223372036854775808<=m∧m<=9223372036854775807):
  aP (ew [] 1 [.int .u8 n,.float .f64 x,.string s,.int .i64 m]) [.ag [.x (.i .u8) (.sy 1),.x .f (.sy 2),.x .s (.sy 3),.x (.i .i64) (.sy 4)]] [.agg #[.int .u8 n,.float .f64 x,.string s,.int .i64 m]]:=
 ad (vX (ad (jJ (s:=.i .u8) 0 rfl (ax _ _) ⟨_,rfl,hn⟩) (ad (jJ (s:=.f) 1 rfl (lN _) ⟨_,rfl,hx⟩) (ad (jJ (s:=.s) 2 rfl (eV _) ⟨_,rfl,hs⟩) (ad (jJ (s:=.i .i64) 3 rfl (ax _ _) ⟨_,rfl,hm⟩) aF))))) aF
theorem g1:den (ew [] 1 [.int .u8 n,.float .f64 x,.string s,.int .i64 m]) (.sy 1)=some (.int .u8 n):=iZ 0 rfl (ax _ _)
theorem ofMay{sp:Nat->SE->SE->SE->SE}(za:∀{E:Env}{b c d:SE}{r:Int}{x:Nat}{s:ByteArray},den E b=some (.float .f64 x)->den E c=some (.string s)->den E d=some (.int .i64 r)->∀n:Nat,n<=8->den E (sp n b c d)=some (.bool (gI n x s r)))(h:∀n:Nat,n<=8->RV sp g n=true)(hg:RG g [(.cmp .leq (.sy 1) (.li .u8 8),false)] (.lb false)=true):MI P g gI:=by
 intro n x s m w hn hx hs hm hz;by_cases h8:n<=8
 ·obtain⟨k,rfl⟩:∃k:Nat,n=k:=⟨n.toNat,by omega⟩
  exact EJ MP (Vs:=[.float .f64 x,.string s,.int .i64 m]) rfl holds_nil (vrv hx hs hm) (za v1 v2 v3 k (by omega)) (h k (by omega)) w hz
 ·rw[KE (by omega)]
  exact EJ MP (Vs:=[.int .u8 n,.float .f64 x,.string s,.int .i64 m]) rfl (ah ((az g1).trans (by rw[gM h8])) holds_nil) (grv hn hx hs hm) rfl hg w hz
theorem Ww:RV uv 46 0=true:=by kernel_rfl
theorem Wx:RV uv 46 1=true:=by kernel_rfl
theorem Wy:RV uv 46 2=true:=by kernel_rfl
theorem Wz:RV uv 46 3=true:=by kernel_rfl
theorem WA:RV uv 46 4=true:=by kernel_rfl
theorem WB:RV uv 46 5=true:=by kernel_rfl
theorem WC:RV uv 46 6=true:=by kernel_rfl
theorem WD:RV uv 46 7=true:=by kernel_rfl
theorem WE:RV uv 46 8=true:=by kernel_rfl
theorem WG:RG 46 [(.cmp .leq (.sy 1) (.li .u8 8),false)] (.lb false)=true:=by kernel_rfl
theorem EW:MI P 46 gI:=ofMay OY (fun n hn=>match n,hn with|0,_=>Ww|1,_=>Wx|2,_=>Wy|3,_=>Wz|4,_=>WA|5,_=>WB|6,_=>WC|7,_=>WD|8,_=>WE) WG
def S2:fV:=fun g=>match g with
 |104=>some (orC (HA .f .b 7) (vY c0 104))
 |46=>some (orC (R7) (vY c0 46))
 |_=>none
theorem Dk:fg P S2:=by
 intro g C hC;unfold S2 at hC;split at hC<;>cases hC
 ·exact xc (AZ (s0:=.f) (s1:=.b) (c:=7) fun V w hV hs=>by obtain⟨x,rfl,hx⟩:=hV;exact⟨_,rfl,⟨_,rfl⟩,KH x w hx hs⟩) (ja iL 104)
 ·exact xc (zg EW) (ja iL 46)
def c2:aO:=run S2 40
theorem yq:bj P c2:=eH Dk 40
end
end Go.Proofs.YtngagklmbbogiaaGreatDoor.Con
