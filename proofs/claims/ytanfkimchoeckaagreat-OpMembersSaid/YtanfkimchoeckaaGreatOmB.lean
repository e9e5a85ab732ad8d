/- OpMembers: what is known of the value on each way. No condition. -/
import Derived.Test.YtanfkimchoeckaaGreatVal
import Derived.Test.YtanfkimchoeckaaGreatVxY
namespace Go.Proofs.YtanfkimchoeckaaGreat.Mem
open Go Vx
set_option linter.unusedVariables false
set_option linter.constructorNameAsVariable false
set_option maxRecDepth 100000

/-- symbols: 1 the key; 2, 3, 4, 5 the value's kind, number, string, place -/
noncomputable def fs0 (c : Int) : Facts := [(.cmp .eql (.sy 2) (.li .u8 c), true), (.cmp .leq (.sy 2) (.li .u8 255), true), (.cmp .leq (.sy 2) (.li .u8 (-1)), false)]
noncomputable def fsN (c : Int) : Facts := (.cmp .eql (.sy 3) (.sy 3), true) :: fs0 c
noncomputable def fsM (c : Int) : Facts := (.cmp .eql (.sy 3) (.sy 3), false) :: (.cmp .eql (.sy 3) (.lf 0), false) :: (.cmp .eql (.sy 3) (.lf 0x3ff0000000000000), false) :: fs0 c
noncomputable def fsB : Facts := [(.cmp .leq (.sy 2) (.li .u8 8), false), (.cmp .leq (.sy 2) (.li .u8 255), true)]
noncomputable def G (fs : Facts) (y : Bool) : Bool := setF fs (startH [] 1) (fun h => run (fun _ => none) 40 3 [.x .s (.sy 1), valAV 2, .b y] h 6 (fun v h _ => finT v h))
end Go.Proofs.YtanfkimchoeckaaGreat.Mem
