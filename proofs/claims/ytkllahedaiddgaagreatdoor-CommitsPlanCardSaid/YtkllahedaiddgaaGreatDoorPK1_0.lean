/- Kept sectors, closed runs. No condition. -/
import Derived.Test.YtkllahedaiddgaaGreatDoorPK0
set_option linter.unusedSimpArgs false
set_option linter.unusedVariables false
set_option maxRecDepth 100000
namespace Go.K
open Go.Ab Go.RowKit Go.Y Go.Proofs
noncomputable section
attribute [local instance 10000] gO
theorem zBy:P19 1:=fun P κ W T nd sl di ch Q R=>show d19 1 P κ W T nd sl di ch [vZ 1] Q R=q19 1 P κ W T nd sl (trK 1 (zi 1) (cAb nd sl di ch)) R by kernel_rfl
theorem zBz:P19 2:=fun P κ W T nd sl di ch Q R=>show d19 2 P κ W T nd sl di ch [vZ 2] Q R=q19 2 P κ W T nd sl (trK 2 (zi 2) (cAb nd sl di ch)) R by kernel_rfl
theorem zBA:P19 3:=fun P κ W T nd sl di ch Q R=>show d19 3 P κ W T nd sl di ch [vZ 3] Q R=q19 3 P κ W T nd sl (trK 3 (zi 3) (cAb nd sl di ch)) R by kernel_rfl
theorem zBB:P19 4:=fun P κ W T nd sl di ch Q R=>show d19 4 P κ W T nd sl di ch [vZ 4] Q R=q19 4 P κ W T nd sl (trK 4 (zi 4) (cAb nd sl di ch)) R by kernel_rfl
theorem zBC:P19 5:=fun P κ W T nd sl di ch Q R=>show d19 5 P κ W T nd sl di ch [vZ 5] Q R=q19 5 P κ W T nd sl (trK 5 (zi 5) (cAb nd sl di ch)) R by kernel_rfl
theorem zBD:P19 6:=fun P κ W T nd sl di ch Q R=>show d19 6 P κ W T nd sl di ch [vZ 6] Q R=q19 6 P κ W T nd sl (trK 6 (zi 6) (cAb nd sl di ch)) R by kernel_rfl
theorem zBE:P19 7:=fun P κ W T nd sl di ch Q R=>show d19 7 P κ W T nd sl di ch [vZ 7] Q R=q19 7 P κ W T nd sl (trK 7 (zi 7) (cAb nd sl di ch)) R by kernel_rfl
theorem zBF:P19 8:=fun P κ W T nd sl di ch Q R=>show d19 8 P κ W T nd sl di ch [vZ 8] Q R=q19 8 P κ W T nd sl (trK 8 (zi 8) (cAb nd sl di ch)) R by kernel_rfl
theorem zBG:P19 9:=fun P κ W T nd sl di ch Q R=>show d19 9 P κ W T nd sl di ch [vZ 9] Q R=q19 9 P κ W T nd sl (trK 9 (zi 9) (cAb nd sl di ch)) R by kernel_rfl
theorem zvG:P19 10:=fun P κ W T nd sl di ch Q R=>show d19 10 P κ W T nd sl di ch [vZ 10] Q R=q19 10 P κ W T nd sl (trK 10 (zi 10) (cAb nd sl di ch)) R by kernel_rfl
theorem zvH:P19 11:=fun P κ W T nd sl di ch Q R=>show d19 11 P κ W T nd sl di ch [vZ 11] Q R=q19 11 P κ W T nd sl (trK 11 (zi 11) (cAb nd sl di ch)) R by kernel_rfl
theorem zvI:P19 12:=fun P κ W T nd sl di ch Q R=>show d19 12 P κ W T nd sl di ch [vZ 12] Q R=q19 12 P κ W T nd sl (trK 12 (zi 12) (cAb nd sl di ch)) R by kernel_rfl
theorem zBH:P21 1:=fun T u Q R=>show d21 1 T u [v4 1] Q R=q21 1 T u R by kernel_rfl
theorem zBI:P21 2:=fun T u Q R=>show d21 2 T u [v4 2] Q R=q21 2 T u R by kernel_rfl
theorem zBJ:P21 3:=fun T u Q R=>show d21 3 T u [v4 3] Q R=q21 3 T u R by kernel_rfl
theorem zBK:P21 4:=fun T u Q R=>show d21 4 T u [v4 4] Q R=q21 4 T u R by kernel_rfl
theorem zBL:P21 5:=fun T u Q R=>show d21 5 T u [v4 5] Q R=q21 5 T u R by kernel_rfl
theorem zBM:P21 6:=fun T u Q R=>show d21 6 T u [v4 6] Q R=q21 6 T u R by kernel_rfl
theorem zBN:P21 7:=fun T u Q R=>show d21 7 T u [v4 7] Q R=q21 7 T u R by kernel_rfl
theorem zBO:P21 8:=fun T u Q R=>show d21 8 T u [v4 8] Q R=q21 8 T u R by kernel_rfl
theorem zBP:P21 9:=fun T u Q R=>show d21 9 T u [v4 9] Q R=q21 9 T u R by kernel_rfl
theorem zvJ:P21 10:=fun T u Q R=>show d21 10 T u [v4 10] Q R=q21 10 T u R by kernel_rfl
theorem zvK:P21 11:=fun T u Q R=>show d21 11 T u [v4 11] Q R=q21 11 T u R by kernel_rfl
theorem zvL:P21 12:=fun T u Q R=>show d21 12 T u [v4 12] Q R=q21 12 T u R by kernel_rfl
theorem zu7:P19 13:=fun P κ W T nd sl di ch Q R=>show d19 13 P κ W T nd sl di ch [vZ 13] Q R=q19 13 P κ W T nd sl (trK 13 (zi 13) (cAb nd sl di ch)) R by kernel_rfl
theorem zu8:P19 14:=fun P κ W T nd sl di ch Q R=>show d19 14 P κ W T nd sl di ch [vZ 14] Q R=q19 14 P κ W T nd sl (trK 14 (zi 14) (cAb nd sl di ch)) R by kernel_rfl
theorem zu9:P19 15:=fun P κ W T nd sl di ch Q R=>show d19 15 P κ W T nd sl di ch [vZ 15] Q R=q19 15 P κ W T nd sl (trK 15 (zi 15) (cAb nd sl di ch)) R by kernel_rfl
theorem zva:P19 16:=fun P κ W T nd sl di ch Q R=>show d19 16 P κ W T nd sl di ch [vZ 16] Q R=q19 16 P κ W T nd sl (trK 16 (zi 16) (cAb nd sl di ch)) R by kernel_rfl
theorem zvb:P19 17:=fun P κ W T nd sl di ch Q R=>show d19 17 P κ W T nd sl di ch [vZ 17] Q R=q19 17 P κ W T nd sl (trK 17 (zi 17) (cAb nd sl di ch)) R by kernel_rfl
theorem zvc:P19 18:=fun P κ W T nd sl di ch Q R=>show d19 18 P κ W T nd sl di ch [vZ 18] Q R=q19 18 P κ W T nd sl (trK 18 (zi 18) (cAb nd sl di ch)) R by kernel_rfl
theorem zvd:P21 13:=fun T u Q R=>show d21 13 T u [v4 13] Q R=q21 13 T u R by kernel_rfl
theorem zve:P21 14:=fun T u Q R=>show d21 14 T u [v4 14] Q R=q21 14 T u R by kernel_rfl
theorem zvf:P21 15:=fun T u Q R=>show d21 15 T u [v4 15] Q R=q21 15 T u R by kernel_rfl
theorem zvg:P21 16:=fun T u Q R=>show d21 16 T u [v4 16] Q R=q21 16 T u R by kernel_rfl
theorem zvh:P21 17:=fun T u Q R=>show d21 17 T u [v4 17] Q R=q21 17 T u R by kernel_rfl
theorem zvi:P21 18:=fun T u Q R=>show d21 18 T u [v4 18] Q R=q21 18 T u R by kernel_rfl
theorem zuX:P19 19:=fun P κ W T nd sl di ch Q R=>show d19 19 P κ W T nd sl di ch [vZ 19] Q R=q19 19 P κ W T nd sl (trK 19 (zi 19) (cAb nd sl di ch)) R by kernel_rfl
theorem zuY:P19 20:=fun P κ W T nd sl di ch Q R=>show d19 20 P κ W T nd sl di ch [vZ 20] Q R=q19 20 P κ W T nd sl (trK 20 (zi 20) (cAb nd sl di ch)) R by kernel_rfl
theorem zuZ:P19 21:=fun P κ W T nd sl di ch Q R=>show d19 21 P κ W T nd sl di ch [vZ 21] Q R=q19 21 P κ W T nd sl (trK 21 (zi 21) (cAb nd sl di ch)) R by kernel_rfl
theorem zu0:P21 19:=fun T u Q R=>show d21 19 T u [v4 19] Q R=q21 19 T u R by kernel_rfl
theorem zu1:P21 20:=fun T u Q R=>show d21 20 T u [v4 20] Q R=q21 20 T u R by kernel_rfl
theorem zu2:P21 21:=fun T u Q R=>show d21 21 T u [v4 21] Q R=q21 21 T u R by kernel_rfl
theorem zym:P19 22:=fun P κ W T nd sl di ch Q R=>show d19 22 P κ W T nd sl di ch [vZ 22] Q R=q19 22 P κ W T nd sl (trK 22 (zi 22) (cAb nd sl di ch)) R by kernel_rfl
theorem zyn:P19 23:=fun P κ W T nd sl di ch Q R=>show d19 23 P κ W T nd sl di ch [vZ 23] Q R=q19 23 P κ W T nd sl (trK 23 (zi 23) (cAb nd sl di ch)) R by kernel_rfl
theorem zyo:P19 24:=fun P κ W T nd sl di ch Q R=>show d19 24 P κ W T nd sl di ch [vZ 24] Q R=q19 24 P κ W T nd sl (trK 24 (zi 24) (cAb nd sl di ch)) R by kernel_rfl
theorem zyp:P21 22:=fun T u Q R=>show d21 22 T u [v4 22] Q R=q21 22 T u R by kernel_rfl
theorem zyq:P21 23:=fun T u Q R=>show d21 23 T u [v4 23] Q R=q21 23 T u R by kernel_rfl
theorem zyr:P21 24:=fun T u Q R=>show d21 24 T u [v4 24] Q R=q21 24 T u R by kernel_rfl
end
end Go.K
