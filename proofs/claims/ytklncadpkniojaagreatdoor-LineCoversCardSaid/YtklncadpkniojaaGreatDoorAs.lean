/- Part of LineCovers. -/
import Derived.Test.YtklncadpkniojaaGreatDoorAd
import Derived.Test.YtklncadpkniojaaGreatDoorAe
import Derived.Lib.ItoaNum
namespace Go.Proofs.YtklncadpkniojaaGreatDoor
open Go.ChangeShapes Go.WideShapes Go.ChangeAt Go.RowKit
set_option linter.all false
set_option maxRecDepth 100000
set_option maxHeartbeats 16000000
theorem Tv{y:Nat}(e:y≠0)(h:y<18446744073709551616):1<=Lib.bitLen y/\Lib.bitLen y<=64/\9223372036854775808<=y*2^(64-Lib.bitLen y)/\y*2^(64-Lib.bitLen y)<18446744073709551616:=by
 have l:=Lib.bitLen_le y 64 ak ak;obtain⟨k1,k2,k3⟩:=Lib.bitLenAux_bounds 64 y ak e;show 1<=Lib.bitLenAux 64 y/\Lib.bitLenAux 64 y<=64/\9223372036854775808<=y*2^(64-Lib.bitLenAux 64 y)/\y*2^(64-Lib.bitLenAux 64 y)<18446744073709551616;have l:Lib.bitLenAux 64 y<=64:=l;generalize Lib.bitLenAux 64 y=L at*;obtain⟨d,b⟩:∃d,64=L+d:=⟨64-L,ak⟩;have c:(2:Nat)^(L-1)*2^d=9223372036854775808:=by
  rw[<-Nat.pow_add,show L-1+d=63 by omega]
 have a:(2:Nat)^L*2^d=18446744073709551616:=by
  rw[<-Nat.pow_add,<-b]
 have g:64-L=d:=ak;have f:0<2^d:=Nat.pow_pos ak;rw[g];refine⟨k1,l, ?_, ?_⟩
 .rw[<-c];exact Nat.mul_le_mul_right _ k2
 .rw[<-a];exact Nat.mul_lt_mul_of_pos_right k3 f
end Go.Proofs.YtklncadpkniojaaGreatDoor
