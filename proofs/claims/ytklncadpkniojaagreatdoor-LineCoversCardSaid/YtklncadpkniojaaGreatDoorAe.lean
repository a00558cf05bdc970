/- Part of LineCovers. -/
import Derived.Test.YtklncadpkniojaaGreatDoorAa
import Derived.Test.YtklncadpkniojaaGreatDoorProg
import Derived.Lib.Strings
import Derived.Lib.Slices
import Derived.Lib.Small
import Derived.Lib.Walk
import Derived.Lib.BitFns
namespace Go.Proofs.YtklncadpkniojaaGreatDoor
open  Go.Proofs.Tryz
open Go renaming World->ahh,Calls->ahk
open Go.Value renaming int->ae
open Go.IntKind renaming i64->aj
set_option linter.all false
set_option maxRecDepth 100000
set_option maxHeartbeats 16000000
theorem acg(x:Int)(w:ahh)(c:0<=x)(b:x<=18446744073709551615):ahk prog 319 #[.int .u64 x] w fun e a=>e=.returned (ae aj (Lib.bitLen x.toNat))/\a=w:=by
 go_enter func319,ntmps319;go_wp2
 all_goals(go_ret;refine⟨congrArg Ending.returned (congrArg (Value.int IntKind.i64) ?_),rfl⟩)
 all_goals first
  |(rw[Lib.len8_of (x/4294967296/65536/256%256) ak ak]
    have e:(x/4294967296/65536/256%256).toNat=x.toNat/72057594037927936:=(by omega);have l:=Lib.bitLen_le8' (x/4294967296/65536/256%256) ak ak;have s:=Lib.bitLen_shift56 x.toNat ak ak;rw[e]at l⊢;omega)
  |(rw[Lib.len8_of (x/4294967296/65536%256) ak ak]
    have e:(x/4294967296/65536%256).toNat=x.toNat/281474976710656:=(by omega);have l:=Lib.bitLen_le8' (x/4294967296/65536%256) ak ak;have s:=Lib.bitLen_shift48 x.toNat ak ak;rw[e]at l⊢;omega)
  |(rw[Lib.len8_of (x/4294967296/256%256) ak ak]
    have e:(x/4294967296/256%256).toNat=x.toNat/1099511627776:=(by omega);have l:=Lib.bitLen_le8' (x/4294967296/256%256) ak ak;have s:=Lib.bitLen_shift40 x.toNat ak ak;rw[e]at l⊢;omega)
  |(rw[Lib.len8_of (x/4294967296%256) ak ak]
    have e:(x/4294967296%256).toNat=x.toNat/4294967296:=(by omega);have l:=Lib.bitLen_le8' (x/4294967296%256) ak ak;have s:=Lib.bitLen_shift32 x.toNat ak ak;rw[e]at l⊢;omega)
  |(rw[Lib.len8_of (x/65536/256%256) ak ak]
    have e:(x/65536/256%256).toNat=x.toNat/16777216:=(by omega);have l:=Lib.bitLen_le8' (x/65536/256%256) ak ak;have s:=Lib.bitLen_shift24 x.toNat ak ak;rw[e]at l⊢;omega)
  |(rw[Lib.len8_of (x/65536%256) ak ak]
    have e:(x/65536%256).toNat=x.toNat/65536:=(by omega);have l:=Lib.bitLen_le8' (x/65536%256) ak ak;have s:=Lib.bitLen_shift16 x.toNat ak ak;rw[e]at l⊢;omega)
  |(rw[Lib.len8_of (x/256%256) ak ak]
    have e:(x/256%256).toNat=x.toNat/256:=(by omega);have l:=Lib.bitLen_le8' (x/256%256) ak ak;have s:=Lib.bitLen_shift8 x.toNat ak ak;rw[e]at l⊢;omega)
  |(rw[Lib.len8_of (x%256) ak ak]
    have e:(x%256).toNat=x.toNat:=(by omega);have l:=Lib.bitLen_le8' (x%256) ak ak;rw[e]at l⊢;omega)
theorem aav(x:Int)(w:ahh)(d:0<=x)(b:x<=18446744073709551615):ahk prog 299 #[.int .u64 x] w fun e a=>e=.returned (ae aj (64-(Lib.bitLen x.toNat:Int)))/\a=w:=by
 have l:=Lib.bitLen_le x.toNat 64 ak ak;have c:(64-(Lib.bitLen x.toNat:Int)+9223372036854775808)%18446744073709551616-9223372036854775808=64-(Lib.bitLen x.toNat:Int):=ak;go_enter func299,ntmps299;go_wp2_with (go_at_call 319;refine(acg x _ d b).mono ?_;rintro e a ⟨rfl,rfl⟩);go_ret;refine⟨?_,rfl⟩;rw[<-c];rfl
end Go.Proofs.YtklncadpkniojaaGreatDoor
