/- Part of LineFills. -/
import Derived.Test.YtijcgdkpconjcaaGreatDoorAa
import Derived.Test.YtijcgdkpconjcaaGreatDoorProg
import Derived.Lib.Strings
import Derived.Lib.Slices
import Derived.Lib.Small
import Derived.Lib.Walk
import Derived.Lib.BitFns
namespace Go.Proofs.YtijcgdkpconjcaaGreatDoor
open Go.Proofs.Tryz
open Go renaming World->EE,Value->EN,Calls->GK,TypeId->IQ,Ending->IS,Program->I3
open Option renaming some->OH,none->OJ
open Bool renaming true->OX,false->OZ
open Go.Value renaming slice->Pl,bool->PF,pointer->PK,tuple->P8
open Go.Ending renaming returned->RE
open Go.Obj renaming cells->RM
open Go.Value renaming int->ae
open Go.IntKind renaming i64->aj
set_option linter.all false
set_option maxRecDepth 100000
set_option maxHeartbeats 16000000
variable{w:EE}
def ae2(x:Int)(w:EE)(b:0<=x)(c:x<=18446744073709551615):GK prog 325 #[.int .u64 x] w λe a=>e=RE (ae aj (Lib.bitLen x.toNat))/\a=w:=by
 go_enter func325,ntmps325;go_wp2
 all_goals(go_ret;refine⟨congrArg Ending.returned (congrArg (Value.int IntKind.i64) ?_),rfl⟩)
 all_goals first
  |(rw[Lib.len8_of (x/4294967296/65536/256%256) aq aq]
    have e:(x/4294967296/65536/256%256).toNat=x.toNat/72057594037927936:=(by omega);have l:=Lib.bitLen_le8' (x/4294967296/65536/256%256) aq aq;have s:=Lib.bitLen_shift56 x.toNat aq aq;rw[e]at l⊢;omega)
  |(rw[Lib.len8_of (x/4294967296/65536%256) aq aq]
    have e:(x/4294967296/65536%256).toNat=x.toNat/281474976710656:=(by omega);have l:=Lib.bitLen_le8' (x/4294967296/65536%256) aq aq;have s:=Lib.bitLen_shift48 x.toNat aq aq;rw[e]at l⊢;omega)
  |(rw[Lib.len8_of (x/4294967296/256%256) aq aq]
    have e:(x/4294967296/256%256).toNat=x.toNat/1099511627776:=(by omega);have l:=Lib.bitLen_le8' (x/4294967296/256%256) aq aq;have s:=Lib.bitLen_shift40 x.toNat aq aq;rw[e]at l⊢;omega)
  |(rw[Lib.len8_of (x/4294967296%256) aq aq]
    have e:(x/4294967296%256).toNat=x.toNat/4294967296:=(by omega);have l:=Lib.bitLen_le8' (x/4294967296%256) aq aq;have s:=Lib.bitLen_shift32 x.toNat aq aq;rw[e]at l⊢;omega)
  |(rw[Lib.len8_of (x/65536/256%256) aq aq]
    have e:(x/65536/256%256).toNat=x.toNat/16777216:=(by omega);have l:=Lib.bitLen_le8' (x/65536/256%256) aq aq;have s:=Lib.bitLen_shift24 x.toNat aq aq;rw[e]at l⊢;omega)
  |(rw[Lib.len8_of (x/65536%256) aq aq]
    have e:(x/65536%256).toNat=x.toNat/65536:=(by omega);have l:=Lib.bitLen_le8' (x/65536%256) aq aq;have s:=Lib.bitLen_shift16 x.toNat aq aq;rw[e]at l⊢;omega)
  |(rw[Lib.len8_of (x/256%256) aq aq]
    have e:(x/256%256).toNat=x.toNat/256:=(by omega);have l:=Lib.bitLen_le8' (x/256%256) aq aq;have s:=Lib.bitLen_shift8 x.toNat aq aq;rw[e]at l⊢;omega)
  |(rw[Lib.len8_of (x%256) aq aq]
    have e:(x%256).toNat=x.toNat:=(by omega);have l:=Lib.bitLen_le8' (x%256) aq aq;rw[e]at l⊢;omega)
def aa9(x:Int)(w:EE)(b:0<=x)(c:x<=18446744073709551615):GK prog 305 #[.int .u64 x] w λe a=>e=RE (ae aj (64-(Lib.bitLen x.toNat:Int)))/\a=w:=by
 have l:=Lib.bitLen_le x.toNat 64 aq aq;have d:(64-(Lib.bitLen x.toNat:Int)+9223372036854775808)%18446744073709551616-9223372036854775808=64-(Lib.bitLen x.toNat:Int):=aq;go_enter func305,ntmps305;go_wp2_with (go_at_call 325;refine(ae2 x _ b c).mono ?_;rintro e a ⟨rfl,rfl⟩);go_ret;refine⟨?_,rfl⟩;rw[<-d];rfl
