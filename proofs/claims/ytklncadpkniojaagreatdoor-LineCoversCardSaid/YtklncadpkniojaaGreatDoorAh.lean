/- Part of LineCovers. -/
import Derived.Test.YtklncadpkniojaaGreatDoorAc
import Derived.StillTailTactics
import Derived.BigRegion
namespace Go.Proofs.YtklncadpkniojaaGreatDoor
open Go.ChangeShapes Go.WideShapes Go.ChangeAt Go.RowKit Go.Proofs.Tryz
open Go renaming World->ahh,Value->ahj,Calls->ahk,Ending->ahn
open Go.RowKit renaming Below->ahi
open Go.Value renaming int->ae
open Go.IntKind renaming i64->aj
set_option linter.all false
set_option maxRecDepth 100000
set_option maxHeartbeats 16000000
theorem nS{p:Prop}(h:p:=by go_num):p:=h
theorem ee:∀k,k<13->(bI k).size=220:=yE
theorem mK(k:Nat):(bI k).all (·.oneCell')=true:=by
 unfold bI;generalize nj k=l;rw[List.all_toArray,List.all_flatMap];simp[bB,Value.oneCell',Function.comp_def]
attribute [local irreducible] bI
theorem tp:∃(i:TypeInfo) (z:ahj),prog.info? 270=some i/\i.zero=some z/\z.cells.size=220:=by
 obtain⟨d,e,a,b,c⟩:=info_parts vQ;exact⟨d,_,e,a,rfl⟩
theorem cP{k:Nat}{z:Array ahj}{w b:ahh}{tmps:Array ahj}(d:k<13)(c:tmps.getD 2 undef=.pointer (some ⟨w.heap.size,0,none⟩))
 (a:ahi (w.alloc (.cells z 270)).heap.size (w.alloc (.cells z 270)) b):
 bodyPost prog f228 (fun e f=>e=.returned (.agg (bI k))/\ahi w.heap.size w f) .ret ⟨tmps,[]⟩ (b.setRow w.heap.size (bI k)):=by
 refine bodyPost_ret (v:=.agg (bI k)) (results_cell_row results228 _ _ w.heap.size 270 _ (0,0) _ c (setRow_heap _ _ _ _ _ _ ((a.block _ aQ).trans (heap_alloc_new w _))) underlying270 rfl (qD.trans (congrArg some (ee k d).symm))) rfl ⟨rfl, ?_⟩;exact below_setRow (((Below.refl _ _).alloc bW _).trans (a.mono aQ)) bW _
theorem zj(k:Nat)(y:k<13)(w:ahh):
 ahk prog 228 #[ae aj k] w fun e i=>e=.returned (.agg (bI k))/\ahi w.heap.size w i:=by
 obtain⟨A,z,m,l,c⟩:=tp;have d:=Lib.hid m;have j:=Lib.hid l;have n:=Lib.hid c;go_enter func228,ntmps228;go_wp2_with (first
  |(refine wpList_plain rfl fun K hK=>gu 270 rfl d.out j.out (hK _ _ ?_);simp only[Act.put])
  |(refine wpList_store_row rfl _ _ _ rfl w.heap.size _ rfl rfl 270 z.cells ((a.block _ aQ).trans (heap_alloc_new w _)) ?kU ?ij (mK _) ?_;(case kU=>exact qD.trans (congrArg some (ee _ ak).symm));(case ij=>exact n.out.trans (ee _ ak).symm))
  |(go_at_call 260;refine(Ds _).mono ?_;rintro e b ⟨rfl,a⟩)
  |(go_at_call 261;refine(El _).mono ?_;rintro e b ⟨rfl,a⟩)
  |(go_at_call 262;refine(Dc _).mono ?_;rintro e b ⟨rfl,a⟩)
  |(go_at_call 263;refine(Ek _).mono ?_;rintro e b ⟨rfl,a⟩)
  |(go_at_call 264;refine(Eg _).mono ?_;rintro e b ⟨rfl,a⟩)
  |(go_at_call 265;refine(Dz _).mono ?_;rintro e b ⟨rfl,a⟩)
  |(go_at_call 266;refine(Dn _).mono ?_;rintro e b ⟨rfl,a⟩)
  |(go_at_call 267;refine(Cs _).mono ?_;rintro e b ⟨rfl,a⟩)
  |(go_at_call 268;refine(De _).mono ?_;rintro e b ⟨rfl,a⟩)
  |(go_at_call 269;refine(Eu _).mono ?_;rintro e b ⟨rfl,a⟩)
  |(go_at_call 270;refine(zS _).mono ?_;rintro e b ⟨rfl,a⟩)
  |(go_at_call 271;refine(zT _).mono ?_;rintro e b ⟨rfl,a⟩)
  |(go_at_call 272;refine(zO _).mono ?_;rintro e b ⟨rfl,a⟩))
 .obtain rfl:k=0:=by{have h:=‹((k:Int)==0)=true›;simp at h;omega}
  exact cP ak rfl a
 .obtain rfl:k=1:=by{have h:=‹((k:Int)==1)=true›;simp at h;omega}
  exact cP ak rfl a
 .obtain rfl:k=2:=by{have h:=‹((k:Int)==2)=true›;simp at h;omega}
  exact cP ak rfl a
 .obtain rfl:k=3:=by{have h:=‹((k:Int)==3)=true›;simp at h;omega}
  exact cP ak rfl a
 .obtain rfl:k=4:=by{have h:=‹((k:Int)==4)=true›;simp at h;omega}
  exact cP ak rfl a
 .obtain rfl:k=5:=by{have h:=‹((k:Int)==5)=true›;simp at h;omega}
  exact cP ak rfl a
 .obtain rfl:k=6:=by{have h:=‹((k:Int)==6)=true›;simp at h;omega}
  exact cP ak rfl a
 .obtain rfl:k=7:=by{have h:=‹((k:Int)==7)=true›;simp at h;omega}
  exact cP ak rfl a
 .obtain rfl:k=8:=by{have h:=‹((k:Int)==8)=true›;simp at h;omega}
  exact cP ak rfl a
 .obtain rfl:k=9:=by{have h:=‹((k:Int)==9)=true›;simp at h;omega}
  exact cP ak rfl a
 .obtain rfl:k=10:=by{have h:=‹((k:Int)==10)=true›;simp at h;omega}
  exact cP ak rfl a
 .obtain rfl:k=11:=by{have h:=‹((k:Int)==11)=true›;simp at h;omega}
  exact cP ak rfl a
 .have u:¬((k:Int)=0):=by simpa using‹((k:Int)==0)=false›
  have p:¬((k:Int)=1):=by simpa using‹((k:Int)==1)=false›
  have v:¬((k:Int)=2):=by simpa using‹((k:Int)==2)=false›
  have q:¬((k:Int)=3):=by simpa using‹((k:Int)==3)=false›
  have s:¬((k:Int)=4):=by simpa using‹((k:Int)==4)=false›
  have r:¬((k:Int)=5):=by simpa using‹((k:Int)==5)=false›
  have x:¬((k:Int)=6):=by simpa using‹((k:Int)==6)=false›
  have o:¬((k:Int)=7):=by simpa using‹((k:Int)==7)=false›
  have B:¬((k:Int)=8):=by simpa using‹((k:Int)==8)=false›
  have t:¬((k:Int)=9):=by simpa using‹((k:Int)==9)=false›
  have g:¬((k:Int)=10):=by simpa using‹((k:Int)==10)=false›
  have f:¬((k:Int)=11):=by simpa using‹((k:Int)==11)=false›
  obtain rfl:k=12:=ak;exact cP ak rfl a
theorem Ad:∀i j,i<=j->j<13->kW i<=kW j:=by
 have h:∀j,j<13->∀i,i<14->i<=j->kW i<=kW j:=yE;exact fun i j a b=>h j b i ak a
theorem AN:∀(l:List (Int×Int×Pr)) (i j:Nat),i<l.length->j<11->(l.flatMap bB)[11*i+j]? =(bB (l.getD i R8))[j]?
 |[],_,_,h,_=>absurd h aQ
 |x::l,0,j,_,hj=>by
  rw[List.flatMap_cons,List.getElem?_append_left Ri];simp
 |x::l,i+1,j,h,hj=>by
  rw[List.flatMap_cons,List.getElem?_append_right Ri];have e:11*(i+1)+j-(bB x).length=11*i+j:=Ri;rw[e];exact AN l i j uM hj
theorem Jh(k i j:Nat)(c:k<13)(b:i<20)(a:j<11):(bI k)[11*i+j]? =(bB (sy (20*k+i)))[j]? :=by
 unfold bI;rw[List.getElem?_toArray,AN _ _ _ (by simp[nj,lI];omega) a]
 congr 2
 unfold nj sy;simp only[List.getD_eq_getElem?_getD,List.getElem?_take,List.getElem?_drop,b,if_true]
def Laid(w:ahh):Prop:=0<w.heap.size/\∀i,i<13->w.cell? ⟨0,i,none⟩=some (.int .i32 (kW i))
theorem Laid.below{B:Nat}{w b:ahh}(h:Laid w)(a:ahi B w b)(c:0<B):Laid b:=
 ⟨Nat.lt_of_lt_of_le h.1 a.size,fun i d=>(a.cell (p:=⟨0,i,none⟩) c).trans (h.2 i d)⟩
def pR(r:Int)(x:Int×Int×Pr)(b:Bool):Prop:=
 match look iF r with
 |some p=>b=true/\x.2.2=p/\(p.bN=13->x.1=44032)
 |none=>b=false
def Wh(r:Int)(w:ahh)(e:ahn)(a:ahh):Prop:=
 ∃(x:Int×Int×Pr) (b:Bool),e=.returned (.tuple #[.agg (bB x).toArray,.bool b])/\pR r x b/\ahi w.heap.size w a
theorem Vb:∀i,i<260->(sy i).2.2.bN=13->(sy i).1=44032:=yE
theorem J8{r:Int}{lo x:Nat}{P:Int×Int×Pr}(o:lo<=13)(m:¬lo=13)(n:x<=19)(j:∀i,i<lo->kW i<r)(l:∀i,lo<=i->i<13->r<=kW i)
 (h:∀i,i<x->Jv (20*lo+i)<r) (g:∀i,x<=i->i<19->r<=Jv (20*lo+i)) (k:sy (20*lo+x)=P):pR r P (decide (P.1<=r)):=by
 have f:20*lo+x<260:=ak;have c:look iF r=if(sy (20*lo+x)).1<=r then some (sy (20*lo+x)).2.2 else none:=by
  refine Er f ?_ ?_
  .rcases Nat.eq_zero_or_pos x with a|a
   .subst a
    rcases Nat.eq_zero_or_pos lo with d|d
    .subst d;exact .inl rfl
    .refine .inr ?_
     have:=j (lo-1) ak;rw[xj _ ak]at this;rwa [show 20*lo+0-1=20*(lo-1)+19 by omega]
   .refine .inr ?_
    have:=h (x-1) ak;rwa [show 20*lo+x-1=20*lo+(x-1) by omega]
  .rcases Nat.lt_or_ge x 19 with a|a
   .exact g x bW a
   .have:=l lo bW ak
    rw[xj _ ak]at this;rwa [show x=19 by omega]
 have e:=Vb _ f;rw[k]at c e;unfold pR;rw[c];by_cases b:P.1<=r
 .rw[if_pos b]
  exact⟨by simp[b],rfl,e⟩
 .rw[if_neg b]
  simp[b]
theorem ze(r:Int)(w:ahh)(hl:Laid w):
 ahk prog 154 #[.int .i32 r] w (Wh r w):=by
 obtain⟨h0,hl⟩:=hl;go_enter func154,ntmps154;go_wp2;go_loop [4,5] (fun a b=>∃lo hi:Nat,lo<=hi/\hi<=13/\a=ae aj lo/\b=ae aj hi/\(∀i,i<lo->kW i<r)/\(∀i,hi<=i->i<13->r<=kW i)) (fun a b=>(intOf b-intOf a).toNat)
 case atStart=>exact⟨0,13,ak,ak,rfl,rfl,fun i hi=>by omega,fun i h1 h2=>by omega⟩
 case round=>
  obtain⟨lo,hi,h1,h2,rfl,rfl,h3,h4⟩:=hrel;have H3:=Lib.hid h3;have H4:=Lib.hid h4;by_cases aK:lo<hi
  .have hc:w.cell? ⟨0,(lo+hi)/2,none⟩=some (.int .i32 (kW ((lo+hi)/2))):=hl _ ak
   go_wp2
   .go_round
    case rel=>exact⟨(lo+hi)/2+1,hi,ak,ak,nS,rfl,fun i xX=>Int.lt_of_le_of_lt (Ad i ((lo+hi)/2) ak ak) (by assumption),H4.out⟩
    case measure=>simp[intOf];omega
   .go_round
    case rel=>exact⟨lo,(lo+hi)/2,ak,ak,rfl,nS,H3.out,fun i Jn Dl=>Int.le_trans (by assumption) (Ad ((lo+hi)/2) i Jn Dl)⟩
    case measure=>simp[intOf];omega
  .obtain rfl:lo=hi:=by omega
   by_cases YM:lo=13
   .subst YM
    go_wp2;refine bodyPost_ret (v:=.tuple #[.agg (bB (0,0,⟨0,0,0,0,0,0,0,0,false⟩)).toArray,.bool false]) (by simp[results,results154,go_sem,bB]) rfl ⟨(0,0,⟨0,0,0,0,0,0,0,0,false⟩),_,rfl, ?_, ?_⟩
    .unfold pR
     rw[zi (H3.out 12 ak)]
    ·(repeat(first|(with_reducible refine Below.setCell ?_ ?_ _)|(with_reducible refine Below.alloc ?_ ?_ _)|(with_reducible refine Below.drew ?_)|(with_reducible exact Below.refl _ _)|(with_reducible exact HB.out)|(with_reducible exact Nat.le_refl _)|omega|(simp;omega)|simp))
   .have ahb:(((lo:Int))==13)=false:=pI
    obtain⟨i0,z,hi,hz,pM⟩:=tp;have HI:=Lib.hid hi;have HZ:=Lib.hid hz;have HS:=Lib.hid pM;go_wp2_with (first
     |(go_at_call 228;refine(zj lo ak _).mono ?_;rintro e w1 ⟨rfl,hb⟩)
     |(refine wpList_plain rfl fun K hK=>gu 270 rfl HI.out HZ.out (hK _ _ ?_);simp only[Act.put])
     |(refine wpList_store_row rfl _ _ _ rfl w1.heap.size _ rfl rfl 270 z.cells (heap_alloc_new w1 _) ?kU ?ij (mK _) ?_;(case kU=>exact qD.trans (congrArg some (ee _ ak).symm));(case ij=>exact HS.out.trans (ee _ ak).symm);generalize bU:World.setRow _ _ _=W2;have HW2:=Lib.hid bU;clear bU))
    have gJ:w.heap.size<w1.heap.size:=by have:=hb.size;simp only[World.size_alloc]at this;omega
    have dw:W2.heap[w1.heap.size]? =some (.cells (bI lo) 270 (0,0)):=by rw[<-HW2.out];exact setRow_heap _ _ _ _ _ _ (heap_alloc_new w1 _)
    have Rv:W2.heap[w.heap.size]? =some (.cells (bB (0,0,⟨0,0,0,0,0,0,0,0,false⟩)).toArray 224 (0,0)):=by
     rw[<-HW2.out,setRow_other _ _ _ _ ak,Below.heap_alloc _ _ _ gJ];exact(hb.block _ aQ).trans (heap_alloc_new w _)
    have hB:ahi w.heap.size w W2:=by
     rw[<-HW2.out];exact below_setRow ((((Below.refl _ _).alloc bW _).trans (hb.mono aQ)).alloc ak _) ak _
    have ij:w1.heap.size<W2.heap.size:=(Array.getElem?_eq_some_iff.1 dw).1;have jD:∀i j,i<20->j<11->W2.cell? ⟨w1.heap.size,i*11+j,none⟩=(bB (sy (20*lo+i)))[j]? :=fun i j hi hj=>by
     rw[Nat.mul_comm,cell_of_row _ _ _ _ _ _ dw];exact Jh lo i j ak hi hj
    have sP:=Lib.hid Rv;have jG:=Lib.hid dw;have HB:=Lib.hid hB;have HC:=Lib.hid jD;generalize w1.heap.size=g2 at*;go_loop [4,5] (fun a b=>∃x y:Nat,x<=y/\y<=19/\a=ae aj x/\b=ae aj y/\(∀i,i<x->Jv (20*lo+i)<r)/\(∀i,y<=i->i<19->r<=Jv (20*lo+i))) (fun a b=>(intOf b-intOf a).toNat)
    case atStart=>exact⟨0,19,ak,ak,rfl,rfl,fun i hi=>by omega,fun i h1 h2=>by omega⟩
    case round=>
     obtain⟨x,y,sN,uR,rfl,rfl,hx3,hx4⟩:=hrel;have X3:=Lib.hid hx3;have X4:=Lib.hid hx4;by_cases po:x<y
     .have hc:W2.cell? ⟨g2,(x+y)/2*11+1,none⟩=some (.int .i32 (Jv (20*lo+(x+y)/2))):=HC.out _ 1 ak ak
      go_wp2
      .go_round
       case rel=>exact⟨(x+y)/2+1,y,ak,ak,nS,rfl,fun i xX=>Int.lt_of_le_of_lt (ya (i:=20*lo+i) (j:=20*lo+(x+y)/2) ak ak) (by assumption),X4.out⟩
       case measure=>simp[intOf];omega
      .go_round
       case rel=>exact⟨x,(x+y)/2,ak,ak,rfl,nS,X3.out,fun i Jn Dl=>Int.le_trans (by assumption) (ya (i:=20*lo+(x+y)/2) (j:=20*lo+i) ak ak)⟩
       case measure=>simp[intOf];omega
     .obtain rfl:x=y:=by omega
      generalize hP:sy (20*lo+x)=P at*;have HP:=Lib.hid hP;have c0:W2.cell? ⟨g2,x*11,none⟩=some ((bB (P)).getD 0 undef):=HP.out▸HC.out x 0 ak ak;have c1:W2.cell? ⟨g2,x*11+1,none⟩=some ((bB (P)).getD 1 undef):=HP.out▸HC.out x 1 ak ak;have c2:W2.cell? ⟨g2,x*11+2,none⟩=some ((bB (P)).getD 2 undef):=HP.out▸HC.out x 2 ak ak;have c3:W2.cell? ⟨g2,x*11+3,none⟩=some ((bB (P)).getD 3 undef):=HP.out▸HC.out x 3 ak ak;have c4:W2.cell? ⟨g2,x*11+4,none⟩=some ((bB (P)).getD 4 undef):=HP.out▸HC.out x 4 ak ak;have c5:W2.cell? ⟨g2,x*11+5,none⟩=some ((bB (P)).getD 5 undef):=HP.out▸HC.out x 5 ak ak;have c6:W2.cell? ⟨g2,x*11+6,none⟩=some ((bB (P)).getD 6 undef):=HP.out▸HC.out x 6 ak ak;have c7:W2.cell? ⟨g2,x*11+7,none⟩=some ((bB (P)).getD 7 undef):=HP.out▸HC.out x 7 ak ak;have c8:W2.cell? ⟨g2,x*11+8,none⟩=some ((bB (P)).getD 8 undef):=HP.out▸HC.out x 8 ak ak;have c9:W2.cell? ⟨g2,x*11+9,none⟩=some ((bB (P)).getD 9 undef):=HP.out▸HC.out x 9 ak ak;have zP:W2.cell? ⟨g2,x*11+10,none⟩=some ((bB (P)).getD 10 undef):=HP.out▸HC.out x 10 ak ak;have d0:W2.cell? ⟨w.heap.size,0,none⟩=some ((bB (0,0,⟨0,0,0,0,0,0,0,0,false⟩)).getD 0 undef):=cell_of_row _ _ _ _ _ _ sP.out;have e0:W2.frozen? ⟨w.heap.size,0,none⟩=false:=frozen_of_row _ _ _ _ _ sP.out;have d1:W2.cell? ⟨w.heap.size,1,none⟩=some ((bB (0,0,⟨0,0,0,0,0,0,0,0,false⟩)).getD 1 undef):=cell_of_row _ _ _ _ _ _ sP.out;have e1:W2.frozen? ⟨w.heap.size,1,none⟩=false:=frozen_of_row _ _ _ _ _ sP.out;have d2:W2.cell? ⟨w.heap.size,2,none⟩=some ((bB (0,0,⟨0,0,0,0,0,0,0,0,false⟩)).getD 2 undef):=cell_of_row _ _ _ _ _ _ sP.out;have e2:W2.frozen? ⟨w.heap.size,2,none⟩=false:=frozen_of_row _ _ _ _ _ sP.out;have d3:W2.cell? ⟨w.heap.size,3,none⟩=some ((bB (0,0,⟨0,0,0,0,0,0,0,0,false⟩)).getD 3 undef):=cell_of_row _ _ _ _ _ _ sP.out;have e3:W2.frozen? ⟨w.heap.size,3,none⟩=false:=frozen_of_row _ _ _ _ _ sP.out;have d4:W2.cell? ⟨w.heap.size,4,none⟩=some ((bB (0,0,⟨0,0,0,0,0,0,0,0,false⟩)).getD 4 undef):=cell_of_row _ _ _ _ _ _ sP.out;have e4:W2.frozen? ⟨w.heap.size,4,none⟩=false:=frozen_of_row _ _ _ _ _ sP.out;have d5:W2.cell? ⟨w.heap.size,5,none⟩=some ((bB (0,0,⟨0,0,0,0,0,0,0,0,false⟩)).getD 5 undef):=cell_of_row _ _ _ _ _ _ sP.out;have e5:W2.frozen? ⟨w.heap.size,5,none⟩=false:=frozen_of_row _ _ _ _ _ sP.out;have d6:W2.cell? ⟨w.heap.size,6,none⟩=some ((bB (0,0,⟨0,0,0,0,0,0,0,0,false⟩)).getD 6 undef):=cell_of_row _ _ _ _ _ _ sP.out;have e6:W2.frozen? ⟨w.heap.size,6,none⟩=false:=frozen_of_row _ _ _ _ _ sP.out;have d7:W2.cell? ⟨w.heap.size,7,none⟩=some ((bB (0,0,⟨0,0,0,0,0,0,0,0,false⟩)).getD 7 undef):=cell_of_row _ _ _ _ _ _ sP.out;have e7:W2.frozen? ⟨w.heap.size,7,none⟩=false:=frozen_of_row _ _ _ _ _ sP.out;have d8:W2.cell? ⟨w.heap.size,8,none⟩=some ((bB (0,0,⟨0,0,0,0,0,0,0,0,false⟩)).getD 8 undef):=cell_of_row _ _ _ _ _ _ sP.out;have e8:W2.frozen? ⟨w.heap.size,8,none⟩=false:=frozen_of_row _ _ _ _ _ sP.out;have d9:W2.cell? ⟨w.heap.size,9,none⟩=some ((bB (0,0,⟨0,0,0,0,0,0,0,0,false⟩)).getD 9 undef):=cell_of_row _ _ _ _ _ _ sP.out;have e9:W2.frozen? ⟨w.heap.size,9,none⟩=false:=frozen_of_row _ _ _ _ _ sP.out;have d10:W2.cell? ⟨w.heap.size,10,none⟩=some ((bB (0,0,⟨0,0,0,0,0,0,0,0,false⟩)).getD 10 undef):=cell_of_row _ _ _ _ _ _ sP.out;have sr:W2.frozen? ⟨w.heap.size,10,none⟩=false:=frozen_of_row _ _ _ _ _ sP.out;simp only[bB,List.getD_cons_zero,List.getD_cons_succ]at c0 c1 c2 c3 c4 c5 c6 c7 c8 c9 zP d0 d1 d2 d3 d4 d5 d6 d7 d8 d9 d10;have dY:¬(g2=w.heap.size):=ak;have ag9:¬(w.heap.size=g2):=ak;go_wp2;go_region;go_wp2;refine bodyPost_ret (v:=.tuple #[.agg (bB P).toArray,.bool (decide (P.1<=r))]) (by simp[results,results154,go_sem,bB,d0,d1,d2,d3,d4,d5,d6,d7,d8,d9,d10]) rfl ⟨P,_,rfl,J8 h2 YM uR H3.out H4.out X3.out X4.out HP.out, ?_⟩
      (repeat(first|(with_reducible refine Below.setCell ?_ ?_ _)|(with_reducible refine Below.alloc ?_ ?_ _)|(with_reducible refine Below.drew ?_)|(with_reducible exact Below.refl _ _)|(with_reducible exact HB.out)|(with_reducible exact Nat.le_refl _)|omega|(simp;omega)|simp))
end Go.Proofs.YtklncadpkniojaaGreatDoor
