/- Part of LineBoxes. -/
import Derived.Test.YtpidckelbgbbkaaGreatDoorAc
import Derived.StillTailTactics
import Derived.BigRegion
namespace Go.Proofs.YtpidckelbgbbkaaGreatDoor
open Go.ChangeShapes Go.WideShapes Go.ChangeAt Go.RowKit Go.Proofs.Tryz
open Go.Value renaming int → ae
open Go.IntKind renaming i64 → aj
set_option linter.all false
set_option maxRecDepth 100000
set_option maxHeartbeats 16000000
theorem aQ{p:Prop}(h:p:=by go_num):p:=h
theorem eu:∀k,k<13->(bG k).size=220:=yC
theorem mO(k:Nat):(bG k).all (·.oneCell')=true:=by
 unfold bG;generalize nu k=l;rw[List.all_toArray,List.all_flatMap];simp[bC,Value.oneCell',Function.comp_def]
attribute [local irreducible] bG
theorem tM:∃(i:TypeInfo) (z:Value),prog.info? 260=some i/\i.zero=some z/\z.cells.size=220:=by
 obtain⟨e,b,a,d,c⟩:=info_parts vX;exact⟨e,_,b,a,rfl⟩
theorem cR{k:Nat}{z:Array Value}{w b:World}{tmps:Array Value}(d:k<13)(c:tmps.getD 2 undef= .pointer (some ⟨w.heap.size,0,none⟩))
 (a:Below (w.alloc (.cells z 260)).heap.size (w.alloc (.cells z 260)) b):
 bodyPost prog f201 (fun e f=>e= .returned (.agg (bG k))/\Below w.heap.size w f) .ret ⟨tmps,[]⟩ (b.setRow w.heap.size (bG k)):=by
 refine bodyPost_ret (v:= .agg (bG k)) (results_cell_row results201 _ _ w.heap.size 260 _ (0,0) _ c (setRow_heap _ _ _ _ _ _ ((a.block _ aD).trans (heap_alloc_new w _))) underlying260 rfl (qk.trans (congrArg some (eu k d).symm))) rfl ⟨rfl, ?_⟩;exact below_setRow (((Below.refl _ _).alloc cr _).trans (a.mono aD)) cr _
theorem An(k:Nat)(x:k<13)(w:World):
 Calls prog 201 #[ae aj k] w fun e i=>e= .returned (.agg (bG k))/\Below w.heap.size w i:=by
 obtain⟨B,z,l,f,c⟩:=tM;have d:=Lib.hid l;have j:=Lib.hid f;have n:=Lib.hid c;go_enter func201,ntmps201;go_wp2_with (first
  |(refine wpList_plain rfl fun K hK=>gH 260 rfl d.out j.out (hK _ _ ?_);simp only[Act.put])
  |(refine wpList_store_row rfl _ _ _ rfl w.heap.size _ rfl rfl 260 z.cells ((a.block _ aD).trans (heap_alloc_new w _)) ?jg ?iq (mO _) ?_;(case jg=>exact qk.trans (congrArg some (eu _ aq).symm));(case iq=>exact n.out.trans (eu _ aq).symm))
  |(go_at_call 257;refine(DP _).mono ?_;rintro e b ⟨rfl,a⟩)
  |(go_at_call 258;refine(Ep _).mono ?_;rintro e b ⟨rfl,a⟩)
  |(go_at_call 259;refine(Di _).mono ?_;rintro e b ⟨rfl,a⟩)
  |(go_at_call 260;refine(Cq _).mono ?_;rintro e b ⟨rfl,a⟩)
  |(go_at_call 261;refine(Dz _).mono ?_;rintro e b ⟨rfl,a⟩)
  |(go_at_call 262;refine(Dx _).mono ?_;rintro e b ⟨rfl,a⟩)
  |(go_at_call 263;refine(Cz _).mono ?_;rintro e b ⟨rfl,a⟩)
  |(go_at_call 264;refine(DY _).mono ?_;rintro e b ⟨rfl,a⟩)
  |(go_at_call 265;refine(D' _).mono ?_;rintro e b ⟨rfl,a⟩)
  |(go_at_call 266;refine(Eg _).mono ?_;rintro e b ⟨rfl,a⟩)
  |(go_at_call 267;refine(Ag _).mono ?_;rintro e b ⟨rfl,a⟩)
  |(go_at_call 268;refine(Ae _).mono ?_;rintro e b ⟨rfl,a⟩)
  |(go_at_call 269;refine(Al _).mono ?_;rintro e b ⟨rfl,a⟩))
 ·obtain rfl:k=0:=by{have h:=‹((k:Int)==0)=true›;simp at h;omega}
  exact cR aq rfl a
 ·obtain rfl:k=1:=by{have h:=‹((k:Int)==1)=true›;simp at h;omega}
  exact cR aq rfl a
 ·obtain rfl:k=2:=by{have h:=‹((k:Int)==2)=true›;simp at h;omega}
  exact cR aq rfl a
 ·obtain rfl:k=3:=by{have h:=‹((k:Int)==3)=true›;simp at h;omega}
  exact cR aq rfl a
 ·obtain rfl:k=4:=by{have h:=‹((k:Int)==4)=true›;simp at h;omega}
  exact cR aq rfl a
 ·obtain rfl:k=5:=by{have h:=‹((k:Int)==5)=true›;simp at h;omega}
  exact cR aq rfl a
 ·obtain rfl:k=6:=by{have h:=‹((k:Int)==6)=true›;simp at h;omega}
  exact cR aq rfl a
 ·obtain rfl:k=7:=by{have h:=‹((k:Int)==7)=true›;simp at h;omega}
  exact cR aq rfl a
 ·obtain rfl:k=8:=by{have h:=‹((k:Int)==8)=true›;simp at h;omega}
  exact cR aq rfl a
 ·obtain rfl:k=9:=by{have h:=‹((k:Int)==9)=true›;simp at h;omega}
  exact cR aq rfl a
 ·obtain rfl:k=10:=by{have h:=‹((k:Int)==10)=true›;simp at h;omega}
  exact cR aq rfl a
 ·obtain rfl:k=11:=by{have h:=‹((k:Int)==11)=true›;simp at h;omega}
  exact cR aq rfl a
 ·have p:¬((k:Int)=0):=by simpa using‹((k:Int)==0)=false›
  have s:¬((k:Int)=1):=by simpa using‹((k:Int)==1)=false›
  have u:¬((k:Int)=2):=by simpa using‹((k:Int)==2)=false›
  have q:¬((k:Int)=3):=by simpa using‹((k:Int)==3)=false›
  have y:¬((k:Int)=4):=by simpa using‹((k:Int)==4)=false›
  have o:¬((k:Int)=5):=by simpa using‹((k:Int)==5)=false›
  have t:¬((k:Int)=6):=by simpa using‹((k:Int)==6)=false›
  have r:¬((k:Int)=7):=by simpa using‹((k:Int)==7)=false›
  have A:¬((k:Int)=8):=by simpa using‹((k:Int)==8)=false›
  have v:¬((k:Int)=9):=by simpa using‹((k:Int)==9)=false›
  have g:¬((k:Int)=10):=by simpa using‹((k:Int)==10)=false›
  have m:¬((k:Int)=11):=by simpa using‹((k:Int)==11)=false›
  obtain rfl:k=12:=aq;exact cR aq rfl a
theorem zd:∀i j,i<=j->j<13->kQ i<=kQ j:=by
 have h:∀j,j<13->∀i,i<14->i<=j->kQ i<=kQ j:=yC;exact fun i j a b=>h j b i aq a
theorem Ak:∀(l:List (Int×Int×Pr)) (i j:Nat),i<l.length->j<11->(l.flatMap bC)[11*i+j]? =(bC (l.getD i Qx))[j]?
 |[],_,_,h,_=>absurd h aD
 |x::l,0,j,_,hj=>by
  rw[List.flatMap_cons,List.getElem?_append_left O'];simp
 |x::l,i+1,j,h,hj=>by
  rw[List.flatMap_cons,List.getElem?_append_right O'];have e:11*(i+1)+j-(bC x).length=11*i+j:=O';rw[e];exact Ak l i j wT hj
theorem Iy(k i j:Nat)(c:k<13)(a:i<20)(b:j<11):(bG k)[11*i+j]? =(bC (sa (20*k+i)))[j]? :=by
 unfold bG;rw[List.getElem?_toArray,Ak _ _ _ (by simp[nu,lE];omega) b]
 congr 2
 unfold nu sa;simp only[List.getD_eq_getElem?_getD,List.getElem?_take,List.getElem?_drop,a,if_true]
def Laid(w:World):Prop:=0<w.heap.size/\∀i,i<13->w.cell? ⟨0,i,none⟩=some (.int .i32 (kQ i))
theorem Laid.below{B:Nat}{w b:World}(h:Laid w)(a:Below B w b)(d:0<B):Laid b:=
 ⟨Nat.lt_of_lt_of_le h.1 a.size,fun i c=>(a.cell (p:=⟨0,i,none⟩) d).trans (h.2 i c)⟩
def qn(r:Int)(x:Int×Int×Pr)(b:Bool):Prop:=
 match look gQ r with
 |some p=>b=true/\x.2.2=p/\(p.bM=13->x.1=44032)
 |none=>b=false
def UD(r:Int)(w:World)(e:Ending)(a:World):Prop:=
 ∃(x:Int×Int×Pr) (b:Bool),e= .returned (.tuple #[.agg (bC x).toArray, .bool b])/\qn r x b/\Below w.heap.size w a
theorem Rk:∀i,i<260->(sa i).2.2.bM=13->(sa i).1=44032:=yC
theorem Hv{r:Int}{lo x:Nat}{P:Int×Int×Pr}(o:lo<=13)(m:¬lo=13)(n:x<=19)(h:∀i,i<lo->kQ i<r)(k:∀i,lo<=i->i<13->r<=kQ i)
 (g:∀i,i<x->Jr (20*lo+i)<r) (j:∀i,x<=i->i<19->r<=Jr (20*lo+i)) (l:sa (20*lo+x)=P):qn r P (decide (P.1<=r)):=by
 have d:20*lo+x<260:=aq;have e:look gQ r=if(sa (20*lo+x)).1<=r then some (sa (20*lo+x)).2.2 else none:=by
  refine Ct d ?_ ?_
  ·rcases Nat.eq_zero_or_pos x with a|a
   ·subst a
    rcases Nat.eq_zero_or_pos lo with f|f
    ·subst f;exact .inl rfl
    ·refine .inr ?_
     have:=h (lo-1) aq;rw[yl _ aq]at this;rwa [show 20*lo+0-1=20*(lo-1)+19 by omega]
   ·refine .inr ?_
    have:=g (x-1) aq;rwa [show 20*lo+x-1=20*lo+(x-1) by omega]
  ·rcases Nat.lt_or_ge x 19 with a|a
   ·exact j x cr a
   ·have:=k lo cr aq
    rw[yl _ aq]at this;rwa [show x=19 by omega]
 have c:=Rk _ d;rw[l]at e c;unfold qn;rw[e];by_cases b:P.1<=r
 ·rw[if_pos b]
  exact⟨by simp[b],rfl,c⟩
 ·rw[if_neg b]
  simp[b]
theorem yV(r:Int)(w:World)(hl:Laid w):
 Calls prog 136 #[.int .i32 r] w (UD r w):=by
 obtain⟨h0,hl⟩:=hl;go_enter func136,ntmps136;go_wp2;go_loop [4,5] (fun a b=>∃lo hi:Nat,lo<=hi/\hi<=13/\a=ae aj lo/\b=ae aj hi/\(∀i,i<lo->kQ i<r)/\(∀i,hi<=i->i<13->r<=kQ i)) (fun a b=>(intOf b-intOf a).toNat)
 case atStart=>exact⟨0,13,aq,aq,rfl,rfl,fun i hi=>by omega,fun i h1 h2=>by omega⟩
 case round=>
  obtain⟨lo,hi,h1,h2,rfl,rfl,h3,h4⟩:=hrel;have H3:=Lib.hid h3;have H4:=Lib.hid h4;by_cases aH:lo<hi
  ·have hc:w.cell? ⟨0,(lo+hi)/2,none⟩=some (.int .i32 (kQ ((lo+hi)/2))):=hl _ aq
   go_wp2
   ·go_round
    case rel=>exact⟨(lo+hi)/2+1,hi,aq,aq,aQ,rfl,fun i wZ=>Int.lt_of_le_of_lt (zd i ((lo+hi)/2) aq aq) (by assumption),H4.out⟩
    case measure=>simp[intOf];omega
   ·go_round
    case rel=>exact⟨lo,(lo+hi)/2,aq,aq,rfl,aQ,H3.out,fun i IH Dg=>Int.le_trans (by assumption) (zd ((lo+hi)/2) i IH Dg)⟩
    case measure=>simp[intOf];omega
  ·obtain rfl:lo=hi:=by omega
   by_cases Wt:lo=13
   ·subst Wt
    go_wp2;refine bodyPost_ret (v:= .tuple #[.agg (bC (0,0,⟨0,0,0,0,0,0,0,0,false⟩)).toArray, .bool false]) (by simp[results,results136,go_sem,bC]) rfl ⟨(0,0,⟨0,0,0,0,0,0,0,0,false⟩),_,rfl, ?_, ?_⟩
    ·unfold qn
     rw[AB (H3.out 12 aq)]
    ·(repeat(first|(with_reducible refine Below.setCell ?_ ?_ _)|(with_reducible refine Below.alloc ?_ ?_ _)|(with_reducible refine Below.drew ?_)|(with_reducible exact Below.refl _ _)|(with_reducible exact HB.out)|(with_reducible exact Nat.le_refl _)|omega|(simp;omega)|simp))
   ·have afw:(((lo:Int))==13)=false:=pM
    obtain⟨i0,z,hi,hz,pQ⟩:=tM;have HI:=Lib.hid hi;have HZ:=Lib.hid hz;have HS:=Lib.hid pQ;go_wp2_with (first
     |(go_at_call 201;refine(An lo aq _).mono ?_;rintro e w1 ⟨rfl,hb⟩)
     |(refine wpList_plain rfl fun K hK=>gH 260 rfl HI.out HZ.out (hK _ _ ?_);simp only[Act.put])
     |(refine wpList_store_row rfl _ _ _ rfl w1.heap.size _ rfl rfl 260 z.cells (heap_alloc_new w1 _) ?jg ?iq (mO _) ?_;(case jg=>exact qk.trans (congrArg some (eu _ aq).symm));(case iq=>exact HS.out.trans (eu _ aq).symm);generalize cd:World.setRow _ _ _=W2;have HW2:=Lib.hid cd;clear cd))
    have iE:w.heap.size<w1.heap.size:=by have:=hb.size;simp only[World.size_alloc]at this;omega
    have fL:W2.heap[w1.heap.size]? =some (.cells (bG lo) 260 (0,0)):=by rw[<-HW2.out];exact setRow_heap _ _ _ _ _ _ (heap_alloc_new w1 _)
    have Cn:W2.heap[w.heap.size]? =some (.cells (bC (0,0,⟨0,0,0,0,0,0,0,0,false⟩)).toArray 196 (0,0)):=by
     rw[<-HW2.out,setRow_other _ _ _ _ aq,Below.heap_alloc _ _ _ iE];exact(hb.block _ aD).trans (heap_alloc_new w _)
    have hB:Below w.heap.size w W2:=by
     rw[<-HW2.out];exact below_setRow ((((Below.refl _ _).alloc cr _).trans (hb.mono aD)).alloc aq _) aq _
    have iq:w1.heap.size<W2.heap.size:=(Array.getElem?_eq_some_iff.1 fL).1;have mi:∀i j,i<20->j<11->W2.cell? ⟨w1.heap.size,i*11+j,none⟩=(bC (sa (20*lo+i)))[j]? :=fun i j hi hj=>by
     rw[Nat.mul_comm,cell_of_row _ _ _ _ _ _ fL];exact Iy lo i j aq hi hj
    have su:=Lib.hid Cn;have gI:=Lib.hid fL;have HB:=Lib.hid hB;have HC:=Lib.hid mi;generalize w1.heap.size=g2 at*;go_loop [4,5] (fun a b=>∃x y:Nat,x<=y/\y<=19/\a=ae aj x/\b=ae aj y/\(∀i,i<x->Jr (20*lo+i)<r)/\(∀i,y<=i->i<19->r<=Jr (20*lo+i))) (fun a b=>(intOf b-intOf a).toNat)
    case atStart=>exact⟨0,19,aq,aq,rfl,rfl,fun i hi=>by omega,fun i h1 h2=>by omega⟩
    case round=>
     obtain⟨x,y,mv,pA,rfl,rfl,hx3,hx4⟩:=hrel;have X3:=Lib.hid hx3;have X4:=Lib.hid hx4;by_cases sy:x<y
     ·have hc:W2.cell? ⟨g2,(x+y)/2*11+1,none⟩=some (.int .i32 (Jr (20*lo+(x+y)/2))):=HC.out _ 1 aq aq
      go_wp2
      ·go_round
       case rel=>exact⟨(x+y)/2+1,y,aq,aq,aQ,rfl,fun i wZ=>Int.lt_of_le_of_lt (xt (i:=20*lo+i) (j:=20*lo+(x+y)/2) aq aq) (by assumption),X4.out⟩
       case measure=>simp[intOf];omega
      ·go_round
       case rel=>exact⟨x,(x+y)/2,aq,aq,rfl,aQ,X3.out,fun i IH Dg=>Int.le_trans (by assumption) (xt (i:=20*lo+(x+y)/2) (j:=20*lo+i) aq aq)⟩
       case measure=>simp[intOf];omega
     ·obtain rfl:x=y:=by omega
      generalize hP:sa (20*lo+x)=P at*;have HP:=Lib.hid hP;have c0:W2.cell? ⟨g2,x*11,none⟩=some ((bC (P)).getD 0 undef):=HP.out▸HC.out x 0 aq aq;have c1:W2.cell? ⟨g2,x*11+1,none⟩=some ((bC (P)).getD 1 undef):=HP.out▸HC.out x 1 aq aq;have c2:W2.cell? ⟨g2,x*11+2,none⟩=some ((bC (P)).getD 2 undef):=HP.out▸HC.out x 2 aq aq;have c3:W2.cell? ⟨g2,x*11+3,none⟩=some ((bC (P)).getD 3 undef):=HP.out▸HC.out x 3 aq aq;have c4:W2.cell? ⟨g2,x*11+4,none⟩=some ((bC (P)).getD 4 undef):=HP.out▸HC.out x 4 aq aq;have c5:W2.cell? ⟨g2,x*11+5,none⟩=some ((bC (P)).getD 5 undef):=HP.out▸HC.out x 5 aq aq;have c6:W2.cell? ⟨g2,x*11+6,none⟩=some ((bC (P)).getD 6 undef):=HP.out▸HC.out x 6 aq aq;have c7:W2.cell? ⟨g2,x*11+7,none⟩=some ((bC (P)).getD 7 undef):=HP.out▸HC.out x 7 aq aq;have c8:W2.cell? ⟨g2,x*11+8,none⟩=some ((bC (P)).getD 8 undef):=HP.out▸HC.out x 8 aq aq;have c9:W2.cell? ⟨g2,x*11+9,none⟩=some ((bC (P)).getD 9 undef):=HP.out▸HC.out x 9 aq aq;have yh:W2.cell? ⟨g2,x*11+10,none⟩=some ((bC (P)).getD 10 undef):=HP.out▸HC.out x 10 aq aq;have d0:W2.cell? ⟨w.heap.size,0,none⟩=some ((bC (0,0,⟨0,0,0,0,0,0,0,0,false⟩)).getD 0 undef):=cell_of_row _ _ _ _ _ _ su.out;have e0:W2.frozen? ⟨w.heap.size,0,none⟩=false:=frozen_of_row _ _ _ _ _ su.out;have d1:W2.cell? ⟨w.heap.size,1,none⟩=some ((bC (0,0,⟨0,0,0,0,0,0,0,0,false⟩)).getD 1 undef):=cell_of_row _ _ _ _ _ _ su.out;have e1:W2.frozen? ⟨w.heap.size,1,none⟩=false:=frozen_of_row _ _ _ _ _ su.out;have d2:W2.cell? ⟨w.heap.size,2,none⟩=some ((bC (0,0,⟨0,0,0,0,0,0,0,0,false⟩)).getD 2 undef):=cell_of_row _ _ _ _ _ _ su.out;have e2:W2.frozen? ⟨w.heap.size,2,none⟩=false:=frozen_of_row _ _ _ _ _ su.out;have d3:W2.cell? ⟨w.heap.size,3,none⟩=some ((bC (0,0,⟨0,0,0,0,0,0,0,0,false⟩)).getD 3 undef):=cell_of_row _ _ _ _ _ _ su.out;have e3:W2.frozen? ⟨w.heap.size,3,none⟩=false:=frozen_of_row _ _ _ _ _ su.out;have d4:W2.cell? ⟨w.heap.size,4,none⟩=some ((bC (0,0,⟨0,0,0,0,0,0,0,0,false⟩)).getD 4 undef):=cell_of_row _ _ _ _ _ _ su.out;have e4:W2.frozen? ⟨w.heap.size,4,none⟩=false:=frozen_of_row _ _ _ _ _ su.out;have d5:W2.cell? ⟨w.heap.size,5,none⟩=some ((bC (0,0,⟨0,0,0,0,0,0,0,0,false⟩)).getD 5 undef):=cell_of_row _ _ _ _ _ _ su.out;have e5:W2.frozen? ⟨w.heap.size,5,none⟩=false:=frozen_of_row _ _ _ _ _ su.out;have d6:W2.cell? ⟨w.heap.size,6,none⟩=some ((bC (0,0,⟨0,0,0,0,0,0,0,0,false⟩)).getD 6 undef):=cell_of_row _ _ _ _ _ _ su.out;have e6:W2.frozen? ⟨w.heap.size,6,none⟩=false:=frozen_of_row _ _ _ _ _ su.out;have d7:W2.cell? ⟨w.heap.size,7,none⟩=some ((bC (0,0,⟨0,0,0,0,0,0,0,0,false⟩)).getD 7 undef):=cell_of_row _ _ _ _ _ _ su.out;have e7:W2.frozen? ⟨w.heap.size,7,none⟩=false:=frozen_of_row _ _ _ _ _ su.out;have d8:W2.cell? ⟨w.heap.size,8,none⟩=some ((bC (0,0,⟨0,0,0,0,0,0,0,0,false⟩)).getD 8 undef):=cell_of_row _ _ _ _ _ _ su.out;have e8:W2.frozen? ⟨w.heap.size,8,none⟩=false:=frozen_of_row _ _ _ _ _ su.out;have d9:W2.cell? ⟨w.heap.size,9,none⟩=some ((bC (0,0,⟨0,0,0,0,0,0,0,0,false⟩)).getD 9 undef):=cell_of_row _ _ _ _ _ _ su.out;have e9:W2.frozen? ⟨w.heap.size,9,none⟩=false:=frozen_of_row _ _ _ _ _ su.out;have d10:W2.cell? ⟨w.heap.size,10,none⟩=some ((bC (0,0,⟨0,0,0,0,0,0,0,0,false⟩)).getD 10 undef):=cell_of_row _ _ _ _ _ _ su.out;have re:W2.frozen? ⟨w.heap.size,10,none⟩=false:=frozen_of_row _ _ _ _ _ su.out;simp only[bC,List.getD_cons_zero,List.getD_cons_succ]at c0 c1 c2 c3 c4 c5 c6 c7 c8 c9 yh d0 d1 d2 d3 d4 d5 d6 d7 d8 d9 d10;have dX:¬(g2=w.heap.size):=aq;have afI:¬(w.heap.size=g2):=aq;go_wp2;go_region;go_wp2;refine bodyPost_ret (v:= .tuple #[.agg (bC P).toArray, .bool (decide (P.1<=r))]) (by simp[results,results136,go_sem,bC,d0,d1,d2,d3,d4,d5,d6,d7,d8,d9,d10]) rfl ⟨P,_,rfl,Hv h2 Wt pA H3.out H4.out X3.out X4.out HP.out, ?_⟩
      (repeat(first|(with_reducible refine Below.setCell ?_ ?_ _)|(with_reducible refine Below.alloc ?_ ?_ _)|(with_reducible refine Below.drew ?_)|(with_reducible exact Below.refl _ _)|(with_reducible exact HB.out)|(with_reducible exact Nat.le_refl _)|omega|(simp;omega)|simp))
end Go.Proofs.YtpidckelbgbbkaaGreatDoor
