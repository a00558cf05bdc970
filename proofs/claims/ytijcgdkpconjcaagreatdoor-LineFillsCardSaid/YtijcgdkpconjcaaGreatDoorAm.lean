/- Part of LineFills. -/
import Derived.Test.YtijcgdkpconjcaaGreatDoorAf
import Derived.Test.YtijcgdkpconjcaaGreatDoorAg
namespace Go.Proofs.YtijcgdkpconjcaaGreatDoor
open Go.ChangeShapes Go.WideShapes Go.ChangeAt Go.RowKit Go.Proofs.Tryz
open Go renaming World->EE,Value->EN,Calls->GK,TypeId->IQ,Ending->IS
open Go.RowKit renaming wrap64->IK
open Bool renaming true->OX,false->OZ
open Go.Value renaming int->ae
open Go.IntKind renaming i64->aj
set_option linter.all false
set_option maxRecDepth 100000
set_option maxHeartbeats 16000000
variable{w:EE}{a b c n:Nat}{A:aB}{ts:aC}
def TC:aS prog 52 57 2 16:=bD underlying52 (z:=.agg #[ae aj 0,ae aj 0]) aF rfl aq aq
def GH(w:EE)(ps:List (Nat×Nat))(r:IS)(a:EE):Prop:=
 ∃(A:aB) (c:Nat),r=.returned (.slice A ps.length c)/\aA a w.heap.size 57 2 A ps.length c (dG ps)/\az w a
def ku(w:EE)(a b:EN)(t:IQ):∀j u,[a,b][j]? =some u->(w.alloc (.cells #[a,b] t)).cell? ⟨w.heap.size,j,none⟩=some u:=by
 intro j u h;rw[cell_of_row _ _ _ _ _ _ (heap_alloc_new w _)];simpa using h
def pg(a b:Int):∀u∈[ae aj a,ae aj b],u.oneCell'=OX:=by
 intro u c;simp at c;rcases c with rfl|rfl<;>rfl
def W6{xs:aC}{k:Nat}(h:k<xs.length):nth (xs.map ur) k=tQ xs k:=by
 unfold nth tQ ur nth;simp[h]
def Gb(ps:List (Nat×Nat))(f k:Nat):dG ps++[ae aj f,ae aj ((k:Int)+1)]=dG (ps++[(f,k+1)]):=by
 rw[nw,xq]
 congr 3
def FR{B size:Nat}{e:IQ}{xs a:List EN}(h:aA w B e size A n c xs)(d:xs=a)(f:n=b):aA w B e size A b c a:=by subst d;subst f;exact h
def aA.aeC{B size:Nat}{e:IQ}{vs:List EN}(h:aA w B e size A n c vs)(f:a<=B):aA w a e size A n c vs:=by
 refine⟨h.1, ?_⟩;rcases h.2 with d|⟨g,cap,cur,b,i,r⟩
 .exact .inl d
 .exact .inr ⟨g,cap,cur,b,aq,r⟩
def Tw{G:Prop}(s:G:=by
 refine⟨k+1,A2,d2,aq,ns, ?_, ?_, ?_,wR⟩
 .rw[PY];simp
 .rw[FY];first|rfl|go_num
 .rw[PY,<-Gb];exact FR tT rfl aT):G:=s
def Fb(A:aB)(n c:Nat)(xs:aC)(w:EE)(F:aJ .i32 w A n c xs)(hn:n*16<=140737488355328):
 GK prog 24 #[.slice A n c] w (GH w (sr xs)):=by
 have PB:=Lib.hid (wX A n c xs w F aq);have HX:=Lib.hid F.at_;have a:=Lib.hid F.at_.len;clear F;go_enter func24,ntmps24;go_wp2_with fail;refine PB.out.mono ?_;rintro e Y ⟨Ab,cb,rfl,K,B⟩;have OB:=Lib.hid K.ints;have S:=Lib.hid (HX.out.Z B);have D:=B.size;have Q:=Lib.hid B;clear K B PB;go_wp2;go_loopw [3,5,6] (λu v i wr=>∃(k:Nat) (C:aB) (E:Nat),k<=n/\i=ae aj k/\u=.slice C (par xs k).length E/\v=ae aj ((vK xs k:Nat):Int)/\aA wr Y.heap.size 57 2 C (par xs k).length E (dG (par xs k))/\az Y wr) (λ_ _ i _=>n-(intOf i).toNat)
 case atStart=>exact⟨0,none,0,Nat.zero_le _,rfl,rfl,rfl,aA.nil _ _ _ _,Below.refl _ _⟩
 case round=>
  obtain⟨k,C,E,hk,rfl,rfl,rfl,Z,M⟩:=hrel;have q:=Lib.hid Z;have f:=Lib.hid M;have U:=Lib.hid M;by_cases I:k<n
  .obtain⟨X,rfl,ja,H⟩:=(S.out.below (M.mono cr)).2 aq
   have hc:=H k I;obtain⟨ab,rfl,hbb,N⟩:=(OB.out.below M).2 aq;have W:=N k I;rw[W6 (by rw[a.out];exact I)]at W;have⟨x,F⟩:=eY (tQ xs k);have l:=Lib.hid F;have⟨r,T⟩:=eY (nth xs k);have m:=Lib.hid T;have⟨s,V⟩:=eY (nth xs (k+1));have SE:=Lib.hid V;have y:k+1<n->wr.cell? ⟨X.block,X.off+(k+1),none⟩=some (.int .i32 s):=λh=>by rw[<-V,<-add_succ];exact H (k+1) h
   rw[F]at W;rw[T]at hc;have hpl:=yi xs k;clear H N F T V Z M;have hfl:=Qr xs k;by_cases J:r=13
   .subst J
    by_cases p:k+1<n
    .have Fe:=y p
     clear y;have l1:(k:Int)+1<n:=aq;have R:((k:Int)==(n:Int)-1)=OZ:=pW;have P:((k:Int)+1==(n:Int))=OZ:=pW;by_cases t:s=10
     .subst t
      by_cases d:x=11
      .subst d
       have b:fQ xs k=OZ:=by first|(unfold fQ gE;rw[l.out,m.out,SE.out,a.out];simp;omega)|(unfold fQ gE;rw[l.out,m.out,SE.out,a.out];simp[p])
       go_wp2;have PY:=um b;have FY:=yw b;clear b;go_roundw
       case rel=>
        refine⟨k+1,C,E,aq,ns, ?_, ?_, ?_,f.out⟩
        .rw[PY]
        .rw[FY]
        .rw[PY];exact q.out
       case measure=>simp[intOf]<;>omega
      .have G:((x:Int)==11)=OZ:=by simpa using d
       have b:fQ xs k=OZ:=by first|(unfold fQ gE;rw[l.out,m.out,SE.out,a.out];simp;omega)|(unfold fQ gE;rw[l.out,m.out,SE.out,a.out];simp[p,d])
       go_wp2;have PY:=um b;have FY:=yw b;clear b;go_roundw
       case rel=>
        refine⟨k+1,C,E,aq,ns, ?_, ?_, ?_,f.out⟩
        .rw[PY]
        .rw[FY]
        .rw[PY];exact q.out
       case measure=>simp[intOf]<;>omega
     .have n10:((s:Int)==10)=OZ:=by simpa using t
      by_cases d:x=11
      .subst d
       have b:fQ xs k=OX:=by first|(unfold fQ gE;rw[l.out,m.out,SE.out,a.out];simp;omega)|(unfold fQ gE;rw[l.out,m.out,SE.out,a.out];simp[p,t])
       go_wp2_with (at_builtin;refine cG TC rfl (.tmp 50) (.tmp 55) rfl rfl (q.out.alloc _) rfl (news:=[ae aj ((vK xs k:Nat):Int),ae aj ((k:Int)+1)]) rfl (ku _ _ _ _) (pg _ _) Tr (by have:=f.out.size;simp;omega) ?_;intro A2 d2 O tT j;have g:=f.out.alloc (by have:=f.out.size;omega) (.cells #[ae aj ((vK xs k:Nat):Int),ae aj ((k:Int)+1)] 57));have wR:=g.trans j;have PY:=pC b;have FY:=pK b;clear b;go_roundw
       case rel=>exact Tw
       case measure=>simp[intOf]<;>omega
      .have G:((x:Int)==11)=OZ:=by simpa using d
       have b:fQ xs k=OZ:=by first|(unfold fQ gE;rw[l.out,m.out,SE.out,a.out];simp;omega)|(unfold fQ gE;rw[l.out,m.out,SE.out,a.out];simp[p,d,t])
       go_wp2;have PY:=um b;have FY:=yw b;clear b;go_roundw
       case rel=>
        refine⟨k+1,C,E,aq,ns, ?_, ?_, ?_,f.out⟩
        .rw[PY]
        .rw[FY]
        .rw[PY];exact q.out
       case measure=>simp[intOf]<;>omega
    .have l1:¬(k:Int)+1<n:=by omega
     have R:((k:Int)==(n:Int)-1)=OX:=br;have P:((k:Int)+1==(n:Int))=OX:=br;have o:k+1=n:=aq;have z:=Lib.hid o;clear y;by_cases d:x=11
     .subst d
      clear o;have b:fQ xs k=OX:=by first|(unfold fQ gE;rw[l.out,m.out,SE.out,a.out];simp;omega)|(unfold fQ gE;rw[l.out,m.out,SE.out,a.out];simp[z.out])
      go_wp2_with (at_builtin;refine cG TC rfl (.tmp 50) (.tmp 55) rfl rfl (q.out.alloc _) rfl (news:=[ae aj ((vK xs k:Nat):Int),ae aj ((k:Int)+1)]) rfl (ku _ _ _ _) (pg _ _) Tr (by have:=f.out.size;simp;omega) ?_;intro A2 d2 O tT j;have g:=f.out.alloc (by have:=f.out.size;omega) (.cells #[ae aj ((vK xs k:Nat):Int),ae aj ((k:Int)+1)] 57));have wR:=g.trans j;have PY:=pC b;have FY:=pK b;clear b;go_roundw
      case rel=>exact Tw
      case measure=>simp[intOf]<;>omega
     .have G:((x:Int)==11)=OZ:=by simpa using d
      clear o;have b:fQ xs k=OX:=by first|(unfold fQ gE;rw[l.out,m.out,SE.out,a.out];simp;omega)|(unfold fQ gE;rw[l.out,m.out,SE.out,a.out];simp[z.out])
      go_wp2_with (at_builtin;refine cG TC rfl (.tmp 50) (.tmp 55) rfl rfl (q.out.alloc _) rfl (news:=[ae aj ((vK xs k:Nat):Int),ae aj ((k:Int)+1)]) rfl (ku _ _ _ _) (pg _ _) Tr (by have:=f.out.size;simp;omega) ?_;intro A2 d2 O tT j;have g:=f.out.alloc (by have:=f.out.size;omega) (.cells #[ae aj ((vK xs k:Nat):Int),ae aj ((k:Int)+1)] 57));have wR:=g.trans j;have PY:=pC b;have FY:=pK b;clear b;go_roundw
      case rel=>exact Tw
      case measure=>simp[intOf]<;>omega
   .have n13:((r:Int)==13)=OZ:=by simpa using J
    clear y;by_cases d:x=11
    .subst d
     have b:fQ xs k=OX:=by first|(unfold fQ gE;rw[l.out,m.out,SE.out,a.out];simp;omega)|(unfold fQ gE;rw[l.out,m.out,SE.out,a.out];simp[J])
     go_wp2_with (at_builtin;refine cG TC rfl (.tmp 50) (.tmp 55) rfl rfl (q.out.alloc _) rfl (news:=[ae aj ((vK xs k:Nat):Int),ae aj ((k:Int)+1)]) rfl (ku _ _ _ _) (pg _ _) Tr (by have:=f.out.size;simp;omega) ?_;intro A2 d2 O tT j;have g:=f.out.alloc (by have:=f.out.size;omega) (.cells #[ae aj ((vK xs k:Nat):Int),ae aj ((k:Int)+1)] 57));have wR:=g.trans j;have PY:=pC b;have FY:=pK b;clear b;go_roundw
     case rel=>exact Tw
     case measure=>simp[intOf]<;>omega
    .have G:((x:Int)==11)=OZ:=by simpa using d
     by_cases o:k+1=n
     .have R:((k:Int)==(n:Int)-1)=OX:=by simp;omega
      have P:((k:Int)+1==(n:Int))=OX:=br;have z:=Lib.hid o;clear o;have b:fQ xs k=OX:=by first|(unfold fQ gE;rw[l.out,m.out,SE.out,a.out];simp;omega)|(unfold fQ gE;rw[l.out,m.out,SE.out,a.out];simp[z.out])
      go_wp2_with (at_builtin;refine cG TC rfl (.tmp 50) (.tmp 55) rfl rfl (q.out.alloc _) rfl (news:=[ae aj ((vK xs k:Nat):Int),ae aj ((k:Int)+1)]) rfl (ku _ _ _ _) (pg _ _) Tr (by have:=f.out.size;simp;omega) ?_;intro A2 d2 O tT j;have g:=f.out.alloc (by have:=f.out.size;omega) (.cells #[ae aj ((vK xs k:Nat):Int),ae aj ((k:Int)+1)] 57));have wR:=g.trans j;have PY:=pC b;have FY:=pK b;clear b;go_roundw
      case rel=>exact Tw
      case measure=>simp[intOf]<;>omega
     .have R:((k:Int)==(n:Int)-1)=OZ:=pW
      have P:((k:Int)+1==(n:Int))=OZ:=pW;have b:fQ xs k=OZ:=by first|(unfold fQ gE;rw[l.out,m.out,SE.out,a.out];simp;omega)|(unfold fQ gE;rw[l.out,m.out,SE.out,a.out];simp[d,o])
      go_wp2;have PY:=um b;have FY:=yw b;clear b;go_roundw
      case rel=>
       refine⟨k+1,C,E,aq,ns, ?_, ?_, ?_,f.out⟩
       .rw[PY]
       .rw[FY]
       .rw[PY];exact q.out
      case measure=>simp[intOf]<;>omega
  .obtain rfl:k=n:=by omega
   have L:sr xs=par xs k:=by unfold sr;rw[a.out]
   go_wp2;go_ret;exact⟨C,E,by rw[L];rfl,by rw[L];exact q.out.aeC D,Q.out.trans (U.out.mono D)⟩
def aJ.ce{k:IntKind}{i:Nat}{xs:aC}(h:aJ k w A n c xs)(hi:i<n):∃a,A=some a/\w.cell? (a.add i)=some (.int k (nth xs i)):=by
 obtain⟨a,e,_,b⟩:=h.at_.2 aq;exact⟨a,e,b i hi⟩
def mf(ts:aC)(a:Nat):Nat->Nat
 |0=>0
 |k+1=>if a<k+1/\(aN (nth ts k)).word=7 then mf ts a k else k+1
def Cn(w:EE)(z:Nat)(e:IS)(a:EE):Prop:=e=.returned (ae aj (z:Int))/\az w a
def Wd(A:aB)(n c a b:Nat)(ts:aC)(w:EE)(h:aJ .i32 w A n c ts)(s:a<=b)(y:b<=n)(J:n<=100000):GK prog 61 #[.slice A n c,ae aj (a:Int),ae aj (b:Int)] w (Cn w (mf ts a b)):=by
 have R:=sH h;have F:¬(a:Int)<0:=aq;have g2:=cI b a;have H:=cI n b;go_enter func61,ntmps61;go_wp2;go_loopg[2](b+1)(λgg v wr=>∃(k:Nat),k<gg/\k<=b/\v=ae aj (k:Int)/\ak (mf ts a k=mf ts a b)/\ak (az w wr))
 .exact⟨b,aq,aq,rfl,⟨rfl⟩,cJ⟩
 obtain⟨k,C,D,rfl,e,f⟩:=hrel;by_cases p:a<k;rotate_left
 .have o:=cI a k
  have E:ak (mf ts a b=k):=⟨by
   rw[<-e.o];rcases k with _|k
   .rfl
   .unfold mf;rw[if_neg aq]⟩
  go_wp2;go_ret;exact⟨by rw[E.o];simp,f.o⟩
 have o:=aU a k;obtain⟨j,rfl⟩:∃j,k=j+1:=⟨k-1,aq⟩;have wk:IK (j:Int)=(j:Int):=IntWalk.wrap64_in _ aq;have k0:=gT j;have G:=aU j n;have I:(a:Int)<(j:Int)+1:=aq;obtain⟨B,rfl,u⟩:=(R.o.ar f.o).ce (show j<n by omega);obtain⟨g,i⟩:=bounds_i32 (R.o.cZ (show j<n by omega));have q:=sH (dX (nth ts j) g i wr);have m:ak ((aN (nth ts j)).word=7->mf ts a j=mf ts a b):=⟨λh=>by rw[<-e.o];show _=mf ts a (j+1);unfold mf;rw[if_pos ⟨aq,h⟩];cases j<;>rfl⟩;have r:ak (¬(aN (nth ts j)).word=7->mf ts a b=j+1):=⟨λh=>by rw[<-e.o];unfold mf;rw[if_neg (λt=>h t.2)]⟩;generalize nth ts j=z at*;go_wp2_with fail;refine callK q.o f λK L l=> ?_;generalize(aN z).word=x at*;by_cases hx:x=7
 .have d:=sH (m.o hx)
  subst hx;go_wp2;go_roundg(j+1)
  .exact⟨j,aq,aq,by first|rfl|go_num,d,l⟩
  omega
 .have d:=sH (r.o hx)
  have hx:(x==7)=OZ:=Gh;go_wp2;go_ret;exact⟨by rw[d.o];simp,l.o⟩
def ie(ts:aC)(a:Nat):Nat->Bool
 |0=>OX
 |k+1=>ie ts a k&&decide ((aN (nth ts (a+k))).word=7)
def qD{ts:aC}{a m:Nat}:∀{n:Nat},m<=n->ie ts a n=OX->ie ts a m=OX
 |0,h,e=>by obtain rfl:m=0:=aq;rfl
 |n+1,h,e=>by
  rcases Nat.eq_or_lt_of_le h with rfl|h
  .exact e
  .unfold ie at e
   rw[Bool.and_eq_true]at e;exact qD (n:=n) aq e.1
def mH{k:Nat}(h:a+k<b):nth ((ts.take b).drop a) k=nth ts (a+k):=by
 unfold nth;simp only[List.getD_eq_getElem?_getD,List.getElem?_drop,List.getElem?_take];rw[if_pos h]
def qE{ts:aC}{a b:Nat}:∀{k:Nat},a+k<=b->ie ((ts.take b).drop a) 0 k=ie ts a k
 |0,_=>rfl
 |k+1,h=>by
  unfold ie;rw[qE (k:=k) aq,Nat.zero_add,mH aq]
def vt(ts:aC)(a:Nat):Nat->Int
 |0=>5
 |k+1=>if(aN (nth ts (a+k))).join=5 then vt ts a k else(aN (nth ts (a+k))).join
def Bd(ts:aC):Nat->Nat->Int
 |0,_=>5
 |k+1,a=>if(aN (nth ts a)).join=5 then Bd ts k (a+1)else(aN (nth ts a)).join
def Ag{ts:aC}{a b:Nat}:∀{k:Nat},a+k<=b->vt ((ts.take b).drop a) 0 k=vt ts a k
 |0,_=>rfl
 |k+1,h=>by
  unfold vt;rw[Ag (k:=k) aq,Nat.zero_add,mH aq]
def Cp{ts:aC}{a b:Nat}:∀{k j:Nat},a+j+k<=b->Bd ((ts.take b).drop a) k j=Bd ts k (a+j)
 |0,_,_=>rfl
 |k+1,j,h=>by
  unfold Bd;rw[Cp (k:=k) (j:=j+1) aq,mH aq];rfl
def jl(x:Int):Bool:=x==1||x==3
def jr(x:Int):Bool:=x==1||x==2
def Lm(z:Int):Bool:=(aN z).script==7||(aN z).script==8||(aN z).script==9
def J'(a:aC)(m:Nat)(b:aC)(n:Nat):Int:=
 if ie a 0 m=OX then 0 else if(jl (vt a 0 m)&&jr (Bd b n 0))=OX then 1 else if(Lm (nth a 0)&&Lm (nth b 0))=OX then 2 else-1
def nP(ts:aC)(a b c d:Nat):Int:=
 if ie ts a (b-a)=OX then 0 else if(jl (vt ts a (b-a))&&jr (Bd ts (d-c) c))=OX then 1 else if(Lm (nth ts a)&&Lm (nth ts c))=OX then 2 else-1
def Qv{d:Nat}(h:a<b)(e:c<d):J' ((ts.take b).drop a) (b-a) ((ts.take d).drop c) (d-c)=nP ts a b c d:=by
 unfold J' nP;rw[qE aq,Ag aq,Cp aq,mH aq,mH aq];rfl
def ef(ts:aC)(a:List (Nat×Nat)):Nat->Nat
 |0=>0
 |n+1=>if ie ts (cV a n).1 ((cV a n).2-(cV a n).1)=OX then ef ts a n else n+1
def Cj(ts:aC)(a:List (Nat×Nat)):∀n,ef ts a n<=n
 |0=>Nat.le_refl _
 |n+1=>by
  unfold ef;split
  .have:=Cj ts a n;omega
  .omega
def vL(ts:aC)(a:List (Nat×Nat))(i:Nat):Int:=nP ts (cV a i).1 (cV a i).2 (cV a (i+1)).1 (cV a (i+1)).2
def fW(ts:aC)(a:List (Nat×Nat)):Nat->List (Nat×Int)
 |0=>[]
 |i+1=>fW ts a i++if vL ts a i<0 then[]else[(i,vL ts a i)]
def IM(ts:aC)(a b c d:Nat):nP ts a b c d= -1∨nP ts a b c d=0∨nP ts a b c d=1∨nP ts a b c d=2:=by
 unfold nP;split
 .omega
 .split
  .omega
  .split<;>omega
def pU{ts:aC}{a:List (Nat×Nat)}:∀{i:Nat},∀x∈fW ts a i,x.1<i/\0<=x.2/\x.2<=2
 |0,x,h=>by simp[fW]at h
 |i+1,x,h=>by
  have c:=IM ts (cV a i).1 (cV a i).2 (cV a (i+1)).1 (cV a (i+1)).2;unfold fW at h;rcases List.mem_append.1 h with h|h
  .have:=pU x h;omega
  .split at h
   .cases h
   .rename_i b
    obtain rfl:=List.mem_singleton.1 h;unfold vL at b⊢;show i<i+1/\0<=nP _ _ _ _ _/\nP _ _ _ _ _<=2;omega
def tV(ts:aC)(a:List (Nat×Nat)):∀i,(fW ts a i).Pairwise λx y=>x.1<y.1
 |0=> .nil
 |i+1=>by
  unfold fW;split
  .rw[List.append_nil];exact tV ts a i
  .refine List.pairwise_append.2 ⟨tV ts a i,List.pairwise_singleton _ _,λx c y b=> ?_⟩
   obtain rfl:=List.mem_singleton.1 b;exact(pU x c).1
def vU{a:List (Nat×Nat)}(h:ie ts (cV a n).1 ((cV a n).2-(cV a n).1)=OX):ef ts a (n+1)=ef ts a n:=if_pos h
def Af{a:List (Nat×Nat)}(h:ie ts (cV a n).1 ((cV a n).2-(cV a n).1)=OZ):ef ts a (n+1)=n+1:=if_neg (by simp[h])
def gY(ts:aC)(a:List (Nat×Nat)):List (Nat×Int):=fW ts a (ef ts a a.length-1)
