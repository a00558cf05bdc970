/- Part of LineCovers. -/
import Derived.Test.YtklncadpkniojaaGreatDoorAn
import Derived.Test.YtklncadpkniojaaGreatDoorAq
import Derived.Laws.CopyOwn
namespace Go.Proofs.YtklncadpkniojaaGreatDoor
open Go.ChangeShapes Go.WideShapes Go.ChangeAt Go.RowKit Go.Proofs.Tryz
open Go renaming World->ahh,Value->ahj,Calls->ahk,TypeId->ahm,Program->aho
open Go.RowKit renaming Below->ahi,wrap64->ahl
open Go.Value renaming int->ae
open Go.IntKind renaming i64->aj
set_option linter.all false
set_option maxRecDepth 100000
set_option maxHeartbeats 16000000
variable{B c j k n size:Nat}{w:ahh}{A:aA}{e:ahm}
theorem zv:aR prog 42 51 6 64:=bu underlying42 (z:=.agg #[ae aj 0,ae aj 0,ae aj 0,ae aj 0,ae aj 0,.slice none 0 0]) aF rfl ak ak
theorem ac3:aR prog 49 101 4 32:=bu underlying49 (z:=.agg #[ae aj 0,ae aj 0,ae aj 0,ae aj 0]) aF rfl ak ak
theorem sQ:(prog.info? 51).map (·.size)=some 6:=by kernel_rfl
theorem tR(a b c d e:Int)(G:aA)(n m:Nat):(#[ae aj a,ae aj b,ae aj c,ae aj d,ae aj e,Value.slice G n m]:Array ahj).all (·.oneCell')=true:=dJ
def na(w:ahh)(b:Nat)(x0 x1 x2 x3 x4 x5:ahj):Prop:=w.heap[b]? =some (.cells #[x0,x1,x2,x3,x4,x5] 51 (0,0))
section
variable{w w':ahh}{b:Nat}{x0 x1 x2 x3 x4 x5:ahj}
theorem na.lt(h:na w b x0 x1 x2 x3 x4 x5):b<w.heap.size:=lt_of_block h
theorem na.cs(h:na w b x0 x1 x2 x3 x4 x5):w.cell? ⟨b,0,none⟩=some x0/\w.cell? ⟨b,1,none⟩=some x1/\w.cell? ⟨b,2,none⟩=some x2/\w.cell? ⟨b,3,none⟩=some x3/\w.cell? ⟨b,4,none⟩=some x4/\w.cell? ⟨b,5,none⟩=some x5:=by
 refine⟨?_, ?_, ?_, ?_, ?_, ?_⟩<;>(rw[cell_of_row _ _ _ _ _ _ h];rfl)
theorem na.f(h:na w b x0 x1 x2 x3 x4 x5)(j:Nat):w.frozen? ⟨b,j,none⟩=false:=frozen_of_row _ _ _ _ _ h
theorem na.ar(h:na w b x0 x1 x2 x3 x4 x5)(c:ahi B w w')(a:b<B):na w' b x0 x1 x2 x3 x4 x5:=(c.block b a).trans h
theorem na.alloc(h:na w b x0 x1 x2 x3 x4 x5)(o:Obj):na (w.alloc o) b x0 x1 x2 x3 x4 x5:=(Below.heap_alloc w o b h.lt).trans h
theorem na.afk(h:na w b x0 x1 x2 x3 x4 x5)(v:ahj):na (w.setCell ⟨b,5,none⟩ v) b x0 x1 x2 x3 x4 v:=by
 have aK:=h.lt;have a:w.heap[b]=.cells #[x0,x1,x2,x3,x4,x5] 51 (0,0):=by unfold na at h;simpa[Array.getElem?_eq_getElem aK]using h
 show(w.heap.modify b _)[b]? =_;rw[Array.getElem?_eq_getElem Fe,Array.getElem_modify_self,a];rfl
end
theorem Fu(wr:ahh)(a b c d e:Int)(v:ahj):∃f,f=(wr.alloc (.cells #[ae aj 0,ae aj 0,ae aj 0,ae aj 0,ae aj 0,.slice none 0 0] 51)).setRow wr.heap.size #[ae aj a,ae aj b,ae aj c,ae aj d,ae aj e,v]/\
 aq (az wr f)/\aq (na f wr.heap.size (ae aj a) (ae aj b) (ae aj c) (ae aj d) (ae aj e) v)/\
 aq ((wr.alloc (.cells #[ae aj 0,ae aj 0,ae aj 0,ae aj 0,ae aj 0,.slice none 0 0] 51)).heap[wr.heap.size]? =some (.cells #[ae aj 0,ae aj 0,ae aj 0,ae aj 0,ae aj 0,.slice none 0 0] 51 (0,0))):=
 ⟨_,rfl,⟨below_setRow (av wr _) bW _⟩,⟨setRow_heap _ _ _ _ _ _ (heap_alloc_new wr _)⟩,⟨heap_alloc_new wr _⟩⟩
theorem VE{w:ahh}{p:Addr}{b:aZ}(h:zY w B p b):∃(G:aA) (a:Nat),(w.cell? p=some (ae aj b.f)/\w.cell? (bP p 1)=some (ae aj b.t)/\w.cell? (bP p 2)=some (ae aj b.lv)/\
 w.cell? (bP p 3)=some (ae aj b.x)/\w.cell? (bP p 4)=some (ae aj b.wd)/\w.cell? (bP p 5)=some (.slice G b.gs.length a))/\lJ w B G b.gs.length b.gs:=by
 obtain⟨i,e,g,f,d,G,a,j,c⟩:=h;exact⟨G,a,⟨i,e,g,f,d,j⟩,c⟩
theorem aaN(a b:Int):ahl (ahl a+b)=ahl (a+b):=Fg
theorem Iy:ahl 0=0:=Fg
theorem TZ(bs:List aZ)(k:Nat):ahl (ahl (du bs k)+(aJ bs k).wd)=ahl (du bs (k+1)):=aaN _ _
def tt(x:Int):Bool:=x.tmod 2 !=0
theorem Fi(x:Int)(w:ahh):ahk prog 86 #[ae aj x] w fun e w'=>e=.returned (.bool (tt x))/\w'=w:=by
 go_enter func86,ntmps86;go_wp2;go_ret;exact⟨rfl,rfl⟩
theorem yb(A:aA)(n c:Nat)(bs:List aZ)(w:ahh)(m:db w w.heap.size A n bs)(H:n<=4000000):
 ahk prog 32 #[.slice A n c] w fun e w'=>e=.returned (ae aj (ahl (du bs n)))/\az w w':=by
 have i:=sH m;go_enter func32,ntmps32;go_wp2;go_loopg[3,5,8](n+1)(fun gg v3 _ h wr=>∃k:Nat,n-k<gg/\k<=n/\v3=ae aj (ahl (du bs k))/\h=ae aj (k:Int)/\aq (az w wr))
 .exact⟨0,ak,ak,iv Iy.symm,rfl,cA⟩
 obtain⟨k,s,I,rfl,rfl,d⟩:=hrel;by_cases f:k<n
 .obtain⟨F,rfl,_,j⟩:=(i.o.Z d.o).2 ak
  obtain⟨G,q,⟨c0,u,D,J,c4,c5⟩,_⟩:=VE (j k f);have E:=sH (TZ bs k);obtain⟨C,a,p,o,l⟩:=Fu wr (aJ bs k).f (aJ bs k).t (aJ bs k).lv (aJ bs k).x (aJ bs k).wd (.slice G (aJ bs k).gs.length q);obtain⟨y,x,t,v,z,r⟩:=o.o.cs;generalize ahl (du bs k)=S at*;generalize aJ bs k=b at*;have B:=aU k n;have g:=d.t p.o;go_wp2_with (refine wpList_store_row rfl 51 (.tmp 5) (.tmp 11) rfl wr.heap.size _ rfl rfl 51 _ l.o sQ aB (tR _ _ _ _ _ _ _ _) ?_;rw[<-a];clear a);go_roundg(n-k)
  .exact⟨k+1,ak,ak,iv E.o,KY,g⟩
  omega
 .obtain rfl:k=n:=by omega
  go_wp2;go_ret;exact⟨rfl,d.o⟩
def JX(bs:List aZ):aC:=bs.map (·.lv)
theorem pB(bs:List aZ):(JX bs).length=bs.length:=by simp[JX]
theorem aaM{bs:List aZ}(h:k<bs.length):nth (JX bs) k=(aJ bs k).lv:=by
 rw[cB Rk,iK h];simp[JX]
def Vz(bs:List aZ)(n k:Nat):aC:=(JX bs).take k++List.replicate (n-k) 0
theorem Om(bs:List aZ)(n:Nat):Vz bs n 0=List.replicate n 0:=by simp[Vz]
theorem QC{bs:List aZ}(h:bs.length=n):Vz bs n n=JX bs:=by
 unfold Vz;rw[List.take_of_length_le (by rw[pB,h];exact Nat.le_refl _)];simp
theorem Wr{bs:List aZ}(h:k<bs.length):(JX bs).take (k+1)=(JX bs).take k++[(aJ bs k).lv]:=by
 rw[List.take_succ_eq_append_getElem Rk,<-aaM h,cB Rk]
theorem V'{bs:List aZ}(h:bs.length=n)(c:k<n):(Vz bs n k).set k (aJ bs k).lv=Vz bs n (k+1):=by
 have a:((JX bs).take k).length=k:=by rw[List.length_take,pB];omega
 obtain⟨d,b⟩:∃d,n-k=d+1:=⟨n-k-1,ak⟩;unfold Vz;rw[b,show n-(k+1)=d by omega,Wr ak,List.set_append_right _ _ (by rw[a];exact Nat.le_refl _),a,Nat.sub_self];simp[List.replicate_succ]
def fF(bs:List aZ):aC:=kI (JX bs)
theorem tW{bs:List aZ}(h:bs.length=n):Bc (fF bs) n:=Ea (by rw[pB,h])
theorem Em(A:aA)(n c:Nat)(lv:aC)(w:ahh)(j:bH w w.heap.size .i64 A n lv)(h:n<=4000000):
 ahk prog 94 #[.slice A n c] w (lN w 3 .i64 n (kI lv)):=by
 have f:=sH (DX A n c lv w j h);generalize kI lv=V at*;go_enter func94,ntmps94;go_wp2_with fail;refine f.o.mono ?_;rintro e k ⟨a,d,rfl,o1,g⟩;have i:=sH o1;have b:=sH g;go_wp2;go_ret;exact⟨a,d,rfl,i.o,b.o⟩
theorem JZ(A:aA)(n c:Nat)(bs:List aZ)(w:ahh)(l:db w w.heap.size A n bs)(N:n<=4000000):
 ahk prog 38 #[.slice A n c] w (lN w 3 .i64 n (fF bs)):=by
 have P:aq _:=⟨l⟩;have q:aq (bs.length=n):=⟨l.1⟩;unfold fF;clear l;go_enter func38,ntmps38;go_wp2_with (refine eh YQ FK rfl (.tmp 7) (.tmp 7) rfl n rfl rfl rfl rfl ak w.heap.size bW ?_;intro g W o1 x;have y:aq _:=⟨o1⟩;have C:aq _:=⟨x⟩;clear o1 x);go_loopg[4,5,11](n+1)(fun gg _ _ m wr=>∃k:Nat,n-k<gg/\k<=n/\m=ae aj (k:Int)/\aq (Own wr w.heap.size 3 .i64 (some ⟨g,0,none⟩) n n (Vz bs n k))/\aq (az w wr))
 .exact⟨0,ak,ak,rfl,⟨by rw[Om];exact y.o⟩,C⟩
 obtain⟨k,Y,hk,rfl,j,f⟩:=hrel;clear y C;by_cases a:k<n
 .obtain⟨X,rfl,_,z⟩:=(P.o.Z f.o).2 ak
  obtain⟨G,S,⟨c0,U,t,c3,c4,c5⟩,_⟩:=VE (z k a);have E:aq _:=⟨V' q.o a⟩;obtain⟨h,i,B,I,F⟩:=Fu wr (aJ bs k).f (aJ bs k).t (aJ bs k).lv (aJ bs k).x (aJ bs k).wd (.slice G (aJ bs k).gs.length S);obtain⟨Q,J,T,H,R,O⟩:=I.o.cs;generalize aJ bs k=b at*;have d:aq _:=⟨j.o.ar B.o⟩;have o:aq (az w h):=⟨f.o.trans (B.o.mono f.o.size)⟩;obtain⟨u,V⟩:∃u,h.cell? ⟨g,k,none⟩=some u:=⟨_,bT d.o a⟩;have f1:=aw.frozenAt d.o k;have M:aq (Own (h.setCell ⟨g,k,none⟩ (ae aj b.lv)) w.heap.size 3 .i64 (some ⟨g,0,none⟩) n n (Vz bs n (k+1))):=⟨by rw[<-E.o];exact Own.uw d.o k _⟩;have SE:aq (az w (h.setCell ⟨g,k,none⟩ (ae aj b.lv))):=⟨Below.setCell o.o (p:=⟨g,k,none⟩) (aw.xD d.o).1 _⟩;have Z:=aU k n;clear z Q J H R O E;go_wp2_with (refine wpList_store_row rfl 51 (.tmp 5) (.tmp 15) rfl wr.heap.size _ rfl rfl 51 _ F.o sQ aB (tR _ _ _ _ _ _ _ _) ?_;rw[<-i];clear i);go_roundg(n-k)
  .exact⟨k+1,ak,ak,KY,M,SE⟩
  omega
 .obtain rfl:k=n:=by omega
  rw[QC q.o]at j;have s:aq _:=⟨Em (some ⟨g,0,none⟩) k k (JX bs) wr j.o.ints N⟩;clear a j;go_wp2_with fail;refine s.o.mono ?_;rintro e h ⟨K,t,rfl,r,v⟩;have L:aq _:=⟨Own.gF r f.o.size⟩;have D:aq _:=⟨f.o.trans (v.mono f.o.size)⟩;clear r v s;go_wp2;go_ret;exact⟨K,t,rfl,L.o,D.o⟩
theorem vD{bs:List aZ}{m:Nat}(h:j<m):aJ (bs.take m) j=aJ bs j:=by
 unfold aJ;rw[List.getD_eq_getElem?_getD,List.getD_eq_getElem?_getD,List.getElem?_take,if_pos h]
theorem db.take{m:Nat}{bs:List aZ}(h:db w B A n bs)(f:m<=n):db w B A m (bs.take m):=by
 refine⟨by rw[List.length_take,h.1];omega,fun g=> ?_⟩;obtain⟨d,e,a,c⟩:=h.2 ak;exact⟨d,e,a,fun j b=>by rw[vD b];exact c j ak⟩
theorem oC(bs:List aZ)(m:Nat):∀k,k<=m->du (bs.take m) k=du bs k
 |0,_=>rfl
 |k+1,h=>by
  simp only[du];rw[oC bs m k ak,vD ak]
theorem wy{P:aho}{t:ahm}{bytes:Nat}(T:aR P t e size bytes)(A:aA)(n c j:Nat)(a:j<=n)(b:n<=c)(w:ahh):
 (Instr.slice t (.slice A n c) none (some (ae aj (j:Int))) none).run P w=.ok (.slice A j c) w:=by
 rw[run_slice_h w t A n c (cQ T) .i64 j ak ak,cO T];simp[Result.andThen,sliced];intro _;cases A<;>simp[Addr.add]
theorem bv{a b:Bool}(h:a=b):Value.bool a=Value.bool b:=by rw[h]
theorem WY{G:Prop}(s:G:=by
 exact⟨j+1,ak,ak,bv YW,iv EP.o.symm,iv YY,iv aey,KY,⟨BD _⟩⟩):G:=s
theorem JH(A:aA)(n c:Nat)(bs:List aZ)(O:aA)(Y:Nat)(o:aC)(tail:Nat)(base x:Int)(w:ahh)(l:db w w.heap.size A n bs)(U:bH w w.heap.size .i64 O n o)(F:Bc o n)
 (hn:n<=4000000) (H:tail<=n) (hc:n<=c):
 ahk prog 39 #[.slice A n c,.slice O n Y,ae aj (tail:Int),ae aj base,ae aj x] w fun e w'=>e=.returned (ae aj (ahl (mY bs o tail (tt base) x)))/\az w w':=by
 have P:=sH l;have HO:=sH U;have J:=sH F;have CU:=wy zv A n c tail H hc;have K:aq (∀W,_):=⟨fun W=>Fi base W⟩;have k:aq (mY bs o tail (tt base) x=if tt base=true then x+du bs tail-kG bs o tail n else x-nM bs o tail n):=⟨by unfold mY;rw[l.1]⟩;generalize mY bs o tail (tt base) x=R at*;generalize tt base=V at*;clear l U F;go_enter func39,ntmps39;go_wp2;go_loopg[11,12,13,14,15,17,20](n+1)(fun gg m _ r u C _ p wr=>∃j:Nat,n-j<gg/\j<=n/\m=.bool (yZ o tail j)/\r=ae aj (ahl (kg bs o j))/\u=ae aj (ahl (nM bs o tail j))/\C=ae aj (ahl (kG bs o tail j))/\p=ae aj (j:Int)/\aq (az w wr))
 .exact⟨0,ak,ak,rfl,iv Iy.symm,iv Iy.symm,iv Iy.symm,rfl,cA⟩
 obtain⟨j,N,hj,rfl,rfl,rfl,rfl,rfl,g⟩:=hrel;by_cases a:j<n
 .obtain⟨ao,rfl,_,i⟩:=(HO.o.Z g.o).2 ak
  obtain⟨y,I⟩:∃y:Nat,nth o j=(y:Int):=⟨(nth o j).toNat,by have:=J.o.ge j a;omega⟩;have B:y<n:=by have:=J.o.lt j a;omega
  have v:aq (kP o j=y):=⟨by unfold kP;omega⟩;have k1:=i j a;rw[I]at k1;obtain⟨ad,rfl,_,h⟩:=(P.o.Z g.o).2 ak;obtain⟨G,gc,⟨_,_,_,_,c4,_⟩,_⟩:=VE (h y B);have EP:aq (ahl (kg bs o (j+1))=ahl (ahl (kg bs o j)+(aJ bs y).wd)):=⟨by rw[aaN];show ahl (_+_)=_;rw[v.o]⟩;have EL:aq (ahl (nM bs o tail (j+1))=if(Uh o tail j&& !yZ o tail j)=true then ahl (kg bs o j)else ahl (nM bs o tail j)):=⟨by show ahl (ite _ _ _)=_;split<;>rfl⟩;have ER:aq (ahl (kG bs o tail (j+1))=if Uh o tail j=true then ahl (kg bs o (j+1))else ahl (kG bs o tail j)):=⟨by show ahl (ite _ _ _)=_;split<;>rfl⟩;have EO:aq (yZ o tail (j+1)=(yZ o tail j||Uh o tail j)):=⟨rfl⟩;have f:aq (Uh o tail j=(decide (tail=0)||decide (y<tail))):=⟨by unfold Uh;rw[v.o]⟩;have j1:=aU j n;have y0:=ie y;have y1:=aU y n;have BD:∀q,az w (wr.drewN q):=fun q=>aN g.o q
  generalize(aJ bs y).wd=wd at*;generalize ahl (kg bs o j)=S at*;generalize ahl (nM bs o tail j)=L at*;generalize ahl (kG bs o tail j)=Q at*;generalize Uh o tail j=D at*;clear i h I v a;rcases Nat.eq_zero_or_pos tail with z|z
  .have b:D=true:=by rw[f.o];simp[z]
   have X:decide ((0:Int)<(tail:Int))=false:=gW;have t2:decide (0<tail)=false:=gW;subst b;clear f z;cases d:yZ o tail j with
   |true=>
    rw[d]at EL EO;go_wp2;go_quiet (fail);go_wp2;go_roundg(n-j)
    .exact WY
    omega
   |false=>
    rw[d]at EL EO;go_wp2;go_quiet (fail);go_wp2;go_roundg(n-j)
    .exact WY
    omega
  .have X:=aU 0 tail
   rcases Nat.lt_or_ge y tail with T|T
   .have b:D=true:=by rw[f.o];simp[T]
    have t4:decide ((tail:Int)<=(y:Int))=false:=gW;have t5:decide (tail<=y)=false:=gW;subst b;clear f;cases d:yZ o tail j with
    |true=>
     rw[d]at EL EO;go_wp2;go_quiet (fail);go_wp2;go_roundg(n-j)
     .exact WY
     omega
    |false=>
     rw[d]at EL EO;go_wp2;go_quiet (fail);go_wp2;go_roundg(n-j)
     .exact WY
     omega
   .have b:D=false:=by rw[f.o];simp;omega
    have t4:(tail:Int)<=(y:Int):=ak;subst b;clear f;go_wp2;go_quiet (fail);go_wp2;go_roundg(n-j)
    .exact⟨j+1,ak,ak,bv YW,iv EP.o.symm,iv YY,iv (by rw[ER.o];simp),KY,⟨BD _⟩⟩
    omega
 .obtain rfl:j=n:=by omega
  have M:=sH (yb A tail c (bs.take tail) wr ((P.o.Z g.o).take H) ak);rw[oC bs tail tail bW]at M;have t:∀W L:Int,ahl (ahl (x+ahl W)-ahl L)=ahl (x+W-L):=fun W L=>by unfold ahl;omega
  have s:∀L:Int,ahl (x-ahl L)=ahl (x-L):=fun L=>by unfold ahl;omega
  cases V with
  |true=>
   have E:aq (ahl R=ahl (ahl (x+ahl (du bs tail))-ahl (kG bs o tail j))):=⟨by rw[k.o,t];rfl⟩;clear k t s;generalize ahl (du bs tail)=W at*;generalize ahl (nM bs o tail j)=L at*;generalize ahl (kG bs o tail j)=Q at*;generalize ahl (kg bs o j)=S at*;clear a N;go_wp2_with fail;refine(K.o _).mono ?_;rintro e Z ⟨rfl,rfl⟩;go_wp2_with fail;refine callK M.o g fun w3 b3 B3=> ?_;clear b3;go_wp2;go_ret;exact⟨aag E.o.symm,B3.o⟩
  |false=>
   have E:aq (ahl R=ahl (x-ahl (nM bs o tail j))):=⟨by rw[k.o,s];rfl⟩;clear k t s;generalize ahl (du bs tail)=W at*;generalize ahl (nM bs o tail j)=L at*;generalize ahl (kG bs o tail j)=Q at*;generalize ahl (kg bs o j)=S at*;clear a N;go_wp2_with fail;refine(K.o _).mono ?_;rintro e Z ⟨rfl,rfl⟩;go_wp2;go_ret;exact⟨aag E.o.symm,g.o⟩
theorem kO{g:Nat}{t:ahm}{vs:List ahj}{cs:Array ahj}{fz:Nat×Nat}(h:aw w B e size A n c vs)(b:w.heap[g]? =some (.cells cs t fz))(f:t≠e):bM A (some ⟨g,0,none⟩):=by
 intro l j d;subst j;injection d with d
 injection d with d
 subst d;rcases h.2 with⟨a,_⟩|⟨m,cap,cur,a,_,i,_⟩
 .cases a
 .injection a with a
  injection a with a
  injection a with a
  subst a;rw[i]at b;injection b with b
  injection b with _ b
  exact f b.symm
theorem zJ(w:ahh)(x0 x1 x2 x3 x4 a:ahj)(N:Nat)(h:w.heap.size=N):na (w.alloc (.cells #[x0,x1,x2,x3,x4,a] 51)) N x0 x1 x2 x3 x4 a:=by subst h;exact heap_alloc_new w _
theorem aw.gF{a:Nat}{xs:List ahj}(h:aw w B e size A n c xs)(i:a<=B):aw w a e size A n c xs:=by
 refine⟨h.1, ?_⟩;rcases h.2 with d|⟨g,cap,cur,b,f,r⟩
 .exact .inl d
 .exact .inr ⟨g,cap,cur,b,ak,r⟩
theorem aw.fH{g:Nat}{xs:List ahj}(h:aw w B e size A n c xs)(j:g<B)(cs:Array ahj):aw (w.setRow g cs) B e size A n c xs:=by
 refine⟨h.1, ?_⟩;rcases h.2 with i|⟨a,cap,cur,d,f,b,r⟩
 .exact .inl i
 .exact .inr ⟨a,cap,cur,d,f,by rw[setRow_other w g a cs (by omega)];exact b,r⟩
theorem aew{G:Prop}(s:G:=by
 intro j u h;subst hN;rw[cell_of_row _ _ _ _ _ _ (heap_alloc_new W _)];simpa using h):G:=s
theorem Dw(W:ahh)(b a v2 v3:ahj)(t:ahm)(N:Nat)(hN:W.heap.size=N):∀(j:Nat) (u:ahj),[b,a,v2,v3][j]? =some u->(W.alloc (.cells #[b,a,v2,v3] t)).cell? ⟨N,j,none⟩=some u:=by
 exact aew
theorem jY(W:ahh)(c a v2 v3 v4 b:ahj)(t:ahm)(N:Nat)(hN:W.heap.size=N):∀(j:Nat) (u:ahj),[c,a,v2,v3,v4,b][j]? =some u->(W.alloc (.cells #[c,a,v2,v3,v4,b] t)).cell? ⟨N,j,none⟩=some u:=by
 exact aew
theorem Af(g:fK):∀u∈jZ g,u.oneCell'=true:=by
 intro u a;simp[jZ]at a;rcases a with rfl|rfl|rfl|rfl<;>rfl
theorem Md(p:BoxM):∀u∈iE p,u.oneCell'=true:=by
 intro u a;simp[iE]at a;rcases a with rfl|rfl|rfl|rfl|rfl|rfl<;>rfl
def uz(a:Int)(g:fK):fK:={g with x:=ahl (g.x+a)}
def vt(b:aZ)(a:Int):aZ:={b with x:=a,gs:=b.gs.map (uz a)}
def lz(bs:List aZ)(o:aC)(s:Int)(j:Nat):List aZ:=(List.range j).map fun q=>vt (aJ bs (kP o q)) (ahl (s+kg bs o q))
theorem JQ(bs:List aZ)(o:aC)(s:Int)(j:Nat):lz bs o s (j+1)=lz bs o s j++[vt (aJ bs (kP o j)) (ahl (s+kg bs o j))]:=by
 simp[lz,List.range_succ]
theorem tT(bs:List aZ)(o:aC)(s:Int)(j:Nat):(lz bs o s j).length=j:=by simp[lz]
def mvG(gs:List fK)(P:Int)(k:Nat):List fK:=(gs.take k).map (uz P)
theorem Pp{gs:List fK}{k:Nat}(P:Int)(h:k<gs.length):mvG gs P (k+1)=mvG gs P k++[uz P (pE gs k)]:=by
 unfold mvG;rw[List.take_succ_eq_append_getElem h,List.map_append,FZ h];rfl
theorem Oh(gs:List fK)(P:Int):mvG gs P gs.length=gs.map (uz P):=by simp[mvG]
structure GI(W0:ahh)(bb:Nat)(x0 x1 x2 x3 x4:Int)(gs:List fK)(P:Int)(k:Nat)(G:aA)(gc:Nat)(W:ahh):Prop where
 kN:na W bb (ae aj x0) (ae aj x1) (ae aj x2) (ae aj x3) (ae aj x4) (.slice G k gc)
 own:aw W (bb+1) 101 4 G k gc ((mvG gs P k).flatMap jZ)
 be:ahi bb W0 W
section
variable{W0 W W':ahh}{bb:Nat}{x0 x1 x2 x3 x4:Int}{gs:List fK}{P:Int}{k:Nat}{G:aA}{gc:Nat}
theorem GI.ar(h:GI W0 bb x0 x1 x2 x3 x4 gs P k G gc W)(a:az W W'):GI W0 bb x0 x1 x2 x3 x4 gs P k G gc W':=
 ⟨h.kN.ar a h.kN.lt,aw.ar h.own a,h.be.trans (a.mono (by have:=h.kN.lt;omega))⟩
theorem GI.push(h:GI W0 bb x0 x1 x2 x3 x4 gs P k G gc W){a:aA}{c:Nat}(o:aw W' (bb+1) 101 4 a (k+1) c ((mvG gs P k).flatMap jZ++jZ (uz P (pE gs k))))(b:ahi (bb+1) W W')(e:k<gs.length):
 GI W0 bb x0 x1 x2 x3 x4 gs P (k+1) a c (W'.setCell ⟨bb,5,none⟩ (.slice a (k+1) c)):=by
 have d:=h.kN.ar b ak;refine⟨d.afk _, ?_,Below.setCell (h.be.trans (b.mono ak)) (p:=⟨bb,5,none⟩) bW _⟩;refine aw.mu ?_ (kO o d cr) _;rw[Pp P e,List.flatMap_append];simpa using o
theorem GI.afK(h:GI W0 bb x0 x1 x2 x3 x4 gs P gs.length G gc W):iD W (bb+1) G gc (gs.map (uz P)):=by
 have:=h.own;rw[Oh]at this;unfold iD;rw[List.length_map];exact this
end
theorem pdx{p:Addr}{g:fK}(h:zB w p g):w.cell? p=some (ae aj g.gK)/\w.cell? (bP p 1)=some (ae aj g.id)/\w.cell? (bP p 2)=some (ae aj g.x)/\w.cell? (bP p 3)=some (ae aj g.y):=h
theorem fa.gF{a:Nat}{ps:List BoxM}(h:fa w B A c ps)(b:a<=B):fa w a A c ps:=
 ⟨aw.gF h.row b,fun p d=>aw.gF (h.gl p d) b⟩
theorem Qk(bs:List aZ)(o:aC)(s:Int)(j:Nat):ahl (ahl (s+kg bs o j)+(aJ bs (kP o j)).wd)=ahl (s+kg bs o (j+1)):=by
 rw[aaN,Int.add_assoc];rfl
theorem Hd(A:aA)(n c:Nat)(bs:List aZ)(tail:Nat)(base x:Int)(w:ahh)(F:db w w.heap.size A n bs)(hn:n<=4000000)(ht:tail<=n)(hc:n<=c)(hg:∀j,(aJ bs j).gs.length<=4000000):
 ahk prog 12 #[.slice A n c,ae aj (tail:Int),ae aj base,ae aj x] w fun e w'=>
  ∃(A2:aA) (a:Nat) (ps:List BoxM),e=.returned (.slice A2 n a)/\fa w' w.heap.size A2 a ps/\ps.map (·.1)=lz bs (fF bs) (mY bs (fF bs) tail (tt base) x) n/\az w w':=by
 have HX:=sH F;have HGX:=sH hg;have OR:=sH (tW F.1);have OC:=sH (JZ A n c bs w F ak);have SC:aq (∀(W:ahh) (O:aA) (K:Nat),az w W->bH W W.heap.size .i64 O n (fF bs)->_):=⟨fun W O K hW ho=>JH A n c bs O K (fF bs) tail base x W (F.Z hW) ho (tW F.1) hn ht hc⟩;generalize fF bs=o at*;go_enter func12,ntmps12;go_wp2_with fail;refine OC.o.mono ?_;rintro e w1 ⟨O,K,rfl,o1,b1⟩;have B1:=sH b1;have SC1:=sH (SC.o w1 O K b1 o1.ints);have O1:=sH o1;go_wp2_with fail;refine SC1.o.mono ?_;rintro e t ⟨rfl,b2⟩;have O2:=sH ((O1.o.ar b2).ints);have B2:=B1.t b2;generalize hE:mY bs o tail (tt base) x=i at*;have SHE:=sH hE;have z:=B2.o.size;go_wp2;go_loopg[10,11,13,14,16,27](n+1)(fun gg v10 S _ _ _ v27 wr=>∃(j:Nat) (M:aA) (c':Nat) (ps:List BoxM),n-j<gg/\j<=n/\v10=ae aj (ahl (i+kg bs o j))/\S=.slice M j c'/\v27=ae aj (j:Int)/\aq (fa wr t.heap.size M c' ps)/\aq (ps.map (·.1)=lz bs o i j)/\aq (az t wr))
 .exact⟨0,none,0,[],ak,ak,iv (by simp[kg]),rfl,rfl,⟨fa.nil _ _⟩,⟨rfl⟩,cA⟩
 obtain⟨j,M,c',ps,hgg,hj,rfl,rfl,rfl,OB,PE,J⟩:=hrel;obtain⟨f,rfl⟩:=eX wr;have BW:=sH (B2.o.trans (J.o.mono z));have hlen:ps.length=j:=by have:=congrArg List.length PE.o;simpa[tT]using this
 by_cases l:j<n
 .have HG:=sH hgg
  obtain⟨ao,rfl,_,T⟩:=(O2.o.Z J.o).2 ak;obtain⟨y,hy⟩:∃y:Nat,nth o j=(y:Int):=⟨(nth o j).toNat,by have:=OR.o.ge j l;omega⟩;have Z:y<n:=by have:=OR.o.lt j l;omega
  have eo:kP o j=y:=by unfold kP;omega
  have k1:=T j l;rw[hy]at k1;obtain⟨ad,rfl,_,Qw⟩:=(HX.o.Z BW.o).2 ak;obtain⟨G,gc,⟨a0,a1,a2,a3,a4,a5⟩,hP⟩:=VE (Qw y Z);have HP:=sH hP;have HGY:=sH (HGX.o y);have v:=HGY.o;have EL:aq (lz bs o i (j+1)=lz bs o i j++[vt (aJ bs y) (ahl (i+kg bs o j))]):=⟨by rw[JQ,eo]⟩;have⟨P,p⟩:=eY (ahl (i+kg bs o j));have V:aq (ahl (i+kg bs o (j+1))=ahl (P+(aJ bs y).wd)):=⟨by rw[<-p,<-Qk,eo]⟩;rw[p]at EL;rw[p];generalize aJ bs y=b at*;have⟨m,B⟩:=eY b.gs.length;have q:=sH B;rw[B]at a5 HP v;have j1:=aU j n;have y0:=ie y;have y1:=aU y n;have I0:aq (GI f f.heap.size b.f b.t b.lv P b.wd b.gs P 0 none 0 (f.alloc (.cells #[ae aj b.f,ae aj b.t,ae aj b.lv,ae aj P,ae aj b.wd,.slice none 0 0] 51))):=⟨⟨zJ _ _ _ _ _ _ _ _ rfl,aw.nil _ _ _ _,av _ _⟩⟩;have C5:=aI a5 (.cells #[ae aj b.f,ae aj b.t,ae aj b.lv,ae aj P,ae aj b.wd,.slice none 0 0] 51);have U:=J.o.size;have D:=sH OB.o.row;rw[hlen]at D;go_wp2;go_loopg[16,44](m+1)(fun gg _ v44 wr=>∃(k:Nat) (h:aA) (a:Nat),m-k<gg/\k<=m/\v44=ae aj (k:Int)/\aq (GI f f.heap.size b.f b.t b.lv P b.wd b.gs P k h a wr))
  .exact⟨0,none,0,ak,ak,rfl,I0⟩
  obtain⟨k,h,a,dw,hk,rfl,I⟩:=hrel;have s:=sH I.o.be;by_cases E:k<m
  .obtain⟨ag,rfl,_,hcg⟩:=(HP.o.Z s.o s.o.size).2 ak
   obtain⟨z0,z1,z2,z3⟩:=pdx (hcg k E);have hkl:k<b.gs.length:=by rw[q.o];exact E
   have PM:aq (jZ (uz P (pE b.gs k))=[ae aj (pE b.gs k).gK,ae aj (pE b.gs k).id,ae aj (ahl ((pE b.gs k).x+P)),ae aj (pE b.gs k).y]):=⟨rfl⟩;have⟨g,H⟩:=eY (pE b.gs k);have HGK:=sH H;rw[H]at z0 z1 z2 z3 PM;have⟨wq,d⟩:=eX (wr.alloc (.cells #[ae aj g.gK,ae aj g.id,ae aj (ahl (g.x+P)),ae aj g.y] 101));have L:aq (GI f f.heap.size b.f b.t b.lv P b.wd b.gs P k h a wq):=⟨by rw[d];exact I.o.ar (av _ _)⟩;have y5:=(d▸L.o.kN).cs.2.2.2.2.2;have i1:=aU k m;have gH:f.heap.size<wr.heap.size:=I.o.kN.lt;go_wp2_with (at_builtin;refine br ac3 rfl (.tmp 54) (.tmp 56) rfl rfl (aw.alloc (d▸L.o.own) _) rfl (news:=[ae aj g.gK,ae aj g.id,ae aj (ahl (g.x+P)),ae aj g.y]) rfl (Dw _ _ _ _ _ _ _ aQ) (by rw[<-PM.o];exact Af _) ak cw ?_;intro C c4 N u r _ _;have s4:=(na.alloc (d▸L.o.kN) _).ar r ak;have y6:=s4.cs.2.2.2.2.2;have f6:=s4.f 5;have X:=sH u;have Q:=sH r;clear u r s4);have I5:aq (GI f f.heap.size b.f b.t b.lv P b.wd b.gs P (k+1) C c4 (N.setCell ⟨f.heap.size,5,none⟩ (.slice C (k+1) c4))):=⟨(d▸L.o.ar (av _ _)).push (by rw[HGK.o,PM.o];exact X.o) Q.o hkl⟩;go_roundg(m-k)
   .exact⟨k+1,C,c4,ak,ak,KY,I5⟩
   omega
  .obtain rfl:k=m:=by omega
   have OG:=sH ((q.o▸I.o).afK);obtain⟨q0,q1,q2,q3,q4,q5⟩:=I.o.kN.cs;have OB3:=sH (OB.o.ar s.o);have R:=sH (aw.ar D.o s.o);have PC:aq (iE (vt b P,h,a)=[ae aj b.f,ae aj b.t,ae aj b.lv,ae aj P,ae aj b.wd,.slice h k a]):=⟨by unfold iE vt;simp[q.o]⟩;have PG:aq (iD (wr.alloc (.cells #[ae aj b.f,ae aj b.t,ae aj b.lv,ae aj P,ae aj b.wd,.slice h k a] 51)) t.heap.size h a (vt b P).gs):=⟨aw.alloc (aw.gF OG.o ak) _⟩;have hvs:=s.o.size;go_wp2_with (at_builtin;refine br zv rfl (.tmp 64) (.tmp 66) rfl rfl (aw.alloc R.o _) rfl (news:=[ae aj b.f,ae aj b.t,ae aj b.lv,ae aj P,ae aj b.wd,.slice h k a]) rfl (jY _ _ _ _ _ _ _ _ _ aQ) (by rw[<-PC.o];exact Md _) ak cw ?_;intro A4 c4 N u r g4 _;have X:=sH u;have Q:=sH r;have C:=sH g4;clear u r g4);have OBN:aq (fa N t.heap.size A4 c4 (ps++[(vt b P,h,a)])):=⟨(OB3.o.ar (av _ _)).push (by rw[hlen,PC.o];exact X.o) (by rw[hlen];exact C.o) PG.o⟩;have PEN:aq ((ps++[(vt b P,h,a)]).map (·.1)=lz bs o i (j+1)):=⟨by rw[EL.o,<-PE.o,List.map_append];rfl⟩;have Y:aq (az t N):=⟨((J.o.trans (s.o.mono U)).alloc ak _).trans Q.o⟩;go_roundg(n-j)
   .exact⟨j+1,A4,c4,_,ak,ak,iv V.o.symm,rfl,KY,OBN,PEN,Y⟩
   exact HG.o
 .obtain rfl:j=n:=by omega
  go_wp2;go_ret;exact⟨M,c',ps,rfl,OB.o.gF z,by rw[SHE.o];exact PE.o,BW.o⟩
def KI(w:ahh)(B:Nat)(G:aA)(n a:Nat):Prop:=Oq w B 101 4 (fun _=>True) G n a
structure cX(w:ahh)(B:Nat)(A:aA)(c:Nat)(ps:List BoxM):Prop where
 row:aw w B 51 6 A ps.length c (ps.flatMap iE)
 gl:∀p∈ps,KI w B p.2.1 p.1.gs.length p.2.2
theorem fa.wk{w:ahh}{B c:Nat}{ps:List BoxM}(h:fa w B A c ps):cX w B A c ps:=by
 refine⟨h.row,fun p d=> ?_⟩;have b:=h.gl p d;refine⟨p.1.gs.map fun g=>[g.gK,g.id,g.x,g.y],aQ,fun g a=> ?_, ?_⟩
 .simp at a;obtain⟨g2,_,rfl⟩:=a;exact⟨rfl,trivial⟩
 .have e:(p.1.gs.map fun g=>[g.gK,g.id,g.x,g.y]).flatMap dk=p.1.gs.flatMap jZ:=by rw[List.flatMap_map];rfl
  rw[e];exact b
theorem cX.ar{w b:ahh}{B c:Nat}{ps:List BoxM}(h:cX w B A c ps)(a:az w b):cX b B A c ps:=⟨aw.ar h.row a,fun p d=>(h.gl p d).ar a⟩
theorem za{α β:Type}{k:Nat}(F:α->List β)(b:∀x,(F x).length=k):∀(l:List α) (j q:Nat) (x y:α) (v:β),l[j]? =some x->q<k->F y=(F x).set q v->(l.flatMap F).set (j*k+q) v=(l.set j y).flatMap F
 |[],j,q,x,y,v,h,_,_=>by simp at h
 |a::l,0,q,x,y,v,h,hq,he=>by
  simp at h;subst h;rw[List.flatMap_cons,List.set_append_left _ _ (by rw[b];omega)];simp[he]
 |a::l,j+1,q,x,y,v,h,hq,he=>by
  simp at h;have d:(j+1)*k+q-k=j*k+q:=QT;rw[List.flatMap_cons,List.set_append_right _ _ (by rw[b,Nat.add_mul];omega),b,d,za F b l j q x y v h hq he];simp
theorem Oq.acJ{w:ahh}{B c:Nat}{Q:aC->Prop}(h:Oq w B e k Q A n c):∃vs,aw w B e k A n c vs:=by
 obtain⟨gs,_,_,a⟩:=h;exact⟨_,a⟩
theorem Oq.acx{w:ahh}{B c g:Nat}{Q:aC->Prop}(h:Oq w B e k Q A n c)(d:bM A (some ⟨g,0,none⟩))(u:ahj):Oq (w.setCell ⟨g,j,none⟩ u) B e k Q A n c:=by
 obtain⟨gs,a,f,b⟩:=h;exact⟨gs,a,f,aw.mu b d u⟩
theorem KI.set{w:ahh}{B c g q:Nat}(h:KI w B (some ⟨g,0,none⟩) n c)(e:q<4)(z:Int):KI (w.setCell ⟨g,j*4+q,none⟩ (ae aj z)) B (some ⟨g,0,none⟩) n c:=by
 by_cases l:j<n
 .exact Oq.set h l e z fun _ _ _=>trivial
 .obtain⟨gs,a,d,i⟩:=h
  refine⟨gs,a,d, ?_⟩;have b:=(World.ownsRow.stored (cap:=c) i (j*4+q) (ae aj z)).1;have f:=p' gs fun g k=>(d g k).1
  rw[List.set_eq_of_length_le (by rw[f,a];omega)]at b;exact b
section
variable{w:ahh}{B c g:Nat}{ps:List BoxM}
theorem cX.put(h:cX w B (some ⟨g,0,none⟩) c ps){j q:Nat}(d:j<ps.length)(i:q<6)(z:Int)(b:aZ)(k:iE (b,ps[j].2)=(iE ps[j]).set q (ae aj z))(m:b.gs=ps[j].1.gs):
 cX (w.setCell ⟨g,j*6+q,none⟩ (ae aj z)) B (some ⟨g,0,none⟩) c (ps.set j (b,ps[j].2)):=by
 refine⟨?_,fun p a=> ?_⟩
 .have e:=(World.ownsRow.stored (cap:=c) h.row (j*6+q) (ae aj z)).1
  rw[za iE pt ps j q _ _ _ (List.getElem?_eq_getElem d) i k]at e;rw[List.length_set];exact e
 .have f:∀p:BoxM,KI w B p.2.1 p.1.gs.length p.2.2->KI (w.setCell ⟨g,j*6+q,none⟩ (ae aj z)) B p.2.1 p.1.gs.length p.2.2:=fun p a=>by
   obtain⟨vs,l⟩:=a.acJ;exact a.acx (bS l h.row cr) _
  rcases List.mem_or_eq_of_mem_set a with a|rfl
  .exact f p (h.gl p a)
  .have:=f _ (h.gl _ (List.getElem_mem d))
   show KI _ B ps[j].2.1 b.gs.length ps[j].2.2;rw[m];exact this
theorem cX.acR(h:cX w B A c ps){j k:Nat}(o:j<ps.length)(m:ps[j].2.1=some ⟨g,0,none⟩){q:Nat}(d:q<4)(z:Int):cX (w.setCell ⟨g,k*4+q,none⟩ (ae aj z)) B A c ps:=by
 have b:=h.gl _ (List.getElem_mem o);rw[m]at b;obtain⟨vs,l⟩:=b.acJ;refine⟨aw.mu h.row (bS h.row l cr) _,fun p i=> ?_⟩;have a:=h.gl p i;by_cases e:p.2.1=some ⟨g,0,none⟩
 .rw[e]at a⊢
  exact a.set d z
 .exact a.acx (fun r f n=>e (by rw[f,<-n])) _
end
def aZ.sh(b:aZ):Int×Int×Int×Int×Int×Nat:=(b.f,b.t,b.lv,b.x,b.wd,b.gs.length)
theorem KI.TP{w:ahh}{B i:Nat}{G:aA}(h:KI w B G n i):∃gs:List fK,gs.length=n/\lJ w w.heap.size G n gs:=by
 obtain⟨l,h1,j,d⟩:=h;have key:∃gs:List fK,gs.map (fun g=>[g.gK,g.id,g.x,g.y])=l:=by
  clear h1 d
  induction l with
  |nil=>exact⟨[],rfl⟩
  |cons a l ih=>
   obtain⟨gs,rfl⟩:=ih fun g k=>j g (by simp[k])
   have:=(j a aQ).1
   match a,this with
   |[x,y,z,u],_=>exact⟨⟨x,y,z,u⟩::gs,rfl⟩
 obtain⟨gs,rfl⟩:=key;have b:gs.length=n:=Fa;have e:(gs.map fun g=>[g.gK,g.id,g.x,g.y]).flatMap dk=gs.flatMap jZ:=by rw[List.flatMap_map];rfl
 rw[e]at d;have m:iD w B G i gs:=by unfold iD;rw[b];exact d
 have f:=m.TP;rw[b]at f;exact⟨gs,b,f⟩
theorem cX.boxes{w:ahh}{B c:Nat}{ps:List BoxM}(h:cX w B A c ps):∃bs:List aZ,bs.map aZ.sh=ps.map (·.1.sh)/\db w w.heap.size A ps.length bs:=by
 have each:∀j:Fin ps.length,∃gs:List fK,gs.length=ps[j].1.gs.length/\lJ w w.heap.size ps[j].2.1 gs.length gs:=fun j=>by
  obtain⟨gs,b,h2⟩:=(h.gl _ (List.getElem_mem j.2)).TP;exact⟨gs,b,by rw[b];exact h2⟩
 let F:Fin ps.length->aZ:=fun j=>{ps[j].1 with gs:=(each j).choose}
 have k:=fun j=>(each j).choose_spec
 refine⟨List.ofFn F, ?_,aQ,fun n=> ?_⟩
 .apply List.ext_getElem aQ
  intro i b h2;have d:i<ps.length:=vv;have:=(k ⟨i,d⟩).1;simp only[List.getElem_map,List.getElem_ofFn,aZ.sh];simp only[F,this];rfl
 .obtain⟨g,rfl,_,f⟩:=aw.form h.row n
  refine⟨_,rfl,f,fun j hj=> ?_⟩;have e:ps[j]? =some ps[j]:=List.getElem?_eq_getElem hj;have l:aJ (List.ofFn F) j=F ⟨j,hj⟩:=Xm;obtain⟨o,g2⟩:=k ⟨j,hj⟩;rw[l];have a:∀i v,i<6->(iE ps[j])[i]? =some v->w.cell? (((⟨g,0,none⟩:Addr).add (j*6)).add i)=some v:=by
   intro i v d m;rw[aY,bj,aw.cellAt h.row (j*6+i) ak,iG iE pt ps j i _ e d];exact m
  refine⟨?_,a 1 _ ak rfl,a 2 _ ak rfl,a 3 _ ak rfl,a 4 _ ak rfl,ps[j].2.1,ps[j].2.2, ?_,g2⟩
  .have:=a 0 _ ak rfl
   rwa [aY,Nat.add_zero]at this
  .have:=a 5 _ ak rfl
   show w.cell? _=some (.slice ps[j].2.1 (F ⟨j,hj⟩).gs.length ps[j].2.2);rw[show(F ⟨j,hj⟩).gs.length=ps[j].1.gs.length from o];exact this
def Cj(b:aZ):Int×Int×Nat:=(b.f,b.t,b.gs.length)
def dS(bs cs:List aZ):Prop:=cs.map Cj=bs.map Cj
theorem dS.len{bs cs:List aZ}(h:dS bs cs):cs.length=bs.length:=Zb
theorem dS.at_{bs cs:List aZ}(h:dS bs cs)(j:Nat):(aJ cs j).f=(aJ bs j).f/\(aJ cs j).t=(aJ bs j).t/\(aJ cs j).gs.length=(aJ bs j).gs.length:=by
 have i:=h.len;rcases Nat.lt_or_ge j bs.length with b|b
 .have e:(cs.map Cj)[j]? =(bs.map Cj)[j]? :=by rw[show cs.map Cj=bs.map Cj from h]
  rw[List.getElem?_map,List.getElem?_map,List.getElem?_eq_getElem b,List.getElem?_eq_getElem (show j<cs.length by omega)]at e;simp only[Option.map_some,Option.some.injEq]at e;rw[iK b,iK (show j<cs.length by omega)];have d:=congrArg (·.1) e;have a:=congrArg (·.2.1) e;have f:=congrArg (·.2.2) e;exact⟨d,a,f⟩
 .have d:aJ bs j=default:=by unfold aJ;rw[List.getD_eq_getElem?_getD,List.getElem?_eq_none ak];rfl
  have a:aJ cs j=default:=by unfold aJ;rw[List.getD_eq_getElem?_getD,List.getElem?_eq_none ak];rfl
  rw[d,a];exact⟨rfl,rfl,rfl⟩
theorem dS.refl(bs:List aZ):dS bs bs:=rfl
theorem dS.trans{a b c:List aZ}(h:dS a b)(k:dS b c):dS a c:=Eq.trans k h
theorem Oa{bs:List aZ}{b:aZ}(a:j<bs.length)(h:Cj b=Cj (aJ bs j)):dS bs (bs.set j b):=by
 show(bs.set j b).map Cj=bs.map Cj;rw[List.map_set];apply List.ext_getElem aQ;intro i d f;rw[List.getElem_set];split
 .rename_i e
  subst e;rw[h,iK a,List.getElem_map]
 .rfl
def Ep(b:aZ):Int×Int×Int×Nat:=(b.f,b.t,b.wd,b.gs.length)
theorem zq{bs cs:List aZ}(h:cs.map Ep=bs.map Ep):dS bs cs/\∀n,du cs n=du bs n:=by
 have i:cs.length=bs.length:=Zb;have f:cs.map Cj=bs.map Cj:=by
  have:=congrArg (List.map fun(x:Int×Int×Int×Nat)=>((x.1,x.2.1,x.2.2.2):Int×Int×Nat)) h;simp only[List.map_map]at this;exact this
 refine⟨f,fun n=> ?_⟩
 induction n with
 |zero=>rfl
 |succ n ih=>
  have e:(aJ cs n).wd=(aJ bs n).wd:=by
   rcases Nat.lt_or_ge n bs.length with a|a
   .have e:(cs.map Ep)[n]? =(bs.map Ep)[n]? :=by rw[h]
    rw[List.getElem?_map,List.getElem?_map,List.getElem?_eq_getElem a,List.getElem?_eq_getElem (show n<cs.length by omega)]at e;simp only[Option.map_some,Option.some.injEq]at e;rw[iK a,iK (show n<cs.length by omega)];exact congrArg (·.2.2.1) e
   .have d:aJ bs n=default:=by unfold aJ;rw[List.getD_eq_getElem?_getD,List.getElem?_eq_none ak];rfl
    have b:aJ cs n=default:=by unfold aJ;rw[List.getD_eq_getElem?_getD,List.getElem?_eq_none ak];rfl
    rw[d,b]
  show du cs n+_=du bs n+_;rw[ih,e]
section
variable{w:ahh}{B c g:Nat}{ps:List BoxM}
theorem cX.cell(h:cX w B (some ⟨g,0,none⟩) c ps){j q:Nat}(b:j<ps.length)(a:q<6):w.cell? ⟨g,j*6+q,none⟩=(iE ps[j])[q]? /\w.frozen? ⟨g,j*6+q,none⟩=false:=
 ⟨(aw.cellAt h.row _ ak).trans (iG iE pt ps j q _ (List.getElem?_eq_getElem b) a),aw.frozenAt h.row _⟩
theorem cX.kN(h:cX w B (some ⟨g,0,none⟩) c ps){j:Nat}(hj:j<ps.length):∃(G:aA) (a:Nat),w.cell? ⟨g,j*6,none⟩=some (ae aj (aJ (ps.map (·.1)) j).f)/\w.cell? ⟨g,j*6+1,none⟩=some (ae aj (aJ (ps.map (·.1)) j).t)/\w.cell? ⟨g,j*6+2,none⟩=some (ae aj (aJ (ps.map (·.1)) j).lv)/\w.cell? ⟨g,j*6+3,none⟩=some (ae aj (aJ (ps.map (·.1)) j).x)/\w.cell? ⟨g,j*6+4,none⟩=some (ae aj (aJ (ps.map (·.1)) j).wd)/\w.cell? ⟨g,j*6+5,none⟩=some (.slice G (aJ (ps.map (·.1)) j).gs.length a)/\(∀q,q<6->w.frozen? ⟨g,j*6+q,none⟩=false)/\KI w B G (aJ (ps.map (·.1)) j).gs.length a/\ps[j].2.1=G:=by
 have e:aJ (ps.map (·.1)) j=ps[j].1:=Xm;rw[e];have c0:=(h.cell hj (q:=0) ak).1;exact⟨ps[j].2.1,ps[j].2.2,c0,(h.cell hj (q:=1) ak).1,(h.cell hj (q:=2) ak).1,(h.cell hj (q:=3) ak).1,(h.cell hj (q:=4) ak).1,(h.cell hj (q:=5) ak).1,fun q b=>(h.cell hj b).2,h.gl _ (List.getElem_mem hj),rfl⟩
theorem cX.lev(h:cX w B (some ⟨g,0,none⟩) c ps){j:Nat}(a:j<ps.length)(z:Int):∃qs:List BoxM,cX (w.setCell ⟨g,j*6+2,none⟩ (ae aj z)) B (some ⟨g,0,none⟩) c qs/\(qs.map (·.1)).map Ep=(ps.map (·.1)).map Ep:=by
 refine⟨_,h.put a (q:=2) ak z {ps[j].1 with lv:=z} rfl rfl, ?_⟩;rw[List.map_set,List.map_set];refine List.ext_getElem aQ fun i b d=> ?_;rw[List.getElem_set];split
 .rename_i e
  subst e;simp[Ep]
 .rfl
theorem cX.wid(h:cX w B (some ⟨g,0,none⟩) c ps){j:Nat}(hj:j<ps.length)(z:Int):∃qs:List BoxM,cX (w.setCell ⟨g,j*6+4,none⟩ (ae aj z)) B (some ⟨g,0,none⟩) c qs/\qs.map (·.1)=(ps.map (·.1)).set j {aJ (ps.map (·.1)) j with wd:=z}/\qs.map (·.2)=ps.map (·.2):=by
 have e:aJ (ps.map (·.1)) j=ps[j].1:=Xm;refine⟨_,h.put hj (q:=4) ak z {ps[j].1 with wd:=z} rfl rfl,by rw[List.map_set,e], ?_⟩;rw[List.map_set];refine List.ext_getElem aQ fun i a b=> ?_;rw[List.getElem_set];split
 .rename_i e
  subst e;simp
 .rfl
theorem KI.cell{w:ahh}{B d g:Nat}(h:KI w B (some ⟨g,0,none⟩) n d)(o:k<n):∃z:Int,w.cell? ⟨g,k*4+2,none⟩=some (ae aj z)/\w.frozen? ⟨g,k*4+2,none⟩=false:=by
 obtain⟨gs,j,b,a⟩:=h;have e:=List.getElem?_eq_getElem (l:=gs) (i:=k) ak;have m:=(b _ (List.mem_of_getElem? e)).1;refine⟨nth gs[k] 2, ?_,aw.frozenAt a _⟩;rw[aw.cellAt a _ ak,AW gs (fun g f=>(b g f).1) k 2 _ e ak,List.getElem?_eq_getElem ak,cB ak];rfl
end
def TJ:List aZ:=[⟨0,0,0,0,5,[]⟩,⟨0,0,1,0,3,[]⟩,⟨0,0,1,0,2,[]⟩]
def Jd:List aZ:=[⟨0,0,0,0,5,[]⟩,⟨0,0,1,5,2,[]⟩,⟨0,0,1,7,3,[]⟩]
theorem afJ:fF TJ=[0,2,1]:=by
 have c:JX TJ=[0,1,1]:=rfl;have a:lj [0,1,1] 3=1:=cr;have b:fu [0,1,1] 3=1:=cr;have d:pP 3=[0,1,2]:=rfl;unfold fF kI;rw[c,show([0,1,1]:aC).length=3 from rfl,a,b,d];rw[At cr];rw[lF cr];rw[show oN [0,1,1] [0,1,2] (0+1) 3 0=0 by decide,show dN [0,1,2] 0 0=[0,1,2]from rfl,lF cr,show oN [0,1,1] [0,1,2] (0+1) 3 (0+1)=3 by decide,
  show dN [0,1,2] (0+1) 3=[0,2,1]from rfl,kY cr]
 rfl
theorem agf:lz TJ (fF TJ) (mY TJ (fF TJ) 3 (tt 0) 0) 3=Jd:=by
 rw[afJ]
 kernel_rfl
theorem aap(w:ahh):db (w.alloc (.cells #[ae aj 0,ae aj 0,ae aj 0,ae aj 0,ae aj 5,.slice none 0 0,ae aj 0,ae aj 0,ae aj 1,ae aj 0,ae aj 3,.slice none 0 0,ae aj 0,ae aj 0,ae aj 1,ae aj 0,ae aj 2,.slice none 0 0] 51))
 (w.alloc (.cells #[ae aj 0,ae aj 0,ae aj 0,ae aj 0,ae aj 5,.slice none 0 0,ae aj 0,ae aj 0,ae aj 1,ae aj 0,ae aj 3,.slice none 0 0,ae aj 0,ae aj 0,ae aj 1,ae aj 0,ae aj 2,.slice none 0 0] 51)).heap.size (some ⟨w.heap.size,0,none⟩) 3 TJ:=by
 have a:∀q v,#[ae aj 0,ae aj 0,ae aj 0,ae aj 0,ae aj 5,.slice none 0 0,ae aj 0,ae aj 0,ae aj 1,ae aj 0,ae aj 3,.slice none 0 0,ae aj 0,ae aj 0,ae aj 1,ae aj 0,ae aj 2,.slice none 0 0][q]? =some v->
  (w.alloc (.cells #[ae aj 0,ae aj 0,ae aj 0,ae aj 0,ae aj 5,.slice none 0 0,ae aj 0,ae aj 0,ae aj 1,ae aj 0,ae aj 3,.slice none 0 0,ae aj 0,ae aj 0,ae aj 1,ae aj 0,ae aj 2,.slice none 0 0] 51)).cell? ⟨w.heap.size,q,none⟩=some v:=by
  intro q v h;rw[cell_of_row _ _ _ _ _ _ (heap_alloc_new w _)];exact h
 have b:∀W B,lJ W B none 0 []:=fun W B=>⟨rfl,fun h=>absurd h ak⟩
 refine⟨rfl,fun _=>⟨_,rfl,aQ,fun j c=> ?_⟩⟩;obtain rfl|rfl|rfl:j=0∨j=1∨j=2:=ak
 .exact⟨a 0 _ rfl,a 1 _ rfl,a 2 _ rfl,a 3 _ rfl,a 4 _ rfl,none,0,a 5 _ rfl,b _ _⟩
 .exact⟨a 6 _ rfl,a 7 _ rfl,a 8 _ rfl,a 9 _ rfl,a 10 _ rfl,none,0,a 11 _ rfl,b _ _⟩
 .exact⟨a 12 _ rfl,a 13 _ rfl,a 14 _ rfl,a 15 _ rfl,a 16 _ rfl,none,0,a 17 _ rfl,b _ _⟩
theorem ZN:∀j,(aJ TJ j).gs.length<=4000000
 |0=>by decide
 |1=>by decide
 |2=>by decide
 |_+3=>by show([]:List fK).length<=_;decide
theorem jz(w:ahh):ahk prog 5 #[] w fun e m=>e=.returned (.bool true)/\az w m:=by
 have d:=sH (Hd (some ⟨w.heap.size,0,none⟩) 3 3 TJ 3 0 0 _ (aap w) ak ak ak ZN);rw[agf,show((3:Nat):Int)=3 from rfl]at d;go_enter func5,ntmps5;go_wp2_with fail;refine d.o.mono ?_;rintro e b ⟨r,s,ps,rfl,j,f,n⟩;have i:ps.length=3:=by
  have:=congrArg List.length f;rw[List.length_map]at this;exact this
 have bx:=j.boxes;rw[f,i]at bx;have l:=sH bx;have h:aq (az w b):=⟨(av w _).trans (n.mono aQ)⟩;obtain⟨a,rfl,_,c⟩:=l.o.2 ak;obtain⟨_,_,⟨_,_,_,q,_,_⟩,_⟩:=VE (c 0 ak);obtain⟨_,_,⟨_,_,_,o,g,_⟩,_⟩:=VE (c 1 ak);obtain⟨_,_,⟨_,_,_,k,p,_⟩,_⟩:=VE (c 2 ak);have t:b.cell? ⟨a.block,a.off+3,none⟩=some (ae aj 0):=by have:=q;simpa[Addr.add,aJ,Jd]using this
 have y:b.cell? ⟨a.block,a.off+6+3,none⟩=some (ae aj 5):=by have:=o;simpa[Addr.add,aJ,Jd]using this
 have v:b.cell? ⟨a.block,a.off+6+4,none⟩=some (ae aj 2):=by have:=g;simpa[Addr.add,aJ,Jd]using this
 have x:b.cell? ⟨a.block,a.off+12+3,none⟩=some (ae aj 7):=by have:=k;simpa[Addr.add,aJ,Jd]using this
 have u:b.cell? ⟨a.block,a.off+12+4,none⟩=some (ae aj 3):=by have:=p;simpa[Addr.add,aJ,Jd]using this
 go_wp2;go_ret;exact⟨rfl,h.o⟩
end Go.Proofs.YtklncadpkniojaaGreatDoor
