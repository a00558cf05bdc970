/- Part of LineBoxes. -/
import Derived.Test.YtpidckelbgbbkaaGreatDoorAm
import Derived.Test.YtpidckelbgbbkaaGreatDoorAp
import Derived.Laws.CopyOwn
namespace Go.Proofs.YtpidckelbgbbkaaGreatDoor
open Go.ChangeShapes Go.WideShapes Go.ChangeAt Go.RowKit Go.Proofs.Tryz
open Go.Value renaming int → ae
open Go.IntKind renaming i64 → aj
set_option linter.all false
set_option maxRecDepth 100000
set_option maxHeartbeats 16000000
variable{B c g k n size:Nat}{a:List bP}{w:World}{A:aC}{e:TypeId}
theorem rW:aS prog 39 50 6 64:=bD underlying39 (z:= .agg #[ae aj 0,ae aj 0,ae aj 0,ae aj 0,ae aj 0, .slice none 0 0]) aF rfl aq aq
theorem aao:aS prog 48 86 4 32:=bD underlying48 (z:= .agg #[ae aj 0,ae aj 0,ae aj 0,ae aj 0]) aF rfl aq aq
theorem mT:(prog.info? 50).map (·.size)=some 6:=by kernel_rfl
theorem pJ(a b c d e:Int)(G:aC)(n m:Nat):(#[ae aj a,ae aj b,ae aj c,ae aj d,ae aj e,Value.slice G n m]:Array Value).all (·.oneCell')=true:=dK
def jZ(w:World)(b:Nat)(x0 x1 x2 x3 x4 x5:Value):Prop:=w.heap[b]? =some (.cells #[x0,x1,x2,x3,x4,x5] 50 (0,0))
def vZ(w:World)(b:Nat)(x0 x1 x2 x3:Value):Prop:=w.heap[b]? =some (.cells #[x0,x1,x2,x3] 86 (0,0))
section
variable {w w' : World} {b : Nat} {x0 x1 x2 x3 x4 x5 : Value}
theorem jZ.lt(h:jZ w b x0 x1 x2 x3 x4 x5):b<w.heap.size:=lt_of_block h
theorem jZ.cs(h:jZ w b x0 x1 x2 x3 x4 x5):w.cell? ⟨b,0,none⟩=some x0/\w.cell? ⟨b,1,none⟩=some x1/\w.cell? ⟨b,2,none⟩=some x2/\w.cell? ⟨b,3,none⟩=some x3/\w.cell? ⟨b,4,none⟩=some x4/\w.cell? ⟨b,5,none⟩=some x5:=by
 refine⟨?_, ?_, ?_, ?_, ?_, ?_⟩<;>(rw[cell_of_row _ _ _ _ _ _ h];rfl)
theorem jZ.f(h:jZ w b x0 x1 x2 x3 x4 x5)(j:Nat):w.frozen? ⟨b,j,none⟩=false:=frozen_of_row _ _ _ _ _ h
theorem jZ.ar(h:jZ w b x0 x1 x2 x3 x4 x5)(a:Below B w w')(c:b<B):jZ w' b x0 x1 x2 x3 x4 x5:=(a.block b c).trans h
theorem jZ.mE{j:Nat}(h:jZ w b x0 x1 x2 x3 x4 x5)(a:b≠g)(u:Value):jZ (w.setCell ⟨g,j,none⟩ u) b x0 x1 x2 x3 x4 x5:=(Below.heap_setCell w ⟨g,j,none⟩ u b a).trans h
theorem jZ.alloc(h:jZ w b x0 x1 x2 x3 x4 x5)(o:Obj):jZ (w.alloc o) b x0 x1 x2 x3 x4 x5:=(Below.heap_alloc w o b h.lt).trans h
theorem jZ.aeB(h:jZ w b x0 x1 x2 x3 x4 x5)(v:Value):jZ (w.setCell ⟨b,5,none⟩ v) b x0 x1 x2 x3 x4 v:=by
 have aH:=h.lt;have a:w.heap[b]= .cells #[x0,x1,x2,x3,x4,x5] 50 (0,0):=by unfold jZ at h;simpa[Array.getElem?_eq_getElem aH]using h
 show(w.heap.modify b _)[b]? =_;rw[Array.getElem?_eq_getElem Ew,Array.getElem_modify_self,a];rfl
theorem vZ.lt(h:vZ w b x0 x1 x2 x3):b<w.heap.size:=lt_of_block h
theorem vZ.cs(h:vZ w b x0 x1 x2 x3):w.cell? ⟨b,0,none⟩=some x0/\w.cell? ⟨b,1,none⟩=some x1/\w.cell? ⟨b,2,none⟩=some x2/\w.cell? ⟨b,3,none⟩=some x3:=by
 refine⟨?_, ?_, ?_, ?_⟩<;>(rw[cell_of_row _ _ _ _ _ _ h];rfl)
theorem vZ.f(h:vZ w b x0 x1 x2 x3)(j:Nat):w.frozen? ⟨b,j,none⟩=false:=frozen_of_row _ _ _ _ _ h
end
theorem FN(wr:World)(a b c d e:Int)(v:Value):∃f,f=(wr.alloc (.cells #[ae aj 0,ae aj 0,ae aj 0,ae aj 0,ae aj 0, .slice none 0 0] 50)).setRow wr.heap.size #[ae aj a,ae aj b,ae aj c,ae aj d,ae aj e,v]/\
 ak (aA wr f)/\ak (jZ f wr.heap.size (ae aj a) (ae aj b) (ae aj c) (ae aj d) (ae aj e) v)/\
 ak ((wr.alloc (.cells #[ae aj 0,ae aj 0,ae aj 0,ae aj 0,ae aj 0, .slice none 0 0] 50)).heap[wr.heap.size]? =some (.cells #[ae aj 0,ae aj 0,ae aj 0,ae aj 0,ae aj 0, .slice none 0 0] 50 (0,0))):=
 ⟨_,rfl,⟨below_setRow (av wr _) cr _⟩,⟨setRow_heap _ _ _ _ _ _ (heap_alloc_new wr _)⟩,⟨heap_alloc_new wr _⟩⟩
theorem J7{w:World}{p:Addr}{b:bP}(h:yU w B p b):∃(G:aC) (a:Nat),(w.cell? p=some (ae aj b.f)/\w.cell? (bW p 1)=some (ae aj b.t)/\w.cell? (bW p 2)=some (ae aj b.lv)/\
 w.cell? (bW p 3)=some (ae aj b.x)/\w.cell? (bW p 4)=some (ae aj b.wd)/\w.cell? (bW p 5)=some (.slice G b.gs.length a))/\lj w B G b.gs.length b.gs:=by
 obtain⟨i,e,g,c,j,G,a,d,f⟩:=h;exact⟨G,a,⟨i,e,g,c,j,d⟩,f⟩
def Ax(a:List bP):Prop:=∀j,-1073741824<=(bN a j).wd/\(bN a j).wd<=1073741824
def uM(x:Int):Bool:=x.tmod 2 !=0
theorem Uc(x:Int)(w:World):Calls prog 81 #[ae aj x] w fun e w'=>e= .returned (.bool (uM x))/\w'=w:=by
 go_enter func81,ntmps81;go_wp2;go_ret;exact⟨rfl,rfl⟩
theorem Rv(A:aC)(n c:Nat)(a:List bP)(w:World)(r:cZ w w.heap.size A n a)(J:n<=40)(t:Ax a):
 Calls prog 82 #[.slice A n c] w fun e w'=>e= .returned (ae aj (ji a n))/\aA w w':=by
 have q:=sH r;have i:=sH t;go_enter func82,ntmps82;go_wp2;go_loopg [3,5,8] (n+1) (fun gg v3 _ j wr=>∃k:Nat,n-k<gg/\k<=n/\v3=ae aj (ji a k)/\j=ae aj (k:Int)/\ak (aA w wr))
 ·exact⟨0,aq,aq,rfl,rfl,cB⟩
 obtain⟨k,C,H,rfl,rfl,g⟩:=hrel;by_cases f:k<n
 ·obtain⟨B,rfl,_,o⟩:=(q.o.Z g.o).2 aq
  obtain⟨G,l,⟨c0,I,M,D,c4,c5⟩,_⟩:=J7 (o k f);have E:ak (ji a (k+1)=ji a k+(bN a k).wd):=⟨rfl⟩;have N:=oY i.o k;have F:=i.o k;obtain⟨z,d,p,s,m⟩:=FN wr (bN a k).f (bN a k).t (bN a k).lv (bN a k).x (bN a k).wd (.slice G (bN a k).gs.length l);obtain⟨L,v,y,K,O,u⟩:=s.o.cs;generalize ji a k=S at*;generalize bN a k=b at*;have x:=aR k n;have h:=g.t p.o;go_wp2_with (refine wpList_store_row rfl 50 (.tmp 5) (.tmp 11) rfl wr.heap.size _ rfl rfl 50 _ m.o mT aK (pJ _ _ _ _ _ _ _ _) ?_;rw[<-d];clear d);go_roundg (n-k)
  ·exact⟨k+1,aq,aq,iv E.o.symm,qQ,h⟩
  omega
 ·obtain rfl:k=n:=by omega
  go_wp2;go_ret;exact⟨rfl,g.o⟩
def xH(a:List bP):aE:=a.map (·.lv)
theorem pH(a:List bP):(xH a).length=a.length:=by simp[xH]
theorem aaq(h:k<a.length):nth (xH a) k=(bN a k).lv:=by
 rw[dQ OY,xW h];simp[xH]
def Tg(a:List bP)(n k:Nat):aE:=(xH a).take k++List.replicate (n-k) 0
theorem MU(a:List bP)(n:Nat):Tg a n 0=List.replicate n 0:=by simp[Tg]
theorem Ox(h:a.length=n):Tg a n n=xH a:=by
 unfold Tg;rw[List.take_of_length_le (by rw[pH,h];exact Nat.le_refl _)];simp
theorem Fc(h:k<a.length):(xH a).take (k+1)=(xH a).take k++[(bN a k).lv]:=by
 rw[List.take_succ_eq_append_getElem OY,<-aaq h,dQ OY]
theorem U'(h:a.length=n)(e:k<n):(Tg a n k).set k (bN a k).lv=Tg a n (k+1):=by
 have b:((xH a).take k).length=k:=by rw[List.length_take,pH];omega
 obtain⟨d,c⟩:∃d,n-k=d+1:=⟨n-k-1,aq⟩;unfold Tg;rw[c,show n-(k+1)=d by omega,Fc aq,List.set_append_right _ _ (by rw[b];exact Nat.le_refl _),b,Nat.sub_self];simp[List.replicate_succ]
def nC(a:List bP):aE:=fN (xH a)
theorem zH(h:a.length=n):vC (nC a) n:=Cu (by rw[pH,h])
theorem DT(A:aC)(n c:Nat)(lv:aE)(w:World)(g:bh w w.heap.size .i64 A n lv)(d:n<=4000000):
 Calls prog 32 #[.slice A n c] w (fH w 3 .i64 n (fN lv)):=by
 have f:=sH (Dc A n c lv w g d);generalize fN lv=V at*;go_enter func32,ntmps32;go_wp2_with fail;refine f.o.mono ?_;rintro e k ⟨h,i,rfl,o1,b⟩;have j:=sH o1;have a:=sH b;go_wp2;go_ret;exact⟨h,i,rfl,j.o,a.o⟩
theorem AH(A:aC)(n c:Nat)(lv:aE)(w:World)(g:bh w w.heap.size .i64 A n lv)(d:n<=4000000):
 Calls prog 33 #[.slice A n c] w (fH w 3 .i64 n (fN lv)):=by
 have f:=sH (zJ A n c lv w g d);generalize fN lv=V at*;go_enter func33,ntmps33;go_wp2_with fail;refine f.o.mono ?_;rintro e k ⟨h,i,m,rfl,o1,b⟩;have j:=sH o1;have a:=sH b;go_wp2;go_ret;exact⟨h,i,rfl,j.o,a.o⟩
theorem Eb(A:aC)(n c:Nat)(a:List bP)(w:World)(f:cZ w w.heap.size A n a)(D:n<=4000000):
 Calls prog 34 #[.slice A n c] w (fH w 3 .i64 n (xH a)):=by
 have m:=sH f;have r:ak (∀k,k<n->(xH a).take (k+1)=(xH a).take k++[(bN a k).lv]):=⟨fun k j=>Fc (by rw[f.1];exact j)⟩;have t:ak ((xH a).take n=xH a):=⟨by rw[List.take_of_length_le (by rw[pH,f.1];exact Nat.le_refl _)]⟩;go_enter func34,ntmps34;go_wp2;go_loopg [3,4] (n+1) (fun gg v3 v4 wr=>∃(k:Nat) (d:aC) (c':Nat),n-k<gg/\k<=n/\v3= .slice d k c'/\v4=ae aj (k:Int)/\ak (Own wr w.heap.size 3 .i64 d k c' ((xH a).take k))/\ak (aA w wr))
 ·exact⟨0,none,0,aq,aq,rfl,rfl,⟨Own.nil _ _ _ _⟩,cB⟩
 obtain⟨k,d,c',C,j,rfl,rfl,g,e⟩:=hrel;by_cases b:k<n
 ·obtain⟨B,rfl,_,l⟩:=(m.o.Z e.o).2 aq
  obtain⟨G,u,⟨_,_,F,_,_,_⟩,_⟩:=J7 (l k b);have E:=sH (r.o k b);generalize(bN a k).lv=x at*;have v:=aR k n;have z:=e.o.size;go_wp2_with (at_builtin;refine dD IW rfl (.tmp 11) (.tmp 17) rfl rfl (g.o.alloc _) rfl (y:=x) (fF _ _ _ _ aD) aq cA ?_;intro p c4 s h i;have o:=sH h;have q:ak (aA w s):=⟨(e.o.alloc aq _).trans i⟩;clear h i);go_roundg (n-k)
  ·exact⟨k+1,p,c4,aq,aq,rfl,qQ,⟨by rw[E.o];exact o.o⟩,q⟩
  omega
 ·obtain rfl:k=n:=by omega
  rw[t.o]at g;go_wp2;go_ret;exact⟨d,c',rfl,g.o,e.o⟩
theorem Ej(A:aC)(n c:Nat)(a:List bP)(w:World)(m:cZ w w.heap.size A n a)(d:n<=4000000):
 Calls prog 12 #[.slice A n c] w (fH w 3 .i64 n (nC a)):=by
 have l:=sH (Eb A n c a w m d);unfold nC;go_enter func12,ntmps12;go_wp2_with fail;refine l.o.mono ?_;rintro e i ⟨p,h,rfl,o1,f⟩;have k:=sH (AH p n h (xH a) i o1.ints d);have b:=sH f;go_wp2_with fail;refine k.o.mono ?_;rintro e t ⟨o,r,rfl,j,s⟩;have q:=sH (Own.dU j b.o.size);have g:=b.t s;go_wp2;go_ret;exact⟨o,r,rfl,q.o,g.o⟩
theorem vK(A:aC)(n c:Nat)(a:List bP)(w:World)(o:cZ w w.heap.size A n a)(K:n<=4000000):
 Calls prog 11 #[.slice A n c] w (fH w 3 .i64 n (nC a)):=by
 have Q:ak _:=⟨o⟩;have y:ak (a.length=n):=⟨o.1⟩;unfold nC;clear o;go_enter func11,ntmps11;go_wp2_with (refine dw IW GD rfl (.tmp 7) (.tmp 7) rfl n rfl rfl rfl rfl aq w.heap.size cr ?_;intro g w1 o1 t;have x:ak _:=⟨o1⟩;have s:ak _:=⟨t⟩;clear o1 t);go_loopg [4,5,11] (n+1) (fun gg _ _ m wr=>∃k:Nat,n-k<gg/\k<=n/\m=ae aj (k:Int)/\ak (Own wr w.heap.size 3 .i64 (some ⟨g,0,none⟩) n n (Tg a n k))/\ak (aA w wr))
 ·exact⟨0,aq,aq,rfl,⟨by rw[MU];exact x.o⟩,s⟩
 obtain⟨k,Z,X,rfl,l,h⟩:=hrel;clear x s;by_cases f:k<n
 ·obtain⟨V,rfl,_,v⟩:=(Q.o.Z h.o).2 aq
  obtain⟨G,F,⟨c0,c1,C,W,c4,c5⟩,_⟩:=J7 (v k f);have E:ak _:=⟨U' y.o f⟩;obtain⟨j,i,r,H,P⟩:=FN wr (bN a k).f (bN a k).t (bN a k).lv (bN a k).x (bN a k).wd (.slice G (bN a k).gs.length F);obtain⟨S,O,U,L,M,N⟩:=H.o.cs;generalize bN a k=b at*;have d:ak _:=⟨l.o.ar r.o⟩;have q:ak (aA w j):=⟨h.o.trans (r.o.mono h.o.size)⟩;obtain⟨u,hu⟩:∃u,j.cell? ⟨g,k,none⟩=some u:=⟨_,bI d.o f⟩;have f1:=aB.frozenAt d.o k;have I:ak (Own (j.setCell ⟨g,k,none⟩ (ae aj b.lv)) w.heap.size 3 .i64 (some ⟨g,0,none⟩) n n (Tg a n (k+1))):=⟨by rw[<-E.o];exact Own.nY d.o k _⟩;have SE:ak (aA w (j.setCell ⟨g,k,none⟩ (ae aj b.lv))):=⟨Below.setCell q.o (p:=⟨g,k,none⟩) (aB.sY d.o).1 _⟩;have Y:=aR k n;clear v S O L M N E;go_wp2_with (refine wpList_store_row rfl 50 (.tmp 5) (.tmp 15) rfl wr.heap.size _ rfl rfl 50 _ P.o mT aK (pJ _ _ _ _ _ _ _ _) ?_;rw[<-i];clear i);go_roundg (n-k)
  ·exact⟨k+1,aq,aq,qQ,I,SE⟩
  omega
 ·obtain rfl:k=n:=by omega
  rw[Ox y.o]at l;have B:ak _:=⟨DT (some ⟨g,0,none⟩) k k (xH a) wr l.o.ints K⟩;clear f l;go_wp2_with fail;refine B.o.mono ?_;rintro e j ⟨T,C,rfl,z,D⟩;have R:ak _:=⟨Own.dU z h.o.size⟩;have J:ak _:=⟨h.o.trans (D.mono h.o.size)⟩;clear z D B;go_wp2;go_ret;exact⟨T,C,rfl,R.o,J.o⟩
theorem qJ{m j:Nat}(h:j<m):bN (a.take m) j=bN a j:=by
 unfold bN;rw[List.getD_eq_getElem?_getD,List.getD_eq_getElem?_getD,List.getElem?_take,if_pos h]
theorem cZ.take{m:Nat}(h:cZ w B A n a)(i:m<=n):cZ w B A m (a.take m):=by
 refine⟨by rw[List.length_take,h.1];omega,fun g=> ?_⟩;obtain⟨b,e,f,d⟩:=h.2 aq;exact⟨b,e,f,fun j c=>by rw[qJ c];exact d j aq⟩
theorem tP(a:List bP)(m:Nat):∀k,k<=m->ji (a.take m) k=ji a k
 |0,_=>rfl
 |k+1,h=>by
  simp only[ji];rw[tP a m k aq,qJ aq]
theorem Ax.take(h:Ax a)(m:Nat):Ax (a.take m):=by
 intro j;by_cases b:j<m
 ·rw[qJ b];exact h j
 ·have:bN (a.take m) j=default:=by
   unfold bN;rw[List.getD_eq_getElem?_getD,List.getElem?_take,if_neg b];rfl
  rw[this];exact⟨bQ,bQ⟩
theorem Jk{P:Program}{t:TypeId}{bytes:Nat}(T:aS P t e size bytes)(A:aC)(n c j:Nat)(a:j<=n)(b:n<=c)(w:World):
 (Instr.slice t (.slice A n c) none (some (ae aj (j:Int))) none).run P w= .ok (.slice A j c) w:=by
 rw[run_slice_h w t A n c (cP T) .i64 j aq aq,cQ T];simp[Result.andThen,sliced];intro _;cases A<;>simp[Addr.add]
theorem bv{a b:Bool}(h:a=b):Value.bool a=Value.bool b:=by rw[h]
theorem VB{G:Prop}(s:G:=by
 exact⟨j+1,aq,aq,bv Xm,iv EP.o.symm,iv Xx,iv adq,qQ,⟨BD _⟩⟩):G:=s
theorem Jd(A:aC)(n c:Nat)(a:List bP)(O:aC)(oc:Nat)(o:aE)(tail:Nat)(base x:Int)(w:World)(C:cZ w w.heap.size A n a)(T:bh w w.heap.size .i64 O n o)(J:vC o n)
 (hn:n<=40) (N:tail<=n) (hc:n<=c) (D:Ax a) (mv: -1073741824<=x) (Z:x<=1073741824):
 Calls prog 39 #[.slice A n c, .slice O n oc,ae aj (tail:Int),ae aj base,ae aj x] w fun e X=>e= .returned (ae aj (kp a o tail (uM base) x))/\aA w X:=by
 have M:=sH C;have HO:=sH T;have K:=sH J;have l:=sH D;have CU:=Jk rW A n c tail N hc;have I:ak (∀W,_):=⟨fun W=>Uc base W⟩;have m:ak (kp a o tail (uM base) x=if uM base=true then x+ji a tail-ja a o tail n else x-lJ a o tail n):=⟨by unfold kp;rw[C.1]⟩;have WI:=sH (oY D tail);generalize kp a o tail (uM base) x=R at*;generalize uM base=od at*;clear C T J D;go_enter func39,ntmps39;go_wp2;go_loopg [11,12,13,14,15,17,20] (n+1) (fun gg v _ r u F _ s wr=>∃j:Nat,n-j<gg/\j<=n/\v= .bool (zk o tail j)/\r=ae aj (jE a o j)/\u=ae aj (lJ a o tail j)/\F=ae aj (ja a o tail j)/\s=ae aj (j:Int)/\ak (aA w wr))
 ·exact⟨0,aq,aq,rfl,rfl,rfl,rfl,rfl,cB⟩
 obtain⟨j,hg,hj,rfl,rfl,rfl,rfl,rfl,g⟩:=hrel;have h1:=oV (o:=o) l.o j;have h2:=tJ (o:=o) (tail:=tail) l.o j;by_cases d:j<n
 ·obtain⟨ao,rfl,_,k⟩:=(HO.o.Z g.o).2 aq
  obtain⟨y,H⟩:∃y:Nat,nth o j=(y:Int):=⟨(nth o j).toNat,by have:=K.o.ge j d;omega⟩;have p:y<n:=by have:=K.o.lt j d;omega
  have B:ak (xd o j=y):=⟨by unfold xd;omega⟩;have V:=k j d;rw[H]at V;obtain⟨ad,rfl,_,i⟩:=(M.o.Z g.o).2 aq;obtain⟨G,gc,⟨_,_,_,_,c4,_⟩,_⟩:=J7 (i y p);have EP:ak (jE a o (j+1)=jE a o j+(bN a y).wd):=⟨by show _+_=_;rw[B.o]⟩;have EL:ak (lJ a o tail (j+1)=if(Vl o tail j&& !zk o tail j)=true then jE a o j else lJ a o tail j):=⟨rfl⟩;have ER:ak (ja a o tail (j+1)=if Vl o tail j=true then jE a o (j+1)else ja a o tail j):=⟨rfl⟩;have EO:ak (zk o tail (j+1)=(zk o tail j||Vl o tail j)):=⟨rfl⟩;have h:ak (Vl o tail j=(decide (tail=0)||decide (y<tail))):=⟨by unfold Vl;rw[B.o]⟩;have h3:=l.o y;have j1:=aR j n;have y0:=jB y;have y1:=aR y n;have BD:∀q,aA w (wr.drewN q):=fun q=>aM g.o q
  generalize(bN a y).wd=wd at*;generalize jE a o j=S at*;generalize lJ a o tail j=L at*;generalize ja a o tail j=Q at*;generalize Vl o tail j=t at*;clear k i H B d;rcases Nat.eq_zero_or_pos tail with z|z
  ·have f:t=true:=by rw[h.o];simp[z]
   have t1:decide ((0:Int)<(tail:Int))=false:=fC;have t2:decide (0<tail)=false:=fC;subst f;clear h z;cases b:zk o tail j with
   |true=>
    rw[b]at EL EO;go_wp2;go_quiet (fail);go_wp2;go_roundg (n-j)
    ·exact VB
    omega
   |false=>
    rw[b]at EL EO;go_wp2;go_quiet (fail);go_wp2;go_roundg (n-j)
    ·exact VB
    omega
  ·have t1:=aR 0 tail
   rcases Nat.lt_or_ge y tail with P|P
   ·have f:t=true:=by rw[h.o];simp[P]
    have t4:decide ((tail:Int)<=(y:Int))=false:=fC;have t5:decide (tail<=y)=false:=fC;subst f;clear h;cases b:zk o tail j with
    |true=>
     rw[b]at EL EO;go_wp2;go_quiet (fail);go_wp2;go_roundg (n-j)
     ·exact VB
     omega
    |false=>
     rw[b]at EL EO;go_wp2;go_quiet (fail);go_wp2;go_roundg (n-j)
     ·exact VB
     omega
   ·have f:t=false:=by rw[h.o];simp;omega
    have t4:(tail:Int)<=(y:Int):=aq;subst f;clear h;go_wp2;go_quiet (fail);go_wp2;go_roundg (n-j)
    ·exact⟨j+1,aq,aq,bv Xm,iv EP.o.symm,iv Xx,iv (by rw[ER.o];simp),qQ,⟨BD _⟩⟩
    omega
 ·obtain rfl:j=n:=by omega
  have U:=sH (Rv A tail c (a.take tail) wr ((M.o.Z g.o).take N) aq (l.o.take tail));rw[tP a tail tail cr]at U;have h5:=WI.o;generalize ji a tail=W at*;generalize lJ a o tail j=L at*;generalize ja a o tail j=Q at*;generalize jE a o j=S at*;have WL:=sH h5;clear d hg;cases od with
  |true=>
   have E:ak (R=x+W-Q):=⟨by rw[m.o];rfl⟩;clear m;go_wp2_with fail;refine(I.o _).mono ?_;rintro e w2 ⟨rfl,rfl⟩;go_wp2_with fail;refine callK U.o g fun w3 b3 Y=> ?_;clear b3;go_wp2;go_ret;exact⟨aaA E.o.symm,Y.o⟩
  |false=>
   have E:ak (R=x-L):=⟨by rw[m.o];rfl⟩;clear m;go_wp2_with fail;refine(I.o _).mono ?_;rintro e w2 ⟨rfl,rfl⟩;go_wp2;go_ret;exact⟨aaA E.o.symm,g.o⟩
theorem kt{t:TypeId}{vs:List Value}{cs:Array Value}{fz:Nat×Nat}(h:aB w B e size A n c vs)(b:w.heap[g]? =some (.cells cs t fz))(f:t≠e):bO A (some ⟨g,0,none⟩):=by
 intro m j d;subst j;injection d with d
 injection d with d
 subst d;rcases h.2 with⟨a,_⟩|⟨l,cap,cur,a,_,i,_⟩
 ·cases a
 ·injection a with a
  injection a with a
  injection a with a
  subst a;rw[i]at b;injection b with b
  injection b with _ b
  exact f b.symm
theorem oS(w:World)(x0 x1 x2 x3 x4 a:Value)(N:Nat)(h:w.heap.size=N):jZ (w.alloc (.cells #[x0,x1,x2,x3,x4,a] 50)) N x0 x1 x2 x3 x4 a:=by subst h;exact heap_alloc_new w _
theorem aB.dU{a:Nat}{xs:List Value}(h:aB w B e size A n c xs)(f:a<=B):aB w a e size A n c xs:=by
 refine⟨h.1, ?_⟩;rcases h.2 with d|⟨g,cap,cur,b,i,r⟩
 ·exact .inl d
 ·exact .inr ⟨g,cap,cur,b,aq,r⟩
theorem aB.ia{xs:List Value}(h:aB w B e size A n c xs)(j:g<B)(cs:Array Value):aB (w.setRow g cs) B e size A n c xs:=by
 refine⟨h.1, ?_⟩;rcases h.2 with i|⟨a,cap,cur,d,b,f,r⟩
 ·exact .inl i
 ·exact .inr ⟨a,cap,cur,d,b,by rw[setRow_other w g a cs (by omega)];exact f,r⟩
theorem adH{G:Prop}(s:G:=by
 intro j u h;subst hN;rw[cell_of_row _ _ _ _ _ _ (heap_alloc_new W _)];simpa using h):G:=s
theorem Ea(W:World)(b a v2 v3:Value)(t:TypeId)(N:Nat)(hN:W.heap.size=N):∀(j:Nat) (u:Value),[b,a,v2,v3][j]? =some u->(W.alloc (.cells #[b,a,v2,v3] t)).cell? ⟨N,j,none⟩=some u:=by
 exact adH
theorem fh(W:World)(c a v2 v3 v4 b:Value)(t:TypeId)(N:Nat)(hN:W.heap.size=N):∀(j:Nat) (u:Value),[c,a,v2,v3,v4,b][j]? =some u->(W.alloc (.cells #[c,a,v2,v3,v4,b] t)).cell? ⟨N,j,none⟩=some u:=by
 exact adH
theorem tp(g:gN):∀u∈iV g,u.oneCell'=true:=by
 intro u a;simp[iV]at a;rcases a with rfl|rfl|rfl|rfl<;>rfl
theorem MY(p:BoxM):∀u∈jD p,u.oneCell'=true:=by
 intro u a;simp[jD]at a;rcases a with rfl|rfl|rfl|rfl|rfl|rfl<;>rfl
def mvG(gs:List gN)(P:Int)(k:Nat):List gN:=(gs.take k).map (uz P)
theorem MK{gs:List gN}{k:Nat}(P:Int)(h:k<gs.length):mvG gs P (k+1)=mvG gs P k++[uz P (mL gs k)]:=by
 unfold mvG;rw[List.take_succ_eq_append_getElem h,List.map_append,Fa h];rfl
theorem NK(gs:List gN)(P:Int):mvG gs P gs.length=gs.map (uz P):=by simp[mvG]
structure GI(W0:World)(bb:Nat)(x0 x1 x2 x3 x4:Int)(gs:List gN)(P:Int)(k:Nat)(G:aC)(gc:Nat)(W:World):Prop where
 lN:jZ W bb (ae aj x0) (ae aj x1) (ae aj x2) (ae aj x3) (ae aj x4) (.slice G k gc)
 own:aB W (bb+1) 86 4 G k gc ((mvG gs P k).flatMap iV)
 be:Below bb W0 W
section
variable {W0 W W' : World} {bb : Nat} {x0 x1 x2 x3 x4 : Int} {gs : List gN} {P : Int} {k : Nat} {G : aC} {gc : Nat}
theorem GI.ar(h:GI W0 bb x0 x1 x2 x3 x4 gs P k G gc W)(a:aA W W'):GI W0 bb x0 x1 x2 x3 x4 gs P k G gc W':=
 ⟨h.lN.ar a h.lN.lt,aB.ar h.own a,h.be.trans (a.mono (by have:=h.lN.lt;omega))⟩
theorem GI.push(h:GI W0 bb x0 x1 x2 x3 x4 gs P k G gc W){c:aC}{a:Nat}(o:aB W' (bb+1) 86 4 c (k+1) a ((mvG gs P k).flatMap iV++iV (uz P (mL gs k))))(b:Below (bb+1) W W')(e:k<gs.length):
 GI W0 bb x0 x1 x2 x3 x4 gs P (k+1) c a (W'.setCell ⟨bb,5,none⟩ (.slice c (k+1) a)):=by
 have d:=h.lN.ar b aq;refine⟨d.aeB _, ?_,Below.setCell (h.be.trans (b.mono aq)) (p:=⟨bb,5,none⟩) cr _⟩;refine aB.mE ?_ (kt o d bQ) _;rw[MK P e,List.flatMap_append];simpa using o
theorem GI.aeF(h:GI W0 bb x0 x1 x2 x3 x4 gs P gs.length G gc W):gv W (bb+1) G gc (gs.map (uz P)):=by
 have:=h.own;rw[NK]at this;unfold gv;rw[List.length_map];exact this
end
def YD(gs:List gN):Prop:=gs.length<=20/\∀j,-1073741824<=(mL gs j).x/\(mL gs j).x<=1073741824
theorem pdx{p:Addr}{g:gN}(h:zm w p g):w.cell? p=some (ae aj g.iX)/\w.cell? (bW p 1)=some (ae aj g.id)/\w.cell? (bW p 2)=some (ae aj g.x)/\w.cell? (bW p 3)=some (ae aj g.y):=h
theorem iD.dU{b:Nat}{ps:List BoxM}(h:iD w B A c ps)(a:b<=B):iD w b A c ps:=
 ⟨aB.dU h.row a,fun p d=>aB.dU (h.gl p d) a⟩
theorem Hw{c:List bP}{o:aE}{tail:Nat}(g:c.length=n)(f:n<=40)(i:tail<=n)(e:Ax c)(d:Bool){x:Int}(h: -1073741824<=x)(j:x<=1073741824):
 -137438953472<=kp c o tail d x/\kp c o tail d x<=137438953472:=by
 have a:=oY e tail;have b:=tJ (o:=o) (tail:=tail) e n;unfold kp;rw[g];split<;>omega
theorem RZ(A:aC)(n c:Nat)(a:List bP)(tail:Nat)(base x:Int)(w:World)(t:cZ w w.heap.size A n a)(hn:n<=40)(ht:tail<=n)(hc:n<=c)(hw:Ax a)(hg:∀j,YD (bN a j).gs)(K: -1073741824<=x)(J:x<=1073741824):
 Calls prog 17 #[.slice A n c,ae aj (tail:Int),ae aj base,ae aj x] w fun e w'=>
  ∃(A2:aC) (d:Nat) (ps:List BoxM),e= .returned (.slice A2 n d)/\iD w' w.heap.size A2 d ps/\ps.map (·.1)=uf a (nC a) (kp a (nC a) tail (uM base) x) n/\aA w w':=by
 have HX:=sH t;have HW:=sH hw;have HGX:=sH hg;have OR:=sH (zH t.1);have OC:=sH (vK A n c a w t aq);have SI:=sH (Hw (o:=nC a) t.1 hn ht hw (uM base) K J);have SC:ak (∀(W:World) (O:aC) (Q:Nat),aA w W->bh W W.heap.size .i64 O n (nC a)->_):=⟨fun W O Q hW ho=>Jd A n c a O Q (nC a) tail base x W (t.Z hW) ho (zH t.1) hn ht hc hw K J⟩;generalize nC a=o at*;go_enter func17,ntmps17;go_wp2_with fail;refine OC.o.mono ?_;rintro e w1 ⟨O,Q,rfl,o1,b1⟩;have B1:=sH b1;have X:=sH (SC.o w1 O Q b1 o1.ints);have O1:=sH o1;go_wp2_with fail;refine X.o.mono ?_;rintro e z ⟨rfl,b2⟩;have O2:=sH ((O1.o.ar b2).ints);have B2:=B1.t b2;have B:=SI.o;generalize hE:kp a o tail (uM base) x=l at*;have SHE:=sH hE;have SIN:=sH B;have F:=B2.o.size;go_wp2;go_loopg [10,11,13,14,16,27] (n+1) (fun gg v10 v11 _ _ _ v27 wr=>∃(j:Nat) (R:aC) (c':Nat) (ps:List BoxM),n-j<gg/\j<=n/\v10=ae aj (l+jE a o j)/\v11= .slice R j c'/\v27=ae aj (j:Int)/\ak (iD wr z.heap.size R c' ps)/\ak (ps.map (·.1)=uf a o l j)/\ak (aA z wr))
 ·exact⟨0,none,0,[],aq,aq,iv (by simp[jE]),rfl,rfl,⟨iD.nil _ _⟩,⟨rfl⟩,cB⟩
 obtain⟨j,R,c',ps,hgg,hj,rfl,rfl,rfl,OB,PE,T⟩:=hrel;obtain⟨h,rfl⟩:=eX wr;have BW:=sH (B2.o.trans (T.o.mono F));have hlen:ps.length=j:=by have:=congrArg List.length PE.o;simpa[M9]using this
 by_cases m:j<n
 ·have HG:=sH hgg
  obtain⟨ao,rfl,_,hco⟩:=(O2.o.Z T.o).2 aq;obtain⟨y,hy⟩:∃y:Nat,nth o j=(y:Int):=⟨(nth o j).toNat,by have:=OR.o.ge j m;omega⟩;have Fj:y<n:=by have:=OR.o.lt j m;omega
  have eo:xd o j=y:=by unfold xd;omega
  have k1:=hco j m;rw[hy]at k1;obtain⟨ad,rfl,_,Gt⟩:=(HX.o.Z BW.o).2 aq;obtain⟨G,gc,⟨a0,a1,a2,a3,a4,a5⟩,hP⟩:=J7 (Gt y Fj);have HP:=sH hP;have h3:=HW.o y;have H:=sH (HGX.o y);have C:=H.o.1;have EP:ak (jE a o (j+1)=jE a o j+(bN a y).wd):=⟨by show _+_=_;rw[eo]⟩;have EL:ak (uf a o l (j+1)=uf a o l j++[zo (bN a y) (l+jE a o j)]):=⟨by rw[Ij,eo]⟩;have h1:=oV (o:=o) HW.o j;have B:=SIN.o;obtain⟨P,u⟩:=eY (l+jE a o j);have uX: -274877906944<=P:=aq;have hp2:P<=274877906944:=aq;have EPP:ak (l+jE a o (j+1)=P+(bN a y).wd):=⟨by rw[EP.o];omega⟩;rw[u]at EL;rw[u];generalize bN a y=b at*;obtain⟨p,L⟩:=eY b.gs.length;have q:=sH L;rw[L]at a5 HP C;have j1:=aR j n;have y0:=jB y;have y1:=aR y n;have I0:ak (GI h h.heap.size b.f b.t b.lv P b.wd b.gs P 0 none 0 (h.alloc (.cells #[ae aj b.f,ae aj b.t,ae aj b.lv,ae aj P,ae aj b.wd, .slice none 0 0] 50))):=⟨⟨oS _ _ _ _ _ _ _ _ rfl,aB.nil _ _ _ _,av _ _⟩⟩;have C5:=aJ a5 (.cells #[ae aj b.f,ae aj b.t,ae aj b.lv,ae aj P,ae aj b.wd, .slice none 0 0] 50);have hsw:=T.o.size;have v:=sH OB.o.row;rw[hlen]at v;go_wp2;go_loopg [16,44] (p+1) (fun gg _ v44 wr=>∃(k:Nat) (i:aC) (d:Nat),p-k<gg/\k<=p/\v44=ae aj (k:Int)/\ak (GI h h.heap.size b.f b.t b.lv P b.wd b.gs P k i d wr))
  ·exact⟨0,none,0,aq,aq,rfl,I0⟩
  obtain⟨k,i,d,fL,hk,rfl,I⟩:=hrel;have s:=sH I.o.be;by_cases E:k<p
  ·obtain⟨ag,rfl,_,hcg⟩:=(HP.o.Z s.o s.o.size).2 aq
   obtain⟨z0,z1,z2,z3⟩:=pdx (hcg k E);have h5:=H.o.2 k;have Qq:k<b.gs.length:=by rw[q.o];exact E
   have Z:ak (iV (uz P (mL b.gs k))=[ae aj (mL b.gs k).iX,ae aj (mL b.gs k).id,ae aj ((mL b.gs k).x+P),ae aj (mL b.gs k).y]):=⟨rfl⟩;obtain⟨g,N⟩:=eY (mL b.gs k);have HGK:=sH N;rw[N]at z0 z1 z2 z3 h5 Z;obtain⟨wq,f⟩:=eX (wr.alloc (.cells #[ae aj g.iX,ae aj g.id,ae aj (g.x+P),ae aj g.y] 86));have S:ak (GI h h.heap.size b.f b.t b.lv P b.wd b.gs P k i d wq):=⟨by rw[f];exact I.o.ar (av _ _)⟩;have y5:=(f▸S.o.lN).cs.2.2.2.2.2;have i1:=aR k p;have gM:h.heap.size<wr.heap.size:=I.o.lN.lt;go_wp2_with (at_builtin;refine bk aao rfl (.tmp 54) (.tmp 56) rfl rfl (aB.alloc (f▸S.o.own) _) rfl (news:=[ae aj g.iX,ae aj g.id,ae aj (g.x+P),ae aj g.y]) rfl (Ea _ _ _ _ _ _ _ aD) (by rw[<-Z.o];exact tp _) aq cA ?_;intro D c4 U M r _ _;have s4:=(jZ.alloc (f▸S.o.lN) _).ar r aq;have y6:=s4.cs.2.2.2.2.2;have f6:=s4.f 5;have V:=sH M;have B4:=sH r;clear M r s4);have I5:ak (GI h h.heap.size b.f b.t b.lv P b.wd b.gs P (k+1) D c4 (U.setCell ⟨h.heap.size,5,none⟩ (.slice D (k+1) c4))):=⟨(f▸S.o.ar (av _ _)).push (by rw[HGK.o,Z.o];exact V.o) B4.o Qq⟩;go_roundg (p-k)
   ·exact⟨k+1,D,c4,aq,aq,qQ,I5⟩
   omega
  ·obtain rfl:k=p:=by omega
   have OG:=sH ((q.o▸I.o).aeF);obtain⟨q0,q1,q2,q3,q4,q5⟩:=I.o.lN.cs;have OB3:=sH (OB.o.ar s.o);have OR3:=sH (aB.ar v.o s.o);have PC:ak (jD (zo b P,i,d)=[ae aj b.f,ae aj b.t,ae aj b.lv,ae aj P,ae aj b.wd, .slice i k d]):=⟨by unfold jD zo;simp[q.o]⟩;have PG:ak (gv (wr.alloc (.cells #[ae aj b.f,ae aj b.t,ae aj b.lv,ae aj P,ae aj b.wd, .slice i k d] 50)) z.heap.size i d (zo b P).gs):=⟨aB.alloc (aB.dU OG.o aq) _⟩;have hvs:=s.o.size;go_wp2_with (at_builtin;refine bk rW rfl (.tmp 64) (.tmp 66) rfl rfl (aB.alloc OR3.o _) rfl (news:=[ae aj b.f,ae aj b.t,ae aj b.lv,ae aj P,ae aj b.wd, .slice i k d]) rfl (fh _ _ _ _ _ _ _ _ _ aD) (by rw[<-PC.o];exact MY _) aq cA ?_;intro A4 c4 U M r g4 _;have V:=sH M;have B4:=sH r;have D:=sH g4;clear M r g4);have Y:ak (iD U z.heap.size A4 c4 (ps++[(zo b P,i,d)])):=⟨(OB3.o.ar (av _ _)).push (by rw[hlen,PC.o];exact V.o) (by rw[hlen];exact D.o) PG.o⟩;have PEN:ak ((ps++[(zo b P,i,d)]).map (·.1)=uf a o l (j+1)):=⟨by rw[EL.o,<-PE.o,List.map_append];rfl⟩;have BEN:ak (aA z U):=⟨((T.o.trans (s.o.mono hsw)).alloc aq _).trans B4.o⟩;go_roundg (n-j)
   ·exact⟨j+1,A4,c4,_,aq,aq,iv EPP.o.symm,rfl,qQ,Y,PEN,BEN⟩
   exact HG.o
 ·obtain rfl:j=n:=by omega
  go_wp2;go_ret;exact⟨R,c',ps,rfl,OB.o.dU F,by rw[SHE.o];exact PE.o,BW.o⟩
theorem Sm(b:bP)(n:Nat)(J:n<=4000000)(v:b.gs.length=n)(f:aC)(m:Nat)(i:aC)(o:Nat)(w:World)(y:lj w w.heap.size f n b.gs)(s:lj w w.heap.size i n b.gs):
 Calls prog 31 #[.agg #[ae aj b.f,ae aj b.t,ae aj b.lv,ae aj b.x,ae aj b.wd, .slice f n m], .agg #[ae aj b.f,ae aj b.t,ae aj b.lv,ae aj b.x,ae aj b.wd, .slice i n o]] w
  fun e r=>e= .returned (.bool true)/\aA w r:=by
 obtain⟨h,aP⟩:=eX ((w.alloc (.cells #[ae aj b.f,ae aj b.t,ae aj b.lv,ae aj b.x,ae aj b.wd, .slice f n m] 50)).alloc (.cells #[ae aj b.f,ae aj b.t,ae aj b.lv,ae aj b.x,ae aj b.wd, .slice i n o] 50));have q:ak (jZ h w.heap.size (ae aj b.f) (ae aj b.t) (ae aj b.lv) (ae aj b.x) (ae aj b.wd) (.slice f n m)):=⟨by rw[aP];exact jZ.alloc (heap_alloc_new w _) _⟩;have p:ak (jZ h (w.heap.size+1) (ae aj b.f) (ae aj b.t) (ae aj b.lv) (ae aj b.x) (ae aj b.wd) (.slice i n o)):=⟨by rw[aP];exact oS _ _ _ _ _ _ _ _ (by simp)⟩;have c:ak (aA w h):=⟨JH⟩;have u:=sH (y.Z c.o c.o.size);have z:=sH (s.Z c.o c.o.size);have I:=sH v;generalize x:b.gs=gs at*;go_enter func31,ntmps31;go_wp2;rw[<-aP];clear aP;go_loopg [5] (n+1) (fun gg t wr=>∃k:Nat,n-k<gg/\k<=n/\t=ae aj (k:Int)/\ak (aA h wr))
 ·exact⟨0,aq,aq,rfl,cB⟩
 obtain⟨k,B,E,rfl,a⟩:=hrel;obtain⟨_,_,_,_,_,C⟩:=(q.o.ar a.o q.o.lt).cs;obtain⟨_,_,_,_,_,G⟩:=(p.o.ar a.o p.o.lt).cs;by_cases d:k<n
 ·obtain⟨P,rfl,_,j⟩:=(u.o.Z a.o a.o.size).2 aq
  obtain⟨O,rfl,_,l⟩:=(z.o.Z a.o a.o.size).2 aq;obtain⟨Q,M,H,L⟩:=pdx (j k d);obtain⟨K,F,D,N⟩:=pdx (l k d);have A:=aR k n;have R:=jB k;generalize mL gs k=g at*;go_wp2;go_quiet (fail);go_wp2;go_roundg (n-k)
  ·exact⟨k+1,aq,aq,qQ,⟨aM a.o _⟩⟩
  omega
 ·obtain rfl:k=n:=by omega
  go_wp2;go_ret;exact⟨rfl,c.o.trans (a.o.mono c.o.size)⟩
theorem QO(A:aC)(n c:Nat)(m:List bP)(hn:n<=4000000)(o:∀j,(bN m j).gs.length<=4000000)(s:aC)(V:Nat)(w:World)(S:cZ w w.heap.size A n m)(G:cZ w w.heap.size s n m):
 Calls prog 9 #[.slice A n c, .slice s n V] w fun e y=>e= .returned (.bool true)/\aA w y:=by
 have R:=sH S;have O:=sH G;go_enter func9,ntmps9;go_wp2;go_loopg [5] (n+1) (fun gg E wr=>∃k:Nat,n-k<gg/\k<=n/\E=ae aj (k:Int)/\ak (aA w wr))
 ·exact⟨0,aq,aq,rfl,cB⟩
 obtain⟨k,hg,hk,rfl,g⟩:=hrel;by_cases h:k<n
 ·obtain⟨Y,rfl,_,p⟩:=(R.o.Z g.o).2 aq
  obtain⟨bd,rfl,_,q⟩:=(O.o.Z g.o).2 aq;obtain⟨Q,H,⟨K,F,v,z,M,t⟩,d⟩:=J7 (p k h);obtain⟨L,g2,⟨T,J,B,P,C,u⟩,f⟩:=J7 (q k h);have X:=o k;generalize bN m k=b at*;obtain⟨I,a⟩:=eY b.gs.length;have D:ak (∀W,aA wr W->_):=⟨fun W l=>Sm b I aq a Q H L g2 W (by rw[a]at d;exact d.Z l l.size) (by rw[a]at f;exact f.Z l l.size)⟩;rw[a]at t u;have i1:=aR k n;have i0:=jB k;obtain⟨A0,A1,s,A3,Z,A5,E0,E1⟩:=lc8 K F v z M t T J;obtain⟨E2,E3,E4,E5⟩:=lc4 B P C u;have x:=Lib.hid (fun N:aI wr=>D.o N.1 N.2);go_wp2;refine br aF aF ?_
  repeat(go_big_quiet_step ((go_at_call 31;with_reducible exact cD (x.out _))))
  refine wpQuiet_nil ?_;intro _ r;obtain⟨U,i⟩:=r;subst i;go_wp2;go_roundg (n-k)
  ·exact⟨k+1,aq,aq,qQ,⟨g.o.trans (U.2.mono g.o.size)⟩⟩
  omega
 ·obtain rfl:k=n:=by omega
  go_wp2;go_ret;exact⟨rfl,g.o⟩
theorem Lp(A:aC)(n c:Nat)(xs:aE)(u:n<=4000000)(g:aC)(p:Nat)(w:World)(l:bh w w.heap.size .i64 A n xs)(o:bh w w.heap.size .i64 g n xs):
 Calls prog 10 #[.slice A n c, .slice g n p] w fun e i=>e= .returned (.bool true)/\aA w i:=by
 have j:=sH l;have h:=sH o;go_enter func10,ntmps10;go_wp2;go_loopg [5] (n+1) (fun gg m wr=>∃k:Nat,n-k<gg/\k<=n/\m=ae aj (k:Int)/\ak (aA w wr))
 ·exact⟨0,aq,aq,rfl,cB⟩
 obtain⟨k,s,t,rfl,b⟩:=hrel;by_cases a:k<n
 ·obtain⟨r,rfl,_,d⟩:=(j.o.Z b.o).2 aq
  obtain⟨bd,rfl,_,f⟩:=(h.o.Z b.o).2 aq;have v:=d k a;have y:=f k a;generalize nth xs k=x at*;have q:=aR k n;have z:=jB k;go_wp2;go_quiet (fail);go_wp2;go_roundg (n-k)
  ·exact⟨k+1,aq,aq,qQ,⟨aM b.o _⟩⟩
  omega
 ·obtain rfl:k=n:=by omega
  go_wp2;go_ret;exact⟨rfl,b.o⟩
def Gp:List bP:=[⟨0,0,0,0,5,[]⟩,⟨0,0,1,0,3,[]⟩,⟨0,0,1,0,2,[]⟩]
def Ia:List bP:=[⟨0,0,0,0,5,[]⟩,⟨0,0,1,5,2,[]⟩,⟨0,0,1,7,3,[]⟩]
theorem aeT:nC Gp=[0,2,1]:=by
 have a:xH Gp=[0,1,1]:=rfl;have c:fZ [0,1,1] 3=1:=bQ;have b:cO [0,1,1] 3=1:=bQ;have d:nJ 3=[0,1,2]:=rfl;unfold nC fN;rw[a,show([0,1,1]:aE).length=3 from rfl,c,b,d];rw[tX bQ];rw[jA bQ];rw[show nv [0,1,1] [0,1,2] (0+1) 3 0=0 by decide,show dg [0,1,2] 0 0=[0,1,2]from rfl,jA bQ,show nv [0,1,1] [0,1,2] (0+1) 3 (0+1)=3 by decide,
  show dg [0,1,2] (0+1) 3=[0,2,1]from rfl,jQ bQ]
 rfl
theorem aev:uf Gp (nC Gp) (kp Gp (nC Gp) 3 (uM 0) 0) 3=Ia:=by
 rw[aeT];rfl
theorem YC(w:World):cZ (w.alloc (.cells #[ae aj 0,ae aj 0,ae aj 0,ae aj 0,ae aj 5, .slice none 0 0,ae aj 0,ae aj 0,ae aj 1,ae aj 0,ae aj 3, .slice none 0 0,ae aj 0,ae aj 0,ae aj 1,ae aj 0,ae aj 2, .slice none 0 0] 50))
 (w.alloc (.cells #[ae aj 0,ae aj 0,ae aj 0,ae aj 0,ae aj 5, .slice none 0 0,ae aj 0,ae aj 0,ae aj 1,ae aj 0,ae aj 3, .slice none 0 0,ae aj 0,ae aj 0,ae aj 1,ae aj 0,ae aj 2, .slice none 0 0] 50)).heap.size (some ⟨w.heap.size,0,none⟩) 3 Gp:=by
 have a:∀q v,#[ae aj 0,ae aj 0,ae aj 0,ae aj 0,ae aj 5, .slice none 0 0,ae aj 0,ae aj 0,ae aj 1,ae aj 0,ae aj 3, .slice none 0 0,ae aj 0,ae aj 0,ae aj 1,ae aj 0,ae aj 2, .slice none 0 0][q]? =some v->
  (w.alloc (.cells #[ae aj 0,ae aj 0,ae aj 0,ae aj 0,ae aj 5, .slice none 0 0,ae aj 0,ae aj 0,ae aj 1,ae aj 0,ae aj 3, .slice none 0 0,ae aj 0,ae aj 0,ae aj 1,ae aj 0,ae aj 2, .slice none 0 0] 50)).cell? ⟨w.heap.size,q,none⟩=some v:=by
  intro q v h;rw[cell_of_row _ _ _ _ _ _ (heap_alloc_new w _)];exact h
 have b:∀W B,lj W B none 0 []:=fun W B=>⟨rfl,fun h=>absurd h aq⟩
 refine⟨rfl,fun _=>⟨_,rfl,aD,fun j c=> ?_⟩⟩;obtain rfl|rfl|rfl:j=0∨j=1∨j=2:=aq
 ·exact⟨a 0 _ rfl,a 1 _ rfl,a 2 _ rfl,a 3 _ rfl,a 4 _ rfl,none,0,a 5 _ rfl,b _ _⟩
 ·exact⟨a 6 _ rfl,a 7 _ rfl,a 8 _ rfl,a 9 _ rfl,a 10 _ rfl,none,0,a 11 _ rfl,b _ _⟩
 ·exact⟨a 12 _ rfl,a 13 _ rfl,a 14 _ rfl,a 15 _ rfl,a 16 _ rfl,none,0,a 17 _ rfl,b _ _⟩
theorem Nx:Ax Gp/\∀j,YD (bN Gp j).gs:=by
 have h:∀j,(bN Gp j=⟨0,0,0,0,5,[]⟩∨bN Gp j=⟨0,0,1,0,3,[]⟩∨bN Gp j=⟨0,0,1,0,2,[]⟩∨bN Gp j=default):=by
  intro j
  match j with
  |0=>exact .inl rfl
  |1=>exact .inr (.inl rfl)
  |2=>exact .inr (.inr (.inl rfl))
  |j+3=>exact .inr (.inr (.inr rfl))
 have g:YD []:=⟨bQ,fun j=>⟨by show(-1073741824:Int)<=0;decide,by show(0:Int)<=1073741824;decide⟩⟩;refine⟨fun j=> ?_,fun j=> ?_⟩
 ·rcases h j with e|e|e|e<;>rw[e]<;>exact⟨bQ,bQ⟩
 ·rcases h j with e|e|e|e<;>rw[e]<;>exact g
theorem jx(w:World):Calls prog 5 #[] w fun e p=>e= .returned (.bool true)/\aA w p:=by
 have f:=sH (RZ (some ⟨w.heap.size,0,none⟩) 3 3 Gp 3 0 0 _ (YC w) aq aq aq Nx.1 Nx.2 bQ bQ);rw[aev,show((3:Nat):Int)=3 from rfl]at f;go_enter func5,ntmps5;go_wp2_with fail;refine f.o.mono ?_;rintro e b ⟨t,v,ps,rfl,o,d,j⟩;have l:ps.length=3:=by
  have:=congrArg List.length d;rw[List.length_map]at this;exact this
 have bx:=o.boxes;rw[d,l]at bx;have q:=sH bx;have i:ak (aA w b):=⟨(av w _).trans (j.mono aD)⟩;obtain⟨a,rfl,_,c⟩:=q.o.2 aq;obtain⟨_,_,⟨_,_,_,n,_,_⟩,_⟩:=J7 (c 0 aq);obtain⟨_,_,⟨_,_,_,h,m,_⟩,_⟩:=J7 (c 1 aq);obtain⟨_,_,⟨_,_,_,k,g,_⟩,_⟩:=J7 (c 2 aq);have r:b.cell? ⟨a.block,a.off+3,none⟩=some (ae aj 0):=by have:=n;simpa[Addr.add,bN,Ia]using this
 have x:b.cell? ⟨a.block,a.off+6+3,none⟩=some (ae aj 5):=by have:=h;simpa[Addr.add,bN,Ia]using this
 have s:b.cell? ⟨a.block,a.off+6+4,none⟩=some (ae aj 2):=by have:=m;simpa[Addr.add,bN,Ia]using this
 have u:b.cell? ⟨a.block,a.off+12+3,none⟩=some (ae aj 7):=by have:=k;simpa[Addr.add,bN,Ia]using this
 have y:b.cell? ⟨a.block,a.off+12+4,none⟩=some (ae aj 3):=by have:=g;simpa[Addr.add,bN,Ia]using this
 go_wp2;go_ret;exact⟨rfl,i.o⟩
end Go.Proofs.YtpidckelbgbbkaaGreatDoor
