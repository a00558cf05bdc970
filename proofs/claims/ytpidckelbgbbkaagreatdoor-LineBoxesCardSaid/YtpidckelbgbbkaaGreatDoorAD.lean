/- Part of LineBoxes. -/
import Derived.Test.YtpidckelbgbbkaaGreatDoorAB
import Derived.Test.YtpidckelbgbbkaaGreatDoorAw
import Derived.Test.YtpidckelbgbbkaaGreatDoorAA
namespace Go.Proofs.YtpidckelbgbbkaaGreatDoor
open Go.ChangeShapes Go.WideShapes Go.ChangeAt Go.RowKit Go.Proofs.Tryz
open Go.Value renaming int → ae
open Go.IntKind renaming i64 → aj
set_option linter.all false
set_option maxRecDepth 100000
set_option maxHeartbeats 16000000
variable{G:Prop}{W w wr:World}{B a b bx c d g k m:Nat}{A:aC}{X x:Int}{t:TypeId}{gs:List aE}{o:aE}
theorem tF(C:aC)(n d:Nat)(w:World)(k:Iw w w.heap.size .i64 aN C n)(j:n<=10000):Calls prog 281 #[.slice C n d] w (Nw w 3 .i64 aN n):=by
 obtain⟨xs,g,_⟩:=k;have c:=sH g;go_enter func281,ntmps281;go_wp2_with (at_builtin;refine gT nA rfl (.tmp 4) (.tmp 5) rfl rfl (Own.nil w w.heap.size 3 .i64) rfl c.o aq cr ?_;intro h e f o1 a;have i:ak (Ow f w.heap.size 3 .i64 aN h n e):=⟨⟨_,by simpa using o1,fun _ _=>trivial⟩⟩;have b:=sH a;clear o1 a);go_ret;exact⟨_,_,aD,i.o,b.o⟩
def ad9(w:World)(B:Nat)(A:aC)(n c:Nat)(e:Ending)(a:World):Prop:=e= .returned (.slice A n c)/\Ow a B 3 .i64 aN A n c/\Below B w a
theorem aaQ(s:G:=by
 go_wp2
 (go_roundg (n-i)<;>first|omega|exact⟨i+1,_,aq,aq,rfl,aQ,O,BE⟩|exact⟨i+1,_,aq,aq,rfl,aQ,O2,B2⟩)):G:=s
theorem aeK(A:aC)(n c B:Nat)(a:Int)(w:World)(h:Ow w B 3 .i64 aN A n c)(v:B<=w.heap.size)(t:n<=10000):Calls prog 230 #[.slice A n c,ae aj a] w (ad9 w B A n c):=by
 have O:=sH h;go_enter func230,ntmps230;go_wp2_with fail;refine(uj a w).mono ?_;rintro e _ ⟨z,rfl,rfl⟩
 rename World=>w
 go_wp2;go_loopg [5,6] (n+1) (fun gg q l wr=>∃(i:Nat) (z:Int),n-i<gg/\i<=n/\q=ae aj z/\l=ae aj (i:Int)/\ak (Ow wr B 3 .i64 aN A n c)/\ak (Below B w wr))
 ·exact⟨0,z,aq,aq,rfl,rfl,O,cB⟩
 obtain⟨i,z,s,u,rfl,rfl,O,BE⟩:=hrel;by_cases d:i<n;rotate_left
 ·have k:=cF i n
  go_wp2;go_ret;exact⟨rfl,O.o,BE.o⟩
 have k:=aR i n;obtain⟨g,rfl,b,o⟩:=O.o.form aq;obtain⟨x,_,r⟩:=O.o.get d;have f0:=O.o.fz i;have O2:=sH (O.o.set (P:=aN) i (y:=1) trivial);have B2:ak (Below B w (wr.setCell ⟨g,i,none⟩ (ae aj 1))):=⟨Below.setCell BE.o (p:=⟨g,i,none⟩) b _⟩;have m:x=1∨x=2∨x=4∨(x≠1/\x≠2/\x≠4):=aq;rcases m with rfl|rfl|rfl|⟨j,h2,h3⟩
 rotate_right
 ·have j:(x==1)=false:=by simpa using j
  have h2:(x==2)=false:=yB;have h3:(x==4)=false:=Eu;go_wp2
  (go_roundg (n-i)<;>first|omega|exact⟨i+1,_,aq,aq,rfl,aQ,O,BE⟩|exact⟨i+1,_,aq,aq,rfl,aQ,O2,B2⟩)
 ·exact aaQ
 ·exact aaQ
 by_cases f:(z==1)=true
 ·exact aaQ
 have f:(z==1)=false:=by simpa using f
 go_wp2
 (go_roundg (n-i)<;>first|omega|exact⟨i+1,_,aq,aq,rfl,aQ,O,BE⟩|exact⟨i+1,_,aq,aq,rfl,aQ,O2,B2⟩)
theorem acB(s:G:=by
 go_wp2
 go_roundg (n-i)
 ·exact⟨i+1,aq,aq,aQ,⟨O2.o _⟩,⟨B2.o _⟩⟩
 omega):G:=s
theorem aeY(C:aC)(n d:Nat)(a:Int)(w:World)(k:Iw w w.heap.size .i64 aN C n)(t:n<=10000):Calls prog 236 #[.slice C n d,ae aj a] w (Nw w 3 .i64 aN n):=by
 have K:=sH k;go_enter func236,ntmps236;go_wp2_with fail;refine(tF C n d w K.o t).mono ?_;rintro e I ⟨A,c,rfl,o1,o⟩;have O:=sH o1;have m:=sH o;go_wp2;go_loopg [6,7] (n+1) (fun gg r _ wr=>∃(i:Nat),n-i<gg/\i<=n/\r=ae aj (i:Int)/\ak (Ow wr w.heap.size 3 .i64 aN A n c)/\ak (aA w wr))
 ·exact⟨0,aq,aq,rfl,O,m⟩
 obtain⟨i,G,L,rfl,O,l⟩:=hrel;by_cases h:i<n;rotate_left
 ·have q:=cF i n
  go_wp2;go_ret;exact⟨_,_,rfl,O.o,l.o⟩
 have q:=aR i n;obtain⟨g,rfl,f,s⟩:=O.o.form aq;obtain⟨x,_,E⟩:=O.o.get h;have f0:=O.o.fz i;have O2:ak (∀y:Int,Ow (wr.setCell ⟨g,i,none⟩ (ae aj y)) w.heap.size 3 .i64 aN (some ⟨g,0,none⟩) n c):=⟨fun y=>O.o.set i trivial⟩;have B2:ak (∀y:Int,aA w (wr.setCell ⟨g,i,none⟩ (ae aj y))):=⟨fun y=>Below.setCell l.o (p:=⟨g,i,none⟩) f _⟩;by_cases j:x=9;rotate_left
 ·have j:(x !=9)=true:=by simpa using j
  go_wp2;go_roundg (n-i)
  ·exact⟨i+1,aq,aq,aQ,O,l⟩
  omega
 subst j;go_wp2_with fail;refine(uj a wr).mono ?_;rintro e _ ⟨z,rfl,rfl⟩
 rename World=>wr
 go_upto_if 24 with fail;go_cut [7] (fun v u=>(∃z:Int,v=ae aj z)/\wr=u)
 case first=>
  rcases i with _|i
  ·go_wp2
   go_meet;exact⟨⟨_,rfl⟩,rfl⟩
  obtain⟨y,_,J⟩:=O.o.get (show i<n by omega);have H:wrap64 (i:Int)=(i:Int):=IntWalk.wrap64_in _ aq;have k0:=jB i;have F:=aR i n;have D:(0:Int)<(i:Int)+1:=aq;go_wp2;go_meet;exact⟨⟨_,rfl⟩,rfl⟩
 case rest=>
 obtain⟨⟨B,rfl⟩,rfl⟩:=hcut;go_wp2_with fail;refine(uL B wr).mono ?_;rintro e _ ⟨b,rfl,rfl⟩
 rename World=>wr
 cases b
 ·exact acB
 ·exact acB
def WO(w:World)(B:Nat)(l:List (Int×Int))(A:aC):Prop:=∀j,j<l.length->∃a,A=some a/\a.block<B/\w.cell? (a.add (j*2))=some (ae aj (fS l j).1)/\w.cell? (bW (a.add (j*2)) 1)=some (ae aj (fS l j).2)
theorem WO.Z{b:World}{l:List (Int×Int)}(h:WO w B l A)(a:Below B w b)(k:B<=d):WO b d l A:=fun j f=>by
 obtain⟨c,g,h2,e,i⟩:=h j f;exact⟨c,g,aq,(a.cell yG).trans e,(a.cell (by show(c.add (j*2)).block<B;rw[aO];exact h2)).trans i⟩
theorem td2(n:Int):(0<=n->n.tdiv 2=n/2/\n.tmod 2=n%2)/\(n<0->n.tdiv 2= -(-n/2)/\n.tmod 2= -(-n%2)):=by
 refine⟨fun h=>⟨Int.tdiv_eq_ediv_of_nonneg h,Int.tmod_eq_emod_of_nonneg h⟩,fun h=> ?_⟩;have b:=Int.neg_tdiv (-n) 2;have a:=Int.neg_tmod (-n) 2;rw[Int.neg_neg]at b a;rw[b,a,Int.tdiv_eq_ediv_of_nonneg aq,Int.tmod_eq_emod_of_nonneg aq];exact⟨rfl,rfl⟩
theorem Nj(n:Int)(h: -9223372036854775808<=n/\n<=9223372036854775807)(w:World):Calls prog 123 #[ae aj n,ae aj 2] w fun e i=>e= .returned (ae aj (kS n))/\i=w:=by
 obtain⟨d,c⟩:=td2 n;have g:=sH d;have f:=sH c;go_enter func123,ntmps123;go_wp2
 all_goals go_ret
 all_goals refine⟨yu ?_,rfl⟩
 all_goals
  have:=g.o;have:=f.o;unfold kS
  try unfold wrap64
  generalize n.tdiv 2=a at*;generalize n.tmod 2=b at*;omega
theorem No(n:Int)(h: -9223372036854775808<=n/\n<=9223372036854775807)(w:World):Calls prog 129 #[ae aj n] w fun e k=>e= .returned (ae aj (kS n))/\k=w:=by
 have d:n%2=0∨n%2=1:=aq;have i:ak (n%2=1->wrap64 (n-1)=n-1/\wrap64 ((n-1).tdiv 2)=kS n):=⟨fun c=>by
  have l:wrap64 (n-1)=n-1:=by unfold wrap64;omega
  refine⟨l, ?_⟩;obtain⟨j,g⟩:=td2 (n-1);unfold kS wrap64;generalize(n-1).tdiv 2=a at*;generalize(n-1).tmod 2=b at*;omega⟩
 have m:ak (n%2=0->wrap64 (n.tdiv 2)=kS n/\n.tdiv 2=kS n):=⟨fun c=>by
  obtain⟨j,g⟩:=td2 n;unfold kS wrap64;generalize n.tdiv 2=a at*;generalize n.tmod 2=b at*;omega⟩
 have M:ak ((n.tmod 2 !=0)=true↔n%2=1):=⟨by
  obtain⟨j,g⟩:=td2 n;generalize n.tdiv 2=a at*;generalize n.tmod 2=b at*;simp;omega⟩
 go_enter func129,ntmps129;go_wp2
 all_goals go_ret
 all_goals refine⟨yu ?_,rfl⟩
 ·rename_i f
  have c:=M.o.1 f;rw[(i.o c).1];exact(i.o c).2
 ·rename_i f
  have c:n%2=0:=by
   rcases d with d|d
   ·exact d
   ·have:=M.o.2 d;rw[this]at f;cases f
  exact(m.o c).2
theorem wI{l:List (Int×Int)}{every:Int}{i:Nat}(c:∀j,j<i->(fS l j).1<=x)(a:i<l.length)(h2:x<(fS l i).1):gV l every x=fS l i:=by
 have e:l.find? (fun t=>decide (x<t.1))=some (fS l i):=by
  rw[List.find?_eq_some_iff_getElem];refine⟨yB,i,a,by simp[fS,a],fun j b=> ?_⟩;have:=c j b;simp[fS,show j<l.length by omega]at this;simpa using this
 unfold gV;rw[e]
theorem zX{l:List (Int×Int)}{every:Int}(b:∀j,j<l.length->(fS l j).1<=x):gV l every x=(wrap64 (wrap64 (wrap64 ((max x 0).tdiv (QJ every))+1)*QJ every),0):=by
 have e:l.find? (fun t=>decide (x<t.1))=none:=by
  rw[List.find?_eq_none];intro t c;obtain⟨j,a,rfl⟩:=List.getElem_of_mem c;have:=b j a;simp[fS,a]at this;simpa using this
 unfold gV;rw[e]
def PNt(w:World)(t:Int×Int)(e:Ending)(a:World):Prop:=e= .returned (.agg #[ae aj t.1,ae aj t.2])/\aA w a
theorem xK{y:Int}(h:W=w.alloc (.cells #[ae aj x,ae aj y] t)):W.cell? ⟨w.heap.size,0,none⟩=some (ae aj x)/\W.cell? ⟨w.heap.size,1,none⟩=some (ae aj y):=by
 rw[h,cell_of_row _ _ _ _ _ _ (heap_alloc_new w _),cell_of_row _ _ _ _ _ _ (heap_alloc_new w _)];exact⟨rfl,rfl⟩
theorem ac0(s:G:=by
 by_cases hx:x<0
 ·have E:ak (M=0):=⟨aq⟩
  clear hM hM1;go_wp2_with fail
  all_goals first
   |(exfalso;omega)
   |(go_meet;exact⟨mR,rfl⟩)
 ·have E:ak (M=x):=⟨aq⟩
  clear hM hM1;go_wp2_with fail
  all_goals first
   |(exfalso;omega)
   |(go_meet;exact⟨mR,rfl⟩)):G:=s
theorem acK(s:G:=by
 by_cases he:every<1
 ·have E:ak (ev=48):=⟨by rw[<-LO];unfold QJ;rw[if_pos he]⟩
  clear LO;go_wp2;go_meet;exact⟨mR,rfl⟩
 ·have E:ak (every=ev):=⟨by rw[<-LO];unfold QJ;rw[if_neg he]⟩
  clear LO;go_wp2;go_meet;exact⟨mR,rfl⟩):G:=s
theorem Uz(l:List (Int×Int))(A:aC)(n c:Nat)(every x:Int)(w:World)(h:WO w w.heap.size l A)(y:l.length=n)(hn:n<=1000):Calls prog 62 #[.slice A n c,ae aj every,ae aj x] w (PNt w (gV l every x)):=by
 have R:=sH h;clear h;obtain⟨f,aP⟩:=eX (w.alloc (.cells #[ae aj 0,ae aj 0] 116));have g:ak (aA w f):=⟨lY⟩;have s:ak (Bx f w.heap.size #[ae aj 0,ae aj 0]):=⟨qR⟩;obtain⟨ev,LO⟩:=eY (QJ every);have O:ak ((∀j,j<n->(fS l j).1<=x)->gV l every x=(wrap64 (wrap64 (wrap64 ((max x 0).tdiv ev)+1)*ev),0)):=⟨fun h=>by rw[zX (by rw[y];exact h),LO]⟩;have B:ak (∀i,(∀j,j<i->(fS l j).1<=x)->i<n->x<(fS l i).1->gV l every x=fS l i):=⟨fun i t U X=>wI t (by rw[y];exact U) X⟩;generalize gV l every x=N at*;have V:=sH y;clear y;go_enter func62,ntmps62;go_upto_region 1 with fail;rw[<-aP];clear aP;go_upto_if 11 with fail;go_cut [1] (fun v K=>v=ae aj ev/\K=f)
 ·exact acK
 obtain⟨rfl,Y⟩:=hcut;have P:1<=ev:=by rw[<-LO];unfold QJ;split<;>omega
 clear LO;subst wc;obtain⟨M,hM⟩:=eY (max x 0);have hM1:x<=M:=aq;rw[hM]at O;go_upto_region 3 with fail;go_cut [7] (fun v K=>v=ae aj M/\K=f)
 ·exact ac0
 obtain⟨rfl,Y⟩:=hcut;subst wc;clear hM;go_wp2;go_loopg [7,16] (n+1) (fun gg v7 J wr=>∃i:Nat,n-i<gg/\i<=n/\v7=ae aj M/\J=ae aj (i:Int)/\ak (∀j,j<i->(fS l j).1<=x)/\ak (aA f wr))
 ·exact⟨0,aq,aq,rfl,rfl,⟨fun j h=>by omega⟩,cB⟩
 obtain⟨i,hg,hi,rfl,rfl,z,p⟩:=hrel;have k:=p.o.size;by_cases r:i<n;rotate_left
 ·have Q:=cF i n
  obtain rfl:i=n:=aq;have E:=sH (O.o z.o);have m:=s.o.ar p.o s.o.lt;obtain⟨b,G⟩:=m.heap;have S:(ev==0)=false:=pM;go_wp2_with (refine wpList_store_row rfl 116 (.tmp 6) (.tmp 36) rfl w.heap.size #[ae aj (wrap64 (wrap64 (wrap64 (M.tdiv ev)+1)*ev)),ae aj 0] rfl aK b _ G aF aK dK ?_;have H:=m.row (ds:= #[ae aj (wrap64 (wrap64 (wrap64 (M.tdiv ev)+1)*ev)),ae aj 0]));obtain⟨e,d⟩:=H.heap;refine bodyPost_ret (results_cell_row results62 _ _ w.heap.size e _ (0,0) _ aK d underlying116 rfl aF) rfl ?_;exact⟨mR,below_setRow (g.o.trans (p.o.mono g.o.size)) aq _⟩
 have Q:=aR i n;obtain⟨ad,rfl,_,I,F⟩:=((R.o.Z g.o g.o.size).Z p.o k) i (by rw[V.o];exact r);have D:ak (x<(fS l i).1->N=fS l i):=⟨fun h=>B.o i z.o r h⟩;have L:ak ((fS l i).1<=x->∀j,j<i+1->(fS l j).1<=x):=⟨fun h j hj=>by
  rcases Nat.lt_or_ge j i with t|t
  ·exact z.o j t
  ·obtain rfl:j=i:=by omega
   exact h⟩
 obtain⟨⟨u,v⟩,o⟩:∃q,fS l i=q:=⟨_,rfl⟩;rw[o]at I F D L;dsimp only at I F D L;clear o;obtain⟨Z,a⟩:=eX (wr.alloc (.cells #[ae aj u,ae aj v] 116));obtain⟨g0,g1⟩:=xK a;have C:ak (aA f Z):=⟨by rw[a];exact p.o.alloc k _⟩;go_upto_region 7 with fail;rw[<-a];clear a I F;by_cases T:x<u
 ·have E:=sH (D.o T)
  have m:=s.o.ar C.o s.o.lt;obtain⟨b,G⟩:=m.heap;go_wp2_with (refine wpList_store_row rfl 116 (.tmp 6) (.tmp 24) rfl w.heap.size #[ae aj u,ae aj v] rfl aK b _ G aF aK dK ?_;have H:=m.row (ds:= #[ae aj u,ae aj v]));obtain⟨e,d⟩:=H.heap;refine bodyPost_ret (results_cell_row results62 _ _ w.heap.size e _ (0,0) _ aK d underlying116 rfl aF) rfl ?_;exact⟨mR,below_setRow (g.o.trans (C.o.mono g.o.size)) aq _⟩
 ·have E:=sH (L.o aq)
  have W:u<=M:=aq;go_wp2_with fail
  all_goals first
   |(exfalso;omega)
   |(go_roundg (n-i)<;>first|omega|exact⟨i+1,aq,aq,rfl,aQ,E,C⟩)
theorem Un(l:List (Int×Int))(A:aC)(n c:Nat)(every x:Int)(w:World)(h:WO w w.heap.size l A)(s:l.length=n)(hn:n<=1000):Calls prog 68 #[.slice A n c,ae aj every,ae aj x] w (PNt w (gV l every x)):=by
 have R:=sH h;clear h;obtain⟨f,aP⟩:=eX (w.alloc (.cells #[ae aj 0,ae aj 0] 116));have g:ak (aA w f):=⟨lY⟩;have H:ak (Bx f w.heap.size #[ae aj 0,ae aj 0]):=⟨qR⟩;obtain⟨ev,LO⟩:=eY (QJ every);have NO:ak ((∀j,j<n->(fS l j).1<=x)->gV l every x=(wrap64 (wrap64 (wrap64 ((max x 0).tdiv ev)+1)*ev),0)):=⟨fun h=>by rw[zX (by rw[s];exact h),LO]⟩;have t:ak (∀i,(∀j,j<i->(fS l j).1<=x)->i<n->x<(fS l i).1->gV l every x=fS l i):=⟨fun i r Y h3=>wI r (by rw[s];exact Y) h3⟩;generalize gV l every x=N at*;have K:=sH s;clear s;go_enter func68,ntmps68;go_upto_region 1 with fail;rw[<-aP];clear aP;go_upto_if 9 with fail;go_cut [1] (fun v o=>v=ae aj ev/\o=f)
 ·exact acK
 obtain⟨rfl,L⟩:=hcut;have O:1<=ev:=by rw[<-LO];unfold QJ;split<;>omega
 clear LO;subst wc;go_wp2;go_loopg [7] (n+1) (fun gg v7 wr=>∃i:Nat,n-i<gg/\i<=n/\v7=ae aj (i:Int)/\ak (∀j,j<i->(fS l j).1<=x)/\wr=f)
 ·exact⟨0,aq,aq,rfl,⟨fun j h=>by omega⟩,rfl⟩
 obtain⟨i,hg,hi,rfl,p,e8⟩:=hrel;subst wr;by_cases a:i<n
 ·have P:=aR i n
  obtain⟨Q,rfl,_,D,z⟩:=(R.o.Z g.o g.o.size) i (by rw[K.o];exact a);have y:ak (x<(fS l i).1->N=fS l i):=⟨fun h=>t.o i p.o a h⟩;have F:ak ((fS l i).1<=x->∀j,j<i+1->(fS l j).1<=x):=⟨fun h j I=>by
   rcases Nat.lt_or_ge j i with r|r
   ·exact p.o j r
   ·obtain rfl:j=i:=by omega
    exact h⟩
  obtain⟨⟨u,v⟩,m⟩:∃q,fS l i=q:=⟨_,rfl⟩;rw[m]at D z y F;dsimp only at D z y F;clear m;by_cases J:x<u
  ·have E:=sH (y.o J)
   have k:=H.o;obtain⟨b,B⟩:=k.heap;go_wp2_with (refine wpList_store_row rfl 116 (.tmp 6) (.tmp 26) rfl w.heap.size #[ae aj u,ae aj v] rfl aK b _ B aF aK dK ?_;have C:=k.row (ds:= #[ae aj u,ae aj v]));obtain⟨e,d⟩:=C.heap;refine bodyPost_ret (results_cell_row results68 _ _ w.heap.size e _ (0,0) _ aK d underlying116 rfl aF) rfl ?_;exact⟨mR,below_setRow g.o aq _⟩
  ·have E:=sH (F.o aq)
   go_wp2;go_roundg (n-i)
   ·exact⟨i+1,aq,aq,aQ,E,rfl⟩
   omega
 have P:=cF i n;obtain rfl:i=n:=aq;have E:=sH (NO.o p.o);obtain⟨M,hM⟩:=eY (max x 0);have hM1:x<=M:=aq;rw[hM]at E;go_upto_region 8 with fail;go_cut [2] (fun v o=>v=ae aj M/\o=f)
 ·exact ac0
 obtain⟨rfl,L⟩:=hcut;subst wc;clear hM;go_upto_if 31 with fail;go_cut [2] (fun v o=>v=ae aj M/\o=f)
 ·
  rcases Nat.eq_zero_or_pos i with G|G
  ·have Z:decide (0<i)=false:=fC
   have U:=sH G;clear G a;go_wp2_with fail
   all_goals first
    |(exfalso;have:=U.o;omega)
    |(go_meet;exact⟨rfl,rfl⟩)
  ·obtain⟨j,I⟩:∃j,j+1=i:=⟨i-1,aq⟩
   have W:(i:Int)-1=(j:Int):=aq;have S:decide (0<i)=true:=yy;have V:=aR j i;obtain⟨Q,rfl,_,D,z⟩:=(R.o.Z g.o g.o.size) j (by rw[K.o];omega);have J:=p.o j aq;generalize(fS l j).1=u at*;have X:u<=M:=aq;clear I a;go_wp2_with fail
   all_goals first
    |(exfalso;omega)
    |(go_meet;exact⟨rfl,rfl⟩)
 obtain⟨rfl,L⟩:=hcut;subst wc;have k:=H.o;obtain⟨b,B⟩:=k.heap;have T:(ev==0)=false:=pM;go_wp2_with (refine wpList_store_row rfl 116 (.tmp 6) (.tmp 47) rfl w.heap.size #[ae aj (wrap64 (wrap64 (wrap64 (M.tdiv ev)+1)*ev)),ae aj 0] rfl aK b _ B aF aK dK ?_;have C:=k.row (ds:= #[ae aj (wrap64 (wrap64 (wrap64 (M.tdiv ev)+1)*ev)),ae aj 0]));obtain⟨e,d⟩:=C.heap;refine bodyPost_ret (results_cell_row results68 _ _ w.heap.size e _ (0,0) _ aK d underlying116 rfl aF) rfl ?_;exact⟨mR,below_setRow g.o aq _⟩
def Dv(w:World)(B:Nat)(gs:List aE)(a k:Nat)(A:aC):Prop:=a+k<=gs.length/\∀j,j<k->∃b,A=some b/\b.block<B/\(fW gs (a+j)).length=10/\∀q,q<10->w.cell? ((b.add (j*10)).add q)=some (ae aj (nth (fW gs (a+j)) q))
theorem Dv.Z{b:World}(h:Dv w B gs a k A)(d:Below B w b)(o:B<=c):Dv b c gs a k A:=⟨h.1,fun j g=>by
 obtain⟨e,i,l,f,n⟩:=h.2 j g;exact⟨e,i,aq,f,fun q m=>(d.cell (by rw[aO,aO];exact l)).trans (n q m)⟩⟩
theorem Rx.Kk{n:Nat}(h:Rx w B 10 gs A n):Dv w B gs 0 n A:=⟨Bl,fun j f=>by
 obtain⟨b,e,g,_,d⟩:=h.at_ f;obtain⟨a,c,i,_⟩:=h.2.2 aq;obtain rfl:b=a:=by rw[e]at c;injection c
 rw[Nat.zero_add];exact⟨b,e,i,g,d⟩⟩
theorem xx.Kk{P:Program}{d:aC}{n i:Nat}{lo g:Option Value}(h:xx P t 10 A n c lo g i m d k){w:World}{B a:Nat}{gs:List aE}(b:Dv w B gs a n A)(s:i+m<=n):Dv w B gs (a+i) m d:=⟨by have:=b.1;omega,fun j r=>by
 obtain⟨e,l,h2,f,p⟩:=b.2 (i+j) aq;rw[show a+i+j=a+(i+j) by omega];refine⟨e.add (i*10),by rw[h.2.2.2 (by omega),l];rfl,yG,f,fun q o=> ?_⟩;have:=p q o;rw[bm]at this;rw[bm,bm];rwa [show i*10+(j*10+q)=(i+j)*10+q by omega]⟩
theorem Dv.ba{j:Nat}(h:Dv w B gs a k A)(u:j<k):∃(b:Addr) (i f p l o d g q n m:Int),A=some b/\fW gs (a+j)=[i,f,p,l,o,d,g,q,n,m]/\w.cell? (b.add (j*10))=some (ae aj i)/\
 w.cell? (bW (b.add (j*10)) 1)=some (ae aj f)/\w.cell? (bW (b.add (j*10)) 2)=some (ae aj p)/\w.cell? (bW (b.add (j*10)) 3)=some (ae aj l)/\w.cell? (bW (b.add (j*10)) 4)=some (ae aj o)/\w.cell? (bW (b.add (j*10)) 5)=some (ae aj d)/\
 w.cell? (bW (b.add (j*10)) 6)=some (ae aj g)/\w.cell? (bW (b.add (j*10)) 7)=some (ae aj q)/\w.cell? (bW (b.add (j*10)) 8)=some (ae aj n)/\w.cell? (bW (b.add (j*10)) 9)=some (ae aj m):=by
 obtain⟨b,e,_,t,c⟩:=h.2 j u;obtain⟨i,f,p,l,o,d,g,q,n,m,s⟩:=ten t;rw[s]at c;have r:=c 0 aq;rw[pK]at r;exact⟨b,i,f,p,l,o,d,g,q,n,m,e,s,r,c 1 aq,c 2 aq,c 3 aq,c 4 aq,c 5 aq,c 6 aq,c 7 aq,c 8 aq,c 9 aq⟩
theorem Nk(lv:Int):(lv.tmod 2 !=0)=sq lv:=by
 obtain⟨d,c⟩:=td2 lv;unfold sq;rw[Bool.eq_iff_iff];generalize lv.tdiv 2=a at*;generalize lv.tmod 2=b at*;simp;omega
theorem NL{gs:List aE}{a:Nat}{b:Bool}(c:k<m):(if b=true then m-1-k else k)<m:=by split<;>omega
def POg(w:World)(m:Nat)(L:aE)(e:Ending)(a:World):Prop:=∃(A:aC) (c:Nat),e= .returned (.slice A m c)/\Own a w.heap.size 3 .i64 A m c L/\aA w a
theorem KQ(gs:List aE)(G:aC)(n c a b:Nat)(lv:Int)(w:World)(h:Dv w w.heap.size gs 0 n G)(iN:a<=b)(hb:b<=n)(hn:n<=100000):Calls prog 131 #[.slice G n c,ae aj (a:Int),ae aj (b:Int),ae aj lv] w (POg w (b-a) (tg gs a (b-a) (sq lv))):=by
 have R:=sH h;clear h;obtain⟨m,hm⟩:=eY (b-a);have hmi:(b:Int)-(a:Int)=(m:Int):=aq;have M:b=a+m:=aq;have HB:=sH M;rw[hm];have zz:ak ((prog.info? 3).map (·.zero)=some (some (ae aj 0))):=⟨aF⟩;have Y:=sH (Nk lv);obtain⟨f,N⟩:=eY (sq lv);rw[N]at Y⊢;have HL:ak (∀o,o=(oP gs a m f m).1->nH gs a o m=tg gs a m f):=⟨fun o h=>by rw[h];rfl⟩;generalize tg gs a m f=L at*;clear hm N M;go_enter func131,ntmps131;go_wp2_with (at_make;refine dw nF zz.o rfl _ _ rfl m rfl rfl rfl rfl aq w.heap.size cr ?_;intro g w1 o1 b1;have O1:=sH o1;have B1:=sH b1;clear o1 b1);go_loopg [10,11,12] (m+1) (fun gg v10 v11 _ wr=>∃(k:Nat) (X:Int),m-k<gg/\k<=m/\v10=ae aj X/\v11=ae aj ((a:Int)+k)/\ak (X=(oP gs a m f k).2)/\ak (Own wr w.heap.size 3 .i64 (some ⟨g,0,none⟩) m m (oP gs a m f k).1)/\ak (aA w wr))
 ·exact⟨0,0,aq,aq,rfl,aD,⟨rfl⟩,O1,B1⟩
 obtain⟨k,X,hg,hk,rfl,rfl,HX,C,BE⟩:=hrel;by_cases A:k<m;rotate_left
 ·have E:¬((a:Int)+k<(b:Int)):=by have:=HB.o;omega
  obtain rfl:k=m:=aq;have O3:ak (Own wr w.heap.size 3 .i64 (some ⟨g,0,none⟩) k k (nH gs a (oP gs a k f k).1 0)):=C;have HL2:ak (nH gs a (oP gs a k f k).1 k=L):=⟨HL.o _ rfl⟩;generalize(oP gs a k f k).1=o at*;clear HX C HL;go_wp2;go_loopg [13,14] (k+1) (fun gg W _ wr=>∃(i:Nat),k-i<gg/\i<=k/\W=ae aj (i:Int)/\ak (Own wr w.heap.size 3 .i64 (some ⟨g,0,none⟩) k k (nH gs a o i))/\ak (aA w wr))
  ·exact⟨0,aq,aq,rfl,O3,BE⟩
  obtain⟨i,I,x,rfl,u,D⟩:=hrel;have U:=D.o.size;by_cases A:i<k;rotate_left
  ·have E:=cF i k
   obtain rfl:i=k:=aq;have O5:ak (Own wr w.heap.size 3 .i64 (some ⟨g,0,none⟩) i i L):=⟨by rw[<-HL2.o];exact u.o⟩;go_wp2;go_ret;exact⟨_,i,rfl,O5.o,D.o⟩
  have E:=aR i k;obtain⟨ad,x0,x1,O,x3,x4,e,x6,x7,x8,x9,V,d,c0,c1,c2,c3,c4,c5,_⟩:=(R.o.Z D.o U).ba (j:=a+i) vi;subst V;rw[Nat.zero_add]at d;have J:nth (fW gs (a+i)) 5=e:=by rw[d];rfl
  clear c0 c1 c2 c3 c4 d;have s:ak (nH gs a o (i+1)=if(a:Int)<=e/\e<(a:Int)+i then(nH gs a o i).set i (nth (nH gs a o i) (e-a).toNat)else nH gs a o i):=⟨by rw[nH,J]⟩;have l:=sH I;clear J I;have r:a+i<n:=vi;obtain⟨p,S⟩:=eY (a+i);have P:(a:Int)+(i:Int)=(p:Int):=aq;rw[S]at c5 r;by_cases Q:(a:Int)<=e/\e<(a:Int)+i
  ·obtain⟨h,hh⟩:∃h:Nat,e-(a:Int)=h:=⟨(e-a).toNat,aq⟩
   have Z:h<i:=aq;rw[if_pos Q,hh,Int.toNat_natCast]at s;obtain⟨l4,lI⟩:=Q;rw[P]at lI;have d1:decide ((a:Int)<=e)=true:=yy;have e3:=bI u.o (j:=h) aq;have f1:=aB.frozenAt u.o i;have e4:=bI u.o (j:=i) A;have d:=(aB.sY u.o).1;have hhk:h<k:=aq;have t:=sH (Own.nY u.o i (nth (nH gs a o i) h));rw[<-s.o]at t;have K:=sH (Below.setCell D.o (p:=⟨g,i,none⟩) d (ae aj (nth (nH gs a o i) h)));generalize nth (nH gs a o i) h=y at*;generalize nth (nH gs a o i) i=z at*;clear Z x E S r;have r:p<n:=vi;have E:=aR i k;go_wp2;go_roundg (k-i)
   ·exact⟨i+1,aq,aq,aQ,t,K⟩
   have:=l.o;omega
  ·rw[if_neg Q]at s
   have t:ak (Own wr w.heap.size 3 .i64 (some ⟨g,0,none⟩) k k (nH gs a o (i+1))):=⟨by rw[s.o];exact u.o⟩;rw[P]at Q;by_cases d1:(a:Int)<=e
   ·have d2:decide ((a:Int)<=e)=true:=yy
    have d3:¬e<(p:Int):=aq;go_wp2;go_roundg (k-i)
    ·exact⟨i+1,aq,aq,aQ,t,D⟩
    have:=l.o;omega
   ·have d2:decide ((a:Int)<=e)=false:=fC
    go_wp2;go_roundg (k-i)
    ·exact⟨i+1,aq,aq,aQ,t,D⟩
    have:=l.o;omega
 have E:(a:Int)+k<(b:Int):=vi;obtain⟨i,x⟩:=eY (if f=true then m-1-k else k);have DI:i<m:=by rw[<-x];exact NL (a:=0) (gs:=[]) A
 have l:=sH hg;have d:=(aB.sY C.o).1;have f1:=aB.frozenAt C.o i;have e4:=bI C.o (j:=i) DI;have t:=sH (Own.nY C.o i X);have K:=sH (Below.setCell BE.o (p:=⟨g,i,none⟩) d (ae aj X));obtain⟨ad,x0,x1,O,x3,x4,e,x6,x7,x8,x9,V,q,c0,c1,c2,_⟩:=(R.o.Z K.o K.o.size).ba (j:=a+i) vi;subst V;rw[Nat.zero_add]at q;have H:nth (fW gs (a+i)) 2=O:=by rw[q];rfl
 have s:ak (oP gs a m f (k+1)=((oP gs a m f k).1.set i X,wrap64 (X+O))):=⟨by rw[oP,x,H,HX.o]⟩;clear c0 c1 q H hg;have r:a+i<n:=vi;obtain⟨p,S⟩:=eY (a+i);have P:(a:Int)+(i:Int)=(p:Int):=aq;rw[S]at c2 r;have T:ak (wrap64 (X+O)=(oP gs a m f (k+1)).2):=⟨by rw[s.o]⟩;have O7:ak (Own (wr.setCell ⟨g,i,none⟩ (ae aj X)) w.heap.size 3 .i64 (some ⟨g,0,none⟩) m m (oP gs a m f (k+1)).1):=⟨by rw[s.o];exact t.o⟩;have F:(b:Int)-1-((a:Int)+k)=((m-1-k:Nat):Int):=vi;clear t s;go_upto_if 30 with fail;go_cut [12] (fun v wx=>v=ae aj (i:Int)/\wr=wx)
 ·
  cases f
  ·have B:k=i:=by simpa using x
   subst B;clear P;have od1:lv.tmod 2=0:=(by simpa using Y.o);go_wp2;go_meet;exact⟨aQ,rfl⟩
  ·have B:m-1-k=i:=by simpa using x
   rw[B]at F;have od1:¬lv.tmod 2=0:=(by simpa using Y.o);go_wp2;go_meet;exact⟨aQ,rfl⟩
 obtain⟨rfl,rfl⟩:=hcut;clear F x;go_wp2;go_roundg (m-k)
 ·exact⟨k+1,wrap64 (X+O),aq,aq,rfl,aQ,T,O7,K⟩
 have:=l.o;omega
theorem Nz(lv:Int)(w:World):Calls prog 81 #[ae aj lv] w fun e a=>e= .returned (.bool (sq lv))/\aA w a:=by
 rw[<-Nk];go_enter func81,ntmps81;go_wp2;go_ret;exact⟨aD,Below.refl _ _⟩
structure vg(w wr:World)(g bx bo:Nat)(G:aC)(m c:Nat)(o:aE)(X:Int):Prop where
 cl:Bx wr w.heap.size #[.slice G m c]
 co:Bx wr bo #[.slice (some ⟨g,0,none⟩) m m]
 cx:Bx wr bx #[ae aj X]
 ow:Own wr (w.heap.size+1) 3 .i64 (some ⟨g,0,none⟩) m m o
 be:aA w wr
 h1:g<bo
 h2:bo<bx
theorem vg.ar{d:World}{G:aC}(h:vg w wr g bx b G m c o X)(a:aA wr d):vg w d g bx b G m c o X:=
 ⟨h.cl.ar a h.cl.lt,h.co.ar a h.co.lt,h.cx.ar a h.cx.lt,h.ow.ar a,h.be.trans (a.mono h.be.size),h.h1,h.h2⟩
theorem vg.new{b a f:World}{G:aC}{xs:aE}{o j:TypeId}(k:aA w b)(d:Bx b w.heap.size #[.slice G m c])(n:b.heap.size=w.heap.size+1)(o1:Own a b.heap.size 3 .i64 (some ⟨g,0,none⟩) m m xs)(i:aA b a)(h:f=(a.alloc (.cells #[.slice (some ⟨g,0,none⟩) m m] o)).alloc (.cells #[ae aj x] j)):vg w f g (a.heap.size+1) a.heap.size G m c xs x:=by
 have l:=i.size;have e:aA a f:=Xp;refine⟨(d.ar i d.lt).ar e (by have:=d.lt;omega), ?_, ?_, ?_,k.trans ((i.trans (e.mono l)).mono aq),(aB.sY o1).2,aq⟩
 ·rw[h]
  exact(Bx.new a _ _).ar (av _ _) aD
 ·rw[h]
  exact Bx.jt _ _ _ aD
 ·rw[<-n]
  exact Own.ar o1 e
theorem vg.set{G:aC}(h:vg w wr g bx a G m c o X)(i:Nat)(y:Int):vg w (wr.setCell ⟨g,i,none⟩ (ae aj y)) g bx a G m c (o.set i y) X:=by
 obtain⟨b,d⟩:=aB.sY h.ow;have:=h.h1;have:=h.h2;exact⟨h.cl.iA aq _ _,h.co.iA aq _ _,h.cx.iA aq _ _,Own.nY h.ow i y,Below.setCell h.be (p:=⟨g,i,none⟩) (by show w.heap.size<=g;omega) _,h.h1,h.h2⟩
theorem vg.aec{G:aC}(h:vg w wr g bx d G m c o X)(y:Int):vg w (wr.setCell ⟨bx,0,none⟩ (ae aj y)) g bx d G m c o y:=by
 obtain⟨e,f⟩:=aB.sY h.ow;have:=h.h1;have:=h.h2;exact⟨h.cl.iA aq _ _,h.co.iA aq _ _,h.cx.kJ 0 _,Own.mE h.ow (fun i b=>by injection b with b;injection b with b;intro a;injection a with a;injection a with a;omega) _,Below.setCell h.be (p:=⟨bx,0,none⟩) (by show w.heap.size<=bx;omega) _,h.h1,h.h2⟩
theorem Iu{b:Addr}(h:vg w wr g bx d (some b) m c o X){i:Nat}(q:i<m){k:Int}(hb:b.block<w.heap.size)(l:w.cell? (bW (b.add (i*10)) 2)=some (ae aj k)):
 Calls prog 197 #[ae aj (i:Int), .pointer (some ⟨bx,0,none⟩), .pointer (some ⟨d,0,none⟩), .pointer (some ⟨w.heap.size,0,none⟩)] wr fun e n=>e= .returned (.tuple #[])/\vg w n g bx d (some b) m c (o.set i X) (wrap64 (X+k)):=by
 have u:=h.co.cell 0;have y:=h.cx.cell 0;have f1:=aB.frozenAt h.ow i;have s:=bI h.ow (j:=i) q;have a:=sH (h.set i X);have r:=aR i m;generalize nth o i=z at*;go_enter func197,ntmps197;go_upto_region 1 with fail;obtain⟨A,f⟩:=eY (wr.setCell ⟨g,i,none⟩ (ae aj X));rw[f]at a⊢;have x:=a.o.cl.cell 0;have t:=a.o.cx.cell 0;have v:=(a.o.be.cell Pe).trans l;have f2:=a.o.cx.fz 0;have p:=sH (a.o.aec (wrap64 (X+k)));go_region;go_end0;exact⟨rfl,p.o.ar (bL (Below.refl _ _))⟩
theorem QU{g b i j f a d k e c:Int}(h:W=w.alloc (.cells #[ae aj g,ae aj b,ae aj i,ae aj j,ae aj f,ae aj a,ae aj d,ae aj k,ae aj e,ae aj c] t)):W.cell? ⟨w.heap.size,5,none⟩=some (ae aj a):=by
 rw[h,cell_of_row _ _ _ _ _ _ (heap_alloc_new w _)];rfl
theorem TP(gs:List aE)(G:aC)(m c a:Nat)(w:World)(h:Dv w w.heap.size gs a m G)(Q:m<=100000):Calls prog 124 #[.slice G m c] w fun e z=>e= .returned (ae aj (wrap64 (qA gs a m)))/\aA w z:=by
 have R:=sH h;clear h;obtain⟨L,n⟩:=eY (wrap64 (qA gs a m));have F:=sH n;rw[n];clear n;go_enter func124,ntmps124;go_wp2;go_loopg [3,8] (m+1) (fun gg v3 r wr=>∃(i:Nat) (X:Int),m-i<gg/\i<=m/\v3=ae aj X/\r=ae aj (i:Int)/\ak (X=wrap64 (qA gs a i))/\ak (aA w wr))
 ·exact⟨0,0,aq,aq,rfl,rfl,⟨vP.symm⟩,cB⟩
 obtain⟨i,X,p,S,rfl,rfl,o,d⟩:=hrel;by_cases j:i<m;rotate_left
 ·have x:=cF i m
  obtain rfl:i=m:=aq;have g:ak (X=L):=⟨by rw[o.o,F.o]⟩;go_wp2;go_ret;exact⟨by rw[g.o];rfl,d.o⟩
 have x:=aR i m;obtain⟨O,y,t,q,H,K,s,v,C,J,A,rfl,f,c0,E,I,B,c4,c5,c6,u,c8,N⟩:=(R.o.Z d.o d.o.size).ba j;have k:ak (wrap64 (X+q)=wrap64 (qA gs a (i+1))):=⟨by show _=wrap64 (qA gs a i+nth (fW gs (a+i)) 2);rw[f,o.o,lB];rfl⟩;have l:=sH p;clear f p;obtain⟨M,b⟩:=eX ((wr:World).alloc (.cells #[ae aj y,ae aj t,ae aj q,ae aj H,ae aj K,ae aj s,ae aj v,ae aj C,ae aj J,ae aj A] 108));obtain⟨P,g2⟩:=ya b;have D:ak (aA w M):=⟨by rw[b];exact d.o.alloc d.o.size _⟩;go_upto_region 5 with fail;rw[<-b];clear b c0 E I B c4 c5 c6 u c8 N;go_wp2;go_roundg (m-i)
 ·exact⟨i+1,_,aq,aq,rfl,aQ,k,D⟩
 have:=l.o;omega
def aar(gs:List aE)(a m:Nat):Prop:=∀j,j<m->-1<=nth (fW gs (a+j)) 5/\nth (fW gs (a+j)) 5<=1000000
theorem NC(gs:List aE)(G:aC)(m c a:Nat)(lv:Int)(w:World)(h:Dv w w.heap.size gs a m G)(hn:m<=100000)(ha:a<=100000)(ht:aar gs a m):Calls prog 125 #[.slice G m c,ae aj (a:Int),ae aj lv] w (POg w m (tg gs a m (sq lv))):=by
 have R:=sH h;have TO:=sH ht;clear h ht;have zz:ak ((prog.info? 3).map (·.zero)=some (some (ae aj 0))):=⟨aF⟩;have OD:=sH (fun W=>Nz lv W);obtain⟨d,N⟩:=eY (sq lv);rw[N]at OD⊢;have HL:ak (∀o,o=(oP gs a m d m).1->nH gs a o m=tg gs a m d):=⟨fun o h=>by rw[h];rfl⟩;generalize tg gs a m d=L at*;clear N;obtain⟨Q,aP⟩:=eX (w.alloc (.cells #[.slice G m c] 61));have X1:ak (Bx Q w.heap.size #[.slice G m c]):=⟨qR⟩;have B1:ak (Below w.heap.size w Q):=⟨lY⟩;have jg:ak (Q.heap.size=w.heap.size+1):=⟨oL⟩;go_enter func125,ntmps125;go_upto_region 1 with fail;rw[<-aP];clear aP;have c0:=X1.o.cell 0;go_upto_region 3 with(at_make;refine dw nF zz.o rfl _ _ rfl m rfl rfl rfl rfl aq Q.heap.size cr ?_;intro g w1 o1 b1;have O1:=sH o1;have S:=sH b1;clear o1 b1)
 obtain⟨W3,v⟩:=eX ((w1.alloc (Obj.cells #[Value.slice (some ⟨g,0,none⟩) m m] 43)).alloc (Obj.cells #[Value.int IntKind.i64 0] 3));have S3:=sH (vg.new B1.o X1.o jg.o O1.o S.o v);rw[<-v];clear v c0 X1 O1;generalize w1.heap.size+1=bx at*;generalize w1.heap.size=r at*;clear S;have M:=S3.o.cl.cell 0;go_wp2;go_loopg [10,20] (m+1) (fun gg v10 v20 wr=>∃(k:Nat) (X:Int),m-k<gg/\k<=m/\v20=ae aj (k:Int)/\ak (X=(oP gs a m d k).2)/\ak (vg w wr g bx r G m c (oP gs a m d k).1 X))
 ·exact⟨0,0,aq,aq,rfl,⟨rfl⟩,S3⟩
 obtain⟨k,X,hg,hk,rfl,HX,T⟩:=hrel;by_cases n:k<m;rotate_left
 ·have V:=cF k m
  obtain rfl:k=m:=aq;have H:ak (vg w wr g bx r G k c (nH gs a (oP gs a k d k).1 0) X):=T;have HL2:ak (nH gs a (oP gs a k d k).1 k=L):=⟨HL.o _ rfl⟩;generalize(oP gs a k d k).1=o at*;have O:=H.o.cl.cell 0;clear HX T HL S3 M;go_wp2;go_loopg [11,12,13,38] (k+1) (fun gg _ _ _ uF wr=>∃(i:Nat),k-i<gg/\i<=k/\uF=ae aj (i:Int)/\ak (vg w wr g bx r G k c (nH gs a o i) X))
  ·exact⟨0,aq,aq,rfl,H⟩
  obtain⟨i,K,B,rfl,s⟩:=hrel;have Y:=s.o.be.size;by_cases n:i<k;rotate_left
  ·have V:=cF i k
   obtain rfl:i=k:=aq;have f:ak (vg w wr g bx r G i c L X):=⟨by rw[<-HL2.o];exact s.o⟩;have P:=f.o.co.cell 0;go_wp2;go_ret;exact⟨_,i,rfl,f.o.ow.dU aq,f.o.be⟩
  have V:=aR i k;obtain⟨F,x0,x1,x,x3,x4,l,x6,x7,x8,x9,eG,p,c0,M,O,P,c4,c5,c6,c7,c8,c9⟩:=(R.o.Z s.o.be Y).ba n;subst eG;have u:nth (fW gs (a+i)) 5=l:=by rw[p];rfl
  have q:ak (nH gs a o (i+1)=if(a:Int)<=l/\l<(a:Int)+i then(nH gs a o i).set i (nth (nH gs a o i) (l-a).toNat)else nH gs a o i):=⟨by rw[nH,u]⟩;have b:=sH K;obtain⟨l1,l2⟩:=TO.o i n;rw[u]at l1 l2;clear u K p;obtain⟨W2,cd⟩:=eX ((wr:World).alloc (.cells #[ae aj x0,ae aj x1,ae aj x,ae aj x3,ae aj x4,ae aj l,ae aj x6,ae aj x7,ae aj x8,ae aj x9] 108));have g5:=QU cd;have S:ak (Below wr.heap.size wr W2):=⟨jT⟩;have f:=sH (s.o.ar S.o);go_upto_region 14 with fail;rw[<-cd];clear cd c0 M O P c4 c5 c6 c7 c8 c9;by_cases C:(a:Int)<=l/\l<(a:Int)+i
  ·obtain⟨h,hh⟩:∃h:Nat,l-(a:Int)=h:=⟨(l-a).toNat,aq⟩
   have By:h<i:=aq;rw[if_pos C,hh,Int.toNat_natCast]at q;have d0:(l== -1)=false:=pM;have d1:decide (0<=(h:Int))=true:=aD;have afz:=aR h i;have e3:=bI f.o.ow (j:=h) aq;have f1:=aB.frozenAt f.o.ow i;have e4:=bI f.o.ow (j:=i) n;have P:=f.o.co.cell 0;have hhk:=aR h k;have A:=sH (f.o.set i (nth (nH gs a o i) h));rw[<-q.o]at A;generalize nth (nH gs a o i) h=y at*;generalize nth (nH gs a o i) i=z at*;clear C q;go_upto_region 16 with fail;go_region;have S9:=sH (A.o.ar (bL (Below.refl _ _)));go_wp2;go_roundg (k-i)
   ·exact⟨i+1,aq,aq,aQ,S9⟩
   have:=b.o;omega
  ·rw[if_neg C]at q
   have A:ak (vg w W2 g bx r (some F) k c (nH gs a o (i+1)) X):=⟨by rw[q.o];exact f.o⟩;obtain⟨h,hh⟩:=eY (l-(a:Int));have hhr: -1000000<=h/\h<=1000000:=aq;clear q;cases d0:(l== -1)
   ·by_cases d1:0<=h
    ·have d2:decide (0<=h)=true:=yy
     have d3:¬h<(i:Int):=aq;clear C;go_wp2;go_roundg (k-i)
     ·exact⟨i+1,aq,aq,aQ,A⟩
     have:=b.o;omega
    ·have d2:decide (0<=h)=false:=fC
     have d3:h<0:=aq;have d4:¬h<(i:Int)∨True:= .inr trivial;clear C d1 d4;go_wp2_with fail
     all_goals(have Z:=b.o;go_roundg (k-i)<;>first|omega|exact⟨i+1,aq,aq,aQ,A⟩)
   ·have Fb:l= -1:=by simpa using d0
    have d2:decide (0<=h)=false:=fC;have d3:h<0:=aq;clear C Fb;go_wp2_with fail
    all_goals(have Z:=b.o;go_roundg (k-i)<;>first|omega|exact⟨i+1,aq,aq,aQ,A⟩)
 have V:=aR k m;obtain⟨i,B⟩:=eY (if d=true then m-1-k else k);have t:i<m:=by rw[<-B];exact NL (a:=0) (gs:=[]) n
 obtain⟨F,x0,x1,x,x3,x4,l,x6,x7,x8,x9,eG,p,c0,M,O,_⟩:=R.o.ba t;obtain⟨gS,D,U,_⟩:=R.o.2 i t;subst eG;obtain rfl:F=gS:=by injection D
 have I:nth (fW gs (a+i)) 2=x:=by rw[p];rfl
 have q:ak (oP gs a m d (k+1)=((oP gs a m d k).1.set i X,wrap64 (X+x))):=⟨by rw[oP,B,I,HX.o]⟩;have b:=sH hg;clear c0 M p I hg D;go_wp2_with fail;refine(OD.o _).mono ?_;rintro e w2 ⟨rfl,b2⟩;have H:=sH (T.o.ar b2);have PS:=sH (Iu H.o t U O);have P:=H.o.cl.cell 0;have s:ak (∀w',vg w w' g bx r (some F) m c ((oP gs a m d k).1.set i X) (wrap64 (X+x))->vg w w' g bx r (some F) m c (oP gs a m d (k+1)).1 (wrap64 (X+x))):=⟨fun w' h=>by rw[q.o];exact h⟩;have E:ak (wrap64 (X+x)=(oP gs a m d (k+1)).2):=⟨by rw[q.o]⟩;clear T b2 O;cases d
 ·obtain rfl:k=i:=by simpa using B
  go_wp2_with fail;go_at_call 197;refine PS.o.mono ?_;rintro e w3 ⟨rfl,J⟩;have f:=sH (s.o _ J);clear J;go_wp2;go_roundg (m-k)
  ·exact⟨k+1,_,aq,aq,aQ,E,f⟩
  have:=b.o;omega
 ·have lM:m-1-k=i:=by simpa using B
  have Vm:(m:Int)-1-(k:Int)=(i:Int):=aq;clear B lM;go_wp2_with fail;go_at_call 197;refine PS.o.mono ?_;rintro e w3 ⟨rfl,J⟩;have f:=sH (s.o _ J);clear J;go_wp2;go_roundg (m-k)
  ·exact⟨k+1,_,aq,aq,aQ,E,f⟩
  have:=b.o;omega
structure GQ(bb:Nat)(w2 W:World)(x0 x1 x2 x4:Int)(rs:List gN)(G:aC)(gc:Nat)(A:aC)(L:aE):Prop where
 bx:Bx W bb #[ae aj x0,ae aj x1,ae aj x2,ae aj 0,ae aj x4, .slice G rs.length gc]
 own:aB W w2.heap.size 86 4 G rs.length gc (rs.flatMap iV)
 be:Below bb w2 W
 lt:bb<w2.heap.size
 at_:∀j,j<L.length->∃ga,A=some ⟨ga,0,none⟩/\ga<w2.heap.size/\ga≠bb/\W.cell? ⟨ga,j,none⟩=some (ae aj (nth L j))
theorem nP{a:World}{p:Addr}(h:a.heap[p.block]? =w.heap[p.block]?):a.cell? p=w.cell? p:=by
 unfold World.cell?;rw[h]
theorem Bx.lN{x0 x1 x2 c x4 a:Value}(h:Bx w b #[x0,x1,x2,c,x4,a]):w.cell? ⟨b,0,none⟩=some x0/\w.cell? ⟨b,1,none⟩=some x1/\w.cell? ⟨b,2,none⟩=some x2/\w.cell? ⟨b,3,none⟩=some c/\w.cell? ⟨b,4,none⟩=some x4/\w.cell? ⟨b,5,none⟩=some a:=⟨h.cell 0,h.cell 1,h.cell 2,h.cell 3,h.cell 4,h.cell 5⟩
section
variable {bb : Nat} {w2 W W' : World} {x0 x1 x2 x4 : Int} {rs : List gN} {G : aC} {gc : Nat} {A : aC} {L : aE}
theorem GQ.new{d:World}(h:Bx d bb #[ae aj x0,ae aj x1,ae aj x2,ae aj 0,ae aj x4, .slice none 0 0])(e:aA d w2)(b:Own w2 d.heap.size 3 .i64 A m c L):GQ bb w2 w2 x0 x1 x2 x4 [] none 0 A L:=by
 have f:=h.lt;have l:L.length=m:=b.len;refine⟨h.ar e f,aB.nil _ _ _ _,Below.refl _ _,by have:=e.size;omega,fun j k=> ?_⟩;obtain⟨g,rfl,i,a⟩:=aB.form b aq;exact⟨g,rfl,a,aq,bI b aq⟩
theorem GQ.ar(h:GQ bb w2 W x0 x1 x2 x4 rs G gc A L)(a:aA W W'):GQ bb w2 W' x0 x1 x2 x4 rs G gc A L:=by
 have k:=h.be.size;have d:=h.lt;refine⟨h.bx.ar a h.bx.lt,aB.ar h.own a,h.be.trans (a.mono aq),d,fun j f=> ?_⟩;obtain⟨b,e,g,i,c⟩:=h.at_ j f;exact⟨b,e,g,i,(a.cell (by show b<_;omega)).trans c⟩
theorem GQ.ae5(h:GQ bb w2 W x0 x1 x2 x4 rs G gc A L)(y:Int):GQ bb w2 (W.setCell ⟨bb,4,none⟩ (ae aj y)) x0 x1 x2 y rs G gc A L:=by
 have d:=h.lt;refine⟨h.bx.kJ 4 _,aB.mE h.own (fun g e=> ?_) _,Below.setCell h.be (p:=⟨bb,4,none⟩) cr _,d,fun j f=> ?_⟩
 ·have a:=h.own
  rw[e]at a;have:=(aB.sY a).1;intro b;injection b with b
  injection b with b
  omega
 ·obtain⟨k,e,i,c,a⟩:=h.at_ j f
  exact⟨k,e,i,c,(nP (Below.heap_setCell _ _ _ _ c)).trans a⟩
theorem GQ.push{l i:World}{p:gN}{d:aC}(h:GQ bb w2 W x0 x1 x2 x4 rs G gc A L)(s:aA W l)(o:aB i w2.heap.size 86 4 d (rs.length+1) c (rs.flatMap iV++iV p))(f:Below w2.heap.size l i):GQ bb w2 (i.setCell ⟨bb,5,none⟩ (.slice d (rs.length+1) c)) x0 x1 x2 x4 (rs++[p]) d c A L:=by
 have k:=h.ar s;have m:=h.lt;have bx:=(k.bx.ar f m).kJ 5 (.slice d (rs.length+1) c);have n:(rs++[p]).length=rs.length+1:=aD;refine⟨by rw[n];exact bx, ?_,Below.setCell (k.be.trans (f.mono aq)) (p:=⟨bb,5,none⟩) cr _,m,fun j t=> ?_⟩
 ·rw[n,List.flatMap_append,show [p].flatMap iV=iV p by simp]
  refine aB.mE o (fun g e=> ?_) _;have b:=o;rw[e]at b;have:=(aB.sY b).1;intro a;injection a with a
  injection a with a
  omega
 ·obtain⟨r,e,u,q,b⟩:=k.at_ j t
  exact⟨r,e,u,q,(nP (Below.heap_setCell _ _ _ _ q)).trans ((f.cell (by show r<_;omega)).trans b)⟩
end
def PGb(w:World)(g:bP)(e:Ending)(a:World):Prop:=∃(G:aC) (gc:Nat),e= .returned (.agg #[ae aj g.f,ae aj g.t,ae aj g.lv,ae aj g.x,ae aj g.wd, .slice G g.gs.length gc])/\gv a w.heap.size G gc g.gs/\aA w a
def ti(b:Int)(gs:List aE)(a m:Nat)(c:Bool)(k:Nat):List gN:=(List.range k).map (aaa b gs a m c)
theorem vN(b:Int)(gs:List aE)(a m:Nat)(c:Bool)(k:Nat):(ti b gs a m c k).length=k:=by simp[ti]
theorem tI(b:Int)(gs:List aE)(a m:Nat)(c:Bool)(k:Nat):ti b gs a m c (k+1)=ti b gs a m c k++[aaa b gs a m c k]:=by simp[ti,List.range_succ]
theorem zr(gs:List aE)(a m:Nat)(b:Bool):(tg gs a m b).length=m:=by unfold tg;rw[Gu,EU]
abbrev me(A:aC)(n c:Nat)(i e v:Int):Array Value:= #[.slice A n c,ae aj i,ae aj e,ae aj v]
abbrev En.row(x:En):Array Value:= #[ae aj x.1,ae aj x.2.1, .bool x.2.2]
def uD(w:World)(N:Nat)(A:aC)(n c:Nat)(v:Int):Prop:=n<=N/\n<=c/\c<=9223372036854775807/\∃es,yM w w.heap.size A n es/\iu es v
def Mx(w:World)(N:Nat)(e:Ending)(w':World):Prop:=∃(A:aC) (n c:Nat) (i a v:Int),e= .returned (.agg (me A n c i a v))/\uD w' N A n c v/\aA w w'
section
variable {w w' : World} {N M n c B : Nat} {A : aC} {v : Int} {es : List En} {e : TypeId}
theorem uD.ar(h:uD w N A n c v)(a:aA w w'):uD w' N A n c v:=by
 obtain⟨f,g,b,es,i,d⟩:=h;exact⟨f,g,b,es,i.Z a a.size,d⟩
theorem uD.more(h:uD w N A n c v)(b:N<=M):uD w M A n c v:=by
 obtain⟨a,h⟩:=h;exact⟨aq,h⟩
theorem AQ(h:aB w B 210 3 A n c (es.flatMap JX))(f:es.length=n)(k:∀g:Nat,B<=g->w'.heap[g]? =w.heap[g]?):yM w' w'.heap.size A n es:=by
 refine TQ (B:=B) (c:=c) ⟨h.1, ?_⟩ f;rcases h.2 with j|⟨b,cap,cur,i,a,d,r⟩
 ·exact .inl j
 ·exact .inr ⟨b,cap,cur,i,a,(k b a).trans d,r⟩
end
theorem Av{w:World}{a f:Array Value}{b i:TypeId}(h:W=(w.alloc (.cells a b)).alloc (.cells f i)):aA w W/\Bx W w.heap.size a/\Bx W (w.heap.size+1) f:=by
 have g:(w.alloc (.cells a b)).heap.size=w.heap.size+1:=aD;have d:Below (w.alloc (.cells a b)).heap.size (w.alloc (.cells a b)) W:=JE;exact⟨(av _ _).trans (d.mono aq),(Bx.new _ _ _).ar d aq,by rw[h];exact Bx.jt _ _ _ g⟩
theorem lz(w:World)(cs:List Value)(t:TypeId):∀j u,cs[j]? =some u->(w.alloc (.cells cs.toArray t)).cell? ⟨w.heap.size,j,none⟩=some u:=fun j u h=>by
 rw[cell_of_row _ _ _ _ _ _ (heap_alloc_new w _)];simpa using h
theorem aB.aaj{w:World}{B n c:Nat}{e:TypeId}{A:aC}{vs:List Value}(h:aB w B e b A n c vs)(i:a<=B):aB w a e b A n c vs:=by
 refine⟨h.1, ?_⟩;rcases h.2 with f|⟨g,cap,cur,d,j,r⟩
 ·exact .inl f
 ·exact .inr ⟨g,cap,cur,d,aq,r⟩
theorem AN(w:World){g b:Nat}(d:b≠g)(o:Nat)(u:Value)(ds:Array Value){g2:Nat}(a:b≠g2):((w.setCell ⟨g,o,none⟩ u).setRow g2 ds).heap[b]? =w.heap[b]? :=(setRow_other _ _ _ _ a).trans (Below.heap_setCell w ⟨g,o,none⟩ u b d)
theorem Bx.q4{w:World}{d a f g:Value}(h:Bx w b #[d,a,f,g]):w.cell? ⟨b,0,none⟩=some d/\w.cell? ⟨b,1,none⟩=some a/\w.cell? ⟨b,2,none⟩=some f/\w.cell? ⟨b,3,none⟩=some g:=⟨h.cell 0,h.cell 1,h.cell 2,h.cell 3⟩
theorem Vr{w:World}{B:Nat}{l o:Int}{b:Bool}(d:w.heap[g]? =some (.cells #[ae aj l,ae aj o, .bool b] 210 (0,0)))(f:g<B):yM w B (some ⟨g,0,none⟩) 1 [(l,o,b)]:=⟨rfl,fun _=>⟨_,rfl,f,⟨_,_,d⟩,fun j e a=>by
 have h:Bx w g #[ae aj l,ae aj o, .bool b]:=⟨_,d⟩;obtain rfl:j=0:=by have:=(List.getElem?_eq_some_iff.1 a).1;simpa using this
 simp at a;subst a;exact⟨h.cell 0,h.cell 1,h.cell 2⟩⟩⟩
theorem Ry:aS prog 205 210 3 24:=bD underlying205 (z:= .agg #[ae aj 0,ae aj 0, .bool false]) aF rfl aq aq
theorem kM(z:Int)(w:World):Calls prog 89 #[ae aj z] w (PB w):=by
 go_enter func89,ntmps89;go_wp2_with fail
 all_goals
  go_ret;exact⟨_,rfl,Below.refl _ _⟩
theorem Ds(z:Int)(b:Bool)(w:World):Calls prog 226 #[ae aj z, .bool b] w (PI w):=by
 go_enter func226,ntmps226;go_wp2_with fail
 all_goals
  go_ret;exact⟨_,rfl,Below.refl _ _⟩
theorem Fl(b:Int)(w:World):Calls prog 152 #[ae aj b] w (Mx w 1):=by
 go_enter func152,ntmps152;go_wp2_with fail;have f:(w.alloc (.cells #[.slice (some ⟨w.heap.size+1,0,none⟩) 1 1,ae aj 0,ae aj 0,ae aj 0] 207)).heap.size=w.heap.size+1:=aD;have X:=heap_alloc_new (w.alloc (.cells #[.slice (some ⟨w.heap.size+1,0,none⟩) 1 1,ae aj 0,ae aj 0,ae aj 0] 207)) (.cells #[ae aj b,ae aj 0, .bool false] 210);rw[f]at X;have Y:=(Bx.new w #[.slice (some ⟨w.heap.size+1,0,none⟩) 1 1,ae aj 0,ae aj 0,ae aj 0] 207).ar (av _ (.cells #[ae aj b,ae aj 0, .bool false] 210)) aD;obtain⟨d,a⟩:=Y.heap;refine bodyPost_ret (results_cell_row results152 _ _ w.heap.size d _ (0,0) _ aK a underlying207 rfl aF) rfl ?_;exact⟨_,_,_,_,_,_,rfl,⟨aq,aq,aq,_,Vr X aD,zQ b⟩,(av _ _).alloc aD _⟩
theorem oI(A:aC)(n c:Nat)(i r v:Int)(es:List En)(w:World)(h:yM w w.heap.size A n es)(K:0<n)(P:n<=1000000):Calls prog 153 #[.agg (me A n c i r v)] w (fun e w'=>∃(l o:Int) (b:Bool),es[n-1]? =some (l,o,b)/\e= .returned (.agg #[ae aj l,ae aj o, .bool b])/\aA w w'):=by
 obtain⟨H,a⟩:=eX ((w.alloc (.cells #[.slice A n c,ae aj i,ae aj r,ae aj v] 207)).alloc (.cells #[ae aj 0,ae aj 0, .bool false] 210));have g:=Av a;have d:=sH g.1;have s:=sH g.2.1;have q:=sH g.2.2;obtain⟨c0,L,y,G⟩:=s.o.q4;obtain⟨k,rfl⟩:∃k,n=k+1:=⟨n-1,aq⟩;obtain⟨E,x,rfl,u,I,O,F⟩:=(h.Z d.o d.o.size).at (j:=k) aq;have z:=sH u;have J:wrap64 (k:Int)=(k:Int):=IntWalk.wrap64_in _ aq;have k0:=jB k;have D:(k:Int)<(k:Int)+1:=aq;obtain⟨m,C⟩:=q.o.heap;have t:=q.o.row (ds:=x.row);obtain⟨f,p⟩:=t.heap;go_enter func153,ntmps153;go_upto_region 1 with fail;rw[<-a];clear a;go_wp2_with (refine wpList_store_row rfl 210 (.tmp 2) (.tmp 10) rfl (w.heap.size+1) x.row rfl aK m _ C aF aK dK ?_);refine bodyPost_ret (results_cell_row results153 _ _ (w.heap.size+1) f _ (0,0) _ aK p underlying210 rfl aF) rfl ?_;exact⟨x.1,x.2.1,x.2.2,z.o,rfl,below_setRow d.o aq _⟩
theorem ND(A:aC)(n c:Nat)(i b v z:Int)(w:World):Calls prog 227 #[.agg (me A n c i b v),ae aj z] w (PB w):=by
 obtain⟨f,aP⟩:=eX (w.alloc (.cells #[.slice A n c,ae aj i,ae aj b,ae aj v] 207));have a:ak (aA w f):=⟨lY⟩;have h:ak (Bx f w.heap.size #[.slice A n c,ae aj i,ae aj b,ae aj v]):=⟨qR⟩;obtain⟨c0,j,g,l⟩:=h.o.q4;go_enter func227,ntmps227;go_upto_region 1 with fail;rw[<-aP];clear aP;by_cases k:z<=125
 ·by_cases d:(i==0)=true
  ·go_wp2
   go_ret;exact⟨_,rfl,a.o⟩
  ·have d:(i==0)=false:=by simpa using d
   go_wp2;go_ret;exact⟨_,rfl,a.o⟩
 ·go_wp2
  go_ret;exact⟨_,rfl,a.o⟩
theorem Wl(A:aC)(n c:Nat)(x:En)(es:List En)(w:World)(h:yM w w.heap.size A n es)(U:n<=1000000):Calls prog 228 #[.slice A n c, .agg x.row] w (fun e w'=>∃(E:aC) (F:Nat),e= .returned (.slice E (n+1) F)/\aB w' w.heap.size 210 3 E (n+1) F ((es++[x]).flatMap JX)/\aA w w'):=by
 obtain⟨i,f,k,s⟩:=box1 w x.row 210;have R:=sH h;have X:=h.1;go_enter func228,ntmps228;go_upto_region 1 with fail;rw[<-f];clear f;go_wp2;go_loopg [5,6] (n+1) (fun gg I H wr=>∃(j:Nat) (C:aC) (d:Nat),n-j<gg/\j<=n/\I= .slice C j d/\H=ae aj (j:Int)/\ak (aB wr i.heap.size 210 3 C j d ((es.take j).flatMap JX))/\ak (aA i wr))
 ·exact⟨0,none,0,aq,aq,rfl,rfl,⟨aB.nil _ _ _ _⟩,cB⟩
 obtain⟨j,C,d,V,T,rfl,rfl,z,a⟩:=hrel;have D:=k.t a.o;by_cases o:j<n
 ·have G:=aR j n
  obtain⟨P,y,rfl,L,W,S,Q⟩:=(R.o.Z D.o D.o.size).at o;have r:ak (es.take (j+1)=es.take j++[y]):=⟨by
   obtain⟨K,O⟩:=List.getElem?_eq_some_iff.1 L;rw[List.take_succ_eq_append_getElem K,O]⟩
  have l:=a.o.size;go_wp2_with (at_builtin;refine cz Ry rfl (.tmp 13) (.tmp 18) rfl rfl (aB.alloc z.o _) rfl (news:=JX y) rfl (lz _ (JX y) _) (fun u hu=>Xn) aq cA ?_;intro t c8 m b g;have p:=sH b;have q:ak (aA i m):=⟨(a.o.alloc aq _).trans g⟩;clear b g);go_roundg (n-j)
  ·exact⟨j+1,t,c8,aq,aq,rfl,aQ,⟨by rw[r.o,List.flatMap_append];simpa using p.o⟩,q⟩
  omega
 ·have G:=cF j n
  obtain rfl:j=n:=aq;obtain⟨c0,Y,J⟩:wr.cell? ⟨w.heap.size,0,none⟩=some (ae aj x.1)/\wr.cell? ⟨w.heap.size,1,none⟩=some (ae aj x.2.1)/\wr.cell? ⟨w.heap.size,2,none⟩=some (.bool x.2.2):=by
   have:=s.o.ar a.o s.o.lt;exact⟨this.cell 0,this.cell 1,this.cell 2⟩
  have l:=a.o.size;have r:ak (es.take j=es):=⟨List.take_of_length_le aq⟩;go_wp2_with (at_builtin;refine cz Ry rfl (.tmp 20) (.tmp 22) rfl rfl (aB.alloc z.o _) rfl (news:=JX x) rfl (lz _ (JX x) _) (fun u hu=>Xn) aq cA ?_;intro t c8 m b g;have p:=sH b;have q:ak (aA i m):=⟨(a.o.alloc aq _).trans g⟩;clear b g);go_ret;refine⟨_,_,rfl,aB.aaj ?_ k.o.size,k.o.trans (q.o.mono k.o.size)⟩;have:=p.o;rw[r.o]at this;simpa using this
end Go.Proofs.YtpidckelbgbbkaaGreatDoor
