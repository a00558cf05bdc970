/- Part of LineCovers. -/
import Derived.Test.YtklncadpkniojaaGreatDoorAF
import Derived.Test.YtklncadpkniojaaGreatDoorAn
import Derived.Deep.RegionHeld3
namespace Go.Proofs.YtklncadpkniojaaGreatDoor
open Go.ChangeShapes Go.WideShapes Go.ChangeAt Go.RowKit Go.Proofs.Tryz
open Go renaming World->ahh,Value->ahj,Calls->ahk,TypeId->ahm,Ending->ahn,Program->aho
open Go.RowKit renaming Below->ahi,wrap64->ahl
open Go.Value renaming int->ae
open Go.IntKind renaming i64->aj
set_option linter.all false
set_option maxRecDepth 100000
set_option maxHeartbeats 16000000
variable{a w:ahh}{B b c d g k m n:Nat}{e:ahm}{P:aC->Prop}{A C:aA}{cs:aC}{xs:List aC}{G:Prop}
theorem Tc(f:cY)(s:Int)(P u:aC->Prop)(lo F:Int)(E:∀p g x v y j q t k m a b c,P [p,g,x,v,y,j,q,t,k,m]->u [p,g,a,b,c,j,q,t,k,m])(A:aA)(n c:Nat)(w:ahh)(C:1<=f.em)(z:f.em<=16384)(X:kT w (iP P lo F) A n)(hn:n<=50000):
 ahk prog 125 #[f.v,ae aj s,.slice A n c] w (Sc w (iP u lo F) n):=by
 have⟨K,l,r,M⟩:=box1 w f.row 96;obtain⟨gs,⟨T,Y⟩,H⟩:=X;have GL:=sH (H.Z r.o r.o.size);have Q:=sH E;have HN:=sH H.1;have HS:=sH T;have HP:=sH Y;go_enter func125,ntmps125;go_wp2;rw[<-l];clear l;go_loopg[7,8,9](n+1)(fun gg v7 U _ wr=>∃(i:Nat) (B:aA) (D:Nat),n-i<gg/\i<=n/\v7=.slice B i D/\U=ae aj (i:Int)/\aq (fR wr K.heap.size (wL u (aL gs) i) B i D)/\aq (az K wr))
 .exact⟨0,none,0,ak,ak,rfl,rfl,⟨OL.nil _ _ _ _ (wL.nil _ _)⟩,cA⟩
 obtain⟨i,B,D,hg,F,rfl,rfl,J,d⟩:=hrel;by_cases aK:i<n;rotate_left
 .obtain rfl:i=n:=by omega
  go_wp2;go_ret;exact⟨_,_,rfl,(J.o.imp fun xs _ _ h=>h.full HS.o (by rw[dM,HN.o])).cJ r.o.size,r.o.trans (d.o.mono r.o.size)⟩
 obtain⟨ad,p,g,x,v,y,j,q,t,k,m,rfl,hQ,e0,e1,e2,e3,e4,e5,e6,e7,e8,e9⟩:=(GL.o.Z d.o d.o.size).bD aK;have QX:aq (P [p,g,x,v,y,j,q,t,k,m]):=⟨by rw[hQ];exact HP.o _ (tg (by rw[HN.o];exact aK))⟩;have N:aq (g=nth (aL gs) i/\i<(aL gs).length):=⟨abO⟩;have i4:=aU i n;have S:=d.o.size;have⟨c0,c1,Z,c3,c4,c5⟩:=(M.o.ar d.o M.o.lt).f6;have d0:=fun o=>aI c0 o
 go_wp2_with fail;refine(yw x s f.em _ C z).mono ?_;rintro e _ ⟨I,rfl,rfl⟩;go_wp2_with fail;refine(yw v s f.em _ C z).mono ?_;rintro e _ ⟨L,rfl,rfl⟩;go_wp2_with fail;refine(yw y s f.em _ C z).mono ?_;rintro e _ ⟨q4,rfl,rfl⟩;have V:=sH (Q.o _ _ _ _ _ _ _ _ _ _ I L q4 QX.o);go_wp2_with (at_builtin;refine bK (L':=wL u (aL gs) (i+1)) my rfl (.tmp 41) (.tmp 43) rfl rfl ((J.o.alloc _).alloc _) rfl [p,g,I,L,q4,j,q,t,k,m] rfl (cg _ _ _ _ _ aQ rfl) (fun xs _ _ h=>h.more N.o.2 N.o.1 V.o) ak cw ?_;intro A8 c8 w8 O G _ _;have R:=sH O;have W:=sH ((d.o.trans ((eE wr _ _).mono S)).trans G);clear O G);go_roundg(n-i)
 .exact⟨i+1,A8,c8,ak,ak,rfl,aT,R,W⟩
 omega
theorem Ow.head{k:IntKind}{P:Int->Prop}(h:Ow w B e k P A n c):A=none∨∃g,A=some ⟨g,0,none⟩:=by
 obtain⟨xs,a,b⟩:=h;exact aw.dK a
theorem Ow.kept{k:IntKind}{P:Int->Prop}(h:Ow w B e k P A n c)(f:w.grownBy a (Value.slice C m d).ownBlock)(i:bM A C)(j:C=none∨∃g,C=some ⟨g,0,none⟩):Ow a B e k P A n c:=by
 obtain⟨xs,b,l⟩:=h;exact⟨xs,aw.kept b f i j,l⟩
theorem mM{b:ahm}{q:IntKind}{Q:aC->Prop}{P:Int->Prop}(h:Oq w B e k Q A n c)(i:Ow w g b q P C m d)(a:e≠b):bM A C:=by
 obtain⟨gs,o,p,f⟩:=h;obtain⟨xs,j,l⟩:=i;exact bS f j a
theorem dI{P:aho}{ops:Array Oper}{rest:List Oper}{o:Oper}{a:Act}{K:Exit->Act->ahh->Prop}{t:ahm}{bytes:Nat}(T:aR P t e 1 bytes)(m:o.guard=none)(s x:Operand)
 (E:o.op=.call {callee:=.builtin .append,args:=#[s,x],argTypes:=#[t,t]}) {B:Nat} {k:IntKind} {p:Int->Prop} {A:aA} {n c:Nat} (r:a.eval s=.slice A n c) (i:Ow w B e k p A n c)
 {g:Nat} (C:a.eval x=.slice (some ⟨g,0,none⟩) 1 1) {y:Int} (v:w.cell? ⟨g,0,none⟩=some (.int k y)) (q:p y)
 (I:(n+1)*bytes<=140737488355328) (H:B<=w.heap.size)
 (h:∀l c' f,Ow f B e k p l (n+1) c'->ahi B w f->w.grownBy f (Value.slice A n c).ownBlock->wpList P ops K rest (a.put o.dst (.slice l (n+1) c')) f):wpList P ops K (o::rest) a w:=by
 obtain⟨xs,F,D⟩:=i;refine br T m s x E r F C (news:=[.int k y]) rfl (fun j u hu=> ?_) (fun u hu=>Ih) I H fun l c' f o b G J=>h l c' f ⟨xs++[y],by unfold Own;rw[List.map_append];exact o,fun z d=> ?_⟩ b G
 .match j with
  |0=>simp at hu;subst hu;exact v
  |j+1=>simp at hu
 .rw[List.mem_append]at d
  rcases d with d|d
  .exact D z d
  .simp at d;subst d;exact q
theorem OL.kept{L:List aC->Prop}(h:OL w B e k L A n c)(i:w.grownBy a (Value.slice C m d).ownBlock)(j:bM A C)(o:C=none∨∃g,C=some ⟨g,0,none⟩):OL a B e k L A n c:=by
 obtain⟨gs,b,p,f,l⟩:=h;exact⟨gs,b,p,f,aw.kept l i j o⟩
def Kr(P:aC->Prop)(cs:aC)(i:Nat)(xs:List aC):Prop:=(aL xs).Sublist (cs.take i)/\∀g∈xs,P g
theorem Kr.skip{i:Nat}(h:Kr P cs i xs):Kr P cs (i+1) xs:=⟨h.1.trans (List.take_prefix_take_left ak).sublist,h.2⟩
theorem Kr.more{i:Nat}(h:Kr P cs i xs){g:aC}(b:i<cs.length)(c:nth g 1=nth cs i)(d:P g):Kr P cs (i+1) (xs++[g]):=by
 refine⟨?_,fun x a=> ?_⟩
 .rw[fM,List.take_succ_eq_append_getElem b,<-cB b,<-c]
  exact h.1.append (List.Sublist.refl _)
 .rcases List.mem_append.1 a with a|a
  .exact h.2 x a
  .simp at a;subst a;exact d
theorem Kr.full{lo a:Int}(h:Kr P cs n xs)(b:CS lo a cs):iP P lo a xs:=⟨b.sub (h.1.trans (List.take_sublist _ _)),h.2⟩
def PKp(w:ahh)(Q:List aC->Prop)(n:Nat)(e:ahn)(a:ahh):Prop:=∃m,m<=n/\Sc w Q m e a
theorem abQ(s:G:=by
 exact⟨i+1,m+1,A9,c9,_,c8,ak,ak,ak,rfl,rfl,aT,O9,P9,B9⟩):G:=s
theorem aa6(P:aC->Prop)(lo hi:Int)(hQQ:∀L V Q M Y x5 T x7 E J a,-1<=a->a<=50000->P [L,V,Q,M,Y,x5,T,x7,E,J]->P [L,V,Q,M,Y,a,T,x7,E,J])(A:aA)(n c:Nat)(w:ahh)(hl:kT w (iP P lo hi) A n)(hn:n<=50000):
 ahk prog 126 #[.slice A n c] w (PKp w (iP P lo hi) n):=by
 obtain⟨gs,⟨hS,hP⟩,hx⟩:=hl;have GL:=sH hx;have QQ:=sH hQQ;have HN:=sH hx.1;have HS:=sH hS;have HP:=sH hP;have g:120≠3:=cr;go_enter func126,ntmps126;go_wp2;go_loopg[3,4,5,6](n+1)(fun gg v3 v4 v5 _ wr=>∃(i m:Nat) (G:aA) (I:Nat) (A3:aA) (c3:Nat),n-i<gg/\i<=n/\m<=i/\v3=.slice G m I/\v4=.slice A3 i c3/\v5=ae aj (i:Int)/\aq (fR wr w.heap.size (Kr P (aL gs) i) G m I)/\aq (Ow wr w.heap.size 3 .i64 (fun z=> -1<=z/\z<=50000) A3 i c3)/\aq (az w wr))
 .exact⟨0,0,none,0,none,0,ak,ak,ak,rfl,rfl,rfl,⟨OL.nil _ _ _ _ ⟨by simp[aL],aQ⟩⟩,⟨Ow.nil _ _ _ _ _⟩,cA⟩
 obtain⟨i,m,G,I,A3,c3,hg,hi,hm,rfl,rfl,rfl,d,O3,R⟩:=hrel;by_cases aK:i<n;rotate_left
 .obtain rfl:i=n:=by omega
  go_wp2;go_ret;exact⟨m,hm,_,_,rfl,d.o.imp fun xs _ _ h=>h.full HS.o,R.o⟩
 obtain⟨ad,L,V,Q,M,Y,x5,T,x7,E,J,rfl,hQ,e0,e1,e2,e3,e4,e5,e6,e7,e8,e9⟩:=(GL.o.Z R.o R.o.size).bD aK;have i4:=aU i n;go_wp2_with fail;refine(Zt L V Q M Y x5 T x7 E J wr).mono ?_;rintro e w2 ⟨b,rfl,b2⟩;have B2:=R.t b2;have F:=sH (d.o.ar b2);have u:=sH (O3.o.ar b2);have y:=B2.o.size;cases b;rotate_left
 .go_wp2_with (at_builtin;refine dI lO rfl (.tmp 18) (.tmp 19) rfl rfl (u.o.alloc _) rfl (bh _ _ _) ⟨ak,ak⟩ ak cw ?_;intro A8 c8 t C x D;have k:=sH C;have q:=sH ((B2.o.alloc y _).trans x);have d:=sH ((F.o.alloc _).kept D (mM F.o.o u.o g) u.o.head);clear C x D)
  go_roundg(n-i)
  .exact⟨i+1,m,G,I,A8,c8,ak,ak,ak,rfl,rfl,aT,⟨d.o.imp fun xs _ _ h=>h.skip⟩,k,q⟩
  omega
 go_upto_region 9 with(at_builtin;refine dI lO rfl (.tmp 21) (.tmp 24) rfl rfl (u.o.alloc _) rfl (bh _ _ _) ⟨ak,ak⟩ ak cw ?_;intro A8 c8 t C x D;have k:=sH C;have q:=sH ((B2.o.alloc y _).trans x);have d:=sH ((F.o.alloc _).kept D (mM F.o.o u.o g) u.o.head);clear C x D)
 obtain⟨ad4,S,B,W,Z,N,f,X,H,y8,O,e4',hQ,e0,e1,e2,e3,e4,e5,e6,e7,e8,e9⟩:=(GL.o.Z q.o q.o.size).bD aK;obtain rfl:ad=ad4:=by injection e4'
 have QY:aq (P [S,B,W,Z,N,f,X,H,y8,O]):=⟨by rw[hQ];exact HP.o _ (tg (by rw[HN.o];exact aK))⟩;have v:aq (B=nth (aL gs) i/\i<(aL gs).length):=⟨abO⟩;have s:=q.o.size;by_cases hT:0<=f/\f<i
 .obtain⟨j,rfl⟩:∃j:Nat,f=(j:Int):=⟨f.toNat,ak⟩
  have me:j<i:=ak;have j1:=aU j i;have j2:(j:Int)<(i:Int)+1:=ak;obtain⟨l,rfl,_⟩:=k.o.form ak;obtain⟨z,⟨gJ,eQ⟩,ez⟩:=k.o.get (show j<i+1 by omega);have ez:=fun o=>aI ez o
  have K:=sH (QQ.o _ _ _ _ _ _ _ _ _ _ z gJ eQ QY.o);go_wp2_with (at_builtin;refine bK (L':=Kr P (aL gs) (i+1)) my rfl (.tmp 45) (.tmp 47) rfl rfl (d.o.ar (eE _ _ _)) rfl [S,B,W,Z,N,z,X,H,y8,O] rfl (cg _ _ _ _ _ aQ rfl) (fun xs _ _ h=>h.more v.o.2 v.o.1 K.o) ak cw ?_;intro A9 c9 w9 r p l _;have O9:=sH r;have B9:=sH ((q.o.trans ((eE t _ _).mono s)).trans p);have P9:=sH ((k.o.ar (eE t _ _)).kept l (mM d.o.o k.o g).symm d.o.head);clear r p l);go_roundg(n-i)
  .exact abQ
  omega
 .have U:decide (0<=f)=false∨(decide (0<=f)=true/\decide (f<(i:Int))=false):=by
   rcases Int.lt_or_le f 0 with h|h
   .left;simp;omega
   .right;simp;omega
  have K:=sH QY.o;rcases U with U|⟨U,JG⟩
  .clear hT
   go_wp2_with (at_builtin;refine bK (L':=Kr P (aL gs) (i+1)) my rfl (.tmp 45) (.tmp 47) rfl rfl (d.o.ar (eE _ _ _)) rfl [S,B,W,Z,N,f,X,H,y8,O] rfl (cg _ _ _ _ _ aQ rfl) (fun xs _ _ h=>h.more v.o.2 v.o.1 K.o) ak cw ?_;intro A9 c9 w9 r p l _;have O9:=sH r;have B9:=sH ((q.o.trans ((eE t _ _).mono s)).trans p);have P9:=sH ((k.o.ar (eE t _ _)).kept l (mM d.o.o k.o g).symm d.o.head);clear r p l);go_roundg(n-i)
   .exact abQ
   omega
  .obtain⟨j,rfl⟩:∃j:Nat,f=(j:Int):=⟨f.toNat,by simp at U;omega⟩
   have hd3:decide (j<i)=false:=by simp at JG⊢;omega
   go_wp2_with (at_builtin;refine bK (L':=Kr P (aL gs) (i+1)) my rfl (.tmp 45) (.tmp 47) rfl rfl (d.o.ar (eE _ _ _)) rfl [S,B,W,Z,N,(j:Int),X,H,y8,O] rfl (cg _ _ _ _ _ aQ rfl) (fun xs _ _ h=>h.more v.o.2 v.o.1 K.o) ak cw ?_;intro A9 c9 w9 r p l _;have O9:=sH r;have B9:=sH ((q.o.trans ((eE t _ _).mono s)).trans p);have P9:=sH ((k.o.ar (eE t _ _)).kept l (mM d.o.o k.o g).symm d.o.head);clear r p l);go_roundg(n-i)
   .exact abQ
   omega
def PSd(w:ahh)(B:Nat)(Q:List aC->Prop)(A:aA)(n c:Nat)(e:ahn)(a:ahh):Prop:=e=.returned (.slice A n c)/\fR a B Q A n c/\ahi B w a
theorem Cm.at_{ps:List (Nat×Nat)}(h:Cm w B ps (some ⟨g,0,none⟩) n c)(d:ps.length=n)(e:k<n):w.cell? ⟨g,k*2,none⟩=some (ae aj ((gB ps k).1:Int))/\w.cell? ⟨g,k*2+1,none⟩=some (ae aj ((gB ps k).2:Int)):=by
 obtain⟨a,b⟩:=jX ps k ak;exact⟨(aw.cellAt h (k*2) ak).trans a,(aw.cellAt h (k*2+1) ak).trans b⟩
theorem iP.afg{lo b:Int}{gs:List aC}{v:Int}(h:iP P lo b gs)(c:k<gs.length)(d:P (gs[k].set 2 v)):iP P lo b (gs.set k (gs[k].set 2 v)):=⟨by show CS _ _ _;rw[qA gs c (by omega)];exact h.1,fun g a=>by
 rcases List.mem_or_eq_of_mem_set a with a|rfl
 .exact h.2 g a
 .exact d⟩
theorem NL(P:aC->Prop)(lo up:Int)(E:∀x:aC,x.length=10->P x->∀v,P (x.set 2 v))(A:aA)(n c:Nat)(s:Int)(B:Nat)(w:ahh)(hB:B<=w.heap.size)(r:fR w B (iP P lo up) A n c)(hn:n<=50000):
 ahk prog 124 #[.slice A n c,ae aj s] w (PSd w B (iP P lo up) A n c):=by
 obtain⟨gs,_,R⟩:=r.rl ak;have H:=xC (aL gs) n;have F:(dO (aL gs) n).length<=n:=QW;have GC:=sH (NF gs A n c w R ak);have O:=sH H;have N:=sH r;have Q:=sH E;generalize dO (aL gs) n=ps at*;go_enter func124,ntmps124;go_wp2_with fail;refine GC.o.mono ?_;rintro e w1 ⟨Z,K,rfl,hc,G⟩;have L:=sH hc;have G1:=sH (N.o.ar G);have B1:=sH (G.mono hB);have⟨m,z⟩:=eY ps.length;rw[z]at L O F;rw[z];have Y:=sH z;have kU:=G.size;go_wp2;go_loopg[6,7](m+1)(fun gg v6 _ wr=>∃(i:Nat),m-i<gg/\i<=m/\v6=ae aj (i:Int)/\aq (fR wr B (iP P lo up) A n c)/\aq (Cm wr w.heap.size ps Z m K)/\aq (ahi B w wr))
 .exact⟨0,ak,ak,rfl,G1,L,B1⟩
 obtain⟨i,hg,hi,rfl,d,j,t⟩:=hrel;by_cases l:i<m;rotate_left
 .obtain rfl:i=m:=by omega
  go_wp2;go_ret;exact⟨rfl,d.o,t.o⟩
 have i4:=aU i m;obtain⟨gc,rfl,M,J⟩:=aw.form j.o ak;obtain⟨k1,k2⟩:=Cm.at_ j.o Y.o l;obtain⟨r1,r2,_⟩:=O.o i l;generalize(gB ps i).1=a at*;generalize(gB ps i).2=b at*;obtain⟨g,rfl,y,dw⟩:=d.o.form ak;have⟨wo,f⟩:=eX wr;rw[<-f]at d j t k1 k2;rw[<-f];clear f;go_wp2;go_loopg[7](b+1)(fun gg v7 wr=>∃(q:Nat),q<gg/\a<=q/\q<=b/\v7=ae aj ((q:Int)-1)/\wr=wo)
 .exact⟨b,ak,ak,ak,aT,rfl⟩
 obtain⟨q,JV,Ry,U,rfl,rfl⟩:=hrel;by_cases haq:a<q;rotate_left
 .have V:decide ((a:Int)<=(q:Int)-1)=false:=gW
  have T:¬((a:Int)<=(q:Int)-1):=ak;go_wp2;go_roundg(m-i)
  .exact⟨i+1,ak,ak,aT,d,j,t⟩
  omega
 obtain⟨k,rfl⟩:∃k,q=k+1:=⟨q-1,ak⟩;have C:(((k+1:Nat):Int)-1)=(k:Int):=ak;rw[C];have V:(a:Int)<=(k:Int):=ak;have T:=aU k n;have o:k<n:=ak;obtain⟨y0,y1,y2,y3,y4,D,y6,y7,y8,y9,_,e0,e1,e2,e3,e4,e5,e6,e7,e8,e9⟩:=d.o.o.bD o;by_cases I:D= -1
 .have u:(D != -1)=false:=by simp[I]
  have f2:=d.o.fz (k*10+2);have S:aq (∀v,fR (wr.setCell ⟨g,k*10+2,none⟩ (ae aj v)) B (iP P lo up) (some ⟨g,0,none⟩) n c):=⟨fun v=>d.o.set o ak v fun xs hn r h=>h.afg ak (Q.o _ (r _ (List.getElem_mem _)) (h.2 _ (List.getElem_mem _)) v)⟩;have X:aq (∀v,Cm (wr.setCell ⟨g,k*10+2,none⟩ (ae aj v)) w.heap.size ps (some ⟨gc,0,none⟩) m K):=⟨fun v=>aw.mu j.o (aw.oB j.o N.o.lt.2) _⟩;have W:aq (∀v,ahi B w (wr.setCell ⟨g,k*10+2,none⟩ (ae aj v))):=⟨fun v=>Below.setCell t.o (p:=⟨g,k*10+2,none⟩) y _⟩;go_wp2;generalize ahl _=v;go_roundg(m-i)
  .exact⟨i+1,ak,ak,aT,⟨S.o v⟩,⟨X.o v⟩,⟨W.o v⟩⟩
  omega
 .have u:(D != -1)=true:=by simp[I]
  go_wp2;go_roundg(k+1)
  .exact⟨k,ak,ak,ak,rfl,rfl⟩
  omega
theorem Lj(r:Int)(w:ahh):ahk prog 55 #[.int .i32 r] w (PBe w):=by
 have h:(0<=r/\r<55296)∨(r<0/\¬57343<r)∨(55296<=r/\0<=r/\¬57343<r)∨(57343<r/\0<=r/\55296<=r):=ak;rcases h with⟨a,b⟩|⟨a,b⟩|⟨a,b,c⟩|⟨a,b,c⟩
 all_goals
  go_enter func55,ntmps55;go_wp2;go_ret;exact⟨_,rfl,rfl⟩
theorem Ud(A:aA)(n c:Nat)(w:ahh)(h:Iw w w.heap.size .i32 (Wf .i32) A n)(k:n<=1000000000):ahk prog 20 #[.slice A n c] w (PBe w):=by
 have R:=sH h;go_enter func20,ntmps20;go_wp2;go_loopg[3](n+1)(fun gg v3 wr=>∃(i:Nat),n-i<gg/\i<=n/\v3=ae aj (i:Int)/\wr=w)
 .exact⟨0,ak,ak,rfl,rfl⟩
 obtain⟨i,j,l,rfl,rfl⟩:=hrel;by_cases a:i<n;rotate_left
 .have d:=cv i n
  go_wp2;go_ret;exact⟨_,rfl,rfl⟩
 have d:=aU i n;obtain⟨g,z,rfl,_,f⟩:=R.o.get a;go_wp2_with fail;refine(Lj z _).mono ?_;rintro e _ ⟨b,rfl,rfl⟩;cases b
 .go_wp2
  go_ret;exact⟨_,rfl,rfl⟩
 .go_wp2
  go_roundg(n-i)
  .exact⟨i+1,ak,ak,aT,rfl⟩
  omega
structure jA where
 T:aA
 tn:Nat
 tc:Nat
 S:aA
 sn:Nat
 sc:Nat
 B:aA
 bn:Nat
 bc:Nat
 dir:Int
 wd:Int
 al:Int
 md:Int
 hy:Bool
abbrev jA.row(x:jA):Array ahj:=#[.slice x.T x.tn x.tc,.slice x.S x.sn x.sc,.slice x.B x.bn x.bc,ae aj x.dir,ae aj x.wd,ae aj x.al,ae aj x.md,.bool x.hy]
abbrev jA.v(x:jA):ahj:=.agg x.row
abbrev cN.row(x:cN):Array ahj:=#[.slice x.F x.fn x.fc,.slice x.Y x.yn x.yc,.slice x.P x.pn x.pc,ae aj x.ev,ae aj x.ld]
structure lh(w:ahh)(x:jA)(ts:aC):Prop where
 rT:aM .i32 w x.T x.tn x.tc ts
 rS:cK w w.heap.size tz x.S x.sn x.sc
 rB:cK w w.heap.size Tt x.B x.bn x.bc
theorem lh.ar{b:ahh}{x:jA}{ts:aC}(h:lh w x ts)(a:az w b):lh b x ts:=⟨h.rT.ar a,h.rS.Z a a.size,h.rB.Z a a.size⟩
structure Rn where
 f:Int
 t:Int
 lv:Int
 sp:Int
 fo:Int
 st:Int
abbrev Rn.row(x:Rn):Array ahj:=#[ae aj x.f,ae aj x.t,ae aj x.lv,ae aj x.sp,ae aj x.fo,ae aj x.st]
theorem Bx.c8{x:jA}(h:Bx w b x.row):w.cell? ⟨b,0,none⟩=some (.slice x.T x.tn x.tc)/\w.cell? ⟨b,1,none⟩=some (.slice x.S x.sn x.sc)/\w.cell? ⟨b,2,none⟩=some (.slice x.B x.bn x.bc)/\w.cell? ⟨b,3,none⟩=some (ae aj x.dir)/\w.cell? ⟨b,4,none⟩=some (ae aj x.wd)/\w.cell? ⟨b,5,none⟩=some (ae aj x.al)/\w.cell? ⟨b,6,none⟩=some (ae aj x.md)/\w.cell? ⟨b,7,none⟩=some (.bool x.hy):=⟨h.cell 0,h.cell 1,h.cell 2,h.cell 3,h.cell 4,h.cell 5,h.cell 6,h.cell 7⟩
theorem Bx.c5{x:cN}(h:Bx w b x.row):w.cell? ⟨b,0,none⟩=some (.slice x.F x.fn x.fc)/\w.cell? ⟨b,1,none⟩=some (.slice x.Y x.yn x.yc)/\w.cell? ⟨b,2,none⟩=some (.slice x.P x.pn x.pc)/\w.cell? ⟨b,3,none⟩=some (ae aj x.ev)/\w.cell? ⟨b,4,none⟩=some (ae aj x.ld):=⟨h.cell 0,h.cell 1,h.cell 2,h.cell 3,h.cell 4⟩
theorem Bx.c6{x:Rn}(h:Bx w b x.row):w.cell? ⟨b,0,none⟩=some (ae aj x.f)/\w.cell? ⟨b,1,none⟩=some (ae aj x.t)/\w.cell? ⟨b,2,none⟩=some (ae aj x.lv)/\w.cell? ⟨b,3,none⟩=some (ae aj x.sp)/\w.cell? ⟨b,4,none⟩=some (ae aj x.fo)/\w.cell? ⟨b,5,none⟩=some (ae aj x.st):=⟨h.cell 0,h.cell 1,h.cell 2,h.cell 3,h.cell 4,h.cell 5⟩
def PWr(w:ahh)(s:cN)(r:Rn)(e:ahn)(a:ahh):Prop:=∃z:Int,e=.returned (ae aj z)/\(z=0->(0<=r.fo/\r.fo<s.fn)/\0<=r.st/\r.st<s.yn)/\az w a
theorem Rb(s:G:=by
 go_wp2
 go_ret;exact⟨_,rfl,aQ,B1.o⟩):G:=s
theorem abJ(s:G:=by
 go_wp2
 go_ret;exact⟨_,rfl,fun _=>HH.o,B1.o⟩):G:=s
theorem Ww(s:cN)(p:jA)(ts:aC)(B:aA)(E:Nat)(r:Rn)(a b:Nat)(w:ahh)(h:gL w w.heap.size s)(z:lh w p ts)(m:a<=b)(W:b<=p.tn)(N:p.tn<=100000):
 ahk prog 117 #[s.v,p.v,.slice B p.tn E,.agg r.row,ae aj (a:Int),ae aj (b:Int)] w (PWr w s r):=by
 have⟨M,c⟩:=eX (((w.alloc (.cells s.row 26)).alloc (.cells p.row 31)).alloc (.cells r.row 62));obtain⟨i,j,g,f,_⟩:=qC c;have B1:=sH i;have P:=sH j;have U:=sH g;have J:=sH f;have TI:=sH ((z.ar i).rT.iw);have u:=h.rF.bd;have C:=h.rY.bd;have⟨c0,I,A,Z,c4⟩:=j.c5;have⟨S,H,X,V,T,K,R,L⟩:=g.c8;have⟨x,D,k,o,y,l⟩:=f.c6;obtain⟨f0,f1,f2,f3,f4,f5⟩:=r;dsimp only at x D k o y l;go_enter func117,ntmps117;go_wp2_with fail;rw[<-c];clear c;go_wp2_with fail;refine(Ud _ _ _ _ TI.o ak).mono ?_;rintro e _ ⟨n,rfl,rfl⟩;have d:¬((b:Int)<(a:Int)):=ak;have t:¬((p.tn:Int)<(b:Int)):=ak;have v:¬((a:Int)<0):=ak;have q:decide ((a:Int)<0)=false:=aQ;cases n
 .exact Rb
 by_cases Y:f4<0
 .exact Rb
 by_cases g2:(s.fn:Int)<=f4
 .exact Rb
 by_cases F:f5<0
 .exact Rb
 by_cases O:(s.yn:Int)<=f5
 .exact Rb
 have HH:aq ((0<=f4/\f4<s.fn)/\0<=f5/\f5<s.yn):=⟨ak⟩;by_cases Q:(a:Int)<f0
 .exact abJ
 by_cases G:f1<(b:Int)
 .exact abJ
 .exact abJ
def laT(d:Option Tmp):Option (ahj->Prop):=if d=some 41 then some SB else if d=some 49 then some SI else none
theorem abf(f:cY)(P:aA)(a U:Nat)(ts:aC)(O:aA)(fc:Nat)(lv:Int)(s:Nat)(w:ahh)(h:bZ w w.heap.size f)(ht:aM .i32 w P a U ts)(hf:Iw w w.heap.size .i64 aH O a)(hn:a<=5000)(hfr:s<=100000):
 ahk prog 120 #[f.v,.slice P a U,.slice O a fc,ae aj lv,ae aj (s:Int)] w (Sc w (bk s (s+a)) a):=by
 have⟨Y,n,d,Z⟩:=box1 w f.row 96;have R:=sH (h.Z d.o d.o.size);have TS:=sH (ht.ar d.o);have F:=sH (hf.Z d.o d.o.size);go_enter func120,ntmps120;go_wp2;rw[<-n];clear n;go_loopg[11,12](a+1)(fun gg J Q wr=>∃(i:Nat) (x:aA) (A:Nat),a-i<gg/\i<=a/\J=.slice x i A/\Q=ae aj (i:Int)/\aq (Ow wr Y.heap.size 3 .i64 aH x i A)/\aq (az Y wr))
 .exact⟨0,none,0,ak,ak,rfl,rfl,⟨Ow.nil _ _ _ _ _⟩,cA⟩
 obtain⟨i,x,A,hg,hi,rfl,rfl,X,c⟩:=hrel;have W:=c.o.size;by_cases k:i<a
 .have i4:=aU i a
  go_wp2_with (at_builtin;refine bO lO rfl (.tmp 22) (.tmp 24) rfl rfl (X.o.alloc _) rfl (bh _ _ _) trivial ak cw ?_;intro A8 c8 w8 o8 V;have O8:=sH o8;have B8:=sH ((c.o.alloc W _).trans V);clear o8 V);go_roundg(a-i)
  .exact⟨i+1,A8,c8,ak,ak,rfl,aT,O8,B8⟩
  omega
 have i4:=cv i a;go_wp2_with fail;refine(SF P a U ts x i A wr (TS.o.ar c.o) (X.o.imp fun _ _=>trivial).iw ak ak).mono ?_;rintro e o ⟨A3,c3,rfl,o3,b3⟩;have u:=sH (c.o.trans (b3.mono W));obtain⟨cs,T⟩:=o3.sl;have CS:=sH T;go_wp2_with fail;refine(Vg O a fc o (F.o.Z u.o u.o.size) ak).mono ?_;rintro e w3 ⟨A4,c4,rfl,o4,b4⟩;have B4:=sH b4;have O4:=sH o4;have N:=u.o.size;go_wp2;go_loopg[15](a+1)(fun gg S wr=>∃(i:Nat),a-i<gg/\i<=a/\S=ae aj (i:Int)/\aq (Ow wr o.heap.size 3 .i64 aH A4 a c4)/\aq (az o wr))
 .exact⟨0,ak,ak,rfl,O4,B4⟩
 obtain⟨i,hg,hi,rfl,D,c⟩:=hrel;have m:=sH (u.o.trans (c.o.mono N));have t:=c.o.size;have⟨c0,c1,M,G,H,c5⟩:=(Z.o.ar m.o Z.o.lt).f6;by_cases k:i<a;rotate_left
 .obtain rfl:i=a:=by omega
  obtain⟨ms,E,_⟩:=D.o.iw;have NW:=sH (acz f A3 i c3 cs s A4 i c4 ms wr (R.o.Z m.o m.o.size) (CS.o.ar c.o) E ak ak ak);go_wp2_with fail;refine NW.o.mono ?_;rintro e w5 ⟨A6,c6,rfl,o6,b6⟩;have O6:=sH o6;have B6:=sH b6;go_wp2;go_ret;exact⟨_,_,rfl,O6.o.cJ (by have:=d.o.size;omega),(d.o.trans (m.o.mono d.o.size)).trans (B6.o.mono (by have:=d.o.size;omega))⟩
 have i4:=aU i a;obtain⟨Ut,z,rfl,hz,e0⟩:=(CS.o.ar c.o).iw.get k;obtain⟨B,rfl,_,_⟩:=D.o.form ak;obtain⟨L,K⟩:=vg hz;have⟨L0,L1,L2,L3,L4,L5,M0⟩:=lc7 c0 c1 M G H c5 e0;have RW:=sH (R.o.Z m.o m.o.size);go_wp2;refine aD laT aF aF ?_;refine mSk ?_;refine lsA SB (fun g=> ?_) (fun v9 j=> ?_)
 .go_simp
  exact bg ((uE z L K g.1).mono fun e w' ⟨h1,h2⟩=>⟨_,h1,h2⟩)
 obtain⟨b,rfl⟩:=j;cases b;rotate_left
 .simp[Act.put]
  refine mSk ?_;intro g;obtain⟨I,r⟩:=g;have C:=sH (c.o.trans (r.mono t));have l:=sH (D.o.ar r)
  try dsimp only
  go_wp2;go_roundg(a-i)
  .exact⟨i+1,ak,ak,aT,l,C⟩
  omega
 simp[Act.put];refine mSk ?_;refine lsA SI (fun g=> ?_) (fun v9 j=> ?_)
 .go_simp
  exact ed (sO f z g.1 (RW.o.Z g.2 g.2.size))
 obtain⟨q,rfl⟩:=j;simp[Act.put];refine mSk ?_;intro g;obtain⟨I,r⟩:=g;have C:=sH (c.o.trans (r.mono t));have l:=sH (D.o.ar r)
 try dsimp only
 obtain⟨y,_,ey⟩:=l.o.get k;have fy:=l.o.fz i;have OS:aq (∀v,Ow (I.setCell ⟨B,i,none⟩ (ae aj v)) o.heap.size 3 .i64 aH (some ⟨B,0,none⟩) a c4):=⟨fun v=>l.o.set i trivial⟩;have BS:aq (∀v,az o (I.setCell ⟨B,i,none⟩ (ae aj v))):=⟨fun v=>Below.setCell C.o (p:=⟨B,i,none⟩) l.o.lt.1 _⟩;go_wp2_with fail
 .generalize ahl _=v
  go_roundg(a-i)
  .exact⟨i+1,ak,ak,aT,⟨OS.o v⟩,⟨BS.o v⟩⟩
  omega
 .go_roundg(a-i)
  case measure=>omega
  case rel=>exact⟨i+1,ak,ak,aT,l,C⟩
def Cr(w:ahh)(a:Addr)(j:Nat)(x:cY):Prop:=w.cell? (a.add (j*6))=some (ae aj x.em)/\w.cell? (bP (a.add (j*6)) 1)=some (.slice x.G x.gn x.gc)/\w.cell? (bP (a.add (j*6)) 2)=some (.slice x.M x.mn x.mc)/\w.cell? (bP (a.add (j*6)) 3)=some (.slice x.L x.ln x.lc)/\w.cell? (bP (a.add (j*6)) 4)=some (.slice x.F x.fn x.fc)/\w.cell? (bP (a.add (j*6)) 5)=some (.slice x.S x.sn x.sc)
def FOk(w:ahh)(B:Nat)(x:cY):Prop:=(1<=x.em/\x.em<=16384)/\R' w B x/\KO w B x
def Sh(w:ahh)(B:Nat)(s:cN):Prop:=∀j,j<s.fn->∀a,s.F=some a->a.block<B/\∀x,Cr w a j x->FOk w B x
theorem Sh.Z{c:ahh}{e:Nat}{s:cN}(h:Sh w B s)(d:ahi B w c)(i:B<=e):Sh c e s:=fun j r b u=>by
 obtain⟨l,t⟩:=h j r b u;refine⟨ak,fun x ⟨c0,k,g,f,c4,c5⟩=> ?_⟩;have key:∀p:Addr,p.block=b.block->c.cell? p=w.cell? p:=fun p n=>d.cell (by rw[n];exact l)
 have a:(b.add (j*6)).block=b.block:=aO _ _;rw[key _ a]at c0;rw[key _ (by exact a)]at k g f c4 c5;obtain⟨m,q,o⟩:=t x ⟨c0,k,g,f,c4,c5⟩;exact⟨m,q.Z d i,o.Z d i⟩
abbrev Ur:=Int×Int×Int×Int
abbrev Ur.row(y:Ur):Array ahj:=#[ae aj y.1,ae aj y.2.1,ae aj y.2.2.1,ae aj y.2.2.2]
def PPt(w:ahh)(a b:Nat)(e:ahn)(d:ahh):Prop:=∃(A:aA) (n c:Nat) (z:Int),e=.returned (.tuple #[.slice A n c,ae aj z])/\n<=c/\n<=20000/\fR d w.heap.size (iP qX a b) A n c/\az w d
abbrev Zn:Array ahj:=#[ae aj 0,.slice none 0 0,.slice none 0 0,.slice none 0 0,.slice none 0 0,.slice none 0 0]
abbrev abh:Array ahj:=#[ae aj 0,ae aj 0,ae aj 0,ae aj 0]
theorem Uj:(prog.info? 96).map (·.size)=some 6:=by kernel_rfl
theorem Ui:(prog.info? 180).map (·.size)=some 4:=by kernel_rfl
theorem Bx.c4{y:Ur}(h:Bx w b y.row):w.cell? ⟨b,0,none⟩=some (ae aj y.1)/\w.cell? ⟨b,1,none⟩=some (ae aj y.2.1)/\w.cell? ⟨b,2,none⟩=some (ae aj y.2.2.1)/\w.cell? ⟨b,3,none⟩=some (ae aj y.2.2.2):=⟨h.cell 0,h.cell 1,h.cell 2,h.cell 3⟩
structure I4(N:Nat)(Is Yw:Addr)(s:cN)(f:cY)(y:Ur)(j q:Nat)(w2:ahh)(L:Nat->Bool)(kf nE vI wQ vM wG wE wm wX uW wO vP vR wW:ahj)(W:ahh):Prop where
 be:az w2 W
 f0:L 0=true->vI=.pointer (some ⟨N,0,none⟩)
 f1:L 1=true->wQ=.slice (some Is) s.fn s.fc
 f2:L 2=true->vM=.pointer (some ⟨N+1+1,4,none⟩)
 f3:L 3=true->wG=ae aj (j:Int)
 f4:L 4=true->wE=.pointer (some (Is.add (j*6)))
 f5:L 5=true->wm=f.v
 f6:L 6=true->wX=.pointer (some ⟨N,1,none⟩)
 f7:L 7=true->uW=.slice (some Yw) s.yn s.yc
 f8:L 8=true->wO=.pointer (some ⟨N+1+1,5,none⟩)
 f9:L 9=true->vP=ae aj (q:Int)
 f10:L 10=true->vR=.pointer (some (Yw.add (q*4)))
 f11:L 11=true->wW=.agg y.row
 f12:L 12=true->∃g,kf=.pointer (some ⟨g,0,none⟩)/\w2.heap.size<=g/\Bx W g (if L 14 then f.row else Zn)
 f13:L 13=true->∃g,nE=.pointer (some ⟨g,0,none⟩)/\w2.heap.size<=g/\Bx W g (if L 15 then y.row else abh)
 f14:L 14=true->L 12=true
 f15:L 15=true->L 13=true
theorem Bx.Yk{cs ds:Array ahj}(h:Bx w b cs)(k:Bx w b ds):cs.size=ds.size:=by
 obtain⟨t,h⟩:=h;obtain⟨u,k⟩:=k;rw[h]at k;injection k with k
 injection k with k
 rw[k]
theorem Ms(b:Bool)(f:cY):(if b then f.row else Zn).size=6:=by cases b<;>rfl
theorem N9(b:Bool)(y:Ur):(if b then y.row else abh).size=4:=by cases b<;>rfl
theorem Bx.yW{cs:Array ahj}(h:Bx w b cs)(a:b≠g)(ds:Array ahj):Bx (w.setRow g ds) b cs:=by
 obtain⟨t,h⟩:=h;exact⟨t,(setRow_other _ _ _ _ a).trans h⟩
theorem aaz(s:cN)(p:jA)(ts:aC)(FA:aA)(fc:Nat)(r:Rn)(a b:Nat)(w:ahh)(h:gL w w.heap.size s)(hp:lh w p ts)(hf:Iw w w.heap.size .i64 aH FA p.tn)(hc:Sh w w.heap.size s)(hfc:p.tn<=fc)(jB:a<=b)(hb:b<=p.tn)(hn:p.tn<=5000):
 ahk prog 53 #[s.v,p.v,.slice FA p.tn fc,.agg r.row,ae aj (a:Int),ae aj (b:Int)] w (PPt w a b):=by
 have⟨W1,aP⟩:=eX (((w.alloc (.cells s.row 26)).alloc (.cells p.row 31)).alloc (.cells r.row 62));obtain⟨b1,x1,x2,x3,kU⟩:=qC aP;have B1:=sH b1;have X1:=sH x1;have X2:=sH x2;have X3:=sH x3;have RS:=sH (h.Z b1 b1.size);have RP:=sH (hp.ar b1);have RF:=sH (hf.Z b1 b1.size);have RC:=sH (hc.Z b1 b1.size);have RO:=h.rF.bd;have Hw:=h.rY.bd;have⟨c0,V,M,c3,c4⟩:=x1.c5;have⟨d0,d1,d2,d3,d4,d5,d6,d7⟩:=x2.c8;have⟨e0,e1,e2,e3,e4,e5⟩:=x3.c6;have WC:=sH (Ww s p ts FA fc r a b W1 RS.o RP.o jB hb ak);clear h hp hf hc b1 x1 x2 x3;go_enter func53,ntmps53;go_wp2_with fail;rw[<-aP];clear aP;go_wp2_with fail;refine WC.o.mono ?_;rintro e w2 ⟨z,rfl,hz,b2⟩;have HZ:=sH hz;have Q:=sH b2;clear hz b2 WC c0 V M c3 c4 d0 d1 d2 d3 d4 d5 d6 d7 e0 e1 e2 e3 e4 e5;by_cases ur:z=0;rotate_left
 .have gJ:(z !=0)=true:=by simp[ur]
  clear ur;go_wp2;go_ret2;exact⟨none,0,0,z,rfl,ak,ak,OL.nil _ _ _ _ ⟨CS.nil _ _,aQ⟩,B1.o.trans (Q.o.mono B1.o.size)⟩
 subst ur;obtain⟨⟨g1,g2⟩,g3,g4⟩:=HZ.o rfl;clear HZ;obtain⟨f0,f1,f2,f3,f4,f5⟩:=r;dsimp only at g1 g2 g3 g4;obtain⟨j,rfl⟩:∃j:Nat,f4=(j:Int):=⟨f4.toNat,ak⟩;obtain⟨q,rfl⟩:∃q:Nat,f5=(q:Int):=⟨f5.toNat,ak⟩;have hj:j<s.fn:=ak;have hq:q<s.yn:=ak;have ij:=Q.o.size;have⟨c0,V,M,c3,c4⟩:=(X1.o.ar Q.o X1.o.lt).c5;have⟨e0,e1,e2,e3,e4,e5⟩:=(X3.o.ar Q.o X3.o.lt).c6;obtain⟨U,f,eF,hf,h0,h1,h2,h3,h4,h5⟩:=qI (RS.o.Z Q.o Q.o.size).rF hj;obtain⟨Y,y0,y1,y2,y3,eY,k0,k1,k2,k3⟩:=zV (RS.o.Z Q.o Q.o.size).rY hq;obtain⟨_,fo⟩:=(RC.o.Z Q.o Q.o.size) j hj U eF;obtain⟨⟨afh,agy⟩,qh,hls⟩:=fo f ⟨h0,h1,h2,h3,h4,h5⟩;rw[eF]at c0;rw[eY]at V;have HF:=sH hf;have HT:=sH qh;have HL:=sH hls;clear M c3 c4 e0 e1 e2 e3 fo hf qh hls eF eY RS RC;go_wp2;refine jO aF aF (fun L a' W=>∃G F u A k l E y C m t B D n:ahj,I4 w.heap.size U Y s f (y0,y1,y2,y3) j q w2 L G F u A k l E y C m t B D n W/\a'=⟨#[s.v,p.v,.slice FA p.tn fc,.agg (Rn.row ⟨f0,f1,f2,f3,(j:Int),(q:Int)⟩),ae aj (a:Int),ae aj (b:Int),.pointer (some ⟨w.heap.size,0,none⟩),.pointer (some ⟨w.heap.size+1,0,none⟩),undef,.pointer (some ⟨w.heap.size+1+1,0,none⟩),undef,undef,.slice none 0 0,ae aj 0,ae aj 0,G,F,undef,undef,undef,undef,.agg #[.slice s.F s.fn s.fc,.slice s.Y s.yn s.yc,.slice s.P s.pn s.pc,ae aj s.ev,ae aj s.ld],.agg #[.slice p.T p.tn p.tc,.slice p.S p.sn p.sc,.slice p.B p.bn p.bc,ae aj p.dir,ae aj p.wd,ae aj p.al,ae aj p.md,.bool p.hy],.slice FA p.tn fc,.agg #[ae aj f0,ae aj f1,ae aj f2,ae aj f3,ae aj (j:Int),ae aj (q:Int)],ae aj (a:Int),ae aj (b:Int),ae aj 0,ae aj 0,.bool false,undef,u,A,k,l,E,y,C,m,t,B,D,n,undef,undef,undef,undef,undef,undef,undef,undef,undef,undef,undef,undef,undef,undef,undef,undef,undef,undef,undef,undef,undef,undef,undef,undef,undef,undef,undef,undef,undef,undef,undef,undef,undef,undef,undef,undef,undef,undef,undef,undef,undef,undef,undef,undef,undef,undef,undef,undef,undef,undef,undef,undef,undef,undef,undef,undef,undef,undef,undef],[]⟩) ?_ ?_ ?_
 .exact⟨undef,undef,undef,undef,undef,undef,undef,undef,undef,undef,undef,undef,undef,undef,{be:=aN (Below.refl _ _) 1,f0:=fun h=>fA,f1:=fun h=>fA,f2:=fun h=>fA,f3:=fun h=>fA,f4:=fun h=>fA,f5:=fun h=>fA,f6:=fun h=>fA,f7:=fun h=>fA,f8:=fun h=>fA,f9:=fun h=>fA,f10:=fun h=>fA,f11:=fun h=>fA,f12:=fun h=>fA,f13:=fun h=>fA,f14:=fun h=>fA,f15:=fun h=>fA},rfl⟩
 .rintro i o L a' W ho jJ d ⟨G,F,u,A,k,l,E,y,C,m,t,B,D,n,c,rfl⟩
  have hi:i<16:=by
   have:=(Array.getElem?_eq_some_iff.1 ho).1;simpa using this
  have Ba:i=0∨i=1∨i=2∨i=3∨i=4∨i=5∨i=6∨i=7∨i=8∨i=9∨i=10∨i=11∨i=12∨i=13∨i=14∨i=15:=ak;rcases Ba with rfl|rfl|rfl|rfl|rfl|rfl|rfl|rfl|rfl|rfl|rfl|rfl|rfl|rfl|rfl|rfl
  all_goals(injection ho with ho;subst ho)
  all_goals(simp[Region.binds]at d)
  .refine wpOp_step rfl (fun K hK=> ?_)
   go_simp;exact hK _ _ ⟨G,F,(.pointer (some ⟨w.heap.size,0,none⟩)),A,k,l,E,y,C,m,t,B,D,n,{c with f0:=fun _=>rfl},rfl⟩
  .obtain rfl:=c.f0 d
   have c0:=au c0 c.be;refine wpOp_step rfl (fun K hK=> ?_);go_simp;exact hK _ _ ⟨G,F,(.pointer (some ⟨w.heap.size,0,none⟩)),(.slice (some U) s.fn s.fc),k,l,E,y,C,m,t,B,D,n,{c with f1:=fun _=>rfl},rfl⟩
  .refine wpOp_step rfl (fun K hK=> ?_)
   go_simp;exact hK _ _ ⟨G,F,u,A,(.pointer (some ⟨w.heap.size+1+1,4,none⟩)),l,E,y,C,m,t,B,D,n,{c with f2:=fun _=>rfl},rfl⟩
  .obtain rfl:=c.f2 d
   have e4:=au e4 c.be;refine wpOp_step rfl (fun K hK=> ?_);go_simp;exact hK _ _ ⟨G,F,u,A,(.pointer (some ⟨w.heap.size+1+1,4,none⟩)),(ae aj (j:Int)),E,y,C,m,t,B,D,n,{c with f3:=fun _=>rfl},rfl⟩
  .obtain rfl:=c.f1 d.1
   obtain rfl:=c.f3 d.2;refine wpOp_step rfl (fun K hK=> ?_);go_simp;exact hK _ _ ⟨G,F,u,(.slice (some U) s.fn s.fc),k,(ae aj (j:Int)),(.pointer (some (U.add (j*6)))),y,C,m,t,B,D,n,{c with f4:=fun _=>rfl},rfl⟩
  .obtain rfl:=c.f4 d
   have h0:=au h0 c.be;have h1:=au h1 c.be;have h2:=au h2 c.be;have h3:=au h3 c.be;have h4:=au h4 c.be;have h5:=au h5 c.be;refine wpOp_step rfl (fun K hK=> ?_);go_simp;exact hK _ _ ⟨G,F,u,A,k,l,(.pointer (some (U.add (j*6)))),f.v,C,m,t,B,D,n,{c with f5:=fun _=>rfl},rfl⟩
  .refine wpOp_step rfl (fun K hK=> ?_)
   go_simp;exact hK _ _ ⟨G,F,u,A,k,l,E,y,(.pointer (some ⟨w.heap.size,1,none⟩)),m,t,B,D,n,{c with f6:=fun _=>rfl},rfl⟩
  .obtain rfl:=c.f6 d
   have V:=au V c.be;refine wpOp_step rfl (fun K hK=> ?_);go_simp;exact hK _ _ ⟨G,F,u,A,k,l,E,y,(.pointer (some ⟨w.heap.size,1,none⟩)),(.slice (some Y) s.yn s.yc),t,B,D,n,{c with f7:=fun _=>rfl},rfl⟩
  .refine wpOp_step rfl (fun K hK=> ?_)
   go_simp;exact hK _ _ ⟨G,F,u,A,k,l,E,y,C,m,(.pointer (some ⟨w.heap.size+1+1,5,none⟩)),B,D,n,{c with f8:=fun _=>rfl},rfl⟩
  .obtain rfl:=c.f8 d
   have e5:=au e5 c.be;refine wpOp_step rfl (fun K hK=> ?_);go_simp;exact hK _ _ ⟨G,F,u,A,k,l,E,y,C,m,(.pointer (some ⟨w.heap.size+1+1,5,none⟩)),(ae aj (q:Int)),D,n,{c with f9:=fun _=>rfl},rfl⟩
  .obtain rfl:=c.f7 d.1
   obtain rfl:=c.f9 d.2;refine wpOp_step rfl (fun K hK=> ?_);go_simp;exact hK _ _ ⟨G,F,u,A,k,l,E,y,C,(.slice (some Y) s.yn s.yc),t,(ae aj (q:Int)),(.pointer (some (Y.add (q*4)))),n,{c with f10:=fun _=>rfl},rfl⟩
  .obtain rfl:=c.f10 d
   have k0:=au k0 c.be;have k1:=au k1 c.be;have k2:=au k2 c.be;have k3:=au k3 c.be;refine wpOp_step rfl (fun K hK=> ?_);go_simp;exact hK _ _ ⟨G,F,u,A,k,l,E,y,C,m,t,B,(.pointer (some (Y.add (q*4)))),(.agg (Ur.row (y0,y1,y2,y3))),{c with f11:=fun _=>rfl},rfl⟩
  .refine wpOp_step rfl (fun K hK=> ?_)
   go_simp;have l14:L 14=false:=by cases h:L 14 with|false=>rfl|true=>(have:=c.f14 h;rw[jJ]at this;cases this)
   have bn:=av W (.cells Zn 96);exact hK _ _ ⟨.pointer (some ⟨W.heap.size,0,none⟩),F,u,A,k,l,E,y,C,m,t,B,D,n,{c with be:=c.be.trans (bn.mono c.be.size),f12:=fun _=>⟨_,rfl,c.be.size,by show Bx _ _ (if L 14 then _ else _);rw[l14];exact Bx.new _ _ _⟩,f13:=fun h=>(by obtain⟨g,h1,h2,h3⟩:=c.f13 h;exact⟨g,h1,h2,h3.ar bn h3.lt⟩),f14:=fun _=>rfl},rfl⟩
  .refine wpOp_step rfl (fun K hK=> ?_)
   go_simp;have l15:L 15=false:=by cases h:L 15 with|false=>rfl|true=>(have:=c.f15 h;rw[jJ]at this;cases this)
   have bn:=av W (.cells abh 180);exact hK _ _ ⟨G,.pointer (some ⟨W.heap.size,0,none⟩),u,A,k,l,E,y,C,m,t,B,D,n,{c with be:=c.be.trans (bn.mono c.be.size),f13:=fun _=>⟨_,rfl,c.be.size,by show Bx _ _ (if L 15 then _ else _);rw[l15];exact Bx.new _ _ _⟩,f12:=fun h=>(by obtain⟨g,h1,h2,h3⟩:=c.f12 h;exact⟨g,h1,h2,h3.ar bn h3.lt⟩),f15:=fun _=>rfl},rfl⟩
  .have hp5:=c.f5 d.2.1
   subst hp5;obtain⟨I,rfl,Z,J⟩:=c.f12 d.1;obtain⟨n2,rfl,X,H⟩:=c.f13 d.2.2.2.2.2.2.2.2.2;have dY:n2≠I:=fun e=>by subst e;have:=J.Yk H;rw[Ms,N9]at this;omega
   obtain⟨ty,hg⟩:=J;have hr:=setRow_heap _ _ _ f.row _ _ hg;refine wpOp_step rfl (fun K hK=> ?_);refine wp_store_row 96 (.tmp 15) (.tmp 36) rfl I f.row rfl rfl ty _ hg Uj (by rw[Ms];rfl) dJ ?_;exact hK _ _ ⟨_,_,u,A,k,l,E,f.v,C,m,t,B,D,n,{c with be:=below_setRow c.be Z _,f12:=fun _=>⟨I,rfl,Z,⟨ty,hr⟩⟩,f13:=fun _=>⟨n2,rfl,X,H.yW dY _⟩,f14:=fun _=>d.1},rfl⟩
  .have hp5:=c.f11 d.2.1
   subst hp5;obtain⟨I,rfl,Z,J⟩:=c.f12 d.2.2.2.2.2.2.2.2.2.2.2.2.2.2.2.1;obtain⟨n2,rfl,X,H⟩:=c.f13 d.1;have dY:I≠n2:=fun e=>by subst e;have:=J.Yk H;rw[Ms,N9]at this;omega
   obtain⟨ty,hg⟩:=H;have hr:=setRow_heap _ _ _ (Ur.row (y0,y1,y2,y3)) _ _ hg;refine wpOp_step rfl (fun K hK=> ?_);refine wp_store_row 180 (.tmp 16) (.tmp 42) rfl n2 (Ur.row (y0,y1,y2,y3)) rfl rfl ty _ hg Ui (by rw[N9];rfl) dJ ?_;exact hK _ _ ⟨_,_,u,A,k,l,E,y,C,m,t,B,D,(.agg (Ur.row (y0,y1,y2,y3))),{c with be:=below_setRow c.be X _,f13:=fun _=>⟨n2,rfl,X,⟨ty,hr⟩⟩,f12:=fun _=>⟨I,rfl,Z,J.yW dY _⟩,f15:=fun _=>d.1},rfl⟩
 rintro L a' W P ⟨G,F,u,A,k,l,E,y,C,m,t,B,D,n,c,rfl⟩;have l12:=P 12 aQ;have l13:=P 13 aQ;have l14:=P 14 aQ;have l15:=P 15 aQ;clear P;obtain⟨I,rfl,Z,J⟩:=c.f12 l12;obtain⟨n2,rfl,X,H⟩:=c.f13 l13;rw[if_pos l14]at J;rw[if_pos l15]at H;have be:=c.be;have B5:aq (az w W):=⟨B1.o.trans ((Q.o.trans (be.mono ij)).mono B1.o.size)⟩;have Y1:=sH J;have Y2:=sH H;have Y3:=sH ((X2.o.ar Q.o X2.o.lt).ar be (by have:=X2.o.lt;omega));have Y4:=sH ((X3.o.ar Q.o X3.o.lt).ar be (by have:=X3.o.lt;omega));have RF5:=sH (HF.o.Z be be.size);have RT5:=sH (HT.o.Z be be.size);have RL5:=sH (HL.o.Z be be.size);have RP5:=sH ((RP.o.ar Q.o).ar be);have RG5:=sH ((RF.o.Z Q.o ij).Z be be.size);have rZ:=be.size;clear c l12 l13 l14 l15 J H be c0 V e4 e5 h0 h1 h2 h3 h4 h5 k0 k1 k2 k3 X1 X2 X3 B1 Q HF HT HL RP RF;dsimp only;have⟨c0,V,M,c3,c4,c5⟩:=Y1.o.f6;have⟨e0,e1,e2,e3,e4,e5⟩:=Y4.o.c6;have⟨k0,k1,k2,k3⟩:=Y2.o.c4;dsimp only at e0 e1 e2 e3 e4 e5 k0 k1 k2 k3;have OC:=sH (agc f f3 y3 W RF5.o RT5.o);go_wp2_with fail;refine OC.o.mono ?_;rintro e w6 ⟨A1,m1,d1,A2,m2,d2,rfl,Hx,Rs,o1,o2,_,b6⟩;have bx:az W (w6.alloc (.cells (cV A1 m1 d1 A2 m2 d2) 197)):=b6.alloc b6.size _;have Z5:aq (Bx (w6.alloc (.cells (cV A1 m1 d1 A2 m2 d2) 197)) w6.heap.size (cV A1 m1 d1 A2 m2 d2)):=⟨Bx.new _ _ _⟩;have S1:=sH ((o1.alloc (.cells (cV A1 m1 d1 A2 m2 d2) 197)).rq ak);have S2:=sH ((o2.alloc (.cells (cV A1 m1 d1 A2 m2 d2) 197)).rq ak);generalize Js:w6.alloc (.cells (cV A1 m1 d1 A2 m2 d2) 197)=w7 at*;have B7:=B5.t bx;have Z1:=sH (Y1.o.ar bx Y1.o.lt);have Z2:=sH (Y2.o.ar bx Y2.o.lt);have Z3:=sH (Y3.o.ar bx Y3.o.lt);have Z4:=sH (Y4.o.ar bx Y4.o.lt);have RF7:=sH (RF5.o.Z bx bx.size);have RL7:=sH (RL5.o.Z bx bx.size);have RP7:=sH (RP5.o.ar bx);have RG7:=sH (RG5.o.Z bx bx.size);have HW7:=sH Js;clear o1 o2 b6 bx c0 V M c3 c4 c5 e0 e1 e2 e3 e4 e5 k0 k1 k2 k3 OC Y1 Y2 Y3 Y4 RF5 RT5 RL5 RP5 RG5 Js;go_wp2_with fail;rw[HW7.o];clear HW7;obtain⟨AT,ct,CT⟩:=jj Ko p.T p.tn p.tc a b jB hb RP7.o.rT.le (a:Int) (b:Int) rfl rfl;obtain⟨AF,cf,CF⟩:=jj lO FA p.tn fc a b jB hb hfc (a:Int) (b:Int) rfl rfl;have rt:=CT.run;have rf:=CF.run;have TT:=sH (CT.fT RP7.o.rT);have TF:aq (Iw w7 w7.heap.size .i64 aH AF (b-a)):=⟨by obtain⟨xs,h1,h2⟩:=RG7.o;exact⟨_,CF.at_ h1,fun _ _=>trivial⟩⟩;clear CT CF;have ecl:(a:Int)+((b-a:Nat):Int)=(b:Int):=ak;have LD:aq (∀W',az w7 W'->ahk prog 120 #[f.v,.slice AT (b-a) ct,.slice AF (b-a) cf,ae aj f2,ae aj (a:Int)] W' (Sc W' (bk a b) (b-a))):=⟨fun W' hb=>by
  have h:=abf f AT (b-a) ct _ AF cf f2 a W' (RF7.o.Z hb hb.size) (TT.o.ar hb) (TF.o.Z hb hb.size) ak ak;rwa [ecl]at h⟩
 clear ecl;have CF7:=sH (And.intro Z1.o.f6 (And.intro (Z5.o.cell 0) (And.intro (Z3.o.cell 0) (Z4.o.cell 2))));go_region_held3 (fun N=>(N.cell? ⟨I,0,none⟩=some (ae aj f.em)/\N.cell? ⟨I,1,none⟩=some (.slice f.G f.gn f.gc)/\N.cell? ⟨I,2,none⟩=some (.slice f.M f.mn f.mc)/\N.cell? ⟨I,3,none⟩=some (.slice f.L f.ln f.lc)/\N.cell? ⟨I,4,none⟩=some (.slice f.F f.fn f.fc)/\N.cell? ⟨I,5,none⟩=some (.slice f.S f.sn f.sc))/\N.cell? ⟨w6.heap.size,0,none⟩=some (.slice A1 m1 d1)/\N.cell? ⟨w.heap.size+1,0,none⟩=some (.slice p.T p.tn p.tc)/\N.cell? ⟨w.heap.size+1+1,2,none⟩=some (ae aj f2))
  (first|exact CF9.o|exact CF8.o|exact CF7.o)
  (first
   |(go_at_call 120;refine(LD.o _ (aN (Below.refl _ _) 1)).mono ?_;rintro e w8 ⟨A8,c8,rfl,o8,b8⟩;have GL8:=sH (o8.rl ak);have hc8:=o8.le;have O:aq (az w7 w8):=⟨(aN (Below.refl _ _) 1).trans b8⟩;have CF8:=sH (And.intro (Z1.o.ar O.o Z1.o.lt).f6 (And.intro ((Z5.o.ar O.o Z5.o.lt).cell 0) (And.intro ((Z3.o.ar O.o Z3.o.lt).cell 0) ((Z4.o.ar O.o Z4.o.lt).cell 2))));clear o8 b8 LD)
   |(go_at_call 119;refine(acr f (a:Int) (b:Int) A1 m1 d1 A8 (b-a) c8 _ (RF7.o.Z O.o O.o.size) (RL7.o.Z O.o O.o.size) GL8.o ak ak (S1.o.Z O.o O.o.size) ak).mono ?_;rintro e w9 ⟨A9,m9,c9,rfl,g9,hc9,hm9,b9⟩;have GL9:=sH g9;have S:=O.t b9;have CF9:=sH (And.intro (Z1.o.ar S.o Z1.o.lt).f6 (And.intro ((Z5.o.ar S.o Z5.o.lt).cell 0) (And.intro ((Z3.o.ar S.o Z3.o.lt).cell 0) ((Z4.o.ar S.o Z4.o.lt).cell 2))));clear g9 b9))
 have hs9:=S.o.size;have BT:=B7.t S.o;have V1:=sH (Z1.o.ar S.o Z1.o.lt);have V2:=sH (Z2.o.ar S.o Z2.o.lt);have V5:=sH (Z5.o.ar S.o Z5.o.lt);have RF9:=sH (RF7.o.Z S.o S.o.size);have S9:=sH (S2.o.Z S.o S.o.size);clear CF7 CF8 CF9 S O B7 Z1 Z2 Z3 Z4 Z5 RF7 RL7 RP7 RG7 TT TF S1 S2 GL8 rt rf;go_wp2_with (at_builtin;refine cd (L':=bk a b) my rfl (.tmp 67) (.tmp 68) rfl rfl (OL.nil (L:=fun xs=>xs=[]) w9 w9.heap.size _ _ rfl) rfl GL9.o (fun xs ys _ _ _ _ h1 h2=>Kj) ak bW ?_;intro A0 k0 w0 o0 b0;have O0:=sH o0;have B0:aq (az w9 w0):=⟨b0⟩;clear o0 b0);rw[Nat.zero_add]at*;go_loopg[20](m9+1)(fun gg v20 wr=>∃(i:Nat),m9-i<gg/\i<=m9/\v20=ae aj (i:Int)/\aq (fR wr w9.heap.size (bk a b) A0 m9 k0)/\aq (az w9 wr))
 .exact⟨0,ak,ak,rfl,O0,B0⟩
 clear O0 B0;obtain⟨i,hg,hi,rfl,OE,BE⟩:=hrel;have hsr:=BE.o.size;have⟨c0,V,M,c3,c4,c5⟩:=(V1.o.ar BE.o V1.o.lt).f6;have RR:=sH (RF9.o.Z BE.o BE.o.size);by_cases aK:i<m9
 .have i4:=aU i m9
  obtain⟨g,rfl,dW,dw⟩:=OE.o.form ak;obtain⟨x0,x1,x2,x3,x4,x5,x6,x7,x8,x9,_,e0,_⟩:=OE.o.o.bD aK;have⟨L0,L1,L2,L3,L4,L5,LE⟩:=lc7 c0 V M c3 c4 c5 e0;clear c0 V M c3 c4 c5 e0;go_wp2;refine aS (iZ 84 ZI) 11 rfl aF aF aF aF aF rfl ?_;refine mLw ?_;refine lwA ZI (fun nq=> ?_) (fun v9 aV=> ?_)
  .go_simp
   refine aX ZI ((ab5 f x0 nq.1 (RR.o.Z nq.2 nq.2.size)).mono ?_);rintro e w5 ⟨z,rfl,hb⟩;exact⟨_,rfl,⟨z,rfl⟩,hb⟩
  obtain⟨_,_,z,rfl⟩:=aV;simp[Act.put];refine mLw ?_;intro nq hE;have O4:=sH (OE.o.ar nq.2);have B4:aq (az w9 nq.1):=⟨BE.o.trans (nq.2.mono hsr)⟩;obtain⟨_,_,y2,_,_,_,_,_,_,_,_,_,_,e2,_⟩:=O4.o.o.bD aK;have f2':=O4.o.fz (i*10+2);have O6:aq (fR (nq.1.setCell ⟨g,i*10+2,none⟩ (ae aj z)) w9.heap.size (bk a b) (some ⟨g,0,none⟩) m9 k0):=⟨O4.o.iS aK ak ak z⟩;have B6:aq (az w9 (nq.1.setCell ⟨g,i*10+2,none⟩ (ae aj z))):=⟨Below.setCell B4.o (p:=⟨g,i*10+2,none⟩) O4.o.lt.1 _⟩;clear hE L0 L1 L2 L3 L4 L5 LE;go_simp;go_wp2;go_roundg(m9-i)
  .exact⟨i+1,ak,ak,aT,O6,B6⟩
  omega
 obtain rfl:i=m9:=ak;have p1:wr.cell? ⟨w6.heap.size,1,none⟩=some (.slice A2 m2 d2):=(V5.o.ar BE.o V5.o.lt).cell 1;have nA:i<=k0:=OE.o.le;go_wp2_with fail;refine(adq f (a:Int) (b:Int) A2 m2 d2 A0 i k0 wr RR.o (OE.o.rl ak) nA ak (S9.o.Z BE.o BE.o.size) ak).mono ?_;rintro e w3 ⟨A3,k3,rfl,hk3,g3,b3⟩;have G3:=sH g3;have B3:aq (az w9 w3):=⟨BE.o.trans (b3.mono hsr)⟩;clear g3 b3 c0 V M c3 c4 c5 p1 RR;go_wp2_with fail;refine(Pb (a:Int) (b:Int) A3 i k3 w3 G3.o ak).mono ?_;rintro e w4 ⟨A4,k4,rfl,o4,b4⟩;have G4:aq (kT w4 (iP qX a b) A4 i):=⟨o4.rl ak⟩;have B4:=B3.t b4;have U1:=sH (V1.o.ar B4.o V1.o.lt);have R:=sH (V2.o.ar B4.o V2.o.lt);have IC:=B4.o.size;clear o4 b4 V1 V2 V5;go_wp2;have CF7:=sH (And.intro U1.o.f6 (And.intro (R.o.cell 1) (R.o.cell 2)));go_region_held3 (fun N=>(N.cell? ⟨I,0,none⟩=some (ae aj f.em)/\N.cell? ⟨I,1,none⟩=some (.slice f.G f.gn f.gc)/\N.cell? ⟨I,2,none⟩=some (.slice f.M f.mn f.mc)/\N.cell? ⟨I,3,none⟩=some (.slice f.L f.ln f.lc)/\N.cell? ⟨I,4,none⟩=some (.slice f.F f.fn f.fc)/\N.cell? ⟨I,5,none⟩=some (.slice f.S f.sn f.sc))/\N.cell? ⟨n2,1,none⟩=some (ae aj y1)/\N.cell? ⟨n2,2,none⟩=some (ae aj y2))
  (first|exact aft.o|exact CF9.o|exact CF8.o|exact CF7.o)
  (first
   |(go_at_call 126;refine(aa6 qX a b (fun _ _ _ _ _ _ _ _ _ _ _ h1 h2 h=>⟨h1,h2⟩) A4 i k4 _ (G4.o.Z (aN (Below.refl _ _) 1) bW) ak).mono ?_;rintro e w5 ⟨m5,hm5,A5,c5,rfl,o5,b5⟩;have G5:=sH (o5.rl ak);have T:aq (az w4 w5):=⟨(aN (Below.refl _ _) 1).trans b5⟩;have CF8:=sH (And.intro (U1.o.ar T.o U1.o.lt).f6 (And.intro ((R.o.ar T.o R.o.lt).cell 1) ((R.o.ar T.o R.o.lt).cell 2)));clear o5 b5)
   |(go_at_call 125;refine(Tc f y1 qX qX a b (fun _ _ _ _ _ _ _ _ _ _ _ _ _ h=>h) A5 m5 c5 _ afh agy G5.o ak).mono ?_;rintro e w8 ⟨A8',KF,rfl,o8,b8⟩;have O8:=sH o8;have O:=T.t b8;have HB8:=sH b8.size;have CF9:=sH (And.intro (U1.o.ar O.o U1.o.lt).f6 (And.intro ((R.o.ar O.o R.o.lt).cell 1) ((R.o.ar O.o R.o.lt).cell 2)));clear o8 b8)
   |(go_at_call 124;refine(NL qX a b (fun x hx hq v=>by unfold qX nth at*;simpa[List.getElem?_set]using hq) A8' m5 KF y2 w5.heap.size _ HB8.o O8.o ak).mono ?_;rintro e w10 ⟨rfl,o10,b10⟩;have G10:=sH o10;have HB5:=T.o.size;have agd:=o10.le;have Ws:aq (az w4 w10):=⟨O.o.trans (b10.mono T.o.size)⟩;have aft:=sH (And.intro (U1.o.ar Ws.o U1.o.lt).f6 (And.intro ((R.o.ar Ws.o R.o.lt).cell 1) ((R.o.ar Ws.o R.o.lt).cell 2)));clear o10 b10))
 go_wp2;go_ret2;exact⟨A8',m5,KF,0,rfl,agd,ak,G10.o.cJ (by have:=BT.o.size;omega),BT.o.trans ((B4.o.trans (Ws.o.mono IC)).mono BT.o.size)⟩
theorem gf(n:Int)(w:ahh):ahk prog 183 #[ae aj n] w (PBe w):=by
 go_enter func183,ntmps183;go_wp2_with fail
 all_goals
  go_ret;exact⟨_,rfl,rfl⟩
def PWi(w:ahh)(n lo b:Int)(e:ahn)(a:ahh):Prop:=∃z:Bool,e=.returned (.bool z)/\(z=true->lo<=n/\n<=b)/\w=a
theorem cI(n lo a:Int)(w:ahh):ahk prog 235 #[ae aj n,ae aj lo,ae aj a] w (PWi w n lo a):=by
 go_enter func235,ntmps235;go_wp2_with fail
 all_goals
  go_ret;exact⟨_,rfl,gZ,rfl⟩
theorem gM(f:cY)(g:Int)(w:ahh)(h:bZ w w.heap.size f):ahk prog 237 #[f.v,ae aj g] w (PB w):=by
 have a:=h.rG.bd;go_enter func237,ntmps237;go_wp2_with fail
 all_goals
  go_ret;exact⟨_,rfl,av _ _⟩
theorem Pg(f:cY)(A:aA)(n c:Nat)(w:ahh)(h:bZ w w.heap.size f)(o:cK w w.heap.size dR A n c):ahk prog 277 #[f.v,.slice A n c] w (PB w):=by
 have⟨y,e,a,p⟩:=box1 w f.row 96;have R:=sH (h.Z a.o a.o.size);have RL:=sH (o.Z a.o a.o.size);have L:=o.bd;go_enter func277,ntmps277;go_wp2;rw[<-e];clear e;go_loopg[5](n+1)(fun gg s wr=>∃(i:Nat),n-i<gg/\i<=n/\s=ae aj (i:Int)/\aq (az y wr))
 .exact⟨0,ak,ak,rfl,cA⟩
 obtain⟨i,G,H,rfl,d⟩:=hrel;by_cases l:i<n;rotate_left
 .have x:=cv i n
  go_wp2;go_ret;exact⟨_,rfl,a.o.trans (d.o.mono a.o.size)⟩
 have x:=aU i n;have⟨c0,u,k,C,c4,c5⟩:=(p.o.ar d.o p.o.lt).f6;obtain⟨K,z,rfl,r⟩:=gT (RL.o.Z d.o d.o.size) l;have t:=sH (R.o.Z d.o d.o.size);have⟨L0,L1,F,N,D,J⟩:=lc6 c0 u k C c4 c5;have M:=aE r;go_wp2;refine aD (kF 17 SB) aF aF ?_
 repeat(refine cF aB aB aB ?_;intro v m;go_big_quiet_op;go_big_quiet_on)
 refine lsA SB (fun g=> ?_) (fun E j=> ?_)
 .go_simp
  exact bg (gM f z g.1 (t.o.Z g.2 g.2.size))
 obtain⟨b,rfl⟩:=j;simp[Act.put]
 repeat(refine cF aB aB aB ?_;intro v m;go_big_quiet_op;go_big_quiet_on)
 intro g;obtain⟨I,B⟩:=g;have q:=d.t B
 try dsimp only
 cases b
 .go_wp2
  go_ret;exact⟨_,rfl,a.o.trans (q.o.mono a.o.size)⟩
 .go_wp2
  go_roundg(n-i)
  .exact⟨i+1,ak,ak,aT,q⟩
  omega
theorem xV(A:aA)(n c:Nat)(w:ahh)(f:cK w w.heap.size dR A n c):ahk prog 236 #[.slice A n c] w (PB w):=by
 have RL:=sH f;have t:=f.bd;go_enter func236,ntmps236;go_wp2;go_loopg[3](n+1)(fun gg v3 wr=>∃(i:Nat),n-i<gg/\1<=i/\v3=ae aj (i:Int)/\aq (az w wr))
 .exact⟨1,ak,ak,rfl,cA⟩
 obtain⟨i,o,r,rfl,a⟩:=hrel;by_cases d:i<n;rotate_left
 .have m:=cv i n
  go_wp2;go_ret;exact⟨_,rfl,a.o⟩
 have m:=aU i n;obtain⟨s,z,rfl,h⟩:=gT (RL.o.Z a.o a.o.size) d;obtain⟨k,rfl⟩:∃k,i=k+1:=⟨i-1,ak⟩;obtain⟨l,y,e,u⟩:=gT (RL.o.Z a.o a.o.size) (show k<n by omega);injection e with e
 subst e;rw[add_succ]at h;have wk:IntKind.i64.wrap ((k:Int)+1-1)=(k:Int):=yC;have q:=ie k;have p:=aU k n;go_wp2;go_quiet (fail);generalize b:wr.drewN _=j;have g:aq (az w j):=⟨by rw[<-b];exact aN a.o _⟩;clear b;go_wp2_with fail
 .go_ret
  exact⟨_,rfl,g.o⟩
 .go_roundg(n-(k+1))
  case measure=>omega
  case rel=>exact⟨k+1+1,ak,ak,aT,g⟩
theorem pF(f:cY)(A:aA)(n c:Nat)(w:ahh)(h:bZ w w.heap.size f)(m:cK w w.heap.size dR A n c):ahk prog 238 #[f.v,.slice A n c] w (PB w):=by
 have⟨r,a,d,p⟩:=box1 w f.row 96;have R:=sH (h.Z d.o d.o.size);have RL:=sH (m.Z d.o d.o.size);have⟨c0,o,j,l,c4,c5⟩:=p.o.f6;have t:=m.bd;by_cases v:n<=4096;rotate_left
 .have k:¬(n:Int)<=4096:=by omega
  go_enter func238,ntmps238;go_wp2_with fail;rw[<-a];clear a;go_wp2;go_ret;exact⟨_,rfl,d.o⟩
 have k:(n:Int)<=4096:=ak;go_enter func238,ntmps238;go_wp2_with fail;rw[<-a];clear a;go_wp2_with fail;refine(xV A n c r RL.o).mono ?_;rintro e q ⟨b,rfl,g⟩;have i:=sH g;have c0:=au c0 g;have o:=au o g;have j:=au j g;have l:=au l g;have c4:=au c4 g;have c5:=au c5 g
 cases b
 .go_wp2
  go_ret;exact⟨_,rfl,d.o.trans (i.o.mono d.o.size)⟩
 .go_wp2_with fail
  refine(Pg f A n c q (R.o.Z i.o i.o.size) (RL.o.Z i.o i.o.size)).mono ?_;rintro e u ⟨b,rfl,s⟩;go_wp2;go_ret;exact⟨_,rfl,d.o.trans ((i.o.trans (s.mono i.o.size)).mono d.o.size)⟩
theorem PBe.pb{e:ahn}(h:PBe w e a):PB w e a:=by
 obtain⟨z,b,rfl⟩:=h;exact⟨z,b,Below.refl _ _⟩
theorem mW(f:cY)(A:aA)(n c:Nat)(lo:Int)(w:ahh)(h:bZ w w.heap.size f)(q:cK w w.heap.size (.arr dR) A n c):ahk prog 282 #[f.v,.slice A n c,ae aj lo] w (PB w):=by
 have⟨v,j,a,p⟩:=box1 w f.row 96;have R:=sH (h.Z a.o a.o.size);have RL:=sH (q.Z a.o a.o.size);have M:=q.bd;go_enter func282,ntmps282;go_wp2;rw[<-j];clear j;go_loopg[7](n+1)(fun gg v7 wr=>∃(i:Nat),n-i<gg/\i<=n/\v7=ae aj (i:Int)/\aq (az v wr))
 .exact⟨0,ak,ak,rfl,cA⟩
 obtain⟨i,P,Q,rfl,d⟩:=hrel;by_cases l:i<n;rotate_left
 .have F:=cv i n
  go_wp2_with fail;refine(cI _ _ _ _).mono ?_;rintro e _ ⟨z,rfl,_,rfl⟩;go_wp2;go_ret;exact⟨_,rfl,a.o.trans (d.o.mono a.o.size)⟩
 have F:=aU i n;have⟨c0,s,m,G,c4,c5⟩:=(p.o.ar d.o p.o.lt).f6;obtain⟨L,u,C,k2,rfl,t,B⟩:=fi (RL.o.Z d.o d.o.size) l;have D:=sH (R.o.Z d.o d.o.size);have y:=sH t;have⟨L0,L1,I,S,O,K⟩:=lc6 c0 s m G c4 c5;have N:=aE B;go_wp2;refine aD (kF 19 SB) aF aF ?_
 repeat(refine cF aB aB aB ?_;intro E o;go_big_quiet_op;go_big_quiet_on)
 refine lsA SB (fun g=> ?_) (fun H k=> ?_)
 .go_simp
  exact bg (pF f u C k2 g.1 (D.o.Z g.2 g.2.size) (y.o.Z g.2 g.2.size))
 obtain⟨b,rfl⟩:=k;simp[Act.put]
 repeat(refine cF aB aB aB ?_;intro E o;go_big_quiet_op;go_big_quiet_on)
 intro g;obtain⟨J,x⟩:=g;have r:=d.t x
 try dsimp only
 cases b
 .go_wp2
  go_ret;exact⟨_,rfl,a.o.trans (r.o.mono a.o.size)⟩
 .go_wp2
  go_roundg(n-i)
  .exact⟨i+1,ak,ak,aT,r⟩
  omega
def PGy(w:ahh)(f:cY)(e:ahn)(a:ahh):Prop:=∃z:Bool,e=.returned (.bool z)/\(z=true->1<=f.em/\f.em<=16384)/\az w a
theorem ae2(s:G:=by
 have i5:¬(k:Int)<(x.kn:Int):=by omega
 go_wp2;go_roundg(n-i)
 .exact⟨i+1,ak,ak,aT,B3⟩
 omega):G:=s
theorem Mr(f:cY)(w:ahh)(h:bZ w w.heap.size f):ahk prog 178 #[f.v] w (PGy w f):=by
 have⟨W,A,g,M⟩:=box1 w f.row 96;have R:=sH (h.Z g.o g.o.size);have hn:=h.rG.bd;have⟨n,o⟩:=eY f.gn;have O:=sH o;have⟨c0,t,r,S,c4,c5⟩:=M.o.f6;rw[o]at hn;clear h o;go_enter func178,ntmps178;go_wp2_with fail;rw[<-A];clear A;go_wp2_with fail;refine(cI _ _ _ _).mono ?_;rintro e _ ⟨z,rfl,c,rfl⟩;cases z
 .go_wp2
  go_ret;exact⟨_,rfl,aQ,g.o⟩
 have HE:=sH (c rfl);clear c;go_wp2_with fail;refine(cI _ _ _ _).mono ?_;rintro e _ ⟨z,rfl,_,rfl⟩;cases z
 .go_wp2
  go_ret;exact⟨_,rfl,aQ,g.o⟩
 rw[O.o]at t;go_wp2;go_loopg[3,4,5](n+1)(fun gg v3 _ _ wr=>∃(i:Nat),n-i<gg/\i<=n/\v3=ae aj (i:Int)/\aq (az W wr))
 .exact⟨0,ak,ak,rfl,cA⟩
 obtain⟨i,hg,hi,rfl,u⟩:=hrel;clear c0 t r S c4 c5;have⟨c0,t,r,S,c4,c5⟩:=(M.o.ar u.o M.o.lt).f6;rw[O.o]at t;have hs:=u.o.size;by_cases I:i<n;rotate_left
 .have i4:=cv i n
  go_wp2;go_ret;exact⟨_,rfl,fun _=>HE.o,g.o.trans (u.o.mono g.o.size)⟩
 have i4:=aU i n;obtain⟨adG,x,Y,H,X,e1,e2,e3⟩:=YP (R.o.Z u.o u.o.size).rG (by rw[O.o];exact I);rw[Y]at t;have U:=sH H.rK;have kQ:=H.rK.bd;clear Y H;have⟨j,bU⟩:=eX (wr.alloc (.cells #[ae aj x.adv,ae aj x.kind,ae aj x.att,.slice x.K x.kn x.kc] 259));have C:az wr j:=jx;have s:aq (Bx j wr.heap.size #[ae aj x.adv,ae aj x.kind,ae aj x.att,.slice x.K x.kn x.kc]):=⟨mf⟩;have V:=sH (u.o.trans (C.mono hs));have m:=sH (U.o.Z C C.size);have ij:=C.size;have G:wr.heap.size<j.heap.size:=s.o.lt;have d0:j.cell? ⟨wr.heap.size,0,none⟩=some (ae aj x.adv):=s.o.cell 0;have T:j.cell? ⟨wr.heap.size,1,none⟩=some (ae aj x.kind):=s.o.cell 1;have d2:j.cell? ⟨wr.heap.size,2,none⟩=some (ae aj x.att):=s.o.cell 2;have Q:j.cell? ⟨wr.heap.size,3,none⟩=some (.slice x.K x.kn x.kc):=s.o.cell 3;have d:=g.t V.o;clear U C;go_wp2_with fail;refine(gf _ _).mono ?_;rintro e _ ⟨z,rfl,c⟩;rw[<-c,<-bU];clear c bU X e1 e2 e3 c0 t r S c4 c5;cases z
 .go_wp2
  go_ret;exact⟨_,rfl,aQ,d.o⟩
 go_wp2_with fail;refine(cI _ _ _ _).mono ?_;rintro e _ ⟨z,rfl,_,rfl⟩;cases z
 .go_wp2
  go_ret;exact⟨_,rfl,aQ,d.o⟩
 go_wp2_with fail;refine(cI _ _ _ _).mono ?_;rintro e _ ⟨z,rfl,_,rfl⟩;cases z
 .go_wp2
  go_ret;exact⟨_,rfl,aQ,d.o⟩
 by_cases h15:x.kn<=15;rotate_left
 .have B:(15:Int)<(x.kn:Int):=by omega
  go_wp2;go_ret;exact⟨_,rfl,aQ,d.o⟩
 have B:¬(15:Int)<(x.kn:Int):=ak;go_wp2_with fail;refine(xV x.K x.kn x.kc j m.o).mono ?_;rintro e E ⟨z,rfl,D⟩;have B3:aq (az W E):=⟨V.o.trans (D.mono ak)⟩;have p:=g.t B3.o;have J:=sH (s.o.ar D G);have P:=sH (m.o.Z D D.size);clear D d0 T d2 Q s m;have T:E.cell? ⟨wr.heap.size,1,none⟩=some (ae aj x.kind):=J.o.cell 1;have Q:E.cell? ⟨wr.heap.size,3,none⟩=some (.slice x.K x.kn x.kc):=J.o.cell 3;cases z
 .go_wp2
  go_ret;exact⟨_,rfl,aQ,p.o⟩
 by_cases v:0<x.kn/\x.kind≠2
 .have F:decide (0<x.kn)=true:=Kc
  have q2:(x.kind !=2)=true:=cw;clear v;go_wp2;go_ret;exact⟨_,rfl,aQ,p.o⟩
 have l:(decide (0<x.kn)&&(x.kind !=2))=false:=by
  rcases Nat.eq_zero_or_pos x.kn with h|h
  .simp[h]
  .have:x.kind=2:=by omega
   simp[this]
 clear v;have⟨kd,y⟩:=eY x.kn;have Z:=J.o.lt;rcases Nat.eq_zero_or_pos x.kn with c|c
 .have F:decide (0<x.kn)=false:=by simp[c]
  clear l y;go_wp2;have⟨K,a⟩:=eX E;rw[<-a];clear F;go_loopg[5](x.kn+1)(fun gg N wr=>∃(k:Nat),x.kn-k<gg/\k<=x.kn/\N=ae aj (k:Int)/\wr=K)
  .exact⟨0,ak,ak,rfl,rfl⟩
  obtain⟨k,L,hk,rfl,rfl⟩:=hrel;subst a;by_cases q:k<x.kn;rotate_left
  .exact ae2
  exact absurd q ak
 .have F:decide (0<x.kn)=true:=by simp[c]
  have q2:(x.kind !=2)=false:=by simpa[c]using l
  clear l y;go_wp2;have⟨K,a⟩:=eX E;rw[<-a];clear F;go_loopg[5](x.kn+1)(fun gg N wr=>∃(k:Nat),x.kn-k<gg/\k<=x.kn/\N=ae aj (k:Int)/\wr=K)
  .exact⟨0,ak,ak,rfl,rfl⟩
  obtain⟨k,L,hk,rfl,rfl⟩:=hrel;subst a;by_cases q:k<x.kn;rotate_left
  .exact ae2
  have i5:(k:Int)<(x.kn:Int):=ak;obtain⟨adk,z,eK,X⟩:=gT P.o q;rw[eK]at Q;clear eK;go_wp2_with fail;refine(gf _ _).mono ?_;rintro e _ ⟨b,rfl,rfl⟩;cases b
  .go_wp2
   go_ret;exact⟨_,rfl,aQ,p.o⟩
  .go_wp2
   go_roundg(x.kn-k)
   .exact⟨k+1,ak,ak,aT,rfl⟩
   omega
end Go.Proofs.YtklncadpkniojaaGreatDoor
