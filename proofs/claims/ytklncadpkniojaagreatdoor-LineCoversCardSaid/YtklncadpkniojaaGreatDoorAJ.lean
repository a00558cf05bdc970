/- Part of LineCovers. -/
import Derived.Test.YtklncadpkniojaaGreatDoorAG
import Derived.Test.YtklncadpkniojaaGreatDoorAA
import Derived.Test.YtklncadpkniojaaGreatDoorAE
namespace Go.Proofs.YtklncadpkniojaaGreatDoor
open Go.ChangeShapes Go.WideShapes Go.ChangeAt Go.RowKit Go.Proofs.Tryz
open Go renaming World->ahh,Value->ahj,Calls->ahk,TypeId->ahm,Ending->ahn,Program->aho
open Go.RowKit renaming Below->ahi,wrap64->ahl
open Go.Value renaming int->ae
open Go.IntKind renaming i64->aj
set_option linter.all false
set_option maxRecDepth 100000
set_option maxHeartbeats 16000000
variable{B a b bx c g k m:Nat}{W w wr:ahh}{A:aA}{X x:Int}{t:ahm}{gs:List aC}{G:Prop}{o:aC}
def kr(ts:aC)(ps:List ig):Nat->Nat
 |0=>0
 |k+1=>if gG ts (dD ps k).f (dD ps k).t=(dD ps k).f then kr ts ps k else k+1
theorem Gd(ts:aC)(ps:List ig):∀k,kr ts ps k<=k
 |0=>Nat.le_refl _
 |k+1=>by
  have:=Gd ts ps k;unfold kr;split<;>omega
def lE(ts:aC)(ps:List ig)(k:Nat):List (Int×Int):=jm ts ps (kr ts ps k) (kr ts ps k+1) 0
theorem Vc{ts:aC}{ps:List ig}(h:gG ts (dD ps k).f (dD ps k).t=(dD ps k).f):kr ts ps (k+1)=kr ts ps k:=by
 rw[kr,if_pos h]
theorem VA{ts:aC}{ps:List ig}(h:¬gG ts (dD ps k).f (dD ps k).t=(dD ps k).f):kr ts ps (k+1)=k+1:=by
 rw[kr,if_neg h]
def jh(l:List (Int×Int)):aC:=l.map (·.1)
def se(l:List (Int×Int)):aC:=l.map (·.2)
def PSl(w:ahh)(l:List (Int×Int))(e:ahn)(a:ahh):Prop:=∃(A:aA) (c:Nat) (C:aA) (d:Nat),e=.returned (.tuple #[.slice A l.length c,.slice C l.length d])/\Own a w.heap.size 3 .i64 A l.length c (jh l)/\Own a w.heap.size 3 .i64 C l.length d (se l)/\az w a
structure qm(w wr:ahh)(l:List (Int×Int))(A:aA)(c:Nat)(C:aA)(d:Nat):Prop where
 o1:Own wr w.heap.size 3 .i64 A l.length c (jh l)
 o2:Own wr w.heap.size 3 .i64 C l.length d (se l)
 ap:bM A C
 be:az w wr
theorem qm.ar{w wr b:ahh}{l:List (Int×Int)}{A C:aA}{c d:Nat}(h:qm w wr l A c C d)(a:az wr b):qm w b l A c C d:=⟨h.o1.ar a,h.o2.ar a,h.ap,h.be.trans (a.mono h.be.size)⟩
section
variable{w wr w1 w2:ahh}{l:List (Int × Int)}{A A' C C':aA}{c d c' d':Nat}{x:Int × Int}{o1 o2:Obj}
theorem qm.step(h:qm w wr l A c C d)(k1:Own w1 w.heap.size 3 .i64 A' (l.length+1) c' (jh l++[x.1]))(e:(wr.alloc o1).grownBy w1 (Value.slice A l.length c).ownBlock)(b:∀g,A'=some ⟨g,0,none⟩->A=some ⟨g,0,none⟩∨(wr.alloc o1).heap.size<=g):Own w1 w.heap.size 3 .i64 C l.length d (se l)/\bM A' C:=
 ⟨Own.kept (Own.alloc h.o2 _) e h.ap.symm (aw.dK h.o1),bM.grow (w:=wr.alloc o1) h.ap (fun g a=>by have:=h.o2;subst a;have:=(aw.xD this).2;simp;omega) b⟩
theorem qm.push(h:qm w wr l A c C d)(k1:Own w1 w.heap.size 3 .i64 A' (l.length+1) c' (jh l++[x.1]))(j:ahi w.heap.size (wr.alloc o1) w1)(a:Own w1 w.heap.size 3 .i64 C l.length d (se l)/\bM A' C)
 (k2:Own w2 w.heap.size 3 .i64 C' (l.length+1) d' (se l++[x.2])) (n:ahi w.heap.size (w1.alloc o2) w2) (g2:(w1.alloc o2).grownBy w2 (Value.slice C l.length d).ownBlock) (k:∀g,C'=some ⟨g,0,none⟩->C=some ⟨g,0,none⟩∨(w1.alloc o2).heap.size<=g):qm w w2 (l++[x]) A' c' C' d':=by
 have m:jh (l++[x])=jh l++[x.1]:=by simp[jh]
 have f:se (l++[x])=se l++[x.2]:=by simp[se]
 have e:=h.be.size;have b:az w w1:=(h.be.alloc e o1).trans j;refine⟨?_, ?_, ?_,(b.alloc b.size o2).trans n⟩
 .rw[m,List.length_append]
  exact Own.kept (Own.alloc k1 _) g2 a.2 (aw.dK a.1)
 .rw[f,List.length_append]
  exact k2
 .exact(bM.grow (w:=w1.alloc o2) a.2.symm (fun g i=>by subst i;have:=(aw.xD k1).2;simp;omega) k).symm
end
theorem UL(ts:aC)(ps:List ig)(k:Nat):(lE ts ps k).length<=k+1:=by
 have a:=wH (ts:=ts) (ps:=ps) (n:=kr ts ps k) (kr ts ps k+1) 0;have b:=Gd ts ps k;unfold lE;omega
theorem Pe(x:fp)(w:ahh):ahk prog 147 #[.agg x.row] w fun e c=>e=.returned (.bool x.q.iF)/\az w c:=by
 have⟨a,aP⟩:=eX (w.alloc (.cells x.row 48));have b:aq (az w a):=⟨qS⟩;have d:=Qm aP 7 _ rfl;go_enter func147,ntmps147;go_upto_region 1 with fail;rw[<-aP];clear aP;go_wp2;go_ret;exact⟨rfl,b.o⟩
def PTi(w:ahh)(ps:List ig)(a k:Nat)(e:ahn)(b:ahh):Prop:=∃z:Int,e=.returned (ae aj z)/\(z= -1/\kE ps a k=k∨z=(kE ps a k:Int)/\kE ps a k<k)/\az w b
theorem Io(xs:List fp)(a k d:Nat)(A:aA)(w:ahh)(h:vl w w.heap.size xs a k A)(H:k<=1000):ahk prog 146 #[.slice A k d,.func (.func 147) #[] #[]] w (PTi w (qs xs) a k):=by
 have R:=sH h;clear h;have D:∀args w,(callFunc 147 args).run prog w=.ok (.enter 147 args) w:=fun args w=>by
  first|rfl|(simp[callFunc,go_sem])
 go_enter func146,ntmps146;go_wp2;go_loopg[8](k+1)(fun gg v wr=>∃i:Nat,k-i<gg/\i<=k/\v=ae aj (i:Int)/\aq (∀j,j<i->(dD (qs xs) (a+j)).iF=false)/\aq (az w wr))
 .exact⟨0,ak,ak,rfl,⟨fun j h=>by omega⟩,cA⟩
 obtain⟨i,z,C,rfl,l,e⟩:=hrel;by_cases c:i<k;rotate_left
 .have u:=cv i k
  obtain rfl:i=k:=ak;have E:aq (kE (qs xs) a i=i):=⟨xy l.o ak (.inl rfl)⟩;go_wp2;go_ret;exact⟨_,rfl,.inl ⟨rfl,E.o⟩,e.o⟩
 have u:=aU i k;obtain⟨G,x,hx,rfl,c0,s,g,y,c4,c5,c6,q,c8,rx⟩:=(R.o.Z e.o e.o.size).at c;have r:=R.o.1;have n:aq (dD (qs xs) (a+i)=x.q):=⟨H9⟩;have t:=sH (Pe x wr);clear rx hx;go_wp2_with fail;refine callK t.o e fun F p m=> ?_;clear p c0 s g y c4 c5 c6 q c8;cases b:x.q.iF
 .have f:aq (∀j,j<i+1->(dD (qs xs) (a+j)).iF=false):=⟨fun j B=>by
   rcases Nat.lt_or_ge j i with o|o
   .exact l.o j o
   .obtain rfl:j=i:=by omega
    rw[n.o,b]⟩
  clear b;go_wp2;go_roundg(k-i)
  .exact⟨i+1,ak,ak,nS,f,m⟩
  omega
 .have E:aq (kE (qs xs) a k=i):=⟨xy l.o ak (.inr (by rw[n.o,b]))⟩
  clear b;go_wp2;go_ret;exact⟨_,rfl,.inr ⟨pJ,by rw[E.o];exact c⟩,m.o⟩
theorem UU(s a b:Int):ahl (ahl s-ahl (a-b))=ahl (s+(b-a)):=Fg
theorem JY(xs:List fp)(k d:Nat)(A:aA)(T:aA)(n c:Nat)(ts:aC)(w:ahh)(h:vl w w.heap.size xs 0 k A)(hd:k<=d)(ht:aM .i32 w T n c ts)(hL:Laid w)(hk:k<=1000)(hn:n<=100000)(hg:ZU xs)(hi:InT n xs)(hs:Ei (qs xs)):ahk prog 75 #[.slice T n c,.slice A k d] w (PSl w (lE ts (qs xs) k)):=by
 have R:=sH h;have TX:=sH ht;have LW:=sH hL;have HG:=sH hg;have IT:=sH hi;have SD:=sH hs;have hkl:=h.1;have⟨L,hL⟩:=eY (lE ts (qs xs) k);have HL0:=sH hL;rw[hL];clear h ht hg hi hL hs;go_enter func75,ntmps75;go_upto_block 0 with fail;go_cut[1](fun v wx=>∃(m:Nat) (M:aA) (D:Nat),m<=k/\m<=D/\v=.slice M m D/\aq (kr ts (qs xs) k=m)/\aq (vl w w.heap.size xs 0 m M)/\aq (az w wx))
 ·
  go_wp2;go_loopg[1](k+1)(fun gg v wr=>∃(m:Nat) (M:aA) (D:Nat),m<gg/\m<=k/\m<=D/\v=.slice M m D/\aq (kr ts (qs xs) m=kr ts (qs xs) k)/\aq (vl w w.heap.size xs 0 m M)/\aq (az w wr))
  .exact⟨k,A,d,ak,ak,hd,rfl,⟨rfl⟩,R,cA⟩
  obtain⟨m,M,D,hg,hm,y,rfl,CN,X,BE⟩:=hrel;rcases Nat.eq_zero_or_pos m with V|V
  .have XZ:decide (0<m)=false:=gW
   have E:aq (kr ts (qs xs) k=m):=⟨by rw[<-CN.o,V];rfl⟩;clear V;go_wp2;go_meet;exact⟨m,M,D,hm,y,rfl,E,X,BE⟩
  obtain⟨j,hj⟩:∃j,j+1=m:=⟨m-1,ak⟩;have Hx:(m:Int)-1=(j:Int):=ak;have Rs:decide (0<m)=true:=Kc;have hjm:=aU j m;obtain⟨ad,x,hx,rfl,c0,c1,aW,c3,c4,c5,c6,C,c8,rx⟩:=(X.o.Z BE.o BE.o.size).at (show j<m by omega);rw[Nat.zero_add]at hx;have EQ:aq (dD (qs xs) j=x.q):=⟨H9⟩;obtain⟨qh,fZ⟩:=IT.o.ne j ak;rw[hx]at qh fZ;have CS:=sH (aaq x T n c ts wr (TX.o.ar BE.o) (LW.o.ar BE.o) ak fZ hn);have Gv:aq (Zr ts x.q=true->kr ts (qs xs) j=kr ts (qs xs) k):=⟨fun h=>by rw[<-CN.o,<-hj];exact(Vc (by rw[EQ.o];simpa[Zr]using h)).symm⟩;have NO:aq (Zr ts x.q=false->kr ts (qs xs) k=m):=⟨fun h=>by rw[<-CN.o,<-hj];exact VA (by rw[EQ.o];simpa[Zr]using h)⟩;have HJ:=sH hj;clear rx hx qh fZ V hj;cases hb:Zr ts x.q
  .have E:aq (kr ts (qs xs) k=m):=⟨NO.o hb⟩
   rw[hb]at CS;clear Gv NO hb;go_wp2_with fail;refine callK CS.o BE fun w2 b2 B2=> ?_;clear b2;go_wp2;go_meet;exact⟨m,_,D,hm,y,rfl,E,X,B2⟩
  .have E:aq (kr ts (qs xs) j=kr ts (qs xs) k):=⟨Gv.o hb⟩
   rw[hb]at CS;clear Gv NO hb;obtain⟨A3,wV,p⟩:=aa' TPc (some ad) m D j ak y (j:Int) rfl;have i:=p.run;have R3:=sH (p.pcs X.o ak);have h3:=p.2.1;clear p;go_wp2_with fail;refine callK CS.o BE fun w2 b2 B2=> ?_;clear b2 c0 c1 aW c3 c4 c5 c6 C c8;go_wp2;have hjj:=HJ.o;go_roundg(m)
   .exact⟨j,A3,wV,ak,ak,h3,rfl,E,R3,B2⟩
   omega
 obtain⟨m,M,D,hm,y,rfl,CN,X,B1⟩:=hcut;have HL:aq (jm ts (qs xs) m (m+1) 0=L):=⟨by rw[<-HL0.o];unfold lE;rw[CN.o]⟩;clear CN;go_wp2;go_loopg[6,7,8](m+2)(fun gg v6 v7 v8 wr=>∃(a f:Nat) (l:List (Int×Int)) (A2:aA) (c2:Nat) (C2:aA) (e2:Nat),m+1-a<gg/\a<=m/\m+1<=a+f/\l.length<=a/\v6=.slice A2 l.length c2/\v7=.slice C2 l.length e2/\v8=ae aj (a:Int)/\aq (l++jm ts (qs xs) m f a=L)/\aq (qm w wr l A2 c2 C2 e2))
 .exact⟨0,m+1,[],none,0,none,0,ak,ak,ak,aQ,rfl,rfl,rfl,⟨HL.o⟩,⟨Own.nil _ _ _ _,Own.nil _ _ _ _,lX _,B1.o⟩⟩
 obtain⟨a,f,l,A2,c2,C2,e2,hg,ham,hmf,Y,rfl,rfl,rfl,LE,TW⟩:=hrel;have hTs:=TW.o.be.size;have jG:aq (m+1-a<gk):=⟨hg⟩;have hkx:=X.o.1;obtain⟨f',Gi⟩:∃f',f=f'+1:=⟨f-1,ak⟩;have HF:=sH Gi;obtain⟨A4,c4,p⟩:=Vk TPc M m D a ham y (a:Int) rfl;have i:=p.run;have R4:=p.pcs (X.o.Z TW.o.be hTs) ak;rw[Nat.zero_add]at R4;have R4:=sH R4;clear p hg Gi;go_wp2_with fail;refine(Io xs a (m-a) c4 A4 wr R4.o ak).mono ?_;rintro e w2 ⟨z,rfl,F,b2⟩;have U:=sH (TW.o.ar b2);clear b2 TW i;rcases F with⟨rfl,F⟩|⟨rfl,F⟩
 .have⟨q,hq⟩:=eY (m-a)
  have hqi:(m:Int)-(a:Int)=(q:Int):=ak;have vX:kE (qs xs) a (m-a)=q:=ak;have W:aq (l++[(wS (qs xs) a q true,pS ts (qs xs) a q true)]=L):=⟨by rw[<-LE.o,HF.o,Ja vX (by omega)]⟩;clear F vX hq;obtain⟨A5,c5,p⟩:=sM TPc M m D a (a+q) ak ak y (a:Int) ((a:Int)+(q:Int)) rfl ak;rw[show a+q-a=q by omega]at p;have i:=p.run;have P:=p.pcs (X.o.Z U.o.be U.o.be.size) ak;rw[Nat.zero_add]at P;have P:=sH P;clear p;go_wp2_with fail;refine(yR xs a q c5 A5 T n c ts _ P.o (TX.o.ar U.o.be) ak hn HG.o IT.o SD.o).mono ?_;rintro e w3 ⟨z,b,rfl,F,b3⟩;have T3:=sH (U.o.ar b3);have R6:=sH (P.o.Z b3 b3.size);have⟨S0,s⟩:=eY (yT (qs xs) a q);have⟨r,o⟩:=eY (wS (qs xs) a q true);have⟨g,t⟩:=eY (pS ts (qs xs) a q true);have HP:aq ((b=true->z=g)/\(b=false->r=g)):=⟨by
   rw[<-o,<-t];unfold pS;cases hd:lY ts (qs xs) a q with
   |some v=>have:=(kZ hd).1 F;exact⟨fun _=>this.2,fun h=>Ib⟩
   |none=>have:=(lu hd).1 F;exact⟨fun h=>Ib,fun _=>rfl⟩⟩
  have HS:aq (r=ahl (S0+vG (qs xs) a q true)):=⟨by rw[<-o,<-s];rfl⟩;rw[o,t]at W;rw[s];clear F b3 i U s o t;go_upto_if 61 with fail;go_cut[12](fun v wx=>v=ae aj r/\aq (az w3 wx))
  ·
   rcases Nat.eq_zero_or_pos q with V|V
   .have XZ:decide (0<q)=false:=gW
    have E:aq (ahl S0=r):=⟨by rw[HS.o];unfold vG;rw[if_neg (by omega),Int.add_zero]⟩;have H0:=sH V;clear V;go_wp2_with fail
    all_goals first
     |(exfalso;have:=H0.o;omega)
     |(go_meet;exact⟨pJ,cA⟩)
   obtain⟨j,hj⟩:∃j,j+1=q:=⟨q-1,ak⟩;have Ry:(q:Int)-1=(j:Int):=ak;have Ce:decide (0<q)=true:=Kc;have hjq:=aU j q;obtain⟨ad,x,hx,rfl,c0,c1,aW,c3,c4,uO,c6,C,c8,rx⟩:=R6.o.at (show j<q by omega);have hkx:=R6.o.1;have E:aq (ahl (ahl S0-ahl (x.q.wide-x.q.inner))=r):=⟨by
    rw[HS.o,UU];unfold vG;rw[if_pos ⟨rfl,V⟩,show a+q-1=a+j by omega,nO ak,hx]⟩
   have⟨L4,L5⟩:=lc2 c4 uO;clear c0 c1 aW c3 c4 uO c6 C c8 rx hx V hj;go_wp2;refine mRl ?_;rintro _ ⟨nq,rfl⟩;go_wp2;go_meet;exact⟨pJ,⟨nq.2⟩⟩
  obtain⟨rfl,BC⟩:=hcut;have B:=sH (T3.o.ar BC.o);have XD:=B.o.be.size;cases b
  .obtain rfl:g=r:=(HP.o.2 rfl).symm
   go_wp2_with (first
    |(at_builtin;refine bE vi rfl (.tmp 80) (.tmp 82) rfl rfl (B.o.o1.alloc _) rfl (bh _ _ _) ak cw ?_;intro J c6 w6 u b6 K N;have O6:=sH u;have B6:=sH b6;have Q:=sH (B.o.step (x:=(g,g)) u K N);have hz6:w.heap.size<=w6.heap.size:=Xr;clear u b6 K N)
    |(at_builtin;refine bE vi rfl (.tmp 84) (.tmp 86) rfl rfl (Q.o.1.alloc _) rfl (bh _ _ _) ak cw ?_;intro S C w7 G O H I;have T7:aq (qm w w7 (l++[(g,g)]) J c6 S C):=⟨B.o.push O6.o B6.o Q.o G O H I⟩;clear G O H I))
   have Z:=T7.o;rw[W.o]at Z;have Y:l.length+1=L.length:=by rw[<-W.o];simp
   go_ret2;exact⟨J,c6,S,C,by rw[<-Y]<;>rfl,Z.o1,Z.o2,Z.be⟩
  .obtain rfl:g=z:=(HP.o.1 rfl).symm
   go_wp2_with (first
    |(at_builtin;refine bE vi rfl (.tmp 80) (.tmp 82) rfl rfl (B.o.o1.alloc _) rfl (bh _ _ _) ak cw ?_;intro J c6 w6 u b6 K N;have O6:=sH u;have B6:=sH b6;have Q:=sH (B.o.step (x:=(r,g)) u K N);have hz6:w.heap.size<=w6.heap.size:=Xr;clear u b6 K N)
    |(at_builtin;refine bE vi rfl (.tmp 84) (.tmp 86) rfl rfl (Q.o.1.alloc _) rfl (bh _ _ _) ak cw ?_;intro S C w7 G O H I;have T7:aq (qm w w7 (l++[(r,g)]) J c6 S C):=⟨B.o.push O6.o B6.o Q.o G O H I⟩;clear G O H I))
   have Z:=T7.o;rw[W.o]at Z;have Y:l.length+1=L.length:=by rw[<-W.o];simp
   go_ret2;exact⟨J,c6,S,C,by rw[<-Y]<;>rfl,Z.o1,Z.o2,Z.be⟩
 .have⟨q,hq⟩:=eY (kE (qs xs) a (m-a))
  rw[hq]at F⊢;have W:aq ((l++[(wS (qs xs) a q false,pS ts (qs xs) a q false)])++jm ts (qs xs) m (f-1) (a+q+1)=L):=⟨by rw[<-LE.o,HF.o,IX hq (by omega)];simp⟩;clear hq;obtain⟨A5,c5,p⟩:=sM TPc M m D a (a+q) ak ak y (a:Int) ((a:Int)+(q:Int)) rfl ak;rw[show a+q-a=q by omega]at p;have i:=p.run;have P:=p.pcs (X.o.Z U.o.be U.o.be.size) ak;rw[Nat.zero_add]at P;have P:=sH P;clear p;go_wp2_with fail;refine(yR xs a q c5 A5 T n c ts _ P.o (TX.o.ar U.o.be) ak hn HG.o IT.o SD.o).mono ?_;rintro e w3 ⟨z,b,rfl,F,b3⟩;have T3:=sH (U.o.ar b3);have R6:=sH (P.o.Z b3 b3.size);have⟨S0,s⟩:=eY (yT (qs xs) a q);have⟨r,o⟩:=eY (wS (qs xs) a q false);have⟨g,t⟩:=eY (pS ts (qs xs) a q false);have HP:aq ((b=true->z=g)/\(b=false->r=g)):=⟨by
   rw[<-o,<-t];unfold pS;cases hd:lY ts (qs xs) a q with
   |some v=>have:=(kZ hd).1 F;exact⟨fun _=>this.2,fun h=>Ib⟩
   |none=>have:=(lu hd).1 F;exact⟨fun h=>Ib,fun _=>rfl⟩⟩
  have HS:aq (r=ahl (S0+vG (qs xs) a q false)):=⟨by rw[<-o,<-s];rfl⟩;rw[o,t]at W;rw[s];clear F b3 i U s o t;go_upto_if 61 with fail;go_cut[12](fun v wx=>v=ae aj r/\aq (az w3 wx))
  ·
   have E:aq (ahl S0=r):=⟨by rw[HS.o];unfold vG;rw[if_neg (by simp),Int.add_zero]⟩;go_wp2;go_meet;exact⟨pJ,cA⟩
  obtain⟨rfl,BC⟩:=hcut;have B:=sH (T3.o.ar BC.o);have XD:=B.o.be.size;cases b
  .obtain rfl:g=r:=(HP.o.2 rfl).symm
   go_wp2_with (first
    |(at_builtin;refine bE vi rfl (.tmp 80) (.tmp 82) rfl rfl (B.o.o1.alloc _) rfl (bh _ _ _) ak cw ?_;intro J c6 w6 u b6 K N;have O6:=sH u;have B6:=sH b6;have Q:=sH (B.o.step (x:=(g,g)) u K N);have hz6:w.heap.size<=w6.heap.size:=Xr;clear u b6 K N)
    |(at_builtin;refine bE vi rfl (.tmp 84) (.tmp 86) rfl rfl (Q.o.1.alloc _) rfl (bh _ _ _) ak cw ?_;intro S C w7 G O H I;have T7:aq (qm w w7 (l++[(g,g)]) J c6 S C):=⟨B.o.push O6.o B6.o Q.o G O H I⟩;clear G O H I))
   go_roundg(m+1-a)
   .exact⟨a+q+1,f-1,l++[(g,g)],J,c6,S,C,ak,ak,ak,cw,aQ,aQ,nS,W,T7⟩
   have:=jG.o;omega
  .obtain rfl:g=z:=(HP.o.1 rfl).symm
   go_wp2_with (first
    |(at_builtin;refine bE vi rfl (.tmp 80) (.tmp 82) rfl rfl (B.o.o1.alloc _) rfl (bh _ _ _) ak cw ?_;intro J c6 w6 u b6 K N;have O6:=sH u;have B6:=sH b6;have Q:=sH (B.o.step (x:=(r,g)) u K N);have hz6:w.heap.size<=w6.heap.size:=Xr;clear u b6 K N)
    |(at_builtin;refine bE vi rfl (.tmp 84) (.tmp 86) rfl rfl (Q.o.1.alloc _) rfl (bh _ _ _) ak cw ?_;intro S C w7 G O H I;have T7:aq (qm w w7 (l++[(r,g)]) J c6 S C):=⟨B.o.push O6.o B6.o Q.o G O H I⟩;clear G O H I))
   go_roundg(m+1-a)
   .exact⟨a+q+1,f-1,l++[(r,g)],J,c6,S,C,ak,ak,ak,cw,aQ,aQ,nS,W,T7⟩
   have:=jG.o;omega
def TbS(w:ahh)(B:Nat)(l:List (Int×Int))(A:aA):Prop:=∀j,j<l.length->∃a,A=some a/\a.block<B/\w.cell? (a.add (j*2))=some (ae aj (kp l j).1)/\w.cell? (bP (a.add (j*2)) 1)=some (ae aj (kp l j).2)
theorem TbS.Z{c:ahh}{l:List (Int×Int)}(h:TbS w B l A)(d:ahi B w c)(k:B<=a):TbS c a l A:=fun j g=>by
 obtain⟨b,e,h2,f,i⟩:=h j g;exact⟨b,e,ak,(d.cell yD).trans f,(d.cell (by show(b.add (j*2)).block<B;rw[aO];exact h2)).trans i⟩
theorem td2(n:Int):(0<=n->n.tdiv 2=n/2/\n.tmod 2=n%2)/\(n<0->n.tdiv 2= -(-n/2)/\n.tmod 2= -(-n%2)):=by
 refine⟨fun h=>⟨Int.tdiv_eq_ediv_of_nonneg h,Int.tmod_eq_emod_of_nonneg h⟩,fun h=> ?_⟩;have a:=Int.neg_tdiv (-n) 2;have b:=Int.neg_tmod (-n) 2;rw[Int.neg_neg]at a b;rw[a,b,Int.tdiv_eq_ediv_of_nonneg ak,Int.tmod_eq_emod_of_nonneg ak];exact⟨rfl,rfl⟩
theorem Od(n:Int)(h: -9223372036854775808<=n/\n<=9223372036854775807)(w:ahh):ahk prog 223 #[ae aj n,ae aj 2] w fun e g=>e=.returned (ae aj (AV n))/\g=w:=by
 obtain⟨c,d⟩:=td2 n;have f:=sH c;have i:=sH d;go_enter func223,ntmps223;go_wp2
 all_goals go_ret
 all_goals refine⟨Aa ?_,rfl⟩
 all_goals
  have:=f.o;have:=i.o;unfold AV
  try unfold ahl
  generalize n.tdiv 2=a at*;generalize n.tmod 2=b at*;omega
theorem Ix{l:List (Int×Int)}{every:Int}{i:Nat}(c:∀j,j<i->(kp l j).1<=x)(a:i<l.length)(h2:x<(kp l i).1):ly l every x=kp l i:=by
 have e:l.find? (fun t=>decide (x<t.1))=some (kp l i):=by
  rw[List.find?_eq_some_iff_getElem];refine⟨vv,i,a,by simp[kp,a],fun j b=> ?_⟩;have:=c j b;simp[kp,show j<l.length by omega]at this;simpa using this
 unfold ly;rw[e]
theorem Nv{l:List (Int×Int)}{every:Int}(c:∀j,j<l.length->(kp l j).1<=x):ly l every x=(ahl (ahl (ahl ((max x 0).tdiv (XM every))+1)*XM every),0):=by
 have e:l.find? (fun t=>decide (x<t.1))=none:=by
  rw[List.find?_eq_none];intro t b;obtain⟨j,a,rfl⟩:=List.getElem_of_mem b;have:=c j a;simp[kp,a]at this;simpa using this
 unfold ly;rw[e]
def PNt(w:ahh)(t:Int×Int)(e:ahn)(a:ahh):Prop:=e=.returned (.agg #[ae aj t.1,ae aj t.2])/\az w a
theorem Ga{y:Int}(h:W=w.alloc (.cells #[ae aj x,ae aj y] t)):W.cell? ⟨w.heap.size,0,none⟩=some (ae aj x)/\W.cell? ⟨w.heap.size,1,none⟩=some (ae aj y):=by
 rw[h,cell_of_row _ _ _ _ _ _ (heap_alloc_new w _),cell_of_row _ _ _ _ _ _ (heap_alloc_new w _)];exact⟨rfl,rfl⟩
theorem VB(l:List (Int×Int))(A:aA)(n c:Nat)(every x:Int)(w:ahh)(h:TbS w w.heap.size l A)(D:l.length=n)(hn:n<=1000):ahk prog 150 #[.slice A n c,ae aj every,ae aj x] w (PNt w (ly l every x)):=by
 have R:=sH h;clear h;have⟨k,aP⟩:=eX (w.alloc (.cells #[ae aj 0,ae aj 0] 219));have m:aq (az w k):=⟨qS⟩;have C:aq (Bx k w.heap.size #[ae aj 0,ae aj 0]):=⟨vz⟩;have⟨b,a⟩:=eY (XM every);have T:aq ((∀j,j<n->(kp l j).1<=x)->ly l every x=(ahl (ahl (ahl ((max x 0).tdiv b)+1)*b),0)):=⟨fun h=>by rw[Nv (by rw[D];exact h),a]⟩;have S:aq (∀i,(∀j,j<i->(kp l j).1<=x)->i<n->x<(kp l i).1->ly l every x=kp l i):=⟨fun i B Z X=>Ix B (by rw[D];exact Z) X⟩;generalize ly l every x=N at*;have W:=sH D;clear D;go_enter func150,ntmps150;go_upto_region 1 with fail;rw[<-aP];clear aP;go_upto_if 11 with fail;go_cut[1](fun v P=>v=ae aj b/\P=k)
 ·
  by_cases V:every<1
  .have E:aq (b=48):=⟨by rw[<-a];unfold XM;rw[if_pos V]⟩
   clear a;go_wp2;go_meet;exact⟨pJ,rfl⟩
  .have E:aq (every=b):=⟨by rw[<-a];unfold XM;rw[if_neg V]⟩
   clear a;go_wp2;go_meet;exact⟨pJ,rfl⟩
 obtain⟨rfl,e9⟩:=hcut;have U:1<=b:=by rw[<-a];unfold XM;split<;>omega
 clear a;subst wc;have⟨M,z⟩:=eY (max x 0);have s:x<=M:=ak;rw[z]at T;go_upto_region 3 with fail;go_cut[7](fun v P=>v=ae aj M/\P=k)
 ·
  by_cases hx:x<0
  .have E:aq (M=0):=⟨ak⟩
   clear z s;go_wp2_with fail
   all_goals first
    |(exfalso;omega)
    |(go_meet;exact⟨pJ,rfl⟩)
  .have E:aq (M=x):=⟨ak⟩
   clear z s;go_wp2_with fail
   all_goals first
    |(exfalso;omega)
    |(go_meet;exact⟨pJ,rfl⟩)
 obtain⟨rfl,e9⟩:=hcut;subst wc;clear z;go_wp2;go_loopg[7,16](n+1)(fun gg v7 K wr=>∃i:Nat,n-i<gg/\i<=n/\v7=ae aj M/\K=ae aj (i:Int)/\aq (∀j,j<i->(kp l j).1<=x)/\aq (az k wr))
 .exact⟨0,ak,ak,rfl,rfl,⟨fun j h=>by omega⟩,cA⟩
 obtain⟨i,hg,hi,rfl,rfl,L,t⟩:=hrel;have p:=t.o.size;by_cases o:i<n;rotate_left
 .have i4:=cv i n
  obtain rfl:i=n:=ak;have E:=sH (T.o L.o);have y:=C.o.ar t.o C.o.lt;obtain⟨e,G⟩:=y.heap;have he0:(b==0)=false:=pI;go_wp2_with (refine wpList_store_row rfl 219 (.tmp 6) (.tmp 36) rfl w.heap.size #[ae aj (ahl (ahl (ahl (M.tdiv b)+1)*b)),ae aj 0] rfl aB e _ G aF aB dJ ?_;have J:=y.row (ds:=#[ae aj (ahl (ahl (ahl (M.tdiv b)+1)*b)),ae aj 0]));obtain⟨g,f⟩:=J.heap;refine bodyPost_ret (results_cell_row results150 _ _ w.heap.size g _ (0,0) _ aB f underlying219 rfl aF) rfl ?_;exact⟨pJ,below_setRow (m.o.trans (t.o.mono m.o.size)) ak _⟩
 have i4:=aU i n;obtain⟨ad,rfl,_,O,Q⟩:=((R.o.Z m.o m.o.size).Z t.o p) i (by rw[W.o];exact o);have F:aq (x<(kp l i).1->N=kp l i):=⟨fun h=>S.o i L.o o h⟩;have I:aq ((kp l i).1<=x->∀j,j<i+1->(kp l j).1<=x):=⟨fun h j hj=>by
  rcases Nat.lt_or_ge j i with B|B
  .exact L.o j B
  .obtain rfl:j=i:=by omega
   exact h⟩
 obtain⟨⟨u,v⟩,r⟩:∃q,kp l i=q:=⟨_,rfl⟩;rw[r]at O Q F I;dsimp only at O Q F I;clear r;have⟨W2,d⟩:=eX (wr.alloc (.cells #[ae aj u,ae aj v] 219));obtain⟨g0,g1⟩:=Ga d;have H:aq (az k W2):=⟨by rw[d];exact t.o.alloc p _⟩;go_upto_region 7 with fail;rw[<-d];clear d O Q;by_cases Y:x<u
 .have E:=sH (F.o Y)
  have y:=C.o.ar H.o C.o.lt;obtain⟨e,G⟩:=y.heap;go_wp2_with (refine wpList_store_row rfl 219 (.tmp 6) (.tmp 24) rfl w.heap.size #[ae aj u,ae aj v] rfl aB e _ G aF aB dJ ?_;have J:=y.row (ds:=#[ae aj u,ae aj v]));obtain⟨g,f⟩:=J.heap;refine bodyPost_ret (results_cell_row results150 _ _ w.heap.size g _ (0,0) _ aB f underlying219 rfl aF) rfl ?_;exact⟨pJ,below_setRow (m.o.trans (H.o.mono m.o.size)) ak _⟩
 .have E:=sH (I.o ak)
  have hum:u<=M:=ak;go_wp2_with fail
  all_goals first
   |(exfalso;omega)
   |(go_roundg(n-i)<;>first|omega|exact⟨i+1,ak,ak,rfl,aT,E,H⟩)
def J4(w:ahh)(B:Nat)(gs:List aC)(a k:Nat)(A:aA):Prop:=a+k<=gs.length/\∀j,j<k->∃b,A=some b/\b.block<B/\(fC gs (a+j)).length=10/\∀q,q<10->w.cell? ((b.add (j*10)).add q)=some (ae aj (nth (fC gs (a+j)) q))
theorem J4.Z{c:ahh}(h:J4 w B gs a k A)(i:ahi B w c)(o:B<=b):J4 c b gs a k A:=⟨h.1,fun j m=>by
 obtain⟨g,e,n,f,l⟩:=h.2 j m;exact⟨g,e,ak,f,fun q d=>(i.cell (by rw[aO,aO];exact n)).trans (l q d)⟩⟩
theorem Rx.gxs{n:Nat}(h:Rx w B 10 gs A n):J4 w B gs 0 n A:=⟨Il,fun j f=>by
 obtain⟨b,e,d,_,g⟩:=h.at_ f;obtain⟨a,c,i,_⟩:=h.2.2 ak;obtain rfl:b=a:=by rw[e]at c;injection c
 rw[Nat.zero_add];exact⟨b,e,i,d,g⟩⟩
theorem yi.gxs{P:aho}{b:aA}{n i:Nat}{lo p:Option ahj}(h:yi P t 10 A n c lo p i m b k){w:ahh}{B a:Nat}{gs:List aC}(d:J4 w B gs a n A)(s:i+m<=n):J4 w B gs (a+i) m b:=⟨by have:=d.1;omega,fun j r=>by
 obtain⟨l,f,h2,g,o⟩:=d.2 (i+j) ak;rw[show a+i+j=a+(i+j) by omega];refine⟨l.add (i*10),by rw[h.2.2.2 (by omega),f];rfl,yD,g,fun q e=> ?_⟩;have:=o q e;rw[aY]at this;rw[aY,aY];rwa [show i*10+(j*10+q)=(i+j)*10+q by omega]⟩
theorem J4.bD{j:Nat}(h:J4 w B gs a k A)(u:j<k):∃(b:Addr) (q p m i d f n l g o:Int),A=some b/\fC gs (a+j)=[q,p,m,i,d,f,n,l,g,o]/\w.cell? (b.add (j*10))=some (ae aj q)/\
 w.cell? (bP (b.add (j*10)) 1)=some (ae aj p)/\w.cell? (bP (b.add (j*10)) 2)=some (ae aj m)/\w.cell? (bP (b.add (j*10)) 3)=some (ae aj i)/\w.cell? (bP (b.add (j*10)) 4)=some (ae aj d)/\w.cell? (bP (b.add (j*10)) 5)=some (ae aj f)/\
 w.cell? (bP (b.add (j*10)) 6)=some (ae aj n)/\w.cell? (bP (b.add (j*10)) 7)=some (ae aj l)/\w.cell? (bP (b.add (j*10)) 8)=some (ae aj g)/\w.cell? (bP (b.add (j*10)) 9)=some (ae aj o):=by
 obtain⟨b,e,_,t,c⟩:=h.2 j u;obtain⟨q,p,m,i,d,f,n,l,g,o,r⟩:=ten t;rw[r]at c;have s:=c 0 ak;rw[ri]at s;exact⟨b,q,p,m,i,d,f,n,l,g,o,e,r,s,c 1 ak,c 2 ak,c 3 ak,c 4 ak,c 5 ak,c 6 ak,c 7 ak,c 8 ak,c 9 ak⟩
theorem abp(lv:Int):(lv.tmod 2 !=0)=zN lv:=by
 obtain⟨d,c⟩:=td2 lv;unfold zN;rw[Bool.eq_iff_iff];generalize lv.tdiv 2=a at*;generalize lv.tmod 2=b at*;simp;omega
theorem abb{gs:List aC}{a:Nat}{b:Bool}(c:k<m):(if b=true then m-1-k else k)<m:=by split<;>omega
def POg(w:ahh)(m:Nat)(L:aC)(e:ahn)(a:ahh):Prop:=∃(A:aA) (c:Nat),e=.returned (.slice A m c)/\Own a w.heap.size 3 .i64 A m c L/\az w a
theorem Lh(k v x wide a:Int)(i: -9223372036854775808<=wide/\wide<=9223372036854775807)(w:ahh):ahk prog 149 #[.agg #[ae aj v,ae aj k],ae aj x,ae aj wide,ae aj a] w fun e m=>e=.returned (ae aj (qQ (v,k) x wide a))/\az w m:=by
 have⟨g,aP⟩:∃g,g=w.alloc (.cells #[ae aj v,ae aj k] 219):=⟨_,rfl⟩;obtain⟨r,t⟩:=Ga aP;have f:aq (az w g):=⟨qS⟩;have p:aq _:=⟨fun W=>Od wide i W⟩;have⟨P,h⟩:∃P,qQ (v,k) x wide a=P:=⟨_,rfl⟩;have c:aq (P=max (if k=1 then ahl (v-wide)else if k=2 then ahl (v-AV wide)else if k=3 then ahl (v-a)else v) x):=⟨h.symm⟩;rw[h];clear h i;generalize AV wide=n at*;go_enter func149,ntmps149;go_upto_region 1 with fail;rw[<-aP];clear aP;by_cases h1:k=1
 .have HQ:aq (P=max (ahl (v-wide)) x):=⟨by rw[c.o,if_pos h1]⟩
  have o:(k==1)=true:=nd;clear h1 c;go_wp2_with fail
  all_goals go_ret
  all_goals exact⟨WU,f.o⟩
 have o:(k==1)=false:=nd;by_cases b:k=2
 .have HQ:aq (P=max (ahl (v-n)) x):=⟨by rw[c.o,if_neg h1,if_pos b]⟩
  have l:(k==2)=true:=by simp[b]
  clear h1 b c;go_wp2_with fail;refine(p.o _).mono ?_;rintro e j ⟨rfl,s⟩;subst j;go_wp2_with fail
  all_goals go_ret
  all_goals exact⟨WU,f.o⟩
 have l:(k==2)=false:=by simp[b]
 by_cases d:k=3
 .have HQ:aq (P=max (ahl (v-a)) x):=⟨by rw[c.o,if_neg h1,if_neg b,if_pos d]⟩
  have q:(k==3)=true:=by simp[d]
  clear h1 b d c;go_wp2_with fail
  all_goals go_ret
  all_goals exact⟨WU,f.o⟩
 have HQ:aq (P=max v x):=⟨by rw[c.o,if_neg h1,if_neg b,if_neg d]⟩;have q:(k==3)=false:=by simp[d]
 clear h1 b d c;go_wp2_with fail
 all_goals go_ret
 all_goals exact⟨WU,f.o⟩
theorem Tl(l:aC)(k:Nat)(x:Int):(l++List.replicate (k+1) 0).set l.length x=(l++[x])++List.replicate k 0:=by
 rw[List.set_append_right _ _ bW,Nat.sub_self,List.replicate_succ,List.set_cons_zero];simp
theorem VZ(l:aC)(x:Int)(r:aC):nth ((l++[x])++r) l.length=x:=xa
theorem Mo(l:aC)(k:Nat):nth (l++List.replicate (k+1) 0) l.length=0:=xa
structure LyI(w:ahh)(l:List (Int×Int))(B:aA)(bn:Nat)(W Q:aC)(A C:aA)(m:Nat):Prop where
 tb:TbS w w.heap.size l B
 tl:l.length=bn
 bl:bn<=1000
 wi:bH w w.heap.size .i64 A m W
 qi:bH w w.heap.size .i64 C m Q
 wr:∀i,i<m->-9223372036854775808<=nth W i/\nth W i<=9223372036854775807
 ml:m<=1000
def PLy(w:ahh)(L:aC)(m:Nat)(e:ahn)(a:ahh):Prop:=∃(A:aA) (c:Nat),e=.returned (.slice A m c)/\Own a w.heap.size 3 .i64 A m c L/\az w a
theorem Jy(l:List (Int×Int))(every:Int)(W Q:aC){i:Nat}(b:i<Q.length)(x:Int)(a:x=if i=0 then 0 else qQ (ly l every (gI l every W Q i).2) (gI l every W Q i).2 (nth W i) (nth Q i)):gI l every W Q (i+1)=((gI l every W Q i).1++[x],ahl (x+nth W i)):=by
 rw[a,gI];simp only[b,if_true]
theorem Dt(l:List (Int×Int))(every x:Int):∃v k,ly l every x=(v,k):=⟨_,_,rfl⟩
theorem aaV(l:aC)(k:Nat):l++List.replicate (k+1) 0=(l++[0])++List.replicate k 0:=by rw[List.replicate_succ];simp
theorem abe(l:List (Int×Int))(B:aA)(N bc:Nat)(every:Int)(W Q:aC)(A C:aA)(m c d:Nat)(w:ahh)(h:LyI w l B N W Q A C m):ahk prog 76 #[.slice B N bc,ae aj every,.slice A m c,.slice C m d] w (PLy w (gI l every W Q m).1 m):=by
 have I:=sH h;have hm:=h.ml;have Wu:=h.qi.len;clear h;have zz:aq ((prog.info? 3).map (·.zero)=some (some (ae aj 0))):=⟨aF⟩;have⟨L,R⟩:=eY ((gI l every W Q m).1);have HL:=sH R;rw[R];clear R;go_enter func76,ntmps76;go_wp2_with (at_make;refine eh vi zz.o rfl _ _ rfl m rfl rfl rfl rfl ak w.heap.size bW ?_;intro g w1 o1 b1;have O1:=sH o1;have B1:=sH b1;clear o1 b1);go_loopg[10,11,12,13,19](m+1)(fun gg v10 _ _ _ Y wr=>∃(i:Nat) (X:Int),m-i<gg/\i<=m/\v10=ae aj X/\Y=ae aj (i:Int)/\aq (X=(gI l every W Q i).2)/\aq (Own wr w.heap.size 3 .i64 (some ⟨g,0,none⟩) m m ((gI l every W Q i).1++List.replicate (m-i) 0))/\aq (az w wr))
 .exact⟨0,0,ak,ak,rfl,rfl,⟨rfl⟩,⟨O1.o⟩,B1⟩
 obtain⟨i,X,hg,hi,rfl,rfl,HX,O,o⟩:=hrel;have n:=o.o.size;by_cases b:i<m;rotate_left
 .have i4:=cv i m
  obtain rfl:i=m:=ak;have t:aq (Own wr w.heap.size 3 .i64 (some ⟨g,0,none⟩) i i L):=⟨by have:=O.o;rw[Nat.sub_self,List.replicate_zero,List.append_nil,HL.o]at this;exact this⟩;go_wp2;go_ret;exact⟨_,i,rfl,t.o,o.o⟩
 have i4:=aU i m;obtain⟨ad,eA,jB,r⟩:=I.o.wi.2 ak;obtain⟨eJ,eC,_,q⟩:=(I.o.qi.Z o.o).2 ak;subst eA;subst eC;have e0:=(o.o.cell Bq).trans (r i b);have e1:=q i b;have H:=I.o.wr i b;have ST:aq (∀x,(x=if i=0 then 0 else qQ (ly l every X) X (nth W i) (nth Q i))->gI l every W Q (i+1)=((gI l every W Q i).1++[x],ahl (x+nth W i))):=⟨fun x a=>Jy l every W Q ak x (by rw[a,HX.o])⟩;generalize nth W i=y at*;generalize nth Q i=z at*;have G:=sH hg;clear r q hg jB;have⟨x,a⟩:∃x,(if i=0 then 0 else qQ (ly l every X) X y z)=x:=⟨_,rfl⟩;have f:=sH (ST.o x a.symm);have F:=tS l every W Q i;have O5:aq (∀S v,Own S w.heap.size 3 .i64 (some ⟨g,0,none⟩) m m ((gI l every W Q i).1++List.replicate (m-i) 0)->v=x->Own (S.setCell ⟨g,i,none⟩ (ae aj v)) w.heap.size 3 .i64 (some ⟨g,0,none⟩) m m ((gI l every W Q (i+1)).1++List.replicate (m-(i+1)) 0)):=⟨fun S v h hv=>by
  have K:=Own.uw h i v;rw[show m-i=(m-(i+1))+1 by omega]at K;have k:=Tl (gI l every W Q i).1 (m-(i+1)) v;rw[F]at k;rw[k]at K;rw[f.o,<-hv];exact K⟩
 have N0:aq (nth ((gI l every W Q i).1++List.replicate (m-i) 0) i=0):=⟨by
  have k:=Mo (gI l every W Q i).1 (m-(i+1));rw[F]at k;rwa [show m-i=(m-(i+1))+1 by omega]⟩
 have N1:aq (nth ((gI l every W Q (i+1)).1++List.replicate (m-(i+1)) 0) i=x):=⟨by
  have k:=VZ (gI l every W Q i).1 x (List.replicate (m-(i+1)) 0);rw[F]at k;rw[f.o];exact k⟩
 clear ST F;go_upto_if 25 with fail;go_cut[13](fun _ wx=>aq (Own wx w.heap.size 3 .i64 (some ⟨g,0,none⟩) m m ((gI l every W Q (i+1)).1++List.replicate (m-(i+1)) 0))/\aq (az w wx))
 ·
  rcases Nat.eq_zero_or_pos i with J|J
  .rw[if_pos J]at a
   have E:aq ((gI l every W Q i).1++List.replicate (m-i) 0=(gI l every W Q (i+1)).1++List.replicate (m-(i+1)) 0):=⟨by
    rw[f.o,<-a,show m-i=(m-(i+1))+1 by omega];exact aaV _ _⟩
   have t:=sH O.o;rw[E.o]at t;have hni:¬0<i:=ak;clear J a;go_wp2;go_meet;exact⟨t,o⟩
  .rw[if_neg ak]at a
   obtain⟨tv,tk,hT⟩:=Dt l every X;have P:=sH (VB l B N bc every X wr (I.o.tb.Z o.o n) I.o.tl I.o.bl);unfold PNt at P;rw[hT]at P a;have U:=sH a;have CP:=sH (fun W=>Lh tk tv X y z H W);clear a hT;go_wp2_with fail;refine P.o.mono ?_;rintro e w2 ⟨rfl,D⟩;go_wp2_with fail;refine(CP.o _).mono ?_;rintro e w3 ⟨rfl,Z⟩;have u:=sH ((O.o.ar D).ar Z);have B4:=sH ((o.o.trans (D.mono n)).trans (Z.mono (Nat.le_trans n D.size)));have V:=(aw.xD u.o).1;have f1:=aw.frozenAt u.o i;have M:=bT u.o (j:=i) b;rw[N0.o]at M;rw[U.o];clear D Z e0 e1;have s:=sH (O5.o w3 x u.o rfl);have T:=sH (Below.setCell B4.o (p:=⟨g,i,none⟩) V (ae aj x));go_wp2;go_meet;exact⟨s,T⟩
 obtain⟨s,T⟩:=hcut;have M:=bT s.o (j:=i) b;rw[N1.o]at M;clear e0 e1 a;go_wp2;go_roundg(m-i)
 .exact⟨i+1,_,ak,ak,rfl,aT,⟨by rw[f.o]⟩,s,T⟩
 have:=G.o;omega
theorem N4(lv:Int)(w:ahh):ahk prog 86 #[ae aj lv] w fun e a=>e=.returned (.bool (zN lv))/\az w a:=by
 rw[<-abp];go_enter func86,ntmps86;go_wp2;go_ret;exact⟨aQ,Below.refl _ _⟩
structure uZ(w wr:ahh)(g bx bo:Nat)(G:aA)(m c:Nat)(o:aC)(X:Int):Prop where
 cl:Bx wr w.heap.size #[.slice G m c]
 co:Bx wr bo #[.slice (some ⟨g,0,none⟩) m m]
 cx:Bx wr bx #[ae aj X]
 ow:Own wr (w.heap.size+1) 3 .i64 (some ⟨g,0,none⟩) m m o
 be:az w wr
 h1:g<bo
 h2:bo<bx
theorem uZ.ar{b:ahh}{d:Nat}{G:aA}(h:uZ w wr g bx d G m c o X)(a:az wr b):uZ w b g bx d G m c o X:=
 ⟨h.cl.ar a h.cl.lt,h.co.ar a h.co.lt,h.cx.ar a h.cx.lt,h.ow.ar a,h.be.trans (a.mono h.be.size),h.h1,h.h2⟩
theorem uZ.new{b a d:ahh}{G:aA}{xs:aC}{o k:ahm}(l:az w b)(f:Bx b w.heap.size #[.slice G m c])(j:b.heap.size=w.heap.size+1)(o1:Own a b.heap.size 3 .i64 (some ⟨g,0,none⟩) m m xs)(e:az b a)(h:d=(a.alloc (.cells #[.slice (some ⟨g,0,none⟩) m m] o)).alloc (.cells #[ae aj x] k)):uZ w d g (a.heap.size+1) a.heap.size G m c xs x:=by
 have n:=e.size;have i:az a d:=Zi;refine⟨(f.ar e f.lt).ar i (by have:=f.lt;omega), ?_, ?_, ?_,l.trans ((e.trans (i.mono n)).mono ak),(aw.xD o1).2,ak⟩
 .rw[h]
  exact(Bx.new a _ _).ar (av _ _) aQ
 .rw[h]
  exact Bx.gY _ _ _ aQ
 .rw[<-j]
  exact Own.ar o1 i
theorem uZ.set{G:aA}(h:uZ w wr g bx a G m c o X)(i:Nat)(y:Int):uZ w (wr.setCell ⟨g,i,none⟩ (ae aj y)) g bx a G m c (o.set i y) X:=by
 obtain⟨b,d⟩:=aw.xD h.ow;have:=h.h1;have:=h.h2;exact⟨h.cl.fE ak _ _,h.co.fE ak _ _,h.cx.fE ak _ _,Own.uw h.ow i y,Below.setCell h.be (p:=⟨g,i,none⟩) (by show w.heap.size<=g;omega) _,h.h1,h.h2⟩
theorem uZ.afT{d:Nat}{G:aA}(h:uZ w wr g bx d G m c o X)(y:Int):uZ w (wr.setCell ⟨bx,0,none⟩ (ae aj y)) g bx d G m c o y:=by
 obtain⟨e,i⟩:=aw.xD h.ow;have:=h.h1;have:=h.h2;exact⟨h.cl.fE ak _ _,h.co.fE ak _ _,h.cx.jR 0 _,Own.mu h.ow (fun f b=>by injection b with b;injection b with b;intro a;injection a with a;injection a with a;omega) _,Below.setCell h.be (p:=⟨bx,0,none⟩) (by show w.heap.size<=bx;omega) _,h.h1,h.h2⟩
theorem J5{b:Addr}(h:uZ w wr g bx k (some b) m c o X){i:Nat}(p:i<m){f:Int}(hb:b.block<w.heap.size)(n:w.cell? (bP (b.add (i*10)) 2)=some (ae aj f)):
 ahk prog 256 #[ae aj (i:Int),.pointer (some ⟨bx,0,none⟩),.pointer (some ⟨k,0,none⟩),.pointer (some ⟨w.heap.size,0,none⟩)] wr fun e l=>e=.returned (.tuple #[])/\uZ w l g bx k (some b) m c (o.set i X) (ahl (X+f)):=by
 have s:=h.co.cell 0;have u:=h.cx.cell 0;have f1:=aw.frozenAt h.ow i;have r:=bT h.ow (j:=i) p;have a:=sH (h.set i X);have x:=aU i m;generalize nth o i=z at*;go_enter func256,ntmps256;go_upto_region 1 with fail;have⟨y,d⟩:=eY (wr.setCell ⟨g,i,none⟩ (ae aj X));rw[d]at a⊢;have t:=a.o.cl.cell 0;have A:=a.o.cx.cell 0;have v:=(a.o.be.cell Kg).trans n;have f2:=a.o.cx.fz 0;have q:=sH (a.o.afT (ahl (X+f)));go_region;go_end0;exact⟨rfl,q.o.ar (bC (Below.refl _ _))⟩
theorem VR{j e i f b a k g d c:Int}(h:W=w.alloc (.cells #[ae aj j,ae aj e,ae aj i,ae aj f,ae aj b,ae aj a,ae aj k,ae aj g,ae aj d,ae aj c] t)):W.cell? ⟨w.heap.size,5,none⟩=some (ae aj a):=by
 rw[h,cell_of_row _ _ _ _ _ _ (heap_alloc_new w _)];rfl
theorem WK(gs:List aC)(G:aA)(m c a:Nat)(w:ahh)(h:J4 w w.heap.size gs a m G)(O:m<=100000):ahk prog 224 #[.slice G m c] w fun e u=>e=.returned (ae aj (ahl (AU gs a m)))/\az w u:=by
 have R:=sH h;clear h;have⟨L,d⟩:=eY (ahl (AU gs a m));have p:=sH d;rw[d];clear d;go_enter func224,ntmps224;go_wp2;go_loopg[3,8](m+1)(fun gg v3 z wr=>∃(i:Nat) (X:Int),m-i<gg/\i<=m/\v3=ae aj X/\z=ae aj (i:Int)/\aq (X=ahl (AU gs a i))/\aq (az w wr))
 .exact⟨0,0,ak,ak,rfl,rfl,⟨N7.symm⟩,cA⟩
 obtain⟨i,X,n,M,rfl,rfl,o,BE⟩:=hrel;by_cases g:i<m;rotate_left
 .have E:=cv i m
  obtain rfl:i=m:=ak;have k:aq (X=L):=⟨by rw[o.o,p.o]⟩;go_wp2;go_ret;exact⟨by rw[k.o];rfl,BE.o⟩
 have E:=aU i m;obtain⟨N,I,x,l,q,B,r,v,D,s,F,rfl,b,c0,A,C,K,c4,c5,c6,t,c8,J⟩:=(R.o.Z BE.o BE.o.size).bD g;have j:aq (ahl (X+l)=ahl (AU gs a (i+1))):=⟨by show _=ahl (AU gs a i+nth (fC gs (a+i)) 2);rw[b,o.o,sG];rfl⟩;have f:=sH n;clear b n;have⟨H,bU⟩:=eX ((wr:ahh).alloc (.cells #[ae aj I,ae aj x,ae aj l,ae aj q,ae aj B,ae aj r,ae aj v,ae aj D,ae aj s,ae aj F] 120));obtain⟨P,g2⟩:=xH bU;have y:aq (az w H):=⟨abt⟩;go_upto_region 5 with fail;rw[<-bU];clear bU c0 A C K c4 c5 c6 t c8 J;go_wp2;go_roundg(m-i)
 .exact⟨i+1,_,ak,ak,rfl,aT,j,y⟩
 have:=f.o;omega
def aaY(gs:List aC)(a m:Nat):Prop:=∀j,j<m->-1<=nth (fC gs (a+j)) 5/\nth (fC gs (a+j)) 5<=1000000
theorem Ol(gs:List aC)(G:aA)(m c a:Nat)(lv:Int)(w:ahh)(h:J4 w w.heap.size gs a m G)(hn:m<=100000)(ha:a<=100000)(ht:aaY gs a m):ahk prog 225 #[.slice G m c,ae aj (a:Int),ae aj lv] w (POg w m (Cy gs a m (zN lv))):=by
 have R:=sH h;have TO:=sH ht;clear h ht;have zz:aq ((prog.info? 3).map (·.zero)=some (some (ae aj 0))):=⟨aF⟩;have OD:=sH (fun W=>N4 lv W);have⟨d,K⟩:=eY (zN lv);rw[K]at OD⊢;have HL:aq (∀o,o=(yj gs a m d m).1->yo gs a o m=Cy gs a m d):=⟨fun o h=>by rw[h];rfl⟩;generalize Cy gs a m d=L at*;clear K;have⟨S,aP⟩:=eX (w.alloc (.cells #[.slice G m c] 46));have X1:aq (Bx S w.heap.size #[.slice G m c]):=⟨vz⟩;have B1:aq (ahi w.heap.size w S):=⟨qS⟩;have kU:aq (S.heap.size=w.heap.size+1):=⟨oO⟩;go_enter func225,ntmps225;go_upto_region 1 with fail;rw[<-aP];clear aP;have c0:=X1.o.cell 0;go_upto_region 3 with(at_make;refine eh vi zz.o rfl _ _ rfl m rfl rfl rfl rfl ak S.heap.size bW ?_;intro g Z o1 b1;have O1:=sH o1;have P:=sH b1;clear o1 b1)
 have⟨W3,r⟩:=eX ((Z.alloc (Obj.cells #[Value.slice (some ⟨g,0,none⟩) m m] 39)).alloc (Obj.cells #[Value.int IntKind.i64 0] 3));have S3:=sH (uZ.new B1.o X1.o kU.o O1.o P.o r);rw[<-r];clear r c0 X1 O1;generalize Z.heap.size+1=bx at*;generalize Z.heap.size=s at*;clear P;have F:=S3.o.cl.cell 0;go_wp2;go_loopg[10,20](m+1)(fun gg v10 v20 wr=>∃(k:Nat) (X:Int),m-k<gg/\k<=m/\v20=ae aj (k:Int)/\aq (X=(yj gs a m d k).2)/\aq (uZ w wr g bx s G m c (yj gs a m d k).1 X))
 .exact⟨0,0,ak,ak,rfl,⟨rfl⟩,S3⟩
 obtain⟨k,X,hg,hk,rfl,HX,Q⟩:=hrel;by_cases n:k<m;rotate_left
 .have i4:=cv k m
  obtain rfl:k=m:=ak;have N:aq (uZ w wr g bx s G k c (yo gs a (yj gs a k d k).1 0) X):=Q;have HL2:aq (yo gs a (yj gs a k d k).1 k=L):=⟨HL.o _ rfl⟩;generalize(yj gs a k d k).1=o at*;have H:=N.o.cl.cell 0;clear HX Q HL S3 F;go_wp2;go_loopg[11,12,13,38](k+1)(fun gg _ _ _ V wr=>∃(i:Nat),k-i<gg/\i<=k/\V=ae aj (i:Int)/\aq (uZ w wr g bx s G k c (yo gs a o i) X))
  .exact⟨0,ak,ak,rfl,N⟩
  obtain⟨i,O,C,rfl,x⟩:=hrel;have Cp:=x.o.be.size;by_cases n:i<k;rotate_left
  .have i4:=cv i k
   obtain rfl:i=k:=ak;have l:aq (uZ w wr g bx s G i c L X):=⟨by rw[<-HL2.o];exact x.o⟩;have T:=l.o.co.cell 0;go_wp2;go_ret;exact⟨_,i,rfl,l.o.ow.gF ak,l.o.be⟩
  have i4:=aU i k;obtain⟨J,x0,x1,v,x3,x4,f,x6,x7,x8,x9,eG,p,c0,F,H,T,c4,c5,c6,c7,c8,c9⟩:=(R.o.Z x.o.be Cp).bD n;subst eG;have u:nth (fC gs (a+i)) 5=f:=by rw[p];rfl
  have q:aq (yo gs a o (i+1)=if(a:Int)<=f/\f<(a:Int)+i then(yo gs a o i).set i (nth (yo gs a o i) (f-a).toNat)else yo gs a o i):=⟨by rw[yo,u]⟩;have b:=sH O;obtain⟨l1,l2⟩:=TO.o i n;rw[u]at l1 l2;clear u O p;have⟨W2,bU⟩:=eX ((wr:ahh).alloc (.cells #[ae aj x0,ae aj x1,ae aj v,ae aj x3,ae aj x4,ae aj f,ae aj x6,ae aj x7,ae aj x8,ae aj x9] 120));have g5:=VR bU;have P:aq (ahi wr.heap.size wr W2):=⟨jx⟩;have l:=sH (x.o.ar P.o);go_upto_region 14 with fail;rw[<-bU];clear bU c0 F H T c4 c5 c6 c7 c8 c9;by_cases A:(a:Int)<=f/\f<(a:Int)+i
  .obtain⟨h,hh⟩:∃h:Nat,f-(a:Int)=h:=⟨(f-a).toNat,ak⟩
   have GM:h<i:=ak;rw[if_pos A,hh,Int.toNat_natCast]at q;have d0:(f== -1)=false:=pI;have d1:decide (0<=(h:Int))=true:=aQ;have ahd:=aU h i;have e3:=bT l.o.ow (j:=h) ak;have f1:=aw.frozenAt l.o.ow i;have e4:=bT l.o.ow (j:=i) n;have T:=l.o.co.cell 0;have hhk:=aU h k;have B:=sH (l.o.set i (nth (yo gs a o i) h));rw[<-q.o]at B;generalize nth (yo gs a o i) h=y at*;generalize nth (yo gs a o i) i=z at*;clear A q;go_upto_region 16 with fail;go_region;have S9:=sH (B.o.ar (bC (Below.refl _ _)));go_wp2;go_roundg(k-i)
   .exact⟨i+1,ak,ak,aT,S9⟩
   have:=b.o;omega
  .rw[if_neg A]at q
   have B:aq (uZ w W2 g bx s (some J) k c (yo gs a o (i+1)) X):=⟨by rw[q.o];exact l.o⟩;have⟨h,hh⟩:=eY (f-(a:Int));have hhr: -1000000<=h/\h<=1000000:=ak;clear q;cases d0:(f== -1)
   .by_cases d1:0<=h
    .have d2:decide (0<=h)=true:=Kc
     have d3:¬h<(i:Int):=ak;clear A;go_wp2;go_roundg(k-i)
     .exact⟨i+1,ak,ak,aT,B⟩
     have:=b.o;omega
    .have d2:decide (0<=h)=false:=gW
     have d3:h<0:=ak;have d4:¬h<(i:Int)∨True:=.inr trivial;clear A d1 d4;go_wp2_with fail
     all_goals(have hgm:=b.o;go_roundg(k-i)<;>first|omega|exact⟨i+1,ak,ak,aT,B⟩)
   .have U:f= -1:=by simpa using d0
    have d2:decide (0<=h)=false:=gW;have d3:h<0:=ak;clear A U;go_wp2_with fail
    all_goals(have hgm:=b.o;go_roundg(k-i)<;>first|omega|exact⟨i+1,ak,ak,aT,B⟩)
 have i4:=aU k m;have⟨i,C⟩:=eY (if d=true then m-1-k else k);have t:i<m:=by rw[<-C];exact abb (a:=0) (gs:=[]) n
 obtain⟨J,x0,x1,v,x3,x4,f,x6,x7,x8,x9,eG,p,c0,F,H,_⟩:=R.o.bD t;obtain⟨ik,D,Y,_⟩:=R.o.2 i t;subst eG;obtain rfl:J=ik:=by injection D
 have M:nth (fC gs (a+i)) 2=v:=by rw[p];rfl
 have q:aq (yj gs a m d (k+1)=((yj gs a m d k).1.set i X,ahl (X+v))):=⟨by rw[yj,C,M,HX.o]⟩;have b:=sH hg;clear c0 F p M hg D;go_wp2_with fail;refine(OD.o _).mono ?_;rintro e w2 ⟨rfl,b2⟩;have N:=sH (Q.o.ar b2);have PS:=sH (J5 N.o t Y H);have T:=N.o.cl.cell 0;have x:aq (∀w',uZ w w' g bx s (some J) m c ((yj gs a m d k).1.set i X) (ahl (X+v))->uZ w w' g bx s (some J) m c (yj gs a m d (k+1)).1 (ahl (X+v))):=⟨fun w' h=>by rw[q.o];exact h⟩;have I:aq (ahl (X+v)=(yj gs a m d (k+1)).2):=⟨by rw[q.o]⟩;clear Q b2 H;cases d
 .obtain rfl:k=i:=by simpa using C
  go_wp2_with fail;go_at_call 256;refine PS.o.mono ?_;rintro e w3 ⟨rfl,E⟩;have l:=sH (x.o _ E);clear E;go_wp2;go_roundg(m-k)
  .exact⟨k+1,_,ak,ak,aT,I,l⟩
  have:=b.o;omega
 .have nA:m-1-k=i:=by simpa using C
  have Sk:(m:Int)-1-(k:Int)=(i:Int):=ak;clear C nA;go_wp2_with fail;go_at_call 256;refine PS.o.mono ?_;rintro e w3 ⟨rfl,E⟩;have l:=sH (x.o _ E);clear E;go_wp2;go_roundg(m-k)
  .exact⟨k+1,_,ak,ak,aT,I,l⟩
  have:=b.o;omega
structure GQ(bb:Nat)(w2 W:ahh)(x0 x1 x2 x4:Int)(rs:List fK)(G:aA)(gc:Nat)(A:aA)(L:aC):Prop where
 bx:Bx W bb #[ae aj x0,ae aj x1,ae aj x2,ae aj 0,ae aj x4,.slice G rs.length gc]
 own:aw W w2.heap.size 101 4 G rs.length gc (rs.flatMap jZ)
 be:ahi bb w2 W
 lt:bb<w2.heap.size
 at_:∀j,j<L.length->∃ga,A=some ⟨ga,0,none⟩/\ga<w2.heap.size/\ga≠bb/\W.cell? ⟨ga,j,none⟩=some (ae aj (nth L j))
theorem nP{a:ahh}{p:Addr}(h:a.heap[p.block]? =w.heap[p.block]?):a.cell? p=w.cell? p:=by
 unfold World.cell?;rw[h]
theorem Bx.kN{x0 x1 x2 c x4 a:ahj}(h:Bx w b #[x0,x1,x2,c,x4,a]):w.cell? ⟨b,0,none⟩=some x0/\w.cell? ⟨b,1,none⟩=some x1/\w.cell? ⟨b,2,none⟩=some x2/\w.cell? ⟨b,3,none⟩=some c/\w.cell? ⟨b,4,none⟩=some x4/\w.cell? ⟨b,5,none⟩=some a:=⟨h.cell 0,h.cell 1,h.cell 2,h.cell 3,h.cell 4,h.cell 5⟩
section
variable{bb:Nat}{w2 W W':ahh}{x0 x1 x2 x4:Int}{rs:List fK}{G:aA}{gc:Nat}{A:aA}{L:aC}
theorem GQ.new{a:ahh}(h:Bx a bb #[ae aj x0,ae aj x1,ae aj x2,ae aj 0,ae aj x4,.slice none 0 0])(e:az a w2)(b:Own w2 a.heap.size 3 .i64 A m c L):GQ bb w2 w2 x0 x1 x2 x4 [] none 0 A L:=by
 have f:=h.lt;have l:L.length=m:=b.len;refine⟨h.ar e f,aw.nil _ _ _ _,Below.refl _ _,by have:=e.size;omega,fun j k=> ?_⟩;obtain⟨g,rfl,i,d⟩:=aw.form b ak;exact⟨g,rfl,d,ak,bT b ak⟩
theorem GQ.ar(h:GQ bb w2 W x0 x1 x2 x4 rs G gc A L)(a:az W W'):GQ bb w2 W' x0 x1 x2 x4 rs G gc A L:=by
 have k:=h.be.size;have f:=h.lt;refine⟨h.bx.ar a h.bx.lt,aw.ar h.own a,h.be.trans (a.mono ak),f,fun j c=> ?_⟩;obtain⟨b,e,d,i,g⟩:=h.at_ j c;exact⟨b,e,d,i,(a.cell (by show b<_;omega)).trans g⟩
theorem GQ.push{n f:ahh}{p:fK}{d:aA}(h:GQ bb w2 W x0 x1 x2 x4 rs G gc A L)(t:az W n)(o:aw f w2.heap.size 101 4 d (rs.length+1) b (rs.flatMap jZ++jZ p))(i:ahi w2.heap.size n f):GQ bb w2 (f.setCell ⟨bb,5,none⟩ (.slice d (rs.length+1) b)) x0 x1 x2 x4 (rs++[p]) d b A L:=by
 have k:=h.ar t;have l:=h.lt;have bx:=(k.bx.ar i l).jR 5 (.slice d (rs.length+1) b);have q:(rs++[p]).length=rs.length+1:=aQ;refine⟨by rw[q];exact bx, ?_,Below.setCell (k.be.trans (i.mono ak)) (p:=⟨bb,5,none⟩) bW _,l,fun j u=> ?_⟩
 .rw[q,List.flatMap_append,show [p].flatMap jZ=jZ p by simp]
  refine aw.mu o (fun g e=> ?_) _;have a:=o;rw[e]at a;have:=(aw.xD a).1;intro c;injection c with c
  injection c with c
  omega
 .obtain⟨m,e,s,r,a⟩:=k.at_ j u
  exact⟨m,e,s,r,(nP (Below.heap_setCell _ _ _ _ r)).trans ((i.cell (by show m<_;omega)).trans a)⟩
end
def PGb(w:ahh)(g:aZ)(e:ahn)(a:ahh):Prop:=∃(G:aA) (gc:Nat),e=.returned (.agg #[ae aj g.f,ae aj g.t,ae aj g.lv,ae aj g.x,ae aj g.wd,.slice G g.gs.length gc])/\iD a w.heap.size G gc g.gs/\az w a
def wh(b:Int)(gs:List aC)(a m:Nat)(c:Bool)(k:Nat):List fK:=(List.range k).map (aaw b gs a m c)
theorem JS(b:Int)(gs:List aC)(a m:Nat)(c:Bool)(k:Nat):(wh b gs a m c k).length=k:=by simp[wh]
theorem Ex(b:Int)(gs:List aC)(a m:Nat)(c:Bool)(k:Nat):wh b gs a m c (k+1)=wh b gs a m c k++[aaw b gs a m c k]:=by simp[wh,List.range_succ]
theorem Ns(gs:List aC)(a m:Nat)(b:Bool):(Cy gs a m b).length=m:=by unfold Cy;rw[GH,Hu]
abbrev mx(A:aA)(n c:Nat)(i e v:Int):Array ahj:=#[.slice A n c,ae aj i,ae aj e,ae aj v]
abbrev En.row(x:En):Array ahj:=#[ae aj x.1,ae aj x.2.1,.bool x.2.2]
def uP(w:ahh)(N:Nat)(A:aA)(n c:Nat)(v:Int):Prop:=n<=N/\n<=c/\c<=9223372036854775807/\∃es,yH w w.heap.size A n es/\ib es v
def Ml(w:ahh)(N:Nat)(e:ahn)(w':ahh):Prop:=∃(A:aA) (n c:Nat) (i a v:Int),e=.returned (.agg (mx A n c i a v))/\uP w' N A n c v/\az w w'
section
variable{w w':ahh}{N M n c B:Nat}{A:aA}{v:Int}{es:List En}{e:ahm}
theorem uP.ar(h:uP w N A n c v)(a:az w w'):uP w' N A n c v:=by
 obtain⟨d,g,f,es,b,i⟩:=h;exact⟨d,g,f,es,b.Z a a.size,i⟩
theorem uP.more(h:uP w N A n c v)(a:N<=M):uP w M A n c v:=by
 obtain⟨b,h⟩:=h;exact⟨ak,h⟩
theorem Ah(h:aw w B 130 3 A n c (es.flatMap KG))(f:es.length=n)(i:∀g:Nat,B<=g->w'.heap[g]? =w.heap[g]?):yH w' w'.heap.size A n es:=by
 refine UK (B:=B) (c:=c) ⟨h.1, ?_⟩ f;rcases h.2 with j|⟨b,cap,cur,k,a,d,r⟩
 .exact .inl j
 .exact .inr ⟨b,cap,cur,k,a,(i b a).trans d,r⟩
end
theorem zr{w:ahh}{a d:Array ahj}{b g:ahm}(h:W=(w.alloc (.cells a b)).alloc (.cells d g)):az w W/\Bx W w.heap.size a/\Bx W (w.heap.size+1) d:=by
 have i:(w.alloc (.cells a b)).heap.size=w.heap.size+1:=aQ;have f:ahi (w.alloc (.cells a b)).heap.size (w.alloc (.cells a b)) W:=Ke;exact⟨(av _ _).trans (f.mono ak),(Bx.new _ _ _).ar f ak,by rw[h];exact Bx.gY _ _ _ i⟩
theorem lZ(w:ahh)(cs:List ahj)(t:ahm):∀j u,cs[j]? =some u->(w.alloc (.cells cs.toArray t)).cell? ⟨w.heap.size,j,none⟩=some u:=fun j u h=>by
 rw[cell_of_row _ _ _ _ _ _ (heap_alloc_new w _)];simpa using h
theorem aw.aa9{w:ahh}{B n c:Nat}{e:ahm}{A:aA}{vs:List ahj}(h:aw w B e b A n c vs)(j:a<=B):aw w a e b A n c vs:=by
 refine⟨h.1, ?_⟩;rcases h.2 with f|⟨g,cap,cur,d,i,r⟩
 .exact .inl f
 .exact .inr ⟨g,cap,cur,d,ak,r⟩
theorem Aw(w:ahh){g b:Nat}(d:b≠g)(o:Nat)(u:ahj)(ds:Array ahj){g2:Nat}(a:b≠g2):((w.setCell ⟨g,o,none⟩ u).setRow g2 ds).heap[b]? =w.heap[b]? :=(setRow_other _ _ _ _ a).trans (Below.heap_setCell w ⟨g,o,none⟩ u b d)
theorem Bx.q4{w:ahh}{g a f d:ahj}(h:Bx w b #[g,a,f,d]):w.cell? ⟨b,0,none⟩=some g/\w.cell? ⟨b,1,none⟩=some a/\w.cell? ⟨b,2,none⟩=some f/\w.cell? ⟨b,3,none⟩=some d:=⟨h.cell 0,h.cell 1,h.cell 2,h.cell 3⟩
theorem Sv{w:ahh}{B:Nat}{l o:Int}{b:Bool}(d:w.heap[g]? =some (.cells #[ae aj l,ae aj o,.bool b] 130 (0,0)))(f:g<B):yH w B (some ⟨g,0,none⟩) 1 [(l,o,b)]:=⟨rfl,fun _=>⟨_,rfl,f,⟨_,_,d⟩,fun j e a=>by
 have h:Bx w g #[ae aj l,ae aj o,.bool b]:=⟨_,d⟩;obtain rfl:j=0:=by have:=(List.getElem?_eq_some_iff.1 a).1;simpa using this
 simp at a;subst a;exact⟨h.cell 0,h.cell 1,h.cell 2⟩⟩⟩
theorem UW:aR prog 125 130 3 24:=bu underlying125 (z:=.agg #[ae aj 0,ae aj 0,.bool false]) aF rfl ak ak
theorem lD(z:Int)(w:ahh):ahk prog 27 #[ae aj z] w (PB w):=by
 go_enter func27,ntmps27;go_wp2_with fail
 all_goals
  go_ret;exact⟨_,rfl,Below.refl _ _⟩
theorem DI(z:Int)(b:Bool)(w:ahh):ahk prog 129 #[ae aj z,.bool b] w (PI w):=by
 go_enter func129,ntmps129;go_wp2_with fail
 all_goals
  go_ret;exact⟨_,rfl,Below.refl _ _⟩
theorem Fh(b:Int)(w:ahh):ahk prog 58 #[ae aj b] w (Ml w 1):=by
 go_enter func58,ntmps58;go_wp2_with fail;have d:(w.alloc (.cells #[.slice (some ⟨w.heap.size+1,0,none⟩) 1 1,ae aj 0,ae aj 0,ae aj 0] 127)).heap.size=w.heap.size+1:=aQ;have X:=heap_alloc_new (w.alloc (.cells #[.slice (some ⟨w.heap.size+1,0,none⟩) 1 1,ae aj 0,ae aj 0,ae aj 0] 127)) (.cells #[ae aj b,ae aj 0,.bool false] 130);rw[d]at X;have Y:=(Bx.new w #[.slice (some ⟨w.heap.size+1,0,none⟩) 1 1,ae aj 0,ae aj 0,ae aj 0] 127).ar (av _ (.cells #[ae aj b,ae aj 0,.bool false] 130)) aQ;obtain⟨f,a⟩:=Y.heap;refine bodyPost_ret (results_cell_row results58 _ _ w.heap.size f _ (0,0) _ aB a underlying127 rfl aF) rfl ?_;exact⟨_,_,_,_,_,_,rfl,⟨ak,ak,ak,_,Sv X aQ,yP b⟩,(av _ _).alloc aQ _⟩
theorem nT(A:aA)(n c:Nat)(i q v:Int)(es:List En)(w:ahh)(h:yH w w.heap.size A n es)(J:0<n)(F:n<=1000000):ahk prog 59 #[.agg (mx A n c i q v)] w (fun e w'=>∃(l o:Int) (b:Bool),es[n-1]? =some (l,o,b)/\e=.returned (.agg #[ae aj l,ae aj o,.bool b])/\az w w'):=by
 have⟨I,a⟩:=eX ((w.alloc (.cells #[.slice A n c,ae aj i,ae aj q,ae aj v] 127)).alloc (.cells #[ae aj 0,ae aj 0,.bool false] 130));have p:=zr a;have m:=sH p.1;have C:=sH p.2.1;have r:=sH p.2.2;have⟨c0,G,t,L⟩:=C.o.q4;obtain⟨k,rfl⟩:∃k,n=k+1:=⟨n-1,ak⟩;obtain⟨H,x,rfl,s,D,K,E⟩:=(h.Z m.o m.o.size).at (j:=k) ak;have y:=sH s;have wk:ahl (k:Int)=(k:Int):=IntWalk.wrap64_in _ ak;have k0:=ie k;have k1:(k:Int)<(k:Int)+1:=ak;obtain⟨d,u⟩:=r.o.heap;have z:=r.o.row (ds:=x.row);obtain⟨g,f⟩:=z.heap;go_enter func59,ntmps59;go_upto_region 1 with fail;rw[<-a];clear a;go_wp2_with (refine wpList_store_row rfl 130 (.tmp 2) (.tmp 10) rfl (w.heap.size+1) x.row rfl aB d _ u aF aB dJ ?_);refine bodyPost_ret (results_cell_row results59 _ _ (w.heap.size+1) g _ (0,0) _ aB f underlying130 rfl aF) rfl ?_;exact⟨x.1,x.2.1,x.2.2,y.o,rfl,below_setRow m.o ak _⟩
theorem OU(A:aA)(n c:Nat)(i b v z:Int)(w:ahh):ahk prog 130 #[.agg (mx A n c i b v),ae aj z] w (PB w):=by
 have⟨d,aP⟩:=eX (w.alloc (.cells #[.slice A n c,ae aj i,ae aj b,ae aj v] 127));have a:aq (az w d):=⟨qS⟩;have h:aq (Bx d w.heap.size #[.slice A n c,ae aj i,ae aj b,ae aj v]):=⟨vz⟩;have⟨c0,k,g,l⟩:=h.o.q4;go_enter func130,ntmps130;go_upto_region 1 with fail;rw[<-aP];clear aP;by_cases j:z<=125
 .by_cases f:(i==0)=true
  .go_wp2
   go_ret;exact⟨_,rfl,a.o⟩
  .have f:(i==0)=false:=by simpa using f
   go_wp2;go_ret;exact⟨_,rfl,a.o⟩
 .go_wp2
  go_ret;exact⟨_,rfl,a.o⟩
theorem XF(A:aA)(n c:Nat)(x:En)(es:List En)(w:ahh)(h:yH w w.heap.size A n es)(Q:n<=1000000):ahk prog 131 #[.slice A n c,.agg x.row] w (fun e w'=>∃(t:aA) (z:Nat),e=.returned (.slice t (n+1) z)/\aw w' w.heap.size 130 3 t (n+1) z ((es++[x]).flatMap KG)/\az w w'):=by
 have⟨i,f,k,D⟩:=box1 w x.row 130;have R:=sH h;have V:=h.1;go_enter func131,ntmps131;go_upto_region 1 with fail;rw[<-f];clear f;go_wp2;go_loopg[5,6](n+1)(fun gg J O wr=>∃(j:Nat) (C:aA) (d:Nat),n-j<gg/\j<=n/\J=.slice C j d/\O=ae aj (j:Int)/\aq (aw wr i.heap.size 130 3 C j d ((es.take j).flatMap KG))/\aq (az i wr))
 .exact⟨0,none,0,ak,ak,rfl,rfl,⟨aw.nil _ _ _ _⟩,cA⟩
 obtain⟨j,C,d,W,X,rfl,rfl,F,a⟩:=hrel;have s:=k.t a.o;by_cases o:j<n
 .have L:=aU j n
  obtain⟨T,y,rfl,I,U,Y,P⟩:=(R.o.Z s.o s.o.size).at o;have m:aq (es.take (j+1)=es.take j++[y]):=⟨by
   obtain⟨H,G⟩:=List.getElem?_eq_some_iff.1 I;rw[List.take_succ_eq_append_getElem H,G]⟩
  have q:=a.o.size;go_wp2_with (at_builtin;refine ca UW rfl (.tmp 13) (.tmp 18) rfl rfl (aw.alloc F.o _) rfl (news:=KG y) rfl (lZ _ (KG y) _) (fun u hu=>Y') ak cw ?_;intro E c8 r g b;have l:=sH g;have p:aq (az i r):=⟨(a.o.alloc ak _).trans b⟩;clear g b);go_roundg(n-j)
  .exact⟨j+1,E,c8,ak,ak,rfl,aT,⟨by rw[m.o,List.flatMap_append];simpa using l.o⟩,p⟩
  omega
 .have L:=cv j n
  obtain rfl:j=n:=ak;obtain⟨c0,S,K⟩:wr.cell? ⟨w.heap.size,0,none⟩=some (ae aj x.1)/\wr.cell? ⟨w.heap.size,1,none⟩=some (ae aj x.2.1)/\wr.cell? ⟨w.heap.size,2,none⟩=some (.bool x.2.2):=by
   have:=D.o.ar a.o D.o.lt;exact⟨this.cell 0,this.cell 1,this.cell 2⟩
  have q:=a.o.size;have m:aq (es.take j=es):=⟨List.take_of_length_le ak⟩;go_wp2_with (at_builtin;refine ca UW rfl (.tmp 20) (.tmp 22) rfl rfl (aw.alloc F.o _) rfl (news:=KG x) rfl (lZ _ (KG x) _) (fun u hu=>Y') ak cw ?_;intro E c8 r g b;have l:=sH g;have p:aq (az i r):=⟨(a.o.alloc ak _).trans b⟩;clear g b);go_ret;refine⟨_,_,rfl,aw.aa9 ?_ k.o.size,k.o.trans (p.o.mono k.o.size)⟩;have:=l.o;rw[m.o]at this;simpa using this
@[go_sem] theorem afO(a b : Int)(c : Bool)(w : ahh) : (Instr.field 130 (.agg #[ae aj a,ae aj b, .bool c]) 0).run prog w = .ok (ae aj a) w := by kernel_rfl
@[go_sem] theorem afw(a b : Int)(c : Bool)(w : ahh) : (Instr.field 130 (.agg #[ae aj a,ae aj b, .bool c]) 1).run prog w = .ok (ae aj b) w := by kernel_rfl
@[go_sem] theorem aga(a b : Int)(c : Bool)(w : ahh) : (Instr.field 130 (.agg #[ae aj a,ae aj b, .bool c]) 2).run prog w = .ok (.bool c) w := by kernel_rfl
theorem FJ{d a e c:ahj}(h:Bx W b #[d,a,e,c])(u:ahj):Bx (W.setCell ⟨b,0,none⟩ u) b #[u,a,e,c]/\Bx (W.setCell ⟨b,1,none⟩ u) b #[d,u,e,c]/\Bx (W.setCell ⟨b,2,none⟩ u) b #[d,a,u,c]/\Bx (W.setCell ⟨b,3,none⟩ u) b #[d,a,e,u]:=⟨by simpa using h.jR 0 u,by simpa using h.jR 1 u,by simpa using h.jR 2 u,by simpa using h.jR 3 u⟩
theorem T9(A:aA)(n c N:Nat)(i a v U:Int)(w:ahh)(h:uP w N A n c v)(hN':N<=100000):ahk prog 62 #[.agg (mx A n c i a v),ae aj U] w (Ml w (N+1)):=by
 have⟨B,aP⟩:=eX ((w.alloc (.cells #[.slice A n c,ae aj i,ae aj a,ae aj v] 127)).alloc (.cells #[.slice none 0 0,ae aj 0,ae aj 0,ae aj 0] 127));have X:=zr aP;have K:=sH X.1;have gJ:w.heap.size+2<=B.heap.size:=oO;have Y:=sH X.2.1;have X2:=sH X.2.2;obtain⟨hN,Hg,hcm,t,Rt,U3⟩:=h;have u:=sH Rt;have HG:=sH U3;have k:0<n:=Rg;have⟨c0,R,s,c3⟩:=Y.o.q4;go_enter func62,ntmps62;go_upto_region 1 with fail;rw[<-aP];clear aP;go_cut[5](fun v J=>(∃z:Int,v=ae aj z)/\aq (ahi B.heap.size B J))
 case first=>
  by_cases q1:(U==17)=true
  .go_wp2_with fail
   refine(nT A n c i a v t B (u.o.Z K.o K.o.size) k ak).mono ?_;rintro e G ⟨x0,x1,x2,_,rfl,b2⟩;have l:=sH b2;go_wp2_with fail;refine(DI _ _ _).mono ?_;rintro e C ⟨z,rfl,r⟩;have P:=l.t r;go_wp2;go_meet;exact⟨⟨_,rfl⟩,P⟩
  .have q1:(U==17)=false:=by simpa using q1
   go_wp2_with fail;refine(nT A n c i a v t B (u.o.Z K.o K.o.size) k ak).mono ?_;rintro e G ⟨x0,x1,x2,_,rfl,b2⟩;have l:=sH b2;go_wp2_with fail;refine(DI _ _ _).mono ?_;rintro e C ⟨z,rfl,r⟩;have P:=l.t r;go_wp2;go_meet;exact⟨⟨_,rfl⟩,P⟩
 case rest=>
 obtain⟨⟨z,rfl⟩,l⟩:=hcut;have T:=sH (Y.o.ar l.o Y.o.lt);have X4:=sH (X2.o.ar l.o X2.o.lt);have BG:=K.t l.o;have eQ:=l.o.size;generalize B.heap.size=S1 at*
 rename ahh=>G
 have⟨c0,R,s,c3⟩:=T.o.q4;go_upto_if 18 with fail;go_cut[6](fun v J=>(∃z:Int,v=ae aj z)/\G=J)
 case first=>
  go_wp2_with fail
  all_goals
   go_meet;exact⟨⟨_,rfl⟩,rfl⟩
 case rest=>
 obtain⟨⟨o,rfl⟩,rfl⟩:=hcut;go_upto_if 20 with fail;go_cut[6](fun v J=>(∃z:Int,v=ae aj z)/\G=J)
 case first=>
  go_wp2_with fail
  all_goals
   go_meet;exact⟨⟨_,rfl⟩,rfl⟩
 case rest=>
 obtain⟨⟨o,rfl⟩,rfl⟩:=hcut;go_wp2_with fail;refine(OU A n c i a v z G).mono ?_;rintro e C ⟨b,rfl,r⟩;have P:=sH r;have m:=BG.t r;have F:=sH (T.o.ar r T.o.lt);have D:=sH (X4.o.ar r X4.o.lt);have⟨c0,R,s,c3⟩:=F.o.q4;cases b
 .by_cases q:(i==0)=true
  .have f2:=F.o.fz 2
   have L:=(FJ F.o (ae aj (ahl (a+1)))).2.2.1;have I:Bx (C.setCell ⟨w.heap.size,2,none⟩ (ae aj (ahl (a+1)))) (w.heap.size+1) _:=D.o.fE ak 2 _;have BI:ahi w.heap.size w (C.setCell ⟨w.heap.size,2,none⟩ (ae aj (ahl (a+1)))):=m.o.setCell (p:=⟨w.heap.size,2,none⟩) bW _;have⟨k0,k1,k2,k3⟩:=L.q4;obtain⟨d,E⟩:=(I).heap;have H:=(I).row (ds:=#[.slice A n c,ae aj i,ae aj (ahl (a+1)),ae aj v]);obtain⟨j,f⟩:=H.heap;go_wp2_with (refine wpList_store_row rfl 127 (.tmp 4) (.tmp 38) rfl (w.heap.size+1) #[.slice A n c,ae aj i,ae aj (ahl (a+1)),ae aj v] rfl aB d _ E aF aB dJ ?_);refine bodyPost_ret (results_cell_row results62 _ _ (w.heap.size+1) j _ (0,0) _ aB f underlying127 rfl aF) rfl ?_;exact⟨_,_,_,_,_,_,rfl,⟨ak,ak,ak,t,u.o.Z (below_setRow (BI) ak _) W7,HG.o⟩,below_setRow (BI) ak _⟩
  .have q:(i==0)=false:=by simpa using q
   obtain⟨d,E⟩:=(D.o).heap;have H:=(D.o).row (ds:=#[.slice A n c,ae aj i,ae aj a,ae aj v]);obtain⟨j,f⟩:=H.heap;go_wp2_with (refine wpList_store_row rfl 127 (.tmp 4) (.tmp 38) rfl (w.heap.size+1) #[.slice A n c,ae aj i,ae aj a,ae aj v] rfl aB d _ E aF aB dJ ?_);refine bodyPost_ret (results_cell_row results62 _ _ (w.heap.size+1) j _ (0,0) _ aB f underlying127 rfl aF) rfl ?_;exact⟨_,_,_,_,_,_,rfl,⟨ak,ak,ak,t,u.o.Z (below_setRow (m.o) ak _) (by have:=(m.o).size;simpa using this),HG.o⟩,below_setRow (m.o) ak _⟩
 have HA:=sH (fun x=>XF A n c x t C (u.o.Z m.o m.o.size) ak);go_wp2_with fail;refine(HA.o (z,o,false)).mono ?_;rintro e Z ⟨y,M,rfl,V,Q⟩;have BI:=m.t Q;have hz5:=aw.le V;have hy5:=aw.uD V
 have hle:(t++[(z,o,false)]).length=n+1:=by have:=u.o.1;simp[this]
 have qo:=m.o.size;have HO:aq (∀O,(∀g:Nat,C.heap.size<=g->O.heap[g]? =Z.heap[g]?)->yH O O.heap.size y (n+1) (t++[(z,o,false)])):=⟨fun O hk=>Ah V hle hk⟩;have HQ:=sH (HG.o.add (z,o,false));have L:=F.o.ar Q F.o.lt;have W:=D.o.ar Q D.o.lt;have Ao:=D.o.lt;have f0:=L.fz 0;have S:=(FJ L (.slice y (n+1) M)).1;have I:Bx (Z.setCell ⟨w.heap.size,0,none⟩ (.slice y (n+1) M)) (w.heap.size+1) _:=W.fE ak 0 _;have BJ:ahi w.heap.size w (Z.setCell ⟨w.heap.size,0,none⟩ (.slice y (n+1) M)):=BI.o.setCell (p:=⟨w.heap.size,0,none⟩) bW _;have⟨c0,R,s,c3⟩:=L.q4;have⟨k0,k1,k2,k3⟩:=S.q4;obtain⟨d,E⟩:=(I).heap;have H:=(I).row (ds:=#[.slice y (n+1) M,ae aj i,ae aj a,ae aj v]);obtain⟨j,f⟩:=H.heap;go_wp2_with (refine wpList_store_row rfl 127 (.tmp 4) (.tmp 38) rfl (w.heap.size+1) #[.slice y (n+1) M,ae aj i,ae aj a,ae aj v] rfl aB d _ E aF aB dJ ?_);refine bodyPost_ret (results_cell_row results62 _ _ (w.heap.size+1) j _ (0,0) _ aB f underlying127 rfl aF) rfl ?_;exact⟨_,_,_,_,_,_,rfl,⟨ak,ak,ak,_,HO.o _ fun g hg=>Aw _ ak _ _ _ ak,HQ.o⟩,below_setRow BJ ak _⟩
theorem vW(A:aA)(n c N:Nat)(i j v:Int)(R:Bool)(w:ahh)(h:uP w N A n c v)(hN':N<=100000):ahk prog 63 #[.agg (mx A n c i j v),.bool R] w (Ml w (N+1)):=by
 have⟨W1,aP⟩:=eX ((w.alloc (.cells #[.slice A n c,ae aj i,ae aj j,ae aj v] 127)).alloc (.cells #[.slice none 0 0,ae aj 0,ae aj 0,ae aj 0] 127));have V:=zr aP;have Y:=sH V.1;have gJ:w.heap.size+2<=W1.heap.size:=oO;have W:=sH V.2.1;have X2:=sH V.2.2;obtain⟨hN,Hg,hcm,E,Rt,U3⟩:=h;have y:=sH Rt;have K:=sH U3;have u:0<n:=Rg;have⟨c0,I,f,L⟩:=W.o.q4;go_enter func63,ntmps63;go_upto_region 1 with fail;rw[<-aP];clear aP;go_wp2_with fail;refine(nT A n c i j v E W1 (y.o.Z Y.o Y.o.size) u ak).mono ?_;rintro e w2 ⟨x0,x1,x2,_,rfl,b2⟩;have B2:=sH b2;go_wp2_with fail;refine(DI _ _ _).mono ?_;rintro e w4 ⟨z,rfl,H⟩;have O:=B2.t H;have BG:=Y.t O.o;have T:=sH (W.o.ar O.o W.o.lt);have Z:=sH (X2.o.ar O.o X2.o.lt);have⟨c0,I,f,L⟩:=T.o.q4;go_wp2_with fail;refine(OU A n c i j v z w4).mono ?_;rintro e k ⟨b,rfl,H⟩;have m:=BG.t H;have a:=sH (T.o.ar H T.o.lt);have t:=sH (Z.o.ar H Z.o.lt);have⟨c0,I,f,L⟩:=a.o.q4;cases b
 .have f1:=a.o.fz 1
  have F:=(FJ a.o (ae aj (ahl (i+1)))).2.1;have C:Bx (k.setCell ⟨w.heap.size,1,none⟩ (ae aj (ahl (i+1)))) (w.heap.size+1) _:=t.o.fE ak 1 _;have BI:az w (k.setCell ⟨w.heap.size,1,none⟩ (ae aj (ahl (i+1)))):=m.o.setCell (p:=⟨w.heap.size,1,none⟩) bW _;have⟨k0,k1,k2,k3⟩:=F.q4;obtain⟨l,P⟩:=(C).heap;have S:=(C).row (ds:=#[.slice A n c,ae aj (ahl (i+1)),ae aj j,ae aj v]);obtain⟨r,q⟩:=S.heap;go_wp2_with (refine wpList_store_row rfl 127 (.tmp 4) (.tmp 28) rfl (w.heap.size+1) #[.slice A n c,ae aj (ahl (i+1)),ae aj j,ae aj v] rfl aB l _ P aF aB dJ ?_);refine bodyPost_ret (results_cell_row results63 _ _ (w.heap.size+1) r _ (0,0) _ aB q underlying127 rfl aF) rfl ?_;exact⟨_,_,_,_,_,_,rfl,⟨ak,ak,ak,E,y.o.Z (below_setRow (BI) ak _) W7,K.o⟩,below_setRow (BI) ak _⟩
 have hv:0<=v/\v<=100000:=by
  have h1:=K.o.adn;have h2:=y.o.1;have h3:=K.o.2.1
  omega
 have f3:=a.o.fz 3;have B:=(FJ a.o (ae aj (v+1))).2.2.2;have d:Bx (k.setCell ⟨w.heap.size,3,none⟩ (ae aj (v+1))) (w.heap.size+1) _:=t.o.fE ak 3 _;have D:aq (az w (k.setCell ⟨w.heap.size,3,none⟩ (ae aj (v+1)))):=⟨m.o.setCell (p:=⟨w.heap.size,3,none⟩) bW _⟩;have wv:ahl (v+1)=v+1:=IntWalk.wrap64_in _ ak;go_upto_region 4 with fail;have⟨k,o⟩:∃w6,w6=k.setCell ⟨w.heap.size,3,none⟩ (ae aj (v+1)):=⟨_,rfl⟩;rw[<-o]at B d D;rw[<-o];clear o;have a:=sH B;have t:=sH d;have m:=D;have⟨c0,I,f,L⟩:=a.o.q4;have HA:=sH (fun x=>XF A n c x E k (y.o.Z m.o m.o.size) ak);go_wp2_with fail;refine(HA.o (z,0,true)).mono ?_;rintro e X ⟨s,G,rfl,U,M⟩;have BI:=m.t M;have hz5:=aw.le U;have hy5:=aw.uD U
 have hle:(E++[(z,0,true)]).length=n+1:=by have:=y.o.1;simp[this]
 have qo:=m.o.size;have HO:aq (∀J,(∀g:Nat,k.heap.size<=g->J.heap[g]? =X.heap[g]?)->yH J J.heap.size s (n+1) (E++[(z,0,true)])):=⟨fun J hk=>Ah U hle hk⟩;have HQ:=sH (K.o.agu z 0);have F:=a.o.ar M a.o.lt;have d:=t.o.ar M t.o.lt;have Ao:=t.o.lt;have f0:=F.fz 0;have Q:=(FJ F (.slice s (n+1) G)).1;have C:Bx (X.setCell ⟨w.heap.size,0,none⟩ (.slice s (n+1) G)) (w.heap.size+1) _:=d.fE ak 0 _;have BJ:az w (X.setCell ⟨w.heap.size,0,none⟩ (.slice s (n+1) G)):=BI.o.setCell (p:=⟨w.heap.size,0,none⟩) bW _;have⟨c0,I,f,L⟩:=F.q4;have⟨k0,k1,k2,k3⟩:=Q.q4;obtain⟨l,P⟩:=(C).heap;have S:=(C).row (ds:=#[.slice s (n+1) G,ae aj i,ae aj j,ae aj (v+1)]);obtain⟨r,q⟩:=S.heap;go_wp2_with (refine wpList_store_row rfl 127 (.tmp 4) (.tmp 28) rfl (w.heap.size+1) #[.slice s (n+1) G,ae aj i,ae aj j,ae aj (v+1)] rfl aB l _ P aF aB dJ ?_);refine bodyPost_ret (results_cell_row results63 _ _ (w.heap.size+1) r _ (0,0) _ aB q underlying127 rfl aF) rfl ?_;exact⟨_,_,_,_,_,_,rfl,⟨ak,ak,ak,_,HO.o _ fun g hg=>Aw _ ak _ _ _ ak,HQ.o⟩,below_setRow BJ ak _⟩
theorem ac0(A:aA)(n c N:Nat)(i q v:Int)(w:ahh)(h:uP w N A n c v)(hN':N<=100000):ahk prog 65 #[.agg (mx A n c i q v)] w (Ml w N):=by
 have⟨s,aP⟩:=eX ((w.alloc (.cells #[.slice A n c,ae aj i,ae aj q,ae aj v] 127)).alloc (.cells #[.slice none 0 0,ae aj 0,ae aj 0,ae aj 0] 127));have M:=zr aP;have F:=sH M.1;have gJ:w.heap.size+2<=s.heap.size:=oO;have C:=sH M.2.1;have L:=sH M.2.2;obtain⟨hN,Q,hcm,E,Rt,U3⟩:=h;have g:=sH Rt;have t:=sH U3;have U:0<n:=Rg;have⟨c0,W,D,Z⟩:=C.o.q4;go_enter func65,ntmps65;go_upto_region 1 with fail;rw[<-aP];clear aP;by_cases hi:0<i
 .have f1:=C.o.fz 1
  have R:=(FJ C.o (ae aj (ahl (i-1)))).2.1;have B:Bx (s.setCell ⟨w.heap.size,1,none⟩ (ae aj (ahl (i-1)))) (w.heap.size+1) _:=L.o.fE ak 1 _;have BI:az w (s.setCell ⟨w.heap.size,1,none⟩ (ae aj (ahl (i-1)))):=F.o.setCell (p:=⟨w.heap.size,1,none⟩) bW _;have⟨k0,k1,k2,k3⟩:=R.q4;obtain⟨a,x⟩:=(B).heap;have z:=(B).row (ds:=#[.slice A n c,ae aj (ahl (i-1)),ae aj q,ae aj v]);obtain⟨e,d⟩:=z.heap;go_wp2_with (refine wpList_store_row rfl 127 (.tmp 2) (.tmp 11) rfl (w.heap.size+1) #[.slice A n c,ae aj (ahl (i-1)),ae aj q,ae aj v] rfl aB a _ x aF aB dJ ?_);refine bodyPost_ret (results_cell_row results65 _ _ (w.heap.size+1) e _ (0,0) _ aB d underlying127 rfl aF) rfl ?_;exact⟨_,_,_,_,_,_,rfl,⟨ak,ak,ak,E,g.o.Z (below_setRow (BI) ak _) W7,t.o⟩,below_setRow (BI) ak _⟩
 by_cases o:(v==0)=true
 .obtain⟨a,x⟩:=(L.o).heap
  have z:=(L.o).row (ds:=#[.slice A n c,ae aj i,ae aj q,ae aj v]);obtain⟨e,d⟩:=z.heap;go_wp2_with (refine wpList_store_row rfl 127 (.tmp 2) (.tmp 15) rfl (w.heap.size+1) #[.slice A n c,ae aj i,ae aj q,ae aj v] rfl aB a _ x aF aB dJ ?_);refine bodyPost_ret (results_cell_row results65 _ _ (w.heap.size+1) e _ (0,0) _ aB d underlying127 rfl aF) rfl ?_;exact⟨_,_,_,_,_,_,rfl,⟨ak,ak,ak,E,g.o.Z (below_setRow (F.o) ak _) (by have:=(F.o).size;simpa using this),t.o⟩,below_setRow (F.o) ak _⟩
 have Y:0<v/\v<=100000:=by
  have h1:=t.o.adn;have h2:=g.o.1;have h3:=t.o.2.1
  have h4:v≠0:=by simpa using o
  omega
 have o:(v==0)=false:=by simpa using o
 have f2:=C.o.fz 2;have I:=sH ((FJ C.o (ae aj 0)).2.2.1);have T:aq (Bx (s.setCell ⟨w.heap.size,2,none⟩ (ae aj 0)) (w.heap.size+1) _):=⟨L.o.fE ak 2 _⟩;have G:aq (az w (s.setCell ⟨w.heap.size,2,none⟩ (ae aj 0))):=⟨F.o.setCell (p:=⟨w.heap.size,2,none⟩) bW _⟩;go_upto_region 7 with fail;have⟨K,f⟩:=eX (s.setCell ⟨w.heap.size,2,none⟩ (ae aj 0));rw[<-f]at I T G;rw[<-f];clear f;have⟨c0,W,D,Z⟩:=I.o.q4;go_wp2;go_loopg[3](n+1)(fun gg v3 wr=>∃(m:Nat),m<gg/\v3=ae aj (m:Int)/\aq (ux E m)/\wr=K)
 .exact⟨n,ak,rfl,⟨by have:=ux.start E;rwa [g.o.1]at this⟩,rfl⟩
 obtain⟨m,hg,rfl,J,rfl⟩:=hrel;have Ch:=J.o.pos t.o Y.1;have XO:m<=n:=by have:=J.o.1;have:=g.o.1;omega
 obtain⟨k,rfl⟩:∃k,m=k+1:=⟨m-1,ak⟩;obtain⟨ad,y,eA,X,e0,e1,e2⟩:=(g.o.Z G.o G.o.size).at (j:=k) ak;have ES:=sH (J.o.step X);have EZ:=sH (J.o.stop t.o Y.1 X);have wk:ahl (k:Int)=(k:Int):=IntWalk.wrap64_in _ ak;have k0:=ie k;have k1:=aU k n;obtain⟨r,u,S,Dp,JG,hcut⟩:=yH.cut (P:=prog) (A:=A) (n:=n) UW (c:=c) (j:=k) ak Q (k:Int) rfl;have HC:=sH (hcut w w.heap.size E g.o);subst eA;generalize y.2.2=b at*;cases b
 .have E2:=sH (ES.o rfl)
  go_wp2;go_roundg(k+1)
  .exact⟨k,ak,jy,E2,rfl⟩
  omega
 have GZ:=sH (EZ.o rfl);have f0:=I.o.fz 0;have H:=(FJ I.o (.slice r k u)).1;have V:Bx (wr.setCell ⟨w.heap.size,0,none⟩ (.slice r k u)) (w.heap.size+1) _:=T.o.fE ak 0 _;have BI:aq (az w (wr.setCell ⟨w.heap.size,0,none⟩ (.slice r k u))):=⟨G.o.setCell (p:=⟨w.heap.size,0,none⟩) bW _⟩;go_upto_region 11 with fail;have⟨K,l⟩:=eX (wr.setCell ⟨w.heap.size,0,none⟩ (.slice r k u));rw[<-l]at H V BI;rw[<-l];clear l;have⟨c0,W,D,Z⟩:=H.q4;have f3:=H.fz 3;have wv:ahl (v-1)=v-1:=IntWalk.wrap64_in _ ak;have R:=(FJ H (ae aj (v-1))).2.2.2;have B:Bx (K.setCell ⟨w.heap.size,3,none⟩ (ae aj (v-1))) (w.heap.size+1) _:=V.fE ak 3 _;have O:az w (K.setCell ⟨w.heap.size,3,none⟩ (ae aj (v-1))):=BI.o.setCell (p:=⟨w.heap.size,3,none⟩) bW _;have⟨k0',k1',k2',k3'⟩:=R.q4;obtain⟨a,x⟩:=(B).heap;have z:=(B).row (ds:=#[.slice r k u,ae aj i,ae aj 0,ae aj (v-1)]);obtain⟨e,d⟩:=z.heap;go_wp2_with (refine wpList_store_row rfl 127 (.tmp 2) (.tmp 40) rfl (w.heap.size+1) #[.slice r k u,ae aj i,ae aj 0,ae aj (v-1)] rfl aB a _ x aF aB dJ ?_);refine bodyPost_ret (results_cell_row results65 _ _ (w.heap.size+1) e _ (0,0) _ aB d underlying127 rfl aF) rfl ?_;exact⟨_,_,_,_,_,_,rfl,⟨ak,ak,ak,_,HC.o.Z (below_setRow O ak _) (by have:=O.size;simpa using this),GZ.o⟩,below_setRow O ak _⟩
theorem abI(s:G:=by
 obtain⟨eD,hX⟩:=(X4.o).heap
 have X9:=(X4.o).row (ds:=#[.slice A n c,ae aj i,ae aj em,ae aj v]);obtain⟨fJ,dr⟩:=X9.heap;go_wp2_with (refine wpList_store_row rfl 127 (.tmp 2) (.tmp 34) rfl (w.heap.size+1) #[.slice A n c,ae aj i,ae aj em,ae aj v] rfl aB eD _ hX aF aB dJ ?_);refine bodyPost_ret (results_cell_row results61 _ _ (w.heap.size+1) fJ _ (0,0) _ aB dr underlying127 rfl aF) rfl ?_;exact⟨_,_,_,_,_,_,rfl,⟨ak,ak,ak,es,HE.o.Z (below_setRow (B2.o) ak _) agH,HG.o⟩,below_setRow (B2.o) ak _⟩):G:=s
theorem adJ(A:aA)(n c N:Nat)(i em v:Int)(w:ahh)(h:uP w N A n c v)(O:N<=100000):ahk prog 61 #[.agg (mx A n c i em v)] w (Ml w N):=by
 have⟨r,aP⟩:=eX ((w.alloc (.cells #[.slice A n c,ae aj i,ae aj em,ae aj v] 127)).alloc (.cells #[.slice none 0 0,ae aj 0,ae aj 0,ae aj 0] 127));have t:=zr aP;have a:=sH t.1;have L:w.heap.size+2<=r.heap.size:=oO;have g:=sH t.2.1;have o:=sH t.2.2;obtain⟨hN,z,F,es,Rt,U3⟩:=h;have HE:=sH Rt;have HG:=sH U3;have b:0<n:=Rg;have⟨c0,H,x,V⟩:=g.o.q4;go_enter func61,ntmps61;go_upto_region 1 with fail;rw[<-aP];clear aP;by_cases hi:0<i
 .obtain⟨eD,hX⟩:=(o.o).heap
  have X9:=(o.o).row (ds:=#[.slice A n c,ae aj i,ae aj em,ae aj v]);obtain⟨fJ,dr⟩:=X9.heap;go_wp2_with (refine wpList_store_row rfl 127 (.tmp 2) (.tmp 34) rfl (w.heap.size+1) #[.slice A n c,ae aj i,ae aj em,ae aj v] rfl aB eD _ hX aF aB dJ ?_);refine bodyPost_ret (results_cell_row results61 _ _ (w.heap.size+1) fJ _ (0,0) _ aB dr underlying127 rfl aF) rfl ?_;exact⟨_,_,_,_,_,_,rfl,⟨ak,ak,ak,es,HE.o.Z (below_setRow (a.o) ak _) (by have:=(a.o).size;simpa using this),HG.o⟩,below_setRow (a.o) ak _⟩
 by_cases Y:0<em
 .have f2:=g.o.fz 2
  have B:=(FJ g.o (ae aj (ahl (em-1)))).2.2.1;have f:Bx (r.setCell ⟨w.heap.size,2,none⟩ (ae aj (ahl (em-1)))) (w.heap.size+1) _:=o.o.fE ak 2 _;have BI:az w (r.setCell ⟨w.heap.size,2,none⟩ (ae aj (ahl (em-1)))):=a.o.setCell (p:=⟨w.heap.size,2,none⟩) bW _;have⟨k0,k1,k2,k3⟩:=B.q4;obtain⟨eD,hX⟩:=(f).heap;have X9:=(f).row (ds:=#[.slice A n c,ae aj i,ae aj (ahl (em-1)),ae aj v]);obtain⟨fJ,dr⟩:=X9.heap;go_wp2_with (refine wpList_store_row rfl 127 (.tmp 2) (.tmp 34) rfl (w.heap.size+1) #[.slice A n c,ae aj i,ae aj (ahl (em-1)),ae aj v] rfl aB eD _ hX aF aB dJ ?_);refine bodyPost_ret (results_cell_row results61 _ _ (w.heap.size+1) fJ _ (0,0) _ aB dr underlying127 rfl aF) rfl ?_;exact⟨_,_,_,_,_,_,rfl,⟨ak,ak,ak,es,HE.o.Z (below_setRow (BI) ak _) W7,HG.o⟩,below_setRow (BI) ak _⟩
 go_wp2_with fail;refine(nT A n c i em v es r (HE.o.Z a.o a.o.size) b ak).mono ?_;rintro e D ⟨X,Z,E,I,rfl,u⟩;have B2:=a.t u;have s:=sH (g.o.ar u g.o.lt);have X4:=sH (o.o.ar u o.o.lt);have R:=sH I;have⟨c0,H,x,V⟩:=s.o.q4;by_cases S:1<n;rotate_left
 .have l:=cv 1 n
  cases E
  .exact abI
  .exact abI
 cases E;rotate_left
 .exact abI
 have l:=aU 1 n;obtain⟨k,rfl⟩:∃k,n=k+1:=⟨n-1,ak⟩;have Q:=sH (HG.o.pop (m:=k) HE.o.1 ak (by simpa using R.o) rfl);have wk:ahl (k:Int)=(k:Int):=IntWalk.wrap64_in _ ak;have k0:=ie k;have k1:(k:Int)<(k:Int)+1:=ak;obtain⟨d,q,C,U,J,hcut⟩:=yH.cut (P:=prog) (A:=A) (n:=k+1) UW (c:=c) (j:=k) ak z (k:Int) rfl;have T:=sH (hcut w w.heap.size es HE.o);have f0:=s.o.fz 0;have B:=(FJ s.o (.slice d k q)).1;have f:Bx (D.setCell ⟨w.heap.size,0,none⟩ (.slice d k q)) (w.heap.size+1) _:=X4.o.fE ak 0 _;have y:az w (D.setCell ⟨w.heap.size,0,none⟩ (.slice d k q)):=B2.o.setCell (p:=⟨w.heap.size,0,none⟩) bW _;have⟨M,K,G,W⟩:=B.q4;obtain⟨eD,hX⟩:=(f).heap;have X9:=(f).row (ds:=#[.slice d k q,ae aj i,ae aj em,ae aj v]);obtain⟨fJ,dr⟩:=X9.heap;go_wp2_with (refine wpList_store_row rfl 127 (.tmp 2) (.tmp 34) rfl (w.heap.size+1) #[.slice d k q,ae aj i,ae aj em,ae aj v] rfl aB eD _ hX aF aB dJ ?_);refine bodyPost_ret (results_cell_row results61 _ _ (w.heap.size+1) fJ _ (0,0) _ aB dr underlying127 rfl aF) rfl ?_;exact⟨_,_,_,_,_,_,rfl,⟨ak,ak,ak,_,T.o.Z (below_setRow y ak _) (by have:=y.size;simpa using this),Q.o⟩,below_setRow y ak _⟩
theorem adu(A:aA)(n c N:Nat)(i b v z:Int)(w:ahh)(h:uP w N A n c v)(s:N<=100000):ahk prog 60 #[.agg (mx A n c i b v),ae aj z] w (PI w):=by
 have⟨l,aP⟩:=eX (w.alloc (.cells #[.slice A n c,ae aj i,ae aj b,ae aj v] 127));have k:aq (az w l):=⟨qS⟩;have m:aq (Bx l w.heap.size #[.slice A n c,ae aj i,ae aj b,ae aj v]):=⟨vz⟩;have⟨c0,u,g,C⟩:=m.o.q4;obtain⟨H,x,r,o,Rt,U3⟩:=h;have p:=sH Rt;have a:0<n:=Rg;go_enter func60,ntmps60;go_upto_region 1 with fail;rw[<-aP];clear aP;go_wp2_with fail;refine(nT A n c i b v o l (p.o.Z k.o k.o.size) a ak).mono ?_;rintro e y ⟨F,j,G,_,rfl,d⟩;have f:=k.t d;have⟨c0,u,g,C⟩:=(m.o.ar d m.o.lt).q4;by_cases q:(j==0)=true
 .have t:(j !=0)=false:=by simpa using q
  go_wp2;go_ret;exact⟨_,rfl,f.o⟩
 .have t:(j !=0)=true:=by simpa using q
  go_wp2_with fail;refine(nT A n c i b v o y (p.o.Z f.o f.o.size) a ak).mono ?_;rintro e I ⟨E,J,D,_,rfl,d⟩;have B:=f.t d;go_wp2;go_ret;exact⟨_,rfl,B.o⟩
theorem aeQ(s:G:=by
 go_enter func64,ntmps64
 go_wp2_with fail;refine(Hm A n c _ _ w R.o hc hn).mono ?_;rintro e w2 ⟨x,rfl,b2⟩;have B2:=sH b2;go_wp2_with fail
 all_goals
  go_ret;exact⟨_,rfl,B2.o⟩):G:=s
theorem VT(A C:aA)(n c m d j:Nat)(w:ahh)(h:Iw w w.heap.size .i64 aH A n)(k:Iw w w.heap.size .i64 aH C m)(hc:n<=c)(hn:n<=100000)(a:j<m):ahk prog 64 #[.slice A n c,.slice C m d,ae aj (j:Int)] w (PB w):=by
 obtain⟨f,z,rfl,_,b⟩:=k.get a;have R:=sH h;have g:=ie j;have j1:=aU j m;by_cases i:z<0
 .exact aeQ
 .exact aeQ
def lK(n:Nat)(z:Int):Prop:=0<=z/\z<n
theorem ry(z:Int)(w:ahh):ahk prog 67 #[ae aj z] w (PB w):=by
 go_enter func67,ntmps67;by_cases a:(z==20)=true
 .go_wp2
  go_ret;exact⟨_,rfl,Below.refl _ _⟩
 have a:(z==20)=false:=by simpa using a
 by_cases b:(z==21)=true
 .go_wp2
  go_ret;exact⟨_,rfl,Below.refl _ _⟩
 have b:(z==21)=false:=by simpa using b
 go_wp2;go_ret;exact⟨_,rfl,Below.refl _ _⟩
theorem XI(a b:Int)(w:ahh):ahk prog 69 #[ae aj a,ae aj b] w (PI w):=by
 go_enter func69,ntmps69;go_wp2_with fail
 all_goals
  go_ret;exact⟨_,rfl,Below.refl _ _⟩
def acs(w:ahh)(n:Nat)(e:ahn)(a:ahh):Prop:=∃(A:aA) (m c:Nat),m<=n/\e=.returned (.slice A m c)/\Ow a w.heap.size 3 .i64 (lK n) A m c/\az w a
theorem Zz(A:aA)(n c:Nat)(w:ahh)(h:Iw w w.heap.size .i64 aH A n)(H:n<=10000):ahk prog 132 #[.slice A n c] w (acs w n):=by
 have R:=sH h;go_enter func132,ntmps132;go_wp2;go_loopg[3,4](n+1)(fun gg v3 v4 wr=>∃(j m:Nat) (C:aA) (d:Nat),n-j<gg/\j<=n/\m<=j/\v3=.slice C m d/\v4=ae aj (j:Int)/\aq (Ow wr w.heap.size 3 .i64 (lK n) C m d)/\aq (az w wr))
 .exact⟨0,0,none,0,ak,ak,ak,rfl,rfl,⟨Ow.nil _ _ _ _ _⟩,cA⟩
 obtain⟨j,m,C,d,B,D,E,rfl,rfl,p,a⟩:=hrel;by_cases g:j<n;rotate_left
 .have v:=cv j n
  go_wp2;go_ret;exact⟨_,_,_,ak,rfl,p.o,a.o⟩
 have v:=aU j n;obtain⟨G,z,rfl,_,y⟩:=(R.o.Z a.o a.o.size).get g;go_wp2_with fail;refine(lD z wr).mono ?_;rintro e F ⟨b,rfl,k⟩;have f:=a.t k;have l:=sH (p.o.ar k);have r:=f.o.size;have s:aq (lK n (j:Int)):=⟨⟨ak,ak⟩⟩;cases b
 .go_wp2_with (at_builtin;refine bO lO rfl (.tmp 17) (.tmp 19) rfl rfl (l.o.alloc _) rfl (bh _ _ _) s.o ak cw ?_;intro t c8 u o i;have q:=sH o;have x:aq (az w u):=⟨(f.o.alloc ak _).trans i⟩;clear o i)
  go_roundg(n-j)
  .exact⟨j+1,m+1,t,c8,ak,ak,ak,rfl,aT,q,x⟩
  omega
 .go_wp2
  go_roundg(n-j)
  .exact⟨j+1,m,C,d,ak,ak,ak,rfl,aT,l,f⟩
  omega
theorem aeH(s:G:=by
 obtain⟨eJ,y,rfl,_,e1⟩:=(S.o.Z B2.o B2.o.size).get (show i<n by omega)
 go_wp2;go_ret;exact⟨_,rfl,B2.o⟩):G:=s
theorem Xf(s:G:=by
 go_wp2
 go_ret;exact⟨_,rfl,BE.o⟩):G:=s
theorem Au(A C:aA)(n c d:Nat)(at_:Nat)(f base:Int)(w:ahh)(h:Iw w w.heap.size .i64 aH A n)(k:Iw w w.heap.size .i64 aH C n)(D:n<=10000)(B:at_<n)(v:f=1∨f= -1):ahk prog 70 #[.slice A n c,.slice C n d,ae aj (at_:Int),ae aj f,ae aj base] w (PI w):=by
 have R:=sH h;have S:=sH k;rcases v with rfl|rfl
 .go_enter func70,ntmps70
  have m:ahl ((at_:Int)+1)=(at_:Int)+1:=IntWalk.wrap64_in _ ak;go_wp2;go_loopg[11](n+2)(fun gg a wr=>∃(x:Int),a=ae aj x/\-1<=x/\x<=n/\((n:Int)-x).toNat<gg/\aq (az w wr))
  .exact⟨_,rfl,ak,ak,ak,cA⟩
  obtain⟨x,rfl,s,r,o,BE⟩:=hrel;by_cases q:0<=x;rotate_left
  .exact Xf
  by_cases j:x<n;rotate_left
  .exact Xf
  obtain⟨i,rfl⟩:∃i:Nat,x=i:=⟨x.toNat,ak⟩;obtain⟨u,z,rfl,_,l⟩:=(R.o.Z BE.o BE.o.size).get (show i<n by omega);go_wp2_with fail;refine(lD z wr).mono ?_;rintro e t ⟨b,rfl,g⟩;have B2:=BE.t g;cases b
  .exact aeH
  .have p:ahl ((i:Int)+1)=(i:Int)+1:=IntWalk.wrap64_in _ ak
   go_wp2;go_roundg(gk-1)
   .exact⟨_,rfl,ak,ak,ak,B2⟩
   omega
 .go_enter func70,ntmps70
  have m:ahl ((at_:Int)+(-1))=(at_:Int)+(-1):=IntWalk.wrap64_in _ ak;go_wp2;go_loopg[11](n+2)(fun gg a wr=>∃(x:Int),a=ae aj x/\-1<=x/\x<=n/\(x+1).toNat<gg/\aq (az w wr))
  .exact⟨_,rfl,ak,ak,ak,cA⟩
  obtain⟨x,rfl,s,r,o,BE⟩:=hrel;by_cases q:0<=x;rotate_left
  .exact Xf
  by_cases j:x<n;rotate_left
  .exact Xf
  obtain⟨i,rfl⟩:∃i:Nat,x=i:=⟨x.toNat,ak⟩;obtain⟨u,z,rfl,_,l⟩:=(R.o.Z BE.o BE.o.size).get (show i<n by omega);go_wp2_with fail;refine(lD z wr).mono ?_;rintro e t ⟨b,rfl,g⟩;have B2:=BE.t g;cases b
  .exact aeH
  .have p:ahl ((i:Int)+(-1))=(i:Int)+(-1):=IntWalk.wrap64_in _ ak
   go_wp2;go_roundg(gk-1)
   .exact⟨_,rfl,ak,ak,ak,B2⟩
   omega
def adZ(w:ahh)(B n M:Nat)(e:ahn)(c:ahh):Prop:=c=w/\∃(a:aA) (m b:Nat),e=.returned (.slice a m b)/\m<=M/\Iw w B .i64 (lK n) a m
theorem aa7(A:aA)(k c n M B:Nat)(at_:Int)(w:ahh)(h:Df w B (lK n) M A k)(I:k<=10000)(x:M<=10000):ahk prog 68 #[.slice A k c,ae aj at_] w (adZ w B n M):=by
 have R:=sH h;go_enter func68,ntmps68;go_wp2;go_loopg[5,6](k+1)(fun gg l _ wr=>∃(i:Nat),k-i<gg/\i<=k/\l=ae aj (i:Int)/\wr=w)
 .exact⟨0,ak,ak,rfl,rfl⟩
 obtain⟨i,C,D,rfl,rfl⟩:=hrel;by_cases d:i<k;rotate_left
 .have t:=cv i k
  go_wp2;go_ret;exact⟨rfl,none,0,0,rfl,ak,[],bH.nil,aQ⟩
 have t:=aU i k;obtain⟨H,F,m,G,rfl,_,y,o,b,u⟩:=R.o i d;have j:=sH u;go_wp2;go_loopg[6](m+1)(fun gg v f=>∃(q:Nat),m-q<gg/\q<=m/\v=ae aj (q:Int)/\f=wr)
 .exact⟨0,ak,ak,rfl,rfl⟩
 obtain⟨q,p,E,rfl,rfl⟩:=hrel;by_cases e:q<m;rotate_left
 .have s:=cv q m
  go_wp2;go_roundg(k-i)
  .exact⟨i+1,ak,ak,aT,rfl⟩
  omega
 have s:=aU q m;obtain⟨r,z,rfl,_,J⟩:=j.o.get e;by_cases g:z=at_
 .have a:(z==at_)=true:=by simp[g]
  go_wp2;go_ret;exact⟨rfl,_,_,_,rfl,b,j.o⟩
 .have a:(z==at_)=false:=by simp[g]
  go_wp2;go_roundg(m-q)
  .exact⟨q+1,ak,ak,aT,rfl⟩
  omega
theorem oI(z:Int)(w:ahh):ahk prog 141 #[ae aj z] w (PB w):=by
 have e:z=11∨z=12∨z=13∨z=14∨z=20∨z=21∨z=22∨(z≠11/\z≠12/\z≠13/\z≠14/\z≠20/\z≠21/\z≠22):=ak;rcases e with rfl|rfl|rfl|rfl|rfl|rfl|rfl|⟨b,h2,h3,h4,d,c,a⟩
 rotate_right
 .have b:(z==11)=false:=by simpa using b
  have h2:(z==12)=false:=vv;have h3:(z==13)=false:=Fb;have h4:(z==14)=false:=Ie;have d:(z==20)=false:=by simpa using d
  have c:(z==21)=false:=by simpa using c
  have a:(z==22)=false:=by simpa using a
  go_enter func141,ntmps141;go_wp2;go_ret;exact⟨_,rfl,Below.refl _ _⟩
 all_goals
  go_enter func141,ntmps141;go_wp2;go_ret;exact⟨_,rfl,Below.refl _ _⟩
theorem acb(z:Int)(w:ahh):ahk prog 143 #[ae aj z] w (PI w):=by
 have b:z=2∨z=3∨z=4∨(z≠2/\z≠3/\z≠4):=ak;rcases b with rfl|rfl|rfl|⟨a,h2,h3⟩
 rotate_right
 .have a:(z==2)=false:=by simpa using a
  have h2:(z==3)=false:=vv;have h3:(z==4)=false:=Fb;go_enter func143,ntmps143;go_wp2_with fail
  all_goals
   go_ret;exact⟨_,rfl,Below.refl _ _⟩
 all_goals
  go_enter func143,ntmps143;go_wp2;go_ret;exact⟨_,rfl,Below.refl _ _⟩
theorem Ue(z:Int)(w:ahh):ahk prog 144 #[ae aj z] w (PI w):=by
 go_enter func144,ntmps144;go_wp2_with fail
 all_goals
  go_ret;exact⟨_,rfl,Below.refl _ _⟩
theorem Og(z:Int)(w:ahh):ahk prog 142 #[ae aj z] w (PI w):=by
 go_enter func142,ntmps142;go_wp2_with fail
 all_goals
  go_ret;exact⟨_,rfl,Below.refl _ _⟩
theorem aes(s:G:=by
 go_wp2_with fail
 refine(acb z3 _).mono ?_;rintro e w8 ⟨b,rfl,b3⟩;have B8:=B7.t b3;have O8:=sH (O7.o.ar b3);go_wp2;go_meet;exact⟨⟨_,rfl⟩,O8,B8⟩):G:=s
theorem aea(s:G:=by
 have i4:=cv i n
 obtain rfl:i=n:=ak;go_wp2;go_ret;exact⟨_,_,rfl,OE.o,BE.o⟩):G:=s
theorem Jk(A:aA)(n c:Nat)(lv K H:Int)(w:ahh)(h:Iw w w.heap.size .i64 aH A n)(hn:n<=10000):ahk prog 73 #[.slice A n c,ae aj lv,ae aj K,ae aj H] w (Nw w 3 .i64 aH n):=by
 have R:=sH h;have J:aq ((prog.info? 3).map (·.zero)=some (some (ae aj 0))):=⟨aF⟩;go_enter func73,ntmps73;go_wp2_with (refine cS (p:=aH) lO J.o trivial rfl (.tmp 16) (.tmp 16) rfl n rfl rfl rfl rfl ak w.heap.size bW ?_;intro g w1 o1 O;have X:=sH o1;have Y:=sH O;clear o1 O);go_loopg[10,11,12,13,14](n+1)(fun gg v10 _ _ _ _ wr=>∃(i:Nat),n-i<gg/\i<=n/\v10=ae aj (i:Int)/\aq (Ow wr w.heap.size 3 .i64 aH (some ⟨g,0,none⟩) n n)/\aq (az w wr))
 .exact⟨0,ak,ak,rfl,X,Y⟩
 obtain⟨i,hg,hi,rfl,OE,BE⟩:=hrel;by_cases d:i<n;rotate_left
 .exact aea
 have i4:=aU i n;obtain⟨ad,z,rfl,_,q⟩:=(R.o.Z BE.o BE.o.size).get d;obtain⟨M,_,S⟩:=OE.o.get d;have f1:=OE.o.fz i;have m:aq (az w ((wr).setCell ⟨g,i,none⟩ (ae aj (z)))):=⟨Below.setCell (BE.o) (p:=⟨g,i,none⟩) (OE.o).lt.1 _⟩;have s:=sH ((OE.o).set (P:=aH) i (y:=z) trivial);go_upto_region 6 with fail;have⟨U,r⟩:=eX (wr.setCell ⟨g,i,none⟩ (ae aj z));rw[<-r]at m s;rw[<-r];clear r;obtain⟨eJ,T,f,_,q⟩:=(R.o.Z m.o m.o.size).get d;injection f with f
 subst f;go_wp2_with fail;refine(oI T U).mono ?_;rintro e w3 ⟨b,rfl,b3⟩;have L:=m.t b3;have N:=sH (s.o.ar b3);cases b
 .go_wp2
  go_roundg(n-i)
  .exact⟨i+1,ak,ak,aT,N,L⟩
  omega
 go_wp2_with fail;refine(Og _ _).mono ?_;rintro e w4 ⟨x,rfl,b3⟩;have W:=L.t b3;have O5:=sH (N.o.ar b3);go_wp2_with fail;refine(Og _ _).mono ?_;rintro e w5 ⟨y,rfl,b3⟩;have u:=W.t b3;have j:=sH (O5.o.ar b3);go_upto_region 8 with fail;go_upto_block 2 with fail;go_cut[11,13](fun a _ D=>(∃z:Int,a=ae aj z)/\aq (Ow D w.heap.size 3 .i64 aH (some ⟨g,0,none⟩) n n)/\aq (az w D))
 case first=>
  go_wp2;go_loopg[11,13](i+2)(fun gg a o wr=>∃(k:Nat) (z:Int),k<gg/\k<=i/\a=ae aj z/\o=ae aj ((k:Int)-1)/\aq (Ow wr w.heap.size 3 .i64 aH (some ⟨g,0,none⟩) n n)/\aq (az w wr))
  .exact⟨i,x,ak,ak,rfl,rfl,j,u⟩
  obtain⟨k,J,F,hk,rfl,rfl,C,l⟩:=hrel;rcases k with _|k
  .go_wp2
   go_meet;exact⟨⟨_,rfl⟩,C,l⟩
  have V:(((k+1:Nat):Int)-1)=(k:Int):=ak;rw[V];obtain⟨G,z3,f,_,q⟩:=(R.o.Z l.o l.o.size).get (show k<n by omega);injection f with f
  subst f;go_wp2_with fail;refine(oI z3 _).mono ?_;rintro e I ⟨b,rfl,b3⟩;have B7:=l.t b3;have O7:=sH (C.o.ar b3);have q:=au q b3;cases b
  .exact aes
  .go_wp2
   go_roundg(k+1)
   .exact⟨k,_,ak,ak,rfl,aT,O7,B7⟩
   omega
 case rest=>
 obtain⟨⟨E,rfl⟩,j,u⟩:=hcut;go_upto_block 4 with fail;go_cut[12,14](fun a _ D=>(∃z:Int,a=ae aj z)/\aq (Ow D w.heap.size 3 .i64 aH (some ⟨g,0,none⟩) n n)/\aq (az w D))
 case first=>
  go_wp2;go_loopg[12,14](n+1)(fun gg a o wr=>∃(k:Nat) (z:Int),n-k<gg/\k<=n/\a=ae aj z/\o=ae aj (k:Int)/\aq (Ow wr w.heap.size 3 .i64 aH (some ⟨g,0,none⟩) n n)/\aq (az w wr))
  .exact⟨i+1,y,ak,ak,rfl,jy,j,u⟩
  obtain⟨k,J,F,hk,rfl,rfl,C,l⟩:=hrel;by_cases Z:k<n;rotate_left
  .have i5:=cv k n
   go_wp2;go_meet;exact⟨⟨_,rfl⟩,C,l⟩
  have i5:=aU k n;obtain⟨G,z3,f,_,q⟩:=(R.o.Z l.o l.o.size).get (show k<n by omega);injection f with f
  subst f;go_wp2_with fail;refine(oI z3 _).mono ?_;rintro e I ⟨b,rfl,b3⟩;have B7:=l.t b3;have O7:=sH (C.o.ar b3);have q:=au q b3;cases b
  .exact aes
  .go_wp2
   go_roundg(n-k)
   .exact⟨k+1,_,ak,ak,rfl,aT,O7,B7⟩
   omega
 case rest=>
 obtain⟨⟨Q,rfl⟩,j,u⟩:=hcut
 rename ahh=>w6
 obtain⟨M,_,S⟩:=j.o.get d;have f1:=j.o.fz i;by_cases B:(E==Q)=true
 .have m:aq (az w ((w6).setCell ⟨g,i,none⟩ (ae aj (E)))):=⟨Below.setCell (u.o) (p:=⟨g,i,none⟩) (j.o).lt.1 _⟩
  have s:=sH ((j.o).set (P:=aH) i (y:=E) trivial);go_wp2;go_roundg(n-i)
  .exact⟨i+1,ak,ak,aT,s,m⟩
  omega
 have B:(E==Q)=false:=by simpa using B
 go_wp2_with fail;refine(Ue lv _).mono ?_;rintro e I ⟨v,rfl,b3⟩;have B7:=u.t b3;have O7:=sH (j.o.ar b3);obtain⟨M,_,S⟩:=O7.o.get d;have f1:=O7.o.fz i;have m:aq (az w ((I).setCell ⟨g,i,none⟩ (ae aj (v)))):=⟨Below.setCell (B7.o) (p:=⟨g,i,none⟩) (O7.o).lt.1 _⟩;have s:=sH ((O7.o).set (P:=aH) i (y:=v) trivial);go_wp2;go_roundg(n-i)
 .exact⟨i+1,ak,ak,aT,s,m⟩
 omega
theorem EK(A:aA)(n c:Nat)(lv:Int)(w:ahh)(h:Iw w w.heap.size .i64 aH A n)(I:n<=10000):ahk prog 74 #[.slice A n c,ae aj lv] w (Nw w 3 .i64 aH n):=by
 have R:=sH h;have u:aq ((prog.info? 3).map (·.zero)=some (some (ae aj 0))):=⟨aF⟩;go_enter func74,ntmps74;go_wp2_with (refine cS (p:=aH) lO u.o trivial rfl (.tmp 9) (.tmp 9) rfl n rfl rfl rfl rfl ak w.heap.size bW ?_;intro g G o1 j;have s:=sH o1;have x:=sH j;clear o1 j);go_loopg[6,7](n+1)(fun gg C _ wr=>∃(i:Nat),n-i<gg/\i<=n/\C=ae aj (i:Int)/\aq (Ow wr w.heap.size 3 .i64 aH (some ⟨g,0,none⟩) n n)/\aq (az w wr))
 .exact⟨0,ak,ak,rfl,s,x⟩
 obtain⟨i,E,F,rfl,OE,BE⟩:=hrel;by_cases a:i<n;rotate_left
 .exact aea
 have i4:=aU i n;obtain⟨H,z,rfl,_,D⟩:=(R.o.Z BE.o BE.o.size).get a;obtain⟨t,_,B⟩:=OE.o.get a;have f1:=OE.o.fz i;have m:aq (az w ((wr).setCell ⟨g,i,none⟩ (ae aj (lv)))):=⟨Below.setCell (BE.o) (p:=⟨g,i,none⟩) (OE.o).lt.1 _⟩;have o:=sH ((OE.o).set (P:=aH) i (y:=lv) trivial);go_upto_region 7 with fail;have⟨l,b⟩:=eX (wr.setCell ⟨g,i,none⟩ (ae aj lv));rw[<-b]at m o;rw[<-b];clear b;have d:=o;have e:=m;obtain⟨t,_,B⟩:=d.o.get a;have f1:=d.o.fz i;have q:aq (∀v:Int,Ow (l.setCell ⟨g,i,none⟩ (ae aj v)) w.heap.size 3 .i64 aH (some ⟨g,0,none⟩) n n):=⟨fun v=>d.o.set i trivial⟩;have f:aq (∀v:Int,az w (l.setCell ⟨g,i,none⟩ (ae aj v))):=⟨fun v=>Below.setCell e.o (p:=⟨g,i,none⟩) d.o.lt.1 _⟩;have r:z=1∨z=2∨z=4∨z=7∨(z≠1/\z≠2/\z≠4/\z≠7):=ak;rcases r with rfl|rfl|rfl|rfl|⟨k,h2,h3,h4⟩
 rotate_right
 .have k:(z==1)=false:=by simpa using k
  have h2:(z==2)=false:=vv;have h3:(z==4)=false:=Fb;have h4:(z==7)=false:=Ie;go_wp2_with fail
  all_goals
   (go_roundg(n-i)<;>first|omega|exact⟨i+1,ak,ak,aT,d,e⟩|exact⟨i+1,ak,ak,aT,⟨q.o _⟩,⟨f.o _⟩⟩)
 all_goals
  go_wp2_with fail
  all_goals
   (go_roundg(n-i)<;>first|omega|exact⟨i+1,ak,ak,aT,d,e⟩|exact⟨i+1,ak,ak,aT,⟨q.o _⟩,⟨f.o _⟩⟩)
end Go.Proofs.YtklncadpkniojaaGreatDoor
