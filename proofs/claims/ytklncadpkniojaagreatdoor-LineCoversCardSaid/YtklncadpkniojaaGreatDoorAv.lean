/- Part of LineCovers. -/
import Derived.Test.YtklncadpkniojaaGreatDoorAu
namespace Go.Proofs.YtklncadpkniojaaGreatDoor
open Go.ChangeShapes Go.WideShapes Go.ChangeAt Go.RowKit Go.Proofs.Tryz
open Go renaming World->ahh,Calls->ahk
open Go.Value renaming int->ae
open Go.IntKind renaming i64->aj
set_option linter.all false
set_option maxRecDepth 100000
set_option maxHeartbeats 16000000
variable{G:Prop}
theorem jy{p:Prop}(h:p:=by first|rfl|go_num):p:=h
theorem Be.start{lo b z:Int}{cs:aC}{a c:Nat}(h:CS lo b cs)(f:nth cs c=z)(g:c<cs.length)(k:a<=c)(j:∀i,a<=i->i<=c->nth cs i=z):Be lo b z a cs:=by
 refine⟨h,fun x e=> ?_,fun x e=> ?_⟩
 .obtain⟨i,b,rfl⟩:=List.getElem_of_mem e
  rw[List.length_take]at b;rw[List.getElem_take,<-cB,<-f];exact h.le ak g
 .obtain⟨i,b,rfl⟩:=List.getElem_of_mem e
  rw[List.length_drop]at b;rw[List.getElem_drop,<-cB];rcases Nat.le_total (a+i) c with d|d
  .rw[j _ ak d];exact Int.le_refl _
  .rw[<-f];exact h.le d ak
theorem mQ7(s:G:=by
 obtain⟨g,rfl,_,_⟩:=OK.o.form ak
 obtain⟨p0,p1,p2,p3,p4,p5,p6,p7,p8,p9,_,_,q1,_⟩:=OK.o.o.bD (j:=i) ak;have f1:=OK.o.fz (i*10+1);have i6:=aU i n;have i7:=aU i b;have OS:aq (fR (wr.setCell ⟨g,i*10+1,none⟩ (ae aj z)) w.heap.size (fun xs=>Be lo hi z (i+1) (aL xs)) (some ⟨g,0,none⟩) n c5):=⟨OK.o.set ak ak z fun xs hn hl h=>by rw[ui xs i ak hl];exact h.set PZ.o Zc⟩;have BS:aq (az w (wr.setCell ⟨g,i*10+1,none⟩ (ae aj z))):=⟨Below.setCell BK.o (p:=⟨g,i*10+1,none⟩) OK.o.lt.1 _⟩;go_wp2;go_roundg(n-i)
 .exact⟨i+1,ak,ak,aT,OS,BS⟩
 omega):G:=s
theorem mQ8(s:G:=by
 have i7:=cv i b
 go_wp2;go_ret;exact⟨_,_,rfl,OK.o.imp fun _ _ _ h=>h.1,BK.o⟩):G:=s
theorem mQ9(s:G:=by
 exact⟨(a+1),ak,ak,jy,⟨O6.o.imp fun xs _ _ h=>by rw[h];exact ST.o⟩,B6⟩):G:=s
theorem Wg(lo hi:Int)(A:aA)(n c d t:Nat)(w:ahh)(h:kT w (bk lo hi) A n)(hn:n<=100000)(qh:d<t+1)(R:t+1<=n)(hc:n<=c):
 ahk prog 324 #[.slice A n c,ae aj (d:Int),ae aj ((t:Int)+1)] w (Sc w (bk lo hi) n):=by
 obtain⟨gs,K,C⟩:=h;have hl:(aL gs).length=n:=by rw[dM];exact C.1
 have F:aq (∀W,az w W->∀i,i<n->∃q:Addr,A=some q/\W.cell? (bP (q.add (i*10)) 1)=some (ae aj (nth (aL gs) i))):=⟨fun W E i hi=>by
  obtain⟨q,ea,I,N,h3⟩:=(C.Z E E.size).at_ hi;exact⟨q,ea,by rw[fS (by rw[C.1];exact hi)];exact h3 1 (by omega)⟩⟩
 have CO:=sH (Ag (fun xs=>aL xs=aL gs) A n c w ⟨gs,rfl,C⟩ hn);obtain⟨A2,c2,T⟩:=Hq my A n c d (t+1) ak R hc (d:Int) ((t:Int)+1) rfl aQ;have r2:=T.run;have⟨z,D⟩:=eY (nth (aL gs) d);have PZ:aq (lo<=z/\z<hi):=⟨by rw[<-D];exact CS.at_ K (by omega)⟩;have ez:nth (aL ((gs.drop d).take (t+1-d))) 0=z:=by
  rw[<-D,kV];unfold nth;simp only[List.getD_eq_getElem?_getD,List.getElem?_take,List.getElem?_drop,Nat.add_zero];rw[if_pos ak]
 have X:bk lo hi ((gs.drop d).take (t+1-d)):=CS.sub K aef;have Z:aq (∀W,az w W->_):=⟨fun W E=>Gy lo hi _ A2 _ c2 W (T.rx (C.Z E E.size)) X ak ak⟩;have SK:aq (∀a,a<=d->(∀i,a<=i->i<=d->nth (aL gs) i=z)->Be lo hi z a (aL gs)):=⟨fun a ha he=>Be.start K D ak ha he⟩;generalize aL gs=cs at*;clear C K hl T X;have b1:¬((t:Int)+1<=(d:Int)):=ak;have b2:¬((n:Int)<(t:Int)+1):=ak;have b3:¬((d:Int)<0):=ak;go_enter func324,ntmps324;go_wp2_with fail;refine CO.o.mono ?_;rintro e w1 ⟨J,c5,rfl,Y,M⟩;have O5:=sH Y;have L:=sH M;have P:=sH (Z.o w1 M);rw[ez]at P;clear Y M CO Z ez;go_wp2_with fail;refine P.o.mono ?_;rintro e O ⟨rfl,rfl⟩;clear r2 P;obtain⟨q,rfl,e1⟩:=F.o _ L.o d ak;obtain⟨k,r,m⟩:=F.o _ L.o t ak;obtain rfl:q=k:=by injection r
 rw[D]at e1;have AZ:aq (nth cs d=z):=⟨D⟩;generalize nth cs t=y at*;clear D;have i1:=aU d n;have i2:=aU t n;go_wp2;go_quiet (fail);have B6:aq (az w (O.drewN nq)):=⟨aN L.o _⟩;have O6:aq (fR (O.drewN nq) w.heap.size (fun xs=>aL xs=cs) J n c5):=⟨O5.o.ar (aN (Below.refl _ _) _)⟩;clear L O5 e1 m;generalize O.drewN nq=w3 at*;go_wp2;go_loopg[1](d+1)(fun gg v1 wr=>∃a:Nat,a<gg/\a<=d/\v1=ae aj (a:Int)/\aq (∀i,a<=i->i<=d->nth cs i=z)/\wr=w3)
 .exact⟨d,ak,ak,rfl,⟨fun i I N=>by obtain rfl:i=d:=(by omega);exact AZ.o⟩,rfl⟩
 obtain⟨a,hga,Q,rfl,AL,G⟩:=hrel;subst G;have⟨w4,l⟩:=eX wr;rw[<-l]at B6 O6;have ST:=sH (SK.o a Q AL.o);rcases a with _|a
 .go_wp2
  rw[<-l];clear l;go_loopg[2](n+1)(fun gg v2 wr=>∃b:Nat,n-b<gg/\b<=n/\v2=ae aj (b:Int)/\wr=w4)
  .exact⟨t+1,ak,ak,aT,rfl⟩
  obtain⟨b,V,S,rfl,G⟩:=hrel;subst G;by_cases v:b<n
  .obtain⟨k,r,m⟩:=F.o _ (B6.o) b v
   obtain rfl:q=k:=(by injection r);have U:=aU b n;generalize nth cs b=u at*;go_wp2_with fail
   .go_roundg(n-b)
    case measure=>omega
    case rel=>exact⟨b+1,ak,ak,aT,rfl⟩
   .clear m
    go_loopg[11](n+1)(fun gg f wr=>∃i:Nat,n-i<gg/\i<=n/\f=ae aj (i:Int)/\aq (fR wr w.heap.size (fun xs=>Be lo hi z i (aL xs)) J n c5)/\aq (az w wr))
    .exact⟨0,ak,ak,jy,⟨O6.o.imp fun xs _ _ h=>by rw[h];exact ST.o⟩,B6⟩
    obtain⟨i,x,B,rfl,OK,BK⟩:=hrel;by_cases s:i<b
    .exact mQ7
    .exact mQ8
  .have U:=cv b n
   go_wp2;go_loopg[11](n+1)(fun gg f wr=>∃i:Nat,n-i<gg/\i<=n/\f=ae aj (i:Int)/\aq (fR wr w.heap.size (fun xs=>Be lo hi z i (aL xs)) J n c5)/\aq (az w wr))
   .exact⟨0,ak,ak,jy,⟨O6.o.imp fun xs _ _ h=>by rw[h];exact ST.o⟩,B6⟩
   obtain⟨i,x,B,rfl,OK,BK⟩:=hrel;by_cases s:i<b
   .exact mQ7
   .exact mQ8
 .obtain⟨k,r,m⟩:=F.o _ B6.o a ak
  obtain rfl:q=k:=by injection r
  have i4:=aU a n;rw[l]at m;by_cases H:nth cs a=z
  .rw[H]at m
   have AM:aq (∀i,a<=i->i<=d->nth cs i=z):=⟨fun i I N=>by
    rcases Nat.eq_or_lt_of_le I with rfl|I
    .exact H
    .exact AL.o i I N⟩
   clear H;go_wp2;go_roundg(a+1)
   .exact⟨a,ak,ak,aT,AM,rfl⟩
   omega
  .have hu2:(nth cs a==z)=false:=by simp[H]
   generalize nth cs a=u at*;clear H;go_wp2;rw[<-l];clear l m;go_loopg[2](n+1)(fun gg v2 wr=>∃b:Nat,n-b<gg/\b<=n/\v2=ae aj (b:Int)/\wr=w4)
   .exact⟨t+1,ak,ak,aT,rfl⟩
   obtain⟨b,V,S,rfl,G⟩:=hrel;subst G;by_cases v:b<n
   .obtain⟨k,r,m⟩:=F.o _ (B6.o) b v
    obtain rfl:q=k:=(by injection r);have U:=aU b n;generalize nth cs b=u at*;go_wp2_with fail
    .go_roundg(n-b)
     case measure=>omega
     case rel=>exact⟨b+1,ak,ak,aT,rfl⟩
    .clear m
     go_loopg[11](n+1)(fun gg f wr=>∃i:Nat,n-i<gg/\i<=n/\f=ae aj (i:Int)/\aq (fR wr w.heap.size (fun xs=>Be lo hi z i (aL xs)) J n c5)/\aq (az w wr))
     .exact mQ9
     obtain⟨i,x,B,rfl,OK,BK⟩:=hrel;by_cases s:i<b
     .exact mQ7
     .exact mQ8
   .have U:=cv b n
    go_wp2;go_loopg[11](n+1)(fun gg f wr=>∃i:Nat,n-i<gg/\i<=n/\f=ae aj (i:Int)/\aq (fR wr w.heap.size (fun xs=>Be lo hi z i (aL xs)) J n c5)/\aq (az w wr))
    .exact mQ9
    obtain⟨i,x,B,rfl,OK,BK⟩:=hrel;by_cases s:i<b
    .exact mQ7
    .exact mQ8
end Go.Proofs.YtklncadpkniojaaGreatDoor
