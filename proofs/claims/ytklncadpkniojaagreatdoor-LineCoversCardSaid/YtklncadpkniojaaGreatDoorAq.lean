/- Part of LineCovers. -/
import Derived.Test.YtklncadpkniojaaGreatDoorAo
import Derived.Deep.RegionLaw
namespace Go.Proofs.YtklncadpkniojaaGreatDoor
open Go.ChangeShapes Go.WideShapes Go.ChangeAt Go.RowKit Go.Proofs.Tryz
open Go renaming World->ahh,Value->ahj,Calls->ahk,TypeId->ahm,Program->aho
open Go.RowKit renaming Below->ahi
open Go.Value renaming int->ae
open Go.IntKind renaming i64->aj
set_option linter.all false
set_option maxRecDepth 100000
set_option maxHeartbeats 16000000
theorem KY{p:Prop}(h:p:=by go_num):p:=h
theorem zd(x:Int)(w:ahh):ahk prog 241 #[ae aj x] w fun e a=>e=.returned (ae aj (jM x:Nat))/\a=w:=by
 go_enter func241,ntmps241;go_wp2_with fail
 all_goals
  go_ret;exact⟨aag (by rw[DG];omega),rfl⟩
theorem AY(B g a m N c cap:Nat)(xs:aC)(W:ahh)(h:Own W B 3 .i64 (some ⟨g,0,none⟩) N c xs)(I:a+m<=N)(F:N<=4000000):
 ahk prog 242 #[.slice (some ⟨g,a,none⟩) m cap] W fun e n=>e=.returned (.tuple #[])/\Own n B 3 .i64 (some ⟨g,0,none⟩) N c (dN xs a (a+m))/\ahi B W n:=by
 have t:=h.len;have s:aq (Ky (a+0) (a+m) xs=dN xs a (a+m)):=⟨FP ak ak⟩;have l:aq _:=⟨h⟩;generalize dN xs a (a+m)=f at*;clear h t;go_enter func242,ntmps242;go_wp2;go_loopg[2,3](m+1)(fun gg v2 v3 wr=>∃(i q:Nat) (d:aC),q-i<gg/\i<=q/\q<=m/\v2=ae aj (i:Int)/\v3=ae aj ((q:Int)-1)/\aq (Ky (a+i) (a+q) d=f)/\aq (Own wr B 3 .i64 (some ⟨g,0,none⟩) N c d)/\aq (ahi B W wr))
 .exact⟨0,m,xs,ak,ak,ak,rfl,KY,s,l,cA⟩
 obtain⟨i,q,d,D,x,y,rfl,rfl,SI,b,o⟩:=hrel;clear l s;by_cases u:i+1<q
 .obtain⟨r,rfl⟩:∃r,q=r+1:=⟨q-1,ak⟩
  rw[show((r+1:Nat):Int)-1=(r:Int)from ak];have G:=bT b.o (j:=a+i) ak;have H:=bT b.o (j:=a+r) ak;have f1:=aw.frozenAt b.o (a+i);have f2:=aw.frozenAt b.o (a+r);have hlen:=b.o.len;have k:aq (Ky (a+(i+1)) (a+r) (swp d (a+i) (a+r))=f):=⟨by
   have:=SI.o;rw[An ak]at this;rw[show a+i+1=a+(i+1) by omega,show a+(r+1)-1=a+r by omega]at this;exact this⟩
  have w:aq (Own ((wr.setCell ⟨g,a+i,none⟩ (ae aj (nth d (a+r)))).setCell ⟨g,a+r,none⟩ (ae aj (nth d (a+i)))) B 3 .i64 (some ⟨g,0,none⟩) N c (swp d (a+i) (a+r))):=⟨Own.uw (Own.uw b.o (a+i) _) (a+r) _⟩;have z:a+i≠a+r:=ak;have v:=aU i r;have C:=aU i m;have A:=aU r m;clear SI hlen;go_wp2;go_region;go_wp2;go_roundg(r-i)
  .exact⟨i+1,r,swp d (a+i) (a+r),ak,ak,ak,KY,rfl,k,w,⟨bC (Below.setCell (Below.setCell o.o (p:=⟨g,a+i,none⟩) (aw.xD b.o).1 _) (p:=⟨g,a+r,none⟩) (aw.xD b.o).1 _)⟩⟩
  omega
 .have E:aq (d=f):=⟨by have:=SI.o;rwa [th (by omega)]at this⟩
  have v:decide ((i:Int)<(q:Int)-1)=false:=gW;go_wp2;go_end0;exact⟨rfl,by rw[<-E.o];exact b.o,o.o⟩
def UY(n i:Nat):aC:=pP i++List.replicate (n-i) 0
theorem NQ(n:Nat):UY n 0=List.replicate n 0:=by simp[UY,pP]
theorem Nq(n:Nat):UY n n=pP n:=by simp[UY]
theorem UR{n i:Nat}(h:i<n):(UY n i).set i (i:Int)=UY n (i+1):=by
 obtain⟨d,a⟩:∃d,n-i=d+1:=⟨n-i-1,ak⟩;unfold UY;rw[a,show n-(i+1)=d by omega,O',List.set_append_right _ _ (by rw[nC];exact Nat.le_refl _),nC,Nat.sub_self];simp[List.replicate_succ]
theorem At{lv:aC}{N least k:Nat}{o:aC}(h:least<=k+1):Ir lv N least (k+1) o=Ir lv N least k (ar lv (k+1) N o 0):=by simp[Ir,h]
theorem Ua{lv:aC}{N least k:Nat}{o:aC}(h:¬least<=k)(a:1<=least):Ir lv N least k o=o:=by
 have _:=a;cases k with
 |zero=>rfl
 |succ k=>simp[Ir,h]
theorem iv{a b:Int}(h:a=b):ae aj a=ae aj b:=by rw[h]
theorem EH(v:ahj)(w:ahh):ahk prog 187 #[v] w fun e a=>e=.returned (.tuple #[])/\a=w:=by
 go_enter func187,ntmps187;go_wp2;go_end0;exact⟨rfl,rfl⟩
theorem VN{P:aho}{t e:ahm}{bytes:Nat}(T:aR P t e 1 bytes)(g n c a b:Nat)(f:a<b)(i:b<=n)(j:n<=c)(w:ahh):
 (Instr.slice t (.slice (some ⟨g,0,none⟩) n c) (some (ae aj (a:Int))) (some (ae aj (b:Int))) none).run P w=.ok (.slice (some ⟨g,a,none⟩) (b-a) (c-a)) w:=by
 rw[run_slice_lh w t _ n c (cQ T) .i64 .i64 a b ak ak ak,cO T];have d:¬c=a:=ak;simp[Result.andThen,sliced,d];unfold Addr.add;split
 .rename_i h;subst h;rfl
 .simp
theorem aet{G:Prop}(s:G:=by
 exact⟨i+1,ak,ak,iv (by have:=EM.o;omega),iv (by have:=EL.o;split at this<;>omega),KY,SO,SE⟩):G:=s
theorem DX(A:aA)(n c:Nat)(lv:aC)(w:ahh)(hx:bH w w.heap.size .i64 A n lv)(hn:n<=4000000):
 ahk prog 186 #[.slice A n c,.func (.func 187) #[] #[]] w (lN w 3 .i64 n (kI lv)):=by
 have HX:aq _:=⟨hx⟩;have FI:aq (Ir lv n (fu lv n) (lj lv n) (pP n)=kI lv):=⟨by unfold kI;rw[hx.len]⟩;generalize kI lv=l at*;clear hx;go_enter func186,ntmps186;go_wp2_with (refine eh YQ FK rfl (.tmp 14) (.tmp 14) rfl n rfl rfl rfl rfl ak w.heap.size bW ?_;intro g w1 o1 b1;have O1:aq _:=⟨o1⟩;have B1:aq _:=⟨b1⟩;clear o1 b1);go_loopg[6,7,8,9,18](n+1)(fun gg v6 v7 _ _ v18 wr=>∃i:Nat,n-i<gg/\i<=n/\v6=ae aj (lj lv i:Nat)/\v7=ae aj (fu lv i:Nat)/\v18=ae aj (i:Int)/\aq (Own wr w.heap.size 3 .i64 (some ⟨g,0,none⟩) n n (UY n i))/\aq (az w wr))
 .exact⟨0,ak,ak,rfl,rfl,rfl,⟨by rw[NQ];exact O1.o⟩,B1⟩
 obtain⟨i,m,hi,rfl,rfl,rfl,s,U⟩:=hrel;clear O1 B1;by_cases f:i<n
 .obtain⟨ad,rfl,_,Q⟩:=(HX.o.Z U.o).2 ak
  have c1:=Q i f;obtain⟨u,hu⟩:∃u,wr.cell? ⟨g,i,none⟩=some u:=⟨_,bT s.o f⟩;have f1:=aw.frozenAt s.o i;have SO:aq (Own (wr.setCell ⟨g,i,none⟩ (ae aj (i:Int))) w.heap.size 3 .i64 (some ⟨g,0,none⟩) n n (UY n (i+1))):=⟨by rw[<-UR f];exact Own.uw s.o i _⟩;have SE:aq (az w (wr.setCell ⟨g,i,none⟩ (ae aj (i:Int)))):=⟨Below.setCell U.o (p:=⟨g,i,none⟩) (aw.xD s.o).1 _⟩;have i1:=aU i n;have hH:=zR (nth lv i);have EM:aq (lj lv (i+1)=max (lj lv i) (jM (nth lv i))):=⟨rfl⟩;have EL:aq (fu lv (i+1)=if jM (nth lv i)%2=1 then min (fu lv i) (jM (nth lv i))else fu lv i):=⟨rfl⟩;have N:aq (∀W,_):=⟨fun W=>zd (nth lv i) W⟩;generalize lj lv i=M at*;generalize fu lv i=L at*;generalize jM (nth lv i)=H at*;generalize nth lv i=x at*;clear Q;have m0:(M:Int)<(H:Int)∨(H:Int)<=(M:Int):=ak;have l0:(H:Int)<(L:Int)∨(L:Int)<=(H:Int):=ak;rcases m0 with m1|m1
  all_goals
   cases p1:((H:Int)%2==1)with
   |false=>
    have hp:¬H%2=1:=by
     intro h;have h2:((H:Int)%2==1)=true:=cw;rw[h2]at p1;cases p1
    clear l0;go_wp2_with (go_at_call 241;refine(N.o _).mono ?_;rintro e w' ⟨rfl,rfl⟩);go_roundg(n-i)
    .exact aet
    omega
   |true=>
    have hp:H%2=1:=by have:=beq_iff_eq.1 p1;omega
    rcases l0 with l1|l1
    all_goals
     go_wp2_with (go_at_call 241;refine(N.o _).mono ?_;rintro e w' ⟨rfl,rfl⟩);go_roundg(n-i)
     .exact aet
     omega
 .obtain rfl:i=n:=by omega
  have LB:aq (1<=fu lv i/\fu lv i<=127):=⟨vA lv i⟩;have MB:aq (lj lv i<=126):=⟨AK lv i⟩;rw[Nq]at s;have PM:aq ((pP i).Perm (pP i)):=⟨List.Perm.refl _⟩;generalize fu lv i=L at*;generalize lj lv i=M at*;have hL:=LB.o.1;have hL2:=LB.o.2;have hM:=MB.o;obtain⟨wa,rfl⟩:=eX wr;clear f m hi;go_wp2;go_loopg[10,11,12](M+1)(fun gg v10 _ _ wr=>∃(k:Nat) (o:aC),k<gg/\k<=126/\v10=ae aj (k:Int)/\aq (o.Perm (pP i))/\aq (Ir lv i L k o=l)/\aq (Own wr w.heap.size 3 .i64 (some ⟨g,0,none⟩) i i o)/\aq (az w wr))
  .exact⟨M,pP i,ak,ak,rfl,PM,FI,s,U⟩
  obtain⟨k,o,m,hk,rfl,PO,RF,OO,BO⟩:=hrel;obtain⟨wo,rfl⟩:=eX wr;clear FI PM s U;by_cases r:L<=k
  .obtain⟨q,rfl⟩:∃q,k=q+1:=⟨k-1,ak⟩
   have C:aq (Ir lv i L q (ar lv (q+1) i o 0)=l):=⟨by rw[<-At r];exact RF.o⟩;have HG:aq (q+1<gk):=⟨m⟩;have⟨J,t⟩:=eY (ar lv (q+1) i o 0);rw[t]at C;have PP:aq (ar lv (q+1) i o 0=J):=⟨t⟩;clear t;have k1:(L:Int)<=(q:Int)+1:=ak;rw[show((q+1:Nat):Int)=(q:Int)+1 from rfl];clear m RF r;go_wp2;go_loopg[11,12](i+1)(fun gg v11 _ wr=>∃(a:Nat) (b:aC),i-a<gg/\a<=i/\v11=ae aj (a:Int)/\aq (b.Perm (pP i))/\aq (ar lv (q+1) i b a=J)/\aq (Own wr w.heap.size 3 .i64 (some ⟨g,0,none⟩) i i b)/\aq (az w wr))
   .exact⟨0,o,ak,ak,rfl,PO,PP,OO,BO⟩
   obtain⟨a,b,m,ha,rfl,S,Z,B,X⟩:=hrel;obtain⟨wp,rfl⟩:=eX wr;clear PO PP OO BO;by_cases F:a<i
   .have K:aq (i-a<gk):=⟨m⟩
    have⟨T,D⟩:=eY (oN lv b (q+1) i a);have V:=sU lv b (q+1) ha;rw[D]at V;have R:=V.1;have hT2:=V.2;have ST:aq (ff (Kw lv b (q+1)) i a=T):=⟨D⟩;have PT:aq (ar lv (q+1) i (dN b a T) (T+1)=J):=⟨by rw[<-D,<-lF F];exact Z.o⟩;have GB:aq (T<i->Kw lv (dN b a T) (q+1) T=false):=⟨fun h=>by have:=Cz (lv:=lv) (k:=q+1) B.o.len ha (by rw[D];exact h);rwa [D]at this⟩;have OR:aq (Bc b i):=⟨nN S.o⟩;have a1:=aU a i;clear D V m Z;go_upto_block 6 with fail;go_cut[11](fun v wx=>v=ae aj (T:Int)/\wx=wp)
    ·
     go_wp2;go_loopg[11](i-a+1)(fun gg v wr=>∃j:Nat,i-j<gg/\a<=j/\j<=i/\v=ae aj (j:Int)/\aq (ff (Kw lv b (q+1)) i j=T)/\wr=wp)
     .exact⟨a,ak,ak,ak,rfl,ST,rfl⟩
     obtain⟨j,si,haj,me,rfl,O,rfl⟩:=hrel;by_cases P:j<i
     .obtain⟨y,hy⟩:∃y:Nat,nth b j=(y:Int):=⟨(nth b j).toNat,by have:=OR.o.ge j P;omega⟩
      have hyi:y<i:=by have:=OR.o.lt j P;omega
      have c1:=bT B.o P;rw[hy]at c1;obtain⟨ad,rfl,_,Q⟩:=(HX.o.Z X.o).2 ak;have c2:=Q y hyi;have Y:aq (Kw lv b (q+1) j=decide (q+1<=jM (nth lv y))):=⟨by unfold Kw;rw[hy];rfl⟩;have N:aq (∀W,_):=⟨fun W=>zd (nth lv y) W⟩;generalize jM (nth lv y)=H at*;generalize nth lv y=x at*;have j1:=aU j i;have y0:=ie y;have y1:=aU y i;clear hy Q;by_cases G:q+1<=H
      .have d:aq (ff (Kw lv b (q+1)) i (j+1)=T):=⟨by rw[<-qV P (by rw[Y.o];simpa using G)];exact O.o⟩
       have k2:(q:Int)+1<=(H:Int):=ak;clear O Y;go_wp2_with (go_at_call 241;refine(N.o _).mono ?_;rintro e w' ⟨rfl,rfl⟩);go_roundg(i-j)
       .exact⟨j+1,ak,ak,ak,KY,d,rfl⟩
       omega
      .have d:aq (j=T):=⟨by have:=O.o;rwa [iR (fun _=>by rw[Y.o];simpa using G)]at this⟩
       have k2:decide ((q:Int)+1<=(H:Int))=false:=gW;have k3:decide (q+1<=H)=false:=gW;clear O Y;go_wp2_with (go_at_call 241;refine(N.o _).mono ?_;rintro e w' ⟨rfl,rfl⟩);go_meet;exact⟨by rw[d.o],rfl⟩
     .obtain rfl:j=i:=by omega
      have d:aq (j=T):=⟨by have:=O.o;rwa [Dj bW]at this⟩;have j1:decide ((j:Int)<(j:Int))=false:=aQ;clear P;go_wp2;go_meet;exact⟨by rw[d.o],rfl⟩
    obtain⟨rfl,rfl⟩:=hcut;by_cases I:a<T
    .have t1:=aU a T
     have CU:=VN YQ g i i a T I hT2 bW;have RV:aq (∀W,Own W w.heap.size 3 .i64 (some ⟨g,0,none⟩) i i b->_):=⟨fun W h=>AY w.heap.size g a (T-a) i i (i-a) b W h ak hn⟩;rw[show a+(T-a)=T by omega]at RV;have PN:aq ((dN b a T).Perm (pP i)):=⟨(mP R).trans S.o⟩;have z:aq (ar lv (q+1) i (dN b a T) T=J):=⟨by rw[Jg (by rw[uI R];exact B.o.len) GB.o];exact PT.o⟩;generalize dN b a T=o3 at*;go_wp2_with (first
      |(go_at_call 242;refine(RV.o _ B.o).mono ?_;rintro e w5 ⟨rfl,o5,b5⟩;have O5:aq _:=⟨o5⟩;have B5:aq (az w w5):=⟨X.o.trans b5⟩;clear o5 b5 RV)
      |(go_at_call 187;refine(EH _ _).mono ?_;rintro e w6 ⟨rfl,rfl⟩))
     go_roundg(i-a)
     .exact⟨T,o3,ak,ak,rfl,PN,z,O5,B5⟩
     exact K.o
    .obtain rfl:T=a:=by omega
     have z:aq (ar lv (q+1) i b (T+1)=J):=⟨by have:=PT.o;rwa [qY (by omega) bW (by rw[B.o.len];omega)]at this⟩;clear I;go_wp2;go_roundg(i-T)
     .exact⟨T+1,b,ak,ak,KY,S,z,B,X⟩
     exact K.o
   .have E:aq (Ir lv i L q b=l):=⟨by have:=C.o;rwa [<-Z.o,kY (by omega)]at this⟩
    obtain rfl:a=i:=ak;have a1:decide ((a:Int)<(a:Int))=false:=aQ;clear F C Z m;go_wp2;go_roundg(q+1)
    .exact⟨q,b,ak,ak,KY,S,E,B,X⟩
    exact HG.o
  .have E:aq (o=l):=⟨by have:=RF.o;rwa [Ua r hL]at this⟩
   have k1:decide ((L:Int)<=(k:Int))=false:=gW;have k2:decide (L<=k)=false:=gW;go_wp2;go_ret;exact⟨_,_,rfl,by rw[<-E.o];exact OO.o,BO.o⟩
end Go.Proofs.YtklncadpkniojaaGreatDoor
