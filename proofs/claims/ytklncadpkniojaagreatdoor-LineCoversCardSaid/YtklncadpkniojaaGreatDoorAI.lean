/- Part of LineCovers. -/
import Derived.Test.YtklncadpkniojaaGreatDoorAG
import Derived.Test.YtklncadpkniojaaGreatDoorAs
import Derived.Test.YtklncadpkniojaaGreatDoorAA
import Derived.Laws.Bits64b
import Derived.Lib.Mul64
import Derived.Lib.SliceRun
namespace Go.Proofs.YtklncadpkniojaaGreatDoor
open Go.ChangeShapes Go.WideShapes Go.ChangeAt Go.RowKit Go.Proofs.Tryz
open Go renaming World->ahh,Value->ahj,Calls->ahk,TypeId->ahm,Ending->ahn,Program->aho
open Go.RowKit renaming Below->ahi,wrap64->ahl
open Go.Value renaming int->ae
open Go.IntKind renaming i64->aj
set_option linter.all false
set_option maxRecDepth 100000
set_option maxHeartbeats 16000000
variable{L b g:Nat}{cs:Array ahj}{w:ahh}{t:ahm}
section
variable{P:aho}{ops:Array Oper}{Q:Exit -> Act -> ahh -> Prop}
structure zm(T:List ahj)(n:Nat)(z r1 r2:Array ahj)(w:ahh)(L:Nat->Bool)(bm:Nat->ahj)(x y:ahj)(W:ahh):Prop where
 be:az w W
 fv:∀k v,T[k]? =some v->L k=true->bm k=v
 p1:L n=true->∃g,x=.pointer (some ⟨g,0,none⟩)/\w.heap.size<=g/\Bx W g (if L (n+2)=true then r1 else z)
 p2:L (n+1)=true->∃g,y=.pointer (some ⟨g,0,none⟩)/\w.heap.size<=g/\Bx W g (if L (n+3)=true then r2 else z)
 ne:L n=true->L (n+1)=true->x≠y
 o1:L (n+2)=true->L n=true
 o2:L (n+3)=true->L (n+1)=true
variable{T:List ahj}{n:Nat}{z r1 r2:Array ahj}{w W:ahh}{L:Nat -> Bool}{bm:Nat -> ahj}{x y:ahj}
theorem zm.pure(h:zm T n z r1 r2 w L bm x y W)(c:T.length=n){i:Nat}{v:ahj}(b:T[i]? =some v):zm T n z r1 r2 w (fun k=>k==i||L k) (oA bm i v) x y W:=by
 have d:i<n:=by rw[<-c];exact(List.getElem?_eq_some_iff.1 b).1
 have e:∀k,n<=k->(k==i||L k)=L k:=fun k hk=>by have:(k==i)=false:=pI;simp[this]
 refine⟨h.be,fun k u a hk=> ?_, ?_, ?_, ?_, ?_, ?_⟩
 .by_cases pK:k=i
  .subst pK;unfold oA;rw[if_pos rfl];rw[b]at a;exact Option.some.inj a
  .unfold oA
   rw[if_neg pK];have:(k==i)=false:=Fc;exact h.fv k u a Ff
 .rw[e n bW,e (n+2) ak];exact h.p1
 .rw[e (n+1) ak,e (n+3) ak];exact h.p2
 .rw[e n bW,e (n+1) ak];exact h.ne
 .rw[e n bW,e (n+2) ak];exact h.o1
 .rw[e (n+1) ak,e (n+3) ak];exact h.o2
theorem Nz{k:Nat}(h:g≠k):Value.pointer (some ⟨g,0,none⟩)≠ .pointer (some ⟨k,0,none⟩):=fun e=>h (by injection e with e;injection e with e;injection e)
theorem Bx.jS{w a:ahh}(h:Bx w b cs)(e:a.heap[b]? =w.heap[b]?):Bx a b cs:=by obtain⟨t,h⟩:=h;exact⟨t,e.trans h⟩
theorem zm.afp(h:zm T n z r1 r2 w L bm x y W)(m:T.length=n)(b:L n=false)(t:ahm):zm T n z r1 r2 w (fun k=>k==n||L k) bm (.pointer (some ⟨W.heap.size,0,none⟩)) y (W.alloc (.cells z t)):=by
 have c:=av W (.cells z t);have e:∀k,k≠n->(k==n||L k)=L k:=fun k hk=>by have:(k==n)=false:=Bl;simp[this]
 have l:L (n+2)=false:=by
  cases i:L (n+2)
  .rfl
  .rw[h.o1 i]at b;cases b
 refine⟨h.be.trans (c.mono h.be.size),fun k u d hk=>h.fv k u d (by rw[e k (by have:=(List.getElem?_eq_some_iff.1 d).1;omega)]at hk;exact hk),fun _=>⟨_,rfl,h.be.size, ?_⟩, ?_, ?_, ?_, ?_⟩
 .rw[e (n+2) ak,l];exact Bx.new _ _ _
 .rw[e (n+1) ak,e (n+3) ak]
  intro k;obtain⟨g,j,f,a⟩:=h.p2 k;exact⟨g,j,f,a.ar c a.lt⟩
 .rw[e (n+1) ak]
  intro _ k;obtain⟨g,rfl,_,a⟩:=h.p2 k;have:=a.lt;exact Nz ak
 .intro _;simp
 .rw[e (n+1) ak,e (n+3) ak];exact h.o2
theorem zm.afV(h:zm T n z r1 r2 w L bm x y W)(m:T.length=n)(b:L (n+1)=false)(t:ahm):zm T n z r1 r2 w (fun k=>k==n+1||L k) bm x (.pointer (some ⟨W.heap.size,0,none⟩)) (W.alloc (.cells z t)):=by
 have c:=av W (.cells z t);have e:∀k,k≠n+1->(k==n+1||L k)=L k:=fun k hk=>by have:(k==n+1)=false:=Bl;simp[this]
 have l:L (n+3)=false:=by
  cases i:L (n+3)
  .rfl
  .rw[h.o2 i]at b;cases b
 refine⟨h.be.trans (c.mono h.be.size),fun k u d hk=>h.fv k u d (by rw[e k (by have:=(List.getElem?_eq_some_iff.1 d).1;omega)]at hk;exact hk), ?_,fun _=>⟨_,rfl,h.be.size, ?_⟩, ?_, ?_, ?_⟩
 .rw[e n ak,e (n+2) ak]
  intro k;obtain⟨g,j,f,a⟩:=h.p1 k;exact⟨g,j,f,a.ar c a.lt⟩
 .rw[e (n+3) ak,l];exact Bx.new _ _ _
 .rw[e n ak]
  intro k _;obtain⟨g,rfl,_,a⟩:=h.p1 k;have:=a.lt;exact Nz ak
 .rw[e n ak,e (n+2) ak];exact h.o1
 .intro _;simp
theorem zm.afP(h:zm T n z r1 r2 w L bm (.pointer (some ⟨g,0,none⟩)) y W)(m:T.length=n)(a:L n=true):zm T n z r1 r2 w (fun k=>k==n+2||L k) bm (.pointer (some ⟨g,0,none⟩)) y (W.setRow g r1):=by
 have e:∀k,k≠n+2->(k==n+2||L k)=L k:=fun k hk=>by have:(k==n+2)=false:=Bl;simp[this]
 obtain⟨j,e1,c,l⟩:=h.p1 a;obtain rfl:g=j:=aer;refine⟨below_setRow h.be c _,fun k u d hk=>h.fv k u d (by rw[e k (by have:=(List.getElem?_eq_some_iff.1 d).1;omega)]at hk;exact hk),fun _=>⟨g,rfl,c, ?_⟩, ?_, ?_, ?_, ?_⟩
 .rw[if_pos aQ];exact l.row
 .rw[e (n+1) ak,e (n+3) ak]
  intro k;obtain⟨g2,rfl,f,i⟩:=h.p2 k;have b:g2≠g:=fun e=>h.ne a k (by rw[e])
  exact⟨g2,rfl,f,i.jS (setRow_other _ _ _ _ b)⟩
 .rw[e n ak,e (n+1) ak];exact h.ne
 .rw[e n ak];exact fun _=>a
 .rw[e (n+1) ak,e (n+3) ak];exact h.o2
theorem zm.aff(h:zm T n z r1 r2 w L bm x (.pointer (some ⟨g,0,none⟩)) W)(m:T.length=n)(a:L (n+1)=true):zm T n z r1 r2 w (fun k=>k==n+3||L k) bm x (.pointer (some ⟨g,0,none⟩)) (W.setRow g r2):=by
 have e:∀k,k≠n+3->(k==n+3||L k)=L k:=fun k hk=>by have:(k==n+3)=false:=Bl;simp[this]
 obtain⟨j,e1,c,l⟩:=h.p2 a;obtain rfl:g=j:=aer;refine⟨below_setRow h.be c _,fun k u d hk=>h.fv k u d (by rw[e k (by have:=(List.getElem?_eq_some_iff.1 d).1;omega)]at hk;exact hk), ?_,fun _=>⟨g,rfl,c, ?_⟩, ?_, ?_, ?_⟩
 .rw[e n ak,e (n+2) ak]
  intro k;obtain⟨g2,rfl,f,i⟩:=h.p1 k;have b:g2≠g:=fun e=>h.ne k a (by rw[e])
  exact⟨g2,rfl,f,i.jS (setRow_other _ _ _ _ b)⟩
 .rw[if_pos aQ];exact l.row
 .rw[e n ak,e (n+1) ak];exact h.ne
 .rw[e n ak,e (n+2) ak];exact h.o1
 .rw[e (n+1) ak];exact fun _=>a
def two(x y:ahj):Nat->ahj
 |0=>x
 |_+1=>y
theorem qF{b:Act}{k0 e:Nat}{bm:Nat->ahj}{v:ahj}(h:e<k0):∀m,(cH b k0 m bm).put (some e) v=cH (b.put (some e) v) k0 m bm
 |0=>rfl
 |m+1=>by
  have f:∀c:Act,cH c k0 (m+1) bm=(cH c k0 m bm).put (some (k0+m)) (bm m):=fun c=>rfl
  rw[f,f,<-qF h m,Act.put_comm];intro d a g;injection a with a
  injection g with g
  omega
theorem Act.Ft(a:Act)(d:Nat)(x y:ahj):(a.put (some d) x).put (some d) y=a.put (some d) y:=by
 simp[Act.put]
theorem vj{S d k0:Nat}{a:Act}(T:List ahj)(n:Nat)(z r1 r2:Array ahj)(A:T.length=n)(M:P.follows .mixedOrders=true)(U:fB ops=true)(X:d+2<=k0)(V:ops.size=n+4)
 (u:∀i o L bm x y W,ops[i]? =some o->L i=false->o.after.all (fun e=> !Region.binds .any e||L e.on)=true->zm T n z r1 r2 w L bm x y W->∀c,c=cH (cH a d 2 (two x y)) k0 n bm->∀K:Act->ahh->Prop,
  (∀v,T[i]? =some v->K (c.put (some (k0+i)) v) W)->(i=n->∀t,K (c.put (some d) (.pointer (some ⟨W.heap.size,0,none⟩))) (W.alloc (.cells z t)))->(i=n+1->∀t,K (c.put (some (d+1)) (.pointer (some ⟨W.heap.size,0,none⟩))) (W.alloc (.cells z t)))->
  (i=n+2->∀g,x=.pointer (some ⟨g,0,none⟩)->K c (W.setRow g r1))->(i=n+3->∀g,y=.pointer (some ⟨g,0,none⟩)->K c (W.setRow g r2))->wpOp P ops Q i K c W)
 (p:∀(L:Nat->Bool) (o:Oper),(ops[n+2]? =some o->o.after.all (fun e=> !Region.binds .any e||L e.on)=true->L n=true)/\(ops[n+3]? =some o->o.after.all (fun e=> !Region.binds .any e||L e.on)=true->L (n+1)=true))
 (B:∀x y W D C,x=.pointer (some ⟨D,0,none⟩)->y=.pointer (some ⟨C,0,none⟩)->Bx W D r1->Bx W C r2->az w W->∀c,c=cH (cH a d 2 (two x y)) k0 n (fun k=>T.getD k undef)->Q .normal c W):(Code.region S ops true).wp P Q a w:=by
 have G:∀(b:Act) (x y x' Z:ahj),cH b d 2 (two x y)=(b.put (some d) x).put (some (d+1)) y:=fun b x y _ _=>rfl
 refine jO M U (fun L c W=>∃bm x y,zm T n z r1 r2 w L bm x y W/\c=cH (cH a d 2 (two x y)) k0 n bm) ⟨fun k=>a.tmps.getD (k0+k) undef,a.tmps.getD d undef,a.tmps.getD (d+1) undef,⟨(Below.refl _ _).drew,fun _ _ _ h=>fA,fun h=>fA,fun h=>fA,fun h=>fA,fun h=>fA,fun h=>fA⟩, ?_⟩ ?_ ?_
 .have e:cH a d 2 (two (a.tmps.getD d undef) (a.tmps.getD (d+1) undef))=a:=by
   have F:=jE a.tmps d 2;unfold cH;have E:gv a.tmps d (two (a.tmps.getD d undef) (a.tmps.getD (d+1) undef)) 2=gv a.tmps d (fun k=>a.tmps.getD (d+k) undef) 2:=rfl;rw[E,F]
  rw[e];unfold cH;rw[jE]
 .rintro i o L c W I r j ⟨bm,x,y,l,q⟩
  refine u i o L bm x y W I r j l c q _ (fun v N=>⟨oA bm i v,x,y,l.pure A N, ?_⟩) (fun s t=> ?_) (fun s t=> ?_) (fun s g H=> ?_) (fun s g H=> ?_)
  .rw[q,tQ (by rw[<-A];exact(List.getElem?_eq_some_iff.1 N).1)]
  .subst s
   refine⟨bm,_,y,l.afp A r t, ?_⟩;rw[q,qF ak,G _ _ _ x y,G _ _ _ x y,Act.put_comm _ _ _ (by intro Y J O;injection J with J;injection O with O;omega),Act.Ft]
  .subst s
   refine⟨bm,x,_,l.afV A r t, ?_⟩;rw[q,qF ak,G _ _ _ x y,G _ _ _ x y,Act.Ft]
  .subst s
   subst H;exact⟨bm,_,y,l.afP A ((p L o).1 I j),q⟩
  .subst s
   subst H;exact⟨bm,x,_,l.aff A ((p L o).2 I j),q⟩
 .rintro L c W f ⟨bm,x,y,l,q⟩
  obtain⟨D,rfl,_,F⟩:=l.p1 (f n ak);obtain⟨C,rfl,_,E⟩:=l.p2 (f (n+1) ak);rw[if_pos (f _ ak)]at F E;refine B _ _ W D C rfl rfl F E l.be c ?_;rw[q];have key:∀m,m<=n->∀b:Act,cH b k0 m bm=cH b k0 m (fun k=>T.getD k undef):=fun m=>by
   induction m with
   |zero=>intro _ b;rfl
   |succ m ih=>
    intro M b;have R:=l.fv m (T.getD m undef) (by rw[List.getD_eq_getElem?_getD,List.getElem?_eq_getElem ak];rfl) (f m ak);show(cH b k0 m bm).put (some (k0+m)) (bm m)=(cH b k0 m (fun k=>T.getD k undef)).put (some (k0+m)) (T.getD m undef);rw[ih ak,R]
  exact key n bW _
end
theorem ud(C:aA)(n d:Nat)(w:ahh)(k:Iw w w.heap.size .i64 aH C n)(j:n<=10000):ahk prog 219 #[.slice C n d] w (Nw w 3 .i64 aH n):=by
 obtain⟨xs,g,_⟩:=k;have h:=sH g;go_enter func219,ntmps219;go_wp2_with (at_builtin;refine gS lO rfl (.tmp 4) (.tmp 5) rfl rfl (Own.nil w w.heap.size 3 .i64) rfl h.o ak bW ?_;intro c f i o1 a;have e:aq (Ow i w.heap.size 3 .i64 aH c n f):=⟨⟨_,by simpa using o1,fun _ _=>trivial⟩⟩;have b:=sH a;clear o1 a);go_ret;exact⟨_,_,aQ,e.o,b.o⟩
def af6(w:ahh)(B:Nat)(A:aA)(n c:Nat)(e:ahn)(a:ahh):Prop:=e=.returned (.slice A n c)/\Ow a B 3 .i64 aH A n c/\ahi B w a
theorem abR{G:Prop}(s:G:=by
 go_wp2
 (go_roundg(n-i)<;>first|omega|exact⟨i+1,_,ak,ak,rfl,aT,O,BE⟩|exact⟨i+1,_,ak,ak,rfl,aT,O2,B2⟩)):G:=s
theorem ags(A:aA)(n c B:Nat)(a:Int)(w:ahh)(h:Ow w B 3 .i64 aH A n c)(u:B<=w.heap.size)(v:n<=10000):ahk prog 133 #[.slice A n c,ae aj a] w (af6 w B A n c):=by
 have O:=sH h;go_enter func133,ntmps133;go_wp2_with fail;refine(ug a w).mono ?_;rintro e _ ⟨z,rfl,rfl⟩
 rename ahh=>w
 go_wp2;go_loopg[5,6](n+1)(fun gg k q wr=>∃(i:Nat) (z:Int),n-i<gg/\i<=n/\k=ae aj z/\q=ae aj (i:Int)/\aq (Ow wr B 3 .i64 aH A n c)/\aq (ahi B w wr))
 .exact⟨0,z,ak,ak,rfl,rfl,O,cA⟩
 obtain⟨i,z,s,t,rfl,rfl,O,BE⟩:=hrel;by_cases d:i<n;rotate_left
 .have o:=cv i n
  go_wp2;go_ret;exact⟨rfl,O.o,BE.o⟩
 have o:=aU i n;obtain⟨g,rfl,b,m⟩:=O.o.form ak;obtain⟨x,_,r⟩:=O.o.get d;have f0:=O.o.fz i;have O2:=sH (O.o.set (P:=aH) i (y:=1) trivial);have B2:aq (ahi B w (wr.setCell ⟨g,i,none⟩ (ae aj 1))):=⟨Below.setCell BE.o (p:=⟨g,i,none⟩) b _⟩;have l:x=1∨x=2∨x=4∨(x≠1/\x≠2/\x≠4):=ak;rcases l with rfl|rfl|rfl|⟨j,h2,h3⟩
 rotate_right
 .have j:(x==1)=false:=by simpa using j
  have h2:(x==2)=false:=vv;have h3:(x==4)=false:=Fb;go_wp2
  (go_roundg(n-i)<;>first|omega|exact⟨i+1,_,ak,ak,rfl,aT,O,BE⟩|exact⟨i+1,_,ak,ak,rfl,aT,O2,B2⟩)
 .exact abR
 .exact abR
 by_cases f:(z==1)=true
 .exact abR
 have f:(z==1)=false:=by simpa using f
 go_wp2
 (go_roundg(n-i)<;>first|omega|exact⟨i+1,_,ak,ak,rfl,aT,O,BE⟩|exact⟨i+1,_,ak,ak,rfl,aT,O2,B2⟩)
theorem aeZ{G:Prop}(s:G:=by
 go_wp2
 go_roundg(n-i)
 .exact⟨i+1,ak,ak,aT,⟨O2.o _⟩,⟨B2.o _⟩⟩
 omega):G:=s
theorem af8(C:aA)(n d:Nat)(a:Int)(w:ahh)(k:Iw w w.heap.size .i64 aH C n)(u:n<=10000):ahk prog 139 #[.slice C n d,ae aj a] w (Nw w 3 .i64 aH n):=by
 have K:=sH k;go_enter func139,ntmps139;go_wp2_with fail;refine(ud C n d w K.o u).mono ?_;rintro e H ⟨A,c,rfl,o1,o⟩;have O:=sH o1;have s:=sH o;go_wp2;go_loopg[6,7](n+1)(fun gg B _ wr=>∃(i:Nat),n-i<gg/\i<=n/\B=ae aj (i:Int)/\aq (Ow wr w.heap.size 3 .i64 aH A n c)/\aq (az w wr))
 .exact⟨0,ak,ak,rfl,O,s⟩
 obtain⟨i,F,G,rfl,O,f⟩:=hrel;by_cases l:i<n;rotate_left
 .have t:=cv i n
  go_wp2;go_ret;exact⟨_,_,rfl,O.o,f.o⟩
 have t:=aU i n;obtain⟨g,rfl,j,r⟩:=O.o.form ak;obtain⟨x,_,D⟩:=O.o.get l;have f0:=O.o.fz i;have O2:aq (∀y:Int,Ow (wr.setCell ⟨g,i,none⟩ (ae aj y)) w.heap.size 3 .i64 aH (some ⟨g,0,none⟩) n c):=⟨fun y=>O.o.set i trivial⟩;have B2:aq (∀y:Int,az w (wr.setCell ⟨g,i,none⟩ (ae aj y))):=⟨fun y=>Below.setCell f.o (p:=⟨g,i,none⟩) j _⟩;by_cases h:x=9;rotate_left
 .have h:(x !=9)=true:=by simpa using h
  go_wp2;go_roundg(n-i)
  .exact⟨i+1,ak,ak,aT,O,f⟩
  omega
 subst h;go_wp2_with fail;refine(ug a wr).mono ?_;rintro e _ ⟨z,rfl,rfl⟩
 rename ahh=>wr
 go_upto_if 24 with fail;go_cut[7](fun v m=>(∃z:Int,v=ae aj z)/\wr=m)
 case first=>
  rcases i with _|i
  .go_wp2
   go_meet;exact⟨⟨_,rfl⟩,rfl⟩
  obtain⟨y,_,E⟩:=O.o.get (show i<n by omega);have wk:ahl (i:Int)=(i:Int):=IntWalk.wrap64_in _ ak;have k0:=ie i;have k1:=aU i n;have k2:(0:Int)<(i:Int)+1:=ak;go_wp2;go_meet;exact⟨⟨_,rfl⟩,rfl⟩
 case rest=>
 obtain⟨⟨q,rfl⟩,rfl⟩:=hcut;go_wp2_with fail;refine(vq q wr).mono ?_;rintro e _ ⟨b,rfl,rfl⟩
 rename ahh=>wr
 cases b
 .exact aeZ
 .exact aeZ
section
variable{P:aho}{ops:Array Oper}{md:Region.Mode}{C:ahh -> Prop}{T:Option Tmp -> Option Sat}
theorem dF{l:Array Bool}{i:Nat}(c:i<l.size)(a:l.getD i true=false)(b:l.getD i false=true):False:=by
 rw[Array.getD_eq_getD_getElem?,Array.getElem?_eq_getElem c]at a b;simp at a b;rw[b]at a;cases a
theorem xz{Q':Exit->Act->ahh->Prop}(s:∀{listed:Array Bool},listed.size=ops.size->Region.ready .any ops listed=[]->∀i,i<ops.size->listed.getD i false=true)(z:L+2=ops.size)(r:ki ops (L+1) L=true):∀(fuel:Nat) (listed:Array Bool) (a:Act) (w:ahh),listed.size=ops.size->listed.getD L true=false->listed.getD (L+1) true=false->Region.ready .any ops ((listed.setIfInBounds L true).setIfInBounds (L+1) true)=[]->wpOp P ops Q' L (fun a w=>wpOp P ops Q' (L+1) (fun a w=>Q' .normal a w) a w) a w->wpAny P .any ops Q' (fuel+2) listed a w:=by
 intro fuel listed a w hs t q m x;have all:=s oP m;refine⟨fun p=> ?_,fun i v=> ?_⟩
 .exfalso
  exact dF ak t (s hs p L ak)
 .obtain⟨n,o,g,c⟩:=mem_ready.1 v
  have b:=(Array.getElem?_eq_some_iff.1 g).1;obtain rfl:i=L:=by
   rcases Nat.decEq i L with h|h
   .exfalso
    rcases Nat.decEq i (L+1)with h3|h3
    .have d:=all i b
     rw[getD_set_ne false (Ne.symm h3),getD_set_ne false (Ne.symm h)]at d;exact dF ak n d
    .subst h3
     exact dF ak t (fb g c r)
   .exact h
  refine wpOp_mono (fun y u k=> ?_) x;have l:(listed.setIfInBounds i true).getD (i+1) true=false:=by rw[getD_set_ne true (by omega)];exact q
  refine⟨fun p=> ?_,fun j e=> ?_⟩
  .exfalso
   exact dF cw l (s oP p (i+1) ak)
  .obtain⟨n,o,g,_⟩:=mem_ready.1 e
   have b:=(Array.getElem?_eq_some_iff.1 g).1;obtain rfl:j=i+1:=by
    rcases Nat.decEq j (i+1)with h|h
    .exfalso
     have d:=all j b;rw[getD_set_ne false (Ne.symm h)]at d;exact dF cw n d
    .exact h
   refine wpOp_mono (fun y u k=> ?_) k;cases fuel with
   |zero=>exact⟨m,k⟩
   |succ f=>exact⟨fun _=>k,fun j e=>by rw[m]at e;cases e⟩
theorem vf{Q:(ahh->Prop)->Act->Prop}{Q':Exit->Act->ahh->Prop}(v:backward ops=true)(y:L+2=ops.size)(D:gU ops L=true)(u:gU ops (L+1)=true)(l:ki ops (L+1) L=true)
 (z:∀E a w,C w->E w->Q E a->wpOp P ops Q' L (fun a w=>wpOp P ops Q' (L+1) (fun a w=>Q' .normal a w) a w) a w):∀(fuel:Nat) (listed:Array Bool) (E:ahh->Prop) (a:Act) (w:ahh),C w->E w->nD E->listed.size=ops.size->listed.getD L true=false->listed.getD (L+1) true=false->Cl ops listed->
 fI P .any ops T C Q fuel ((listed.setIfInBounds L true).setIfInBounds (L+1) true) E a->wpAny P .any ops Q' (fuel+2) listed a w:=by
 intro fuel
 induction fuel with
 |zero=>intro listed E a w o p n hs hl f d h;exact xz (dX v) y l 0 listed a w hs hl f h.1 (z _ _ _ o p h.2)
 |succ fuel ih=>
  intro listed E a w o p n hs hl f d h;cases t:Region.ready .any ops ((listed.setIfInBounds L true).setIfInBounds (L+1) true)with
  |nil=>exact xz (dX v) y l (fuel+1) listed a w hs hl f t (z _ _ _ o p (h.1 t))
  |cons i0 rest=>
   have G:i0∈Region.ready .any ops ((listed.setIfInBounds L true).setIfInBounds (L+1) true):=by rw[t];simp
   obtain⟨vF,J,s,_⟩:=mem_ready.1 G;have j:=(Array.getElem?_eq_some_iff.1 s).1;have Vx:i0≠L+1:=fun e=>by
    subst e;simp[hs,j]at vF
   have Da:i0≠L:=fun e=>by
    subst e;rw[getD_set_ne true (Ne.symm Vx)]at vF;simp[hs,j]at vF
   have b:listed.getD i0 true=false:=aeo;have r:∀i∈Region.ready .any ops listed,i≠L:=fun i g e=>by
    subst e;exact dF ak b (sV D d g i0 ak)
   have k:∀i∈Region.ready .any ops listed,i≠L+1:=fun i g e=>by
    subst e;exact dF ak b (sV u d g i0 ak)
   refine⟨fun F=> ?_,fun i g=> ?_⟩
   .exfalso
    exact dF ak b (dX v hs F i0 j)
   .have dY:=r i g
    have c:=k i g;refine dU o p n (fun A I B q x m H=>ih _ A I B q x m oP WW (by rw[getD_set_ne true c];exact f) (DU d g hs) ?_) (h.2 i (ready_mono (ready_mono g dY) c));rw[Array.setIfInBounds_comm _ _ dY,Array.setIfInBounds_comm _ _ c];exact H
theorem sB{z:Nat}{Q:Exit->Act->ahh->Prop}{a:Act}{lo:List Oper}(T:Option Tmp->Option Sat)(L:Nat)(hlen:lo.length=L+2)(A:P.follows .mixedOrders=true)
 (x:Region.noSelect lo.toArray=true) (I:backward lo.toArray=true) (f:(gU lo.toArray L&&gU lo.toArray (L+1)&&ki lo.toArray (L+1) L)=true) (H:Region.lexFrom .any lo.toArray L 0 (((Array.replicate lo.length false).setIfInBounds L true).setIfInBounds (L+1) true)=true) (hg:(lo[L]?).map (·.guard)=some none) (d:(lo[L+1]?).map (·.guard)=some none)
 (h:dA P lo.toArray T (fun b=>∃n:aG w,b=n.1) (fun E p=>∀n:aG w,E n.1->∀o t,lo[L]? =some o->lo[L+1]? =some t->o.wp P p n.1 (fun m i=>t.wp P m i (fun y B=>Q .normal y B) Q) Q) (lo.take L) (fun _=>True) a):(Code.region z lo.toArray true).wp P Q a w:=by
 have r:(fun b=>∃n:aG w,b=n.1) {w with drawn:=w.drawn+1}:=⟨⟨{w with drawn:=w.drawn+1},⟨rfl,rfl,rfl,Nat.le_refl _,fun _ _=>rfl⟩⟩,rfl⟩;have v:L<lo.length:=ak;have q:L+1<lo.length:=ak;have e:lo[L]? =some lo[L]:=List.getElem?_eq_getElem v;have k:lo[L+1]? =some lo[L+1]:=List.getElem?_eq_getElem q;rw[e]at hg;rw[k]at d;simp at hg d;simp only[Bool.and_eq_true]at f;refine wp_region_any A ?_;have c:(lo.take L).length=L:=cw;have u:=iQ (md:=.any) ⟨_,r⟩ x (lo.take L) 0 (((Array.replicate lo.length false).setIfInBounds L true).setIfInBounds (L+1) true) (fun _=>True) a (fun j s=>by
  rw[c]at s;simp[List.getElem?_take,s]) (by rw[c];exact H) h
 rw[c]at u;have D:=vf (C:=fun b=>∃n:aG w,b=n.1) (Q':=Q) (L:=L) I xb f.1.1 f.1.2 f.2 (fun E p b g J F=>by
  obtain⟨n,rfl⟩:=g;unfold wpOp;simp only[List.getElem?_toArray,e,k];rw[if_pos Ig];have l:=F n J _ _ e k;refine .inl (Oper.wp_mono (fun p b G=> ?_) l);rw[if_pos (by simp[Region.wanted,d])];exact .inl G) L (Array.replicate lo.length false) (fun _=>True) a {w with drawn:=w.drawn+1} r trivial (fun _ _ _ _=>trivial) aQ xb xb (fun j o K h=>by exfalso;rw[Array.getD_eq_getD_getElem?,Array.getElem?_replicate]at h;split at h<;>simp at h) u
 simpa[hlen]using D
end
section
variable{P:aho}{ops:Array Oper}{md:Region.Mode}{C:ahh -> Prop}{T:Option Tmp -> Option Sat}
def Ov(ops:Array Oper)(L K:Nat):Bool:=(List.range L).all fun i=>i==K||ki ops L i||(List.range L).any fun j=>ki ops L j&&ki ops j i
theorem N6{listed:Array Bool}{K:Nat}(m:Ov ops L K=true)(e:Cl ops listed)(n:L∈Region.ready .any ops listed):∀i,i<L->i≠K->listed.getD i false=true:=fun i g f=>by
 obtain⟨_,o,k,b⟩:=mem_ready.1 n;have a:=(List.all_eq_true.1 m) i (List.mem_range.2 g);simp only[Bool.or_eq_true,beq_iff_eq]at a;rcases a with(a|a)|a
 .exact absurd a f
 .exact fb k b a
 .obtain⟨j,p,h⟩:=List.any_eq_true.1 a
  rw[Bool.and_eq_true]at h;have l:=fb k b h.1;have d:=h.2;cases c:ops[j]? with
  |none=>unfold ki at d;rw[c]at d;simp at d
  |some oj=>exact fb c (e j oj c l) d
theorem Ls(a:Act)(d:Tmp)(v:ahj):∃u,(a.put (some d) v).put (some d) u=a:=by
 refine⟨a.tmps.getD d undef, ?_⟩;obtain⟨ts,ds⟩:=a;simp only[Act.put]
 congr 1
 apply Array.ext_getElem?;intro i;by_cases h:d=i
 .subst h
  by_cases b:d<ts.size
  .simp[b]
  .simp[b]
 .simp[h]
theorem all_nil{listed:Array Bool}(h:∀i,i<ops.size->listed.getD i false=true)(e:listed.size=ops.size):Region.ready .any ops listed=[]:=by
 rw[List.eq_nil_iff_forall_not_mem];intro i d;obtain⟨c,o,b,_⟩:=mem_ready.1 d;have a:=(Array.getElem?_eq_some_iff.1 b).1;exact dF ak c (h i a)
theorem xx{Q:(ahh->Prop)->Act->Prop}{Q':Exit->Act->ahh->Prop}{K:Nat}{d:Tmp}{oK:Oper}(N:fB ops=true)(hL:L+2=ops.size)(hKL:K<L)(hd:Ov ops L K=true)(Y:gU ops (L+1)=true)(I:ki ops (L+1) L=true)(X:ki ops (L+1) K=true)
 (Z:ops[K]? =some oK) (r:oK.dst=some d) (W:oK.guard=none) (hT:T (some d)=none)
 (hQ:∀E a w,C w->E w->Q E a->wpOp P ops Q' L (fun a w=>wpOp P ops Q' (L+1) (fun a w=>Q' .normal a w) a w) a w/\∀u,wpOp P ops Q' L (fun a w=>wpOp P ops Q' K (fun a w=>wpOp P ops Q' (L+1) (fun a w=>Q' .normal a w) a w) a w) (a.put (some d) u) w):
 ∀(fuel:Nat) (listed:Array Bool) (E:ahh->Prop) (a:Act) (w:ahh),C w->E w->nD E->listed.size=ops.size->listed.getD L true=false->listed.getD (L+1) true=false->Cl ops listed->
 fI P .any ops T C Q fuel ((listed.setIfInBounds L true).setIfInBounds (L+1) true) E a->wpAny P .any ops Q' (fuel+2) listed a w:=by
 have agQ:K≠L:=ak;have agZ:K≠L+1:=ak;intro fuel
 induction fuel with
 |zero=>intro listed E a w F J R hs hl l p h;exact xz (gi N) hL I 0 listed a w hs hl l h.1 (hQ _ _ _ F J h.2).1
 |succ fuel ih=>
  intro listed E a w F J R hs hl l p h;cases hr:Region.ready .any ops ((listed.setIfInBounds L true).setIfInBounds (L+1) true)with
  |nil=>exact xz (gi N) hL I (fuel+1) listed a w hs hl l hr (hQ _ _ _ F J (h.1 hr)).1
  |cons i0 rest=>
   have h0:i0∈Region.ready .any ops ((listed.setIfInBounds L true).setIfInBounds (L+1) true):=by rw[hr];simp
   obtain⟨vF,o0,ho0,_⟩:=mem_ready.1 h0;have q:=(Array.getElem?_eq_some_iff.1 ho0).1;have Vx:i0≠L+1:=fun e=>by
    subst e;simp[hs,q]at vF
   have Da:i0≠L:=fun e=>by
    subst e;rw[getD_set_ne true (Ne.symm Vx)]at vF;simp[hs,q]at vF
   have c:listed.getD i0 true=false:=aeo;have G:∀i∈Region.ready .any ops listed,i≠L+1:=fun i B e=>by
    subst e;exact dF ak c (sV Y p B i0 ak)
   refine⟨fun H=> ?_,fun i B=> ?_⟩
   .exfalso
    exact dF ak c (gi N hs H i0 q)
   .have k:=G i B
    rcases Nat.decEq i L with dY|rfl
    .refine dU F J R (fun E' a' w' jV Lv O h'=>ih _ E' a' w' jV Lv O oP WW (by rw[getD_set_ne true k];exact l) (DU p B hs) ?_) (h.2 i (ready_mono (ready_mono B dY) k))
     rw[Array.setIfInBounds_comm _ _ dY,Array.setIfInBounds_comm _ _ k];exact h'
    .have s:=N6 hd p B
     obtain rfl:i0=K:=by
      rcases Nat.decEq i0 K with n|n
      .exfalso;exact dF ak c (s i0 ak n)
      .exact n
     have g:=h.2 i0 h0;unfold fL at g;simp only[Z]at g;rw[if_pos (by simp[Region.wanted,W])]at g;unfold fN at g;rw[r,hT]at g;obtain⟨_,v,_,hv⟩:=g;rw[r]at hv;have b:∀j,j<ops.size->(((listed.setIfInBounds i true).setIfInBounds (i+1) true).setIfInBounds i0 true).getD j false=true:=fun j x=>by
      rcases Nat.decEq j i0 with n|rfl
      .rcases Nat.decEq j (i+1)with h6|rfl
       .rcases Nat.decEq j i with A|rfl
        .exact getD_set_true (getD_set_true (getD_set_true (s j ak n)))
        .simp[hs,x,Ne.symm n,Ne.symm h6]
       .simp[hs,x,Ne.symm n]
      .simp[hs,x]
     have t:=all_nil b oP;have hq:Q E (a.put (some d) v):=by
      cases fuel with
      |zero=>exact hv.2
      |succ f=>exact hv.1 t
     obtain⟨u,hu⟩:=Ls a d v;have M:=(hQ _ _ _ F J hq).2 u;rw[hu]at M;have hlK:listed.getD i0 true=false:=c;refine wpOp_mono (fun a' w' h'=> ?_) M;have q1:(listed.setIfInBounds i true).getD i0 true=false:=by rw[getD_set_ne true (Ne.symm Da)];exact hlK
     have q2:(listed.setIfInBounds i true).getD (i+1) true=false:=by rw[getD_set_ne true (by omega)];exact l
     refine⟨fun H=> ?_,fun j x=> ?_⟩
     .exfalso
      exact dF cw q1 (gi N oP H i0 q)
     .obtain⟨U,o,S,y⟩:=mem_ready.1 x
      have z:=(Array.getElem?_eq_some_iff.1 S).1;obtain rfl:j=i0:=by
       rcases Nat.decEq j i0 with n|n
       .exfalso
        rcases Nat.decEq j (i+1)with h6|rfl
        .have A:=b j z
         rw[getD_set_ne false (Ne.symm n),getD_set_ne false (Ne.symm h6)]at A;exact dF cw U A
        .exact dF cw q1 (fb S y X)
       .exact n
      refine wpOp_mono (fun a2 w2 h2=> ?_) h';have q3:((listed.setIfInBounds i true).setIfInBounds j true).getD (i+1) true=false:=by rw[getD_set_ne true (by omega)];exact q2
      refine⟨fun H=> ?_,fun m hm=> ?_⟩
      .exfalso
       exact dF cw q3 (gi N oP H (i+1) ak)
      .obtain⟨V,o,S,_⟩:=mem_ready.1 hm
       have z:=(Array.getElem?_eq_some_iff.1 S).1;obtain rfl:m=i+1:=by
        rcases Nat.decEq m (i+1)with h6|h6
        .exfalso
         have A:=b m z;rw[Array.setIfInBounds_comm (xs:=listed.setIfInBounds i true) true true (by omega:i+1≠j)]at A;rw[getD_set_ne false (Ne.symm h6)]at A;exact dF cw V A
        .exact h6
       refine wpOp_mono (fun a3 w3 h3=> ?_) h2;have D:Region.ready .any ops (((listed.setIfInBounds i true).setIfInBounds j true).setIfInBounds (i+1) true)=[]:=by
        rw[Array.setIfInBounds_comm _ _ (by omega:j≠i+1)];exact t
       cases fuel with
       |zero=>exact⟨D,h3⟩
       |succ f=>exact⟨fun _=>h3,fun j x=>by rw[D]at x;cases x⟩
theorem sA{U:Nat}{Q:Exit->Act->ahh->Prop}{a:Act}{lo:List Oper}(T:Option Tmp->Option Sat)(L K:Nat)(d:Tmp)(hlen:lo.length=L+2)(V:P.follows .mixedOrders=true)
 (R:Region.noSelect lo.toArray=true) (hb:fB lo.toArray=true) (G:(Ov lo.toArray L K&&gU lo.toArray (L+1)&&ki lo.toArray (L+1) L&&ki lo.toArray (L+1) K&&decide (K<L))=true) (hB:Region.lexFrom .any lo.toArray L 0 (((Array.replicate lo.length false).setIfInBounds L true).setIfInBounds (L+1) true)=true) (hg:(lo[L]?).map (·.guard)=some none) (c:(lo[L+1]?).map (·.guard)=some none)
 (m:(lo[K]?).map (fun o=>(o.dst,o.guard))=some (some d,none)) (X:T (some d)=none)
 (h:dA P lo.toArray T (fun b=>∃n:aG w,b=n.1) (fun E g=>∀n:aG w,E n.1->∀o s J,lo[L]? =some o->lo[L+1]? =some s->lo[K]? =some J->o.wp P g n.1 (fun x q=>s.wp P x q (fun r t=>Q .normal r t) Q) Q/\∀u,o.wp P (g.put (some d) u) n.1 (fun Z w2=>J.wp P Z w2 (fun r t=>s.wp P r t (fun a4 S=>Q .normal a4 S) Q) Q) Q) (lo.take L) (fun _=>True) a):(Code.region U lo.toArray true).wp P Q a w:=by
 have H:(fun b=>∃n:aG w,b=n.1) {w with drawn:=w.drawn+1}:=⟨⟨{w with drawn:=w.drawn+1},⟨rfl,rfl,rfl,Nat.le_refl _,fun _ _=>rfl⟩⟩,rfl⟩;simp only[Bool.and_eq_true,decide_eq_true_eq]at G;obtain⟨⟨⟨⟨v,z⟩,A⟩,y⟩,B⟩:=G;have e:lo[L]? =some (lo[L]' ak):=List.getElem?_eq_getElem ak;have F:lo[L+1]? =some (lo[L+1]' ak):=List.getElem?_eq_getElem ak;have O:lo[K]? =some (lo[K]' ak):=List.getElem?_eq_getElem ak;rw[e]at hg;rw[F]at c;rw[O]at m;simp at hg c m;refine wp_region_any V ?_;have f:(lo.take L).length=L:=cw;have N:=iQ (md:=.any) ⟨_,H⟩ R (lo.take L) 0 (((Array.replicate lo.length false).setIfInBounds L true).setIfInBounds (L+1) true) (fun _=>True) a (fun j I=>by
  rw[f]at I;simp[List.getElem?_take,I]) (by rw[f];exact hB) h
 rw[f]at N;have k:∀{o:Oper} {i:Nat} {a:Act} {w:ahh} {D:Act->ahh->Prop},lo.toArray[i]? =some o->o.guard=none->o.wp P a w D Q->wpOp P lo.toArray Q i D a w:=fun M hg h=>by
  unfold wpOp;rw[M];simp only;rw[if_pos Ig];exact .inl h
 have W:=xx (C:=fun b=>∃n:aG w,b=n.1) (Q':=Q) (L:=L) (K:=K) (d:=d) (oK:=lo[K]' ak) hb xb B v z A y aQ m.1 m.2 X (fun E g b p hE Y=>by
  obtain⟨n,rfl⟩:=p;obtain⟨g1,g2⟩:=Y n hE _ _ _ e F O;exact⟨k aQ hg (Oper.wp_mono (fun g b l=>k aQ c l) g1),fun u=>k aQ hg (Oper.wp_mono (fun g b l=>k aQ m.2 (Oper.wp_mono (fun g b l=>k aQ c l) l)) (g2 u))⟩) L (Array.replicate lo.length false) (fun _=>True) a {w with drawn:=w.drawn+1} H trivial (fun _ _ _ _=>trivial) aQ xb xb (fun j o M h=>by exfalso;rw[Array.getD_eq_getD_getElem?,Array.getElem?_replicate]at h;split at h<;>simp at h) N
 simpa[hlen]using W
end
def PTw(w:ahh)(e:ahn)(c:ahh):Prop:=∃a b:Nat,e=.returned (.tuple #[.int .u64 (a:Int),.int .u64 (b:Int)])/\az w c
theorem nF(x:Int):∃a:Nat,IntKind.u64.wrap x=(a:Int)/\a<18446744073709551616:=⟨(IntKind.u64.wrap x).toNat,Rh,Rh⟩
theorem JP(a:Nat)(h:a<18446744073709551616):IntKind.u64.wrap (a:Int)=(a:Int):=Rh
theorem aao(m lo y:Nat)(w:ahh)(h:m<y)(hy:y<18446744073709551616)(hl:lo<18446744073709551616):ahk prog 275 #[.int .u64 (m:Int),.int .u64 (lo:Int),.int .u64 (y:Int)] w (PTw w):=by
 have y0:¬(y:Int)=0:=ak;have y1:¬(y:Int)<=(m:Int):=ak;by_cases hh:m=0
 .subst hh
  go_enter func275,ntmps275;go_wp2;refine bQ aF aF ?_
  repeat(go_big_quiet_step (fail))
  refine wpQuiet_nil ?_;rintro _ ⟨nq,rfl⟩;go_wp2;obtain⟨a,ha,_⟩:=nF ((lo:Int)/(y:Int));have t:(lo:Int)%(y:Int)=((lo%y:Nat):Int):=(Int.natCast_emod _ _).symm;rw[ha,t];go_ret2;exact⟨_,_,rfl,nq.2⟩
 have h0:¬(m:Int)=0:=ak;obtain⟨t1,t2,C,o⟩:=Tv (y:=y) ak hy;have E:=sH (aav (y:Int) w ak ak);rw[Int.toNat_natCast]at E;have⟨L,hL⟩:∃L,Lib.bitLen y=L:=⟨_,rfl⟩;rw[hL]at t1 t2 C o E;obtain⟨s,hs⟩:∃s:Nat,(64:Int)-(L:Int)=(s:Int):=⟨64-L,ak⟩;rw[hs]at E;have p:64-L=s:=ak;rw[p]at C o;have uV:s<64:=ak;have⟨Y,F⟩:∃Y,y*2^s=Y:=⟨_,rfl⟩;rw[F]at C o;have eY:IntKind.u64.wrap ((y:Int)*2^s)=(Y:Int):=by
  rw[show(y:Int)*2^s=((y*2^s:Nat):Int) by simp,F,JP _ o]
 have⟨V1,hV1⟩:∃V1,Y/4294967296=V1:=⟨_,rfl⟩;have e9:(Y:Int)/4294967296=(V1:Int):=ak;have J:0<V1/\V1<4294967296:=ak;have⟨B,sr⟩:∃B,bits .and .u64 (Y:Int) 4294967295=B:=⟨_,rfl⟩;obtain⟨H1,ea,hH⟩:=nF ((m:Int)*2^s);have eb:(lo:Int)/2^(64-s)=((lo/2^(64-s):Nat):Int):=aQ;have⟨L1,j⟩:∃L1,lo/2^(64-s)=L1:=⟨_,rfl⟩;rw[j]at eb;have u:L1<18446744073709551616:=by rw[<-j];exact Nat.lt_of_le_of_lt (Nat.div_le_self _ _) hl
 have⟨U,H⟩:∃U,H1|||L1=U:=⟨_,rfl⟩
 have hUl:U<18446744073709551616:=by rw[<-H];exact Nat.or_lt_two_pow (n:=64) hH u
 have su:bits .or .u64 (H1:Int) (L1:Int)=(U:Int):=by rw[bits_or_u64_nat _ _ hH u,H]
 obtain⟨T,e12,_⟩:=nF ((lo:Int)*2^s);have⟨z,e13⟩:∃z,(T:Int)/4294967296=z:=⟨_,rfl⟩;have⟨D,e14⟩:∃D,bits .and .u64 (T:Int) 4294967295=D:=⟨_,rfl⟩;have Z:∀x:Nat,x<=18446744073709551615->IntKind.u64.wrap ((x:Int)/(V1:Int))=((x/V1:Nat):Int):=fun x hx=>by
  have:=Nat.div_le_self x V1;rw[<-Int.natCast_ediv,JP _ ak]
 have R:∀x:Nat,x<=18446744073709551615->IntKind.u64.wrap ((x:Int)-IntKind.u64.wrap (((x/V1:Nat):Int)*(V1:Int)))=((x%V1:Nat):Int):=fun x hx=>by
  have h1:=Nat.div_mul_le_self x V1;have h2:=Nat.div_add_mod x V1;rw[Nat.mul_comm]at h2;rw[<-Int.natCast_mul,JP _ ak,show(x:Int)-((x/V1*V1:Nat):Int)=((x%V1:Nat):Int) by omega,JP _ (by have:=Nat.mod_le x V1;omega)]
 have Qx:=Z U ak;have e16:=R U ak;have Cw:¬(V1:Int)=0:=ak;have HM:aq (∀x:Nat,x%V1<4294967296):=⟨fun x=>by have:=Nat.mod_lt x J.1;omega⟩;have HV:=sH Z;have HR:=sH R;have h1U:=sH (HM.o U);generalize U/V1=Q1 at*;generalize U%V1=R1 at*;clear Z R F hV1 j H hL hs p t1 t2 C o;go_enter func275,ntmps275;go_wp2_with fail;refine E.o.mono ?_;rintro e A ⟨rfl,rfl⟩;go_upto_block 0 with fail;go_cut[15,16](fun v b O=>∃q r:Nat,v=.int .u64 (q:Int)/\b=.int .u64 (r:Int)/\aq (az A O))
 ·
  go_wp2;go_loopg[15,16] 4294967297 (fun gg l b wr=>∃(q r:Nat),l=.int .u64 (q:Int)/\b=.int .u64 (r:Int)/\r<4294967296/\4294967296-r<gg/\aq (az A wr))
  .exact⟨Q1,R1,rfl,rfl,h1U.o,ak,cA⟩
  obtain⟨q,r,rfl,rfl,k,P,d⟩:=hrel;obtain⟨M,hM,_⟩:=nF ((q:Int)*B);obtain⟨S,I,_⟩:=nF (IntKind.u64.wrap ((4294967296:Int)*(r:Int))+z);obtain⟨Q,W,_⟩:=nF ((q:Int)-1);have⟨r1,f⟩:∃r1,r+V1=r1:=⟨_,rfl⟩;have K:IntKind.u64.wrap ((r:Int)+(V1:Int))=(r1:Int):=aeh;have c:aq (r<r1/\r<4294967296/\4294967296-r<gk):=⟨ak⟩;clear k P f;cases i:decide ((4294967296:Int)<=(q:Int))<;>cases g:decide ((S:Int)<(M:Int))<;>cases t:decide ((4294967296:Int)<=(r1:Int))
  all_goals(simp only[decide_eq_true_eq,decide_eq_false_iff_not]at i g t)
  all_goals go_wp2_with fail
  all_goals first
   |(go_meet;exact⟨_,_,rfl,rfl,d⟩)
   |(have c:=c.o
     (go_roundg(4294967296-r))<;>first|omega|exact⟨Q,r1,rfl,rfl,ak,ak,d⟩)
 obtain⟨q,r,rfl,rfl,d⟩:=hcut;obtain⟨X,hX,V⟩:=nF (IntKind.u64.wrap (IntKind.u64.wrap ((U:Int)*4294967296)+z)-IntKind.u64.wrap ((q:Int)*(Y:Int)));have e17:=HV.o X ak;have e18:=HR.o X ak;have N:=sH (HM.o X);generalize X/V1=Q2 at*;generalize X%V1=R2 at*;clear V;go_upto_block 2 with fail;go_cut[18,16](fun v b O=>∃q r:Nat,v=.int .u64 (q:Int)/\b=.int .u64 (r:Int)/\aq (az A O))
 ·
  go_wp2;go_loopg[18,16] 4294967297 (fun gg l b wr=>∃(q r:Nat),l=.int .u64 (q:Int)/\b=.int .u64 (r:Int)/\r<4294967296/\4294967296-r<gg/\aq (az A wr))
  .exact⟨Q2,R2,rfl,rfl,N.o,ak,d⟩
  obtain⟨q,r,rfl,rfl,k,P,d⟩:=hrel;obtain⟨M,hM,_⟩:=nF ((q:Int)*B);obtain⟨S,I,_⟩:=nF (IntKind.u64.wrap ((4294967296:Int)*(r:Int))+D);obtain⟨Q,W,_⟩:=nF ((q:Int)-1);have⟨r1,f⟩:∃r1,r+V1=r1:=⟨_,rfl⟩;have K:IntKind.u64.wrap ((r:Int)+(V1:Int))=(r1:Int):=aeh;have c:aq (r<r1/\r<4294967296/\4294967296-r<gk):=⟨ak⟩;clear k P f;cases i:decide ((4294967296:Int)<=(q:Int))<;>cases g:decide ((S:Int)<(M:Int))<;>cases t:decide ((4294967296:Int)<=(r1:Int))
  all_goals(simp only[decide_eq_true_eq,decide_eq_false_iff_not]at i g t)
  all_goals go_wp2_with fail
  all_goals first
   |(go_meet;exact⟨_,_,rfl,rfl,d⟩)
   |(have c:=c.o
     (go_roundg(4294967296-r))<;>first|omega|exact⟨Q,r1,rfl,rfl,ak,ak,d⟩)
 obtain⟨q0,r0,rfl,rfl,d⟩:=hcut;obtain⟨z1,gJ,_⟩:=nF (IntKind.u64.wrap ((q:Int)*4294967296)+(q0:Int));obtain⟨z2,eQ,_⟩:=nF (IntKind.u64.wrap (IntKind.u64.wrap ((X:Int)*4294967296)+D)-IntKind.u64.wrap ((q0:Int)*(Y:Int)));obtain⟨G,qo⟩:∃G:Nat,(z2:Int)/2^s=(G:Int):=⟨z2/2^s,aQ⟩;go_wp2;go_ret2;exact⟨z1,G,rfl,d.o⟩
def PMw(w:ahh)(e:ahn)(c:ahh):Prop:=∃a b:Nat,e=.returned (.tuple #[.int .u64 (a:Int),.int .u64 (b:Int)])/\a<18446744073709551616/\b<18446744073709551616/\c=w
theorem aa5(x y:Int)(w:ahh):PMw w (.returned (.tuple #[.int .u64 (IntKind.u64.wrap x),.int .u64 (IntKind.u64.wrap y)])) w:=by
 obtain⟨a,c,e⟩:=nF x;obtain⟨b,d,f⟩:=nF y;exact⟨a,b,by rw[c,d],e,f,rfl⟩
theorem aax(x y:Nat)(w:ahh):ahk prog 273 #[.int .u64 (x:Int),.int .u64 (y:Int)] w (PMw w):=by
 go_enter func273,ntmps273;go_wp2;go_ret2;exact aa5 _ _ w
def PSz(w:ahh)(e:ahn)(a:ahh):Prop:=∃q:Nat,e=.returned (.int .u64 (q:Int))/\a=w
theorem Hj(x:Int)(w:ahh):ahk prog 274 #[ae aj x] w (PSz w):=by
 obtain⟨a,c,_⟩:=nF x;obtain⟨b,d,_⟩:=nF (-(a:Int));go_enter func274,ntmps274;go_wp2_with fail
 all_goals(go_ret;first|exact⟨a,rfl,rfl⟩|exact⟨b,rfl,rfl⟩)
theorem aaH(a b:Int)(y:Nat)(w:ahh)(i:y<18446744073709551616):ahk prog 229 #[ae aj a,ae aj b,.int .u64 (y:Int)] w (PTw w):=by
 go_enter func229,ntmps229;go_wp2_with fail;refine(Hj a w).mono ?_;rintro e _ ⟨p,rfl,rfl⟩;go_wp2_with fail;refine(Hj b _).mono ?_;rintro e _ ⟨q,rfl,rfl⟩;go_wp2_with fail;refine(aax p q _).mono ?_;rintro e _ ⟨c,lo,rfl,l,k,rfl⟩;by_cases g:c<y
 .have f:¬(y:Int)<=(c:Int):=by omega
  have d:aq (∀W,_):=⟨fun W=>aao c lo y W g i k⟩;go_wp2_with fail;refine(d.o _).mono ?_;rintro e m ⟨a,b,rfl,h⟩;have j:=sH h;go_wp2;go_ret2;exact⟨a,b,rfl,j.o⟩
 .have f:(y:Int)<=(c:Int):=by omega
  go_wp2;go_ret2;exact⟨18446744073709551615,0,rfl,Below.refl _ _⟩
def PIy(w:ahh)(e:ahn)(a:ahh):Prop:=∃z:Int,e=.returned (ae aj z)/\az w a
theorem Vr(a b:Int)(n:Nat)(w:ahh)(g:n<=65536):ahk prog 276 #[ae aj a,ae aj b,ae aj (n:Int)] w (PIy w):=by
 have i:IntKind.u64.wrap (n:Int)=(n:Int):=JP n ak;have c:=sH (aaH a b n w ak);go_enter func276,ntmps276;go_wp2_with fail;refine c.o.mono ?_;rintro e h ⟨p,q,rfl,f⟩;have d:=sH f;go_wp2_with fail
 all_goals(go_ret;exact⟨_,rfl,d.o⟩)
theorem Mw(a:Int)(n:Nat)(w:ahh)(B:0<n)(H:n<=65536):ahk prog 233 #[ae aj a,ae aj (n:Int),ae aj (n:Int),.func (.func 234) #[] #[]] w (Nw w 3 .i64 aH n):=by
 have I:((n:Int)==0)=false:=pI;have M:¬(n:Int)=0:=ak;have v:aq (0<n/\n<=65536):=⟨B,H⟩;have K:∀args w,(callFunc 234 args).run prog w=.ok (.enter 234 args) w:=fun args w=>by
  first|rfl|(simp[callFunc,go_sem])
 have F:aq (∀(x:Int) (W:ahh),ahk prog 234 #[ae aj x] W fun e u=>e=.returned (ae aj 1)/\u=W):=⟨fun x W=>by
  go_enter func234,ntmps234;go_wp2;go_ret;exact⟨rfl,rfl⟩⟩
 have C:aq ((prog.info? 3).map (·.zero)=some (some (ae aj 0))):=⟨aF⟩;go_enter func233,ntmps233;go_wp2_with (refine cS (p:=aH) lO C.o trivial rfl (.tmp 16) (.tmp 16) rfl n rfl rfl rfl rfl ak w.heap.size bW ?_;intro g L o1 q;have A:=sH o1;have D:=sH q;clear o1 q);go_loopg[10,11,12,13,20](n+1)(fun gg v10 f _ _ h wr=>∃(i:Nat) (x y:Int),n-i<gg/\i<=n/\v10=ae aj x/\f=ae aj y/\h=ae aj (i:Int)/\aq (Ow wr w.heap.size 3 .i64 aH (some ⟨g,0,none⟩) n n)/\aq (az w wr))
 .exact⟨0,0,0,ak,ak,rfl,rfl,rfl,A,D⟩
 obtain⟨i,x,y,o,J,rfl,rfl,rfl,j,m⟩:=hrel;by_cases d:i<n;rotate_left
 .have E:=cv i n
  go_wp2;go_ret;exact⟨_,_,rfl,j.o,m.o⟩
 have E:=aU i n;have b:aq (n-i<gk):=⟨o⟩;have c:=j.o.lt;clear o;go_wp2_with fail;refine(F.o _ _).mono ?_;rintro e _ ⟨rfl,rfl⟩;go_wp2_with fail;refine(Vr _ _ n _ v.o.2).mono ?_;rintro e r ⟨z,rfl,l⟩;have k:=sH (j.o.ar l);have G:=m.t l;obtain⟨_,_,k0⟩:=k.o.get d;have k1:=k.o.fz i;have s:aq (Ow (r.setCell ⟨g,i,none⟩ (ae aj (ahl (z-y)))) w.heap.size 3 .i64 aH (some ⟨g,0,none⟩) n n):=⟨k.o.set i trivial⟩;have t:aq (az w (r.setCell ⟨g,i,none⟩ (ae aj (ahl (z-y))))):=⟨Below.setCell G.o (p:=⟨g,i,none⟩) c.1 _⟩;clear l;go_wp2;go_roundg(n-i)
 .exact⟨i+1,_,_,ak,ak,rfl,rfl,aT,s,t⟩
 have:=b.o;omega
theorem Qd(a:Int)(n:Nat)(w:ahh)(j:0<n)(i:n<=65536):ahk prog 161 #[ae aj a,ae aj (n:Int)] w (Nw w 3 .i64 aH n):=by
 have m:¬(n:Int)<1:=ak;have k:=cv 65536 n;have d:=sH (Mw a n w j i);go_enter func161,ntmps161;go_wp2_with fail;refine d.o.mono ?_;rintro e l ⟨A,c,rfl,g,f⟩;have b:=sH g;have h:=sH f;go_wp2;go_ret;exact⟨A,c,rfl,b.o,h.o⟩
section
variable(A:aA) (n c:Nat) (xs:aC) (w:ahh)
theorem Aq(h:aM .i32 w A n c xs)(g:Laid w)(s:n<=100000):ahk prog 159 #[.slice A n c] w (PB w):=by
 have R:=sH h;have j:=sH g;go_enter func159,ntmps159;go_wp2;go_loopg[7](n+1)(fun gg v wr=>∃i:Nat,n-i<gg/\i<=n/\v=ae aj (i:Int)/\aq (az w wr))
 .exact⟨0,ak,ak,rfl,cA⟩
 obtain⟨i,r,u,rfl,b⟩:=hrel;by_cases a:i<n;rotate_left
 .have l:=cv i n
  obtain rfl:i=n:=ak;go_wp2;go_ret;exact⟨_,rfl,b.o⟩
 have l:=aU i n;obtain⟨q,rfl,m⟩:=(R.o.ar b.o).ce a;obtain⟨d,e⟩:=bounds_i32 (R.o.dt a);have k:=sH (lP (nth xs i) d e wr (j.o.ar b.o));generalize nth xs i=z at*;go_wp2_with fail;refine callK k.o b fun o p f=> ?_;generalize(a7 z).word=x at*;cases t:(x==7)
 .go_wp2
  go_ret;exact⟨_,rfl,f.o⟩
 .go_wp2
  go_roundg(n-i)
  .exact⟨i+1,ak,ak,aT,f⟩
  omega
theorem Gj(b:Bool)(h:aM .i32 w A n c xs)(j:Laid w)(B:n<=100000):ahk prog 231 #[.slice A n c,.bool b] w (PIy w):=by
 have R:=sH h;have k:=sH j;go_enter func231,ntmps231;go_wp2;go_loopg[5,11](n+1)(fun gg v3 v wr=>∃(i:Nat) (z:Int),n-i<gg/\i<=n/\v3=ae aj z/\v=ae aj (i:Int)/\aq (az w wr))
 .exact⟨0,_,ak,ak,rfl,rfl,cA⟩
 obtain⟨i,o,r,t,rfl,rfl,d⟩:=hrel;by_cases a:i<n;rotate_left
 .have m:=cv i n
  obtain rfl:i=n:=ak;go_wp2;go_ret;exact⟨_,rfl,d.o⟩
 have m:=aU i n;obtain⟨y,rfl,p⟩:=(R.o.ar d.o).ce a;obtain⟨e,g⟩:=bounds_i32 (R.o.dt a);have l:=sH (lP (nth xs i) e g wr (k.o.ar d.o));generalize nth xs i=z at*;go_wp2_with fail;refine callK l.o d fun u q f=> ?_;generalize(a7 z).join=x at*;cases s:(x==5)
 .cases b
  .go_wp2
   go_ret;exact⟨_,rfl,f.o⟩
  .go_wp2
   go_roundg(n-i)
   .exact⟨i+1,_,ak,ak,rfl,aT,f⟩
   omega
 .go_wp2
  go_roundg(n-i)
  .exact⟨i+1,_,ak,ak,rfl,aT,f⟩
  omega
theorem wC(h:aM .i32 w A n c xs)(g:Laid w)(f:0<n):ahk prog 232 #[.slice A n c] w (PB w):=by
 have R:=sH h;have j:=sH g;have p:=aU 0 n;obtain⟨d,rfl,i⟩:=R.o.ce f;rw[show d.add 0=d by simp[Addr.add]]at i;obtain⟨a,b⟩:=bounds_i32 (R.o.dt f);have l:=sH (lP (nth xs 0) a b w j.o);generalize nth xs 0=z at*;go_enter func232,ntmps232;go_wp2_with fail;refine l.o.mono ?_;rintro e o ⟨rfl,k⟩;have m:=sH k;generalize(a7 z).script=x at*;go_wp2_with fail
 all_goals(go_ret;exact⟨_,rfl,m.o⟩)
end
def PCl(w:ahh)(e:ahn)(a:ahh):Prop:=∃(k:Int) (b:Bool),e=.returned (.tuple #[ae aj k,.bool b])/\az w a
theorem Lu(A:aA)(m c:Nat)(xs:aC)(B:aA)(n d:Nat)(j:aC)(w:ahh)(h:aM .i32 w A m c xs)(k:aM .i32 w B n d j)(q:Laid w)(o:m<=100000)(G:n<=100000)(D:0<m)(k0:0<n):ahk prog 160 #[.slice A m c,.slice B n d] w (PCl w):=by
 have R:=sH h;have S:=sH k;have a:=sH q;go_enter func160,ntmps160;go_wp2_with fail;refine(Gj A m c xs w true R.o a.o o).mono ?_;rintro e E ⟨x,rfl,z⟩;have l:=sH z;go_wp2_with fail;refine(Gj B n d j E false (S.o.ar l.o) (a.o.ar l.o) G).mono ?_;rintro e F ⟨y,rfl,s⟩;have i:=l.t s;go_wp2_with fail;refine(Aq A m c xs F (R.o.ar i.o) (a.o.ar i.o) o).mono ?_;rintro e C ⟨b,rfl,H⟩;have f:=i.t H;cases b;rotate_left
 .go_wp2
  go_ret2;exact⟨_,_,rfl,f.o⟩
 go_upto_region 4 with fail;go_cut[15](fun v t=>(∃b:Bool,v=.bool b)/\C=t)
 ·
  cases L:(x==1)<;>cases J:(x==3)<;>cases k1:(y==1)<;>cases k2:(y==2)
  all_goals
   go_wp2;go_meet;exact⟨⟨_,rfl⟩,rfl⟩
 obtain⟨⟨b,rfl⟩,rfl⟩:=hcut;cases b;rotate_left
 .go_wp2
  go_ret2;exact⟨_,_,rfl,f.o⟩
 go_wp2_with fail;refine(wC A m c xs _ (R.o.ar f.o) (a.o.ar f.o) D).mono ?_;rintro e K ⟨b,rfl,p⟩;have g:=f.t p;cases b
 .go_wp2
  go_ret2;exact⟨_,_,rfl,g.o⟩
 go_wp2_with fail;refine(wC B n d j _ (S.o.ar g.o) (a.o.ar g.o) k0).mono ?_;rintro e I ⟨b,rfl,r⟩;have u:=g.t r;cases b
 all_goals
  go_wp2;go_ret2;exact⟨_,_,rfl,u.o⟩
theorem Mq(a:Int)(w:ahh):ahk prog 87 #[ae aj a,ae aj 2] w fun e c=>∃q r:Int,e=.returned (.tuple #[ae aj q,ae aj r])/\az w c:=by
 go_enter func87,ntmps87;go_wp2;refine mRl ?_;rintro _ ⟨b,rfl⟩;go_wp2_with fail
 all_goals
  go_ret2;exact⟨_,_,rfl,b.2⟩
theorem Nk(a b c:Int)(w:ahh):ahk prog 34 #[ae aj a,ae aj b,ae aj c] w (PIy w):=by
 have f:=sH (Mq a w);have⟨o,h⟩:=eY (c.tmod 2 !=0);cases k:(b==2)<;>cases i:(b==1)<;>cases o
 all_goals
  go_enter func34,ntmps34;go_wp2_with fail
  first
   |(go_ret;exact⟨_,rfl,Below.refl _ _⟩)
   |(refine f.o.mono ?_
     rintro e j ⟨q,r,rfl,d⟩;have g:=sH d;go_wp2;go_ret;exact⟨_,rfl,g.o⟩)
def agt(w:ahh)(b:List (Nat×Nat))(n:Nat)(e:ahn)(a:ahh):Prop:=∃(A:aA) (c:Nat) (S:List (Nat×Int)),e=.returned (.slice A S.length c)/\OL a w.heap.size 153 2 (·=S.map (sR b)) A S.length c/\Ca S n/\az w a
def aci(a:List (Nat×Nat))(f t:Nat):Prop:=∀j,j<a.length->f<=(gB a j).1/\(gB a j).1<(gB a j).2/\(gB a j).2<=t
theorem TSl:aR prog 149 153 2 16:=bu underlying149 (z:=.agg #[ae aj 0,ae aj 0]) aF rfl ak ak
def SKB(v:ahj):Prop:=∃(k:Int) (b:Bool),v=.tuple #[ae aj k,.bool b]
theorem Qf(T:aA)(tn tc:Nat)(ts:aC)(f t:Nat)(A:aA)(n c:Nat)(m:List (Nat×Nat))(w:ahh)(h:aM .i32 w T tn tc ts)(hL:Laid w)(hc:Rx w w.heap.size 2 (m.map cR) A n)(hi:aci m f t)(ht:t<=tn)(hn:tn<=40)(hm:n<=40):ahk prog 84 #[.slice T tn tc,ae aj (f:Int),ae aj (t:Int),.slice A n c] w (agt w m n):=by
 have R:=sH h;have LW:=sH hL;have C:=sH hc;have CI:=sH hi;have hgn:m.length=n:=by have:=hc.1;simpa using this
 have Nb:=h.le;clear h hL hc hi;go_enter func84,ntmps84;go_wp2;go_loopg[9,11,20](n+1)(fun gg Y _ v20 wr=>∃(i:Nat) (A1:aA) (c1:Nat),n-i<gg/\i<=n/\Y=.slice A1 i c1/\v20=ae aj (i:Int)/\aq (OL wr w.heap.size 64 2 (·=(m.map cR).take i) A1 i c1)/\aq (az w wr))
 .exact⟨0,none,0,ak,ak,rfl,rfl,⟨OL.nil _ _ _ _ rfl⟩,cA⟩
 obtain⟨i,A1,c1,hg,ti,rfl,rfl,OO,BE⟩:=hrel;by_cases aK:i<n
 .have i4:=aU i n
  have jG:aq (n-i<gk):=⟨hg⟩;obtain⟨F,rfl,v,z⟩:=(C.o.Z BE.o BE.o.size).AQ aK;rw[Ev ak]at v z;obtain⟨h1,h2,h3⟩:=CI.o i ak;have ET:aq ((m.map cR).take (i+1)=(m.map cR).take i++[[((gB m i).1:Int),((gB m i).2:Int)]]):=⟨VY ak⟩
  replace v:wr.cell? (F.add (i*2))=some (ae aj ((gB m i).1:Int)):=v
  replace z:wr.cell? (bP (F.add (i*2)) 1)=some (ae aj ((gB m i).2:Int)):=z
  generalize(gB m i).1=a at*;generalize(gB m i).2=b at*;have i5:(f:Int)<=(a:Int):=ak;have i6:(b:Int)<=(t:Int):=ak;have⟨W2,bU⟩:=eX ((wr:ahh).alloc (.cells #[ae aj (a:Int),ae aj (b:Int)] 64));have X2:aq (Bx W2 wr.heap.size #[ae aj (a:Int),ae aj (b:Int)]):=⟨mf⟩;have B2:aq (az w W2):=⟨abt⟩;have O2:=sH (OO.o.ar (av wr (.cells #[ae aj (a:Int),ae aj (b:Int)] 64)));rw[<-bU]at O2;have ij:=B2.o.size;go_upto_region 5 with fail;rw[<-bU];clear bU v z hg;have x0:W2.cell? ⟨wr.heap.size,0,none⟩=some (ae aj (a:Int)):=X2.o.cell 0;have x1:W2.cell? ⟨wr.heap.size,1,none⟩=some (ae aj (b:Int)):=X2.o.cell 1;go_wp2_with (at_builtin;refine bK (L':=(·=(m.map cR).take (i+1))) YK rfl (.tmp 34) (.tmp 36) rfl rfl (O2.o.alloc _) rfl [(a:Int),(b:Int)] rfl (cg _ _ _ _ _ aQ rfl) (fun xs _ _ h=>by rw[ET.o,h]) ak cw ?_;intro A8 c8 w8 o8 b8 _ _;have O8:=sH o8;have B8:aq (az w w8):=⟨(B2.o.alloc ak _).trans b8⟩;clear o8 b8);go_roundg(n-i)
  .exact⟨i+1,A8,c8,ak,ak,rfl,aT,O8,B8⟩
  have:=jG.o;omega
 have i4:=cv i n;obtain rfl:i=n:=ak;have RX:aq (Rx wr wr.heap.size 2 (m.map cR) A1 i/\i<=c1):=⟨by
  have hle:i<=c1:=by obtain⟨_,_,_,_,h4⟩:=OO.o;exact aw.le h4
  obtain⟨gs,h1,h2⟩:=OO.o.rl ak;rw[List.take_of_length_le cw]at h1;subst h1;exact⟨h2,hle⟩⟩
 have⟨N,hN⟩:=eY wr.heap.size;have BN:aq (ahi N wr wr):=cA;rw[hN]at RX;have HN:aq (w.heap.size<=N):=⟨by have:=BE.o.size;omega⟩;have⟨G,dZ⟩:=eX wr;rw[<-dZ]at RX BN BE hN⊢;have HSN:aq (G.heap.size=N):=⟨hN⟩;clear OO aK dZ hN;go_upto_block 2 with fail;go_cut[9](fun Y wx=>∃(k:Nat) (U:aA) (P:Nat),k<=i/\Y=.slice U k P/\aq (Rx G N 2 ((m.map cR).take k) U k)/\aq (ahi N G wx))
 ·
  go_wp2;go_loopg[9](i+1)(fun gg Y wr=>∃(k:Nat) (U:aA) (P:Nat),k<gg/\k<=i/\k<=P/\Y=.slice U k P/\aq (Rx G N 2 ((m.map cR).take k) U k)/\aq (ahi N G wr))
  .exact⟨i,A1,c1,ak,ak,RX.o.2,rfl,⟨by rw[List.take_of_length_le (by simp;omega)];exact RX.o.1⟩,BN⟩
  obtain⟨k,U,P,dw,hk,hkc,rfl,RK,BK⟩:=hrel;have BW:aq (az w wr):=⟨BE.o.trans (BK.o.mono HN.o)⟩;rcases Nat.eq_zero_or_pos k with h0|h0
  .have XZ:decide (0<k)=false:=gW
   clear h0;go_wp2;refine mRl ?_;rintro _ ⟨u,rfl⟩;have BQ:aq (ahi N G u.1):=⟨BK.o.trans (u.2.mono abC)⟩;go_wp2;go_meet;exact⟨_,_,_,hk,rfl,RK,BQ⟩
  obtain⟨j,hj⟩:∃j,j+1=k:=⟨k-1,ak⟩;have XZ:decide (0<k)=true:=Kc;have uX:(k:Int)-1=(j:Int):=ak;have qj:=aU j k;have hj0:=ie j;obtain⟨I,rfl,v,z⟩:=(RK.o.Z BK.o abC).AQ (show j<k by omega);have eg:fC ((m.map cR).take k) j=cR (gB m j):=by
   rw[<-Ev ak];unfold fC;rw[List.getD_eq_getElem?_getD,List.getD_eq_getElem?_getD,List.getElem?_take,if_pos ak]
  rw[eg]at v z;obtain⟨h1,h2,h3⟩:=CI.o j ak
  replace v:wr.cell? (I.add (j*2))=some (ae aj ((gB m j).1:Int)):=v
  replace z:wr.cell? (bP (I.add (j*2)) 1)=some (ae aj ((gB m j).2:Int)):=z
  generalize(gB m j).1=a at*;generalize(gB m j).2=b at*;obtain⟨T2,cT,CR⟩:=jj Ko T tn tc a b ak ak Nb (a:Int) (b:Int) rfl rfl;have Q:=CR.run;have PW:aq (∀D:aG wr,ahk prog 159 #[.slice T2 (b-a) cT] D.1 (PB D.1)):=⟨fun D=>Aq T2 (b-a) cT _ D.1 (CR.fT ((R.o.ar BW.o).ar D.2)) ((LW.o.ar BW.o).ar D.2) ak⟩;obtain⟨A3,c3,CQ⟩:=EW YK (some I) k P j ak hkc (j:Int) rfl;have agI:=CQ.run;have Ku:aq (Rx G N 2 ((m.map cR).take j) A3 j/\j<=c3):=⟨by
   have:=CQ.rx RK.o;rw[List.drop_zero,List.take_take,Nat.min_eq_left ak]at this;exact⟨this,CQ.2.1⟩⟩
  have wk:ahl (j:Int)=(j:Int):=IntWalk.wrap64_in _ ak;have⟨L0,L1⟩:=lc2 v z;have HJ:=sH hj;have UG:aq (k<gk/\k<=i):=⟨dw,hk⟩;clear v z CR CQ eg hj h1 h2 h3 dw hkc hk h0;go_wp2;refine aD (kF 59 SB) aF aF ?_
  repeat(refine cF aB aB aB ?_;intro K9 r;go_big_quiet_op;go_big_quiet_on)
  refine lsA SB (fun u=> ?_) (fun Y aV=> ?_)
  .go_simp
   exact bg (PW.o u)
  obtain⟨bb,rfl⟩:=aV;simp[Act.put]
  repeat(refine cF aB aB aB ?_;intro K9 r;go_big_quiet_op;go_big_quiet_on)
  intro u;have BQ:aq (ahi N G u.1):=⟨BK.o.trans (u.2.mono abC)⟩;clear L0 L1 PW;cases bb
  .go_wp2
   go_meet;exact⟨_,_,_,UG.o.2,rfl,RK,BQ⟩
  .go_wp2
   have hj:=HJ.o;have si:=UG.o;go_roundg(k)
   .exact⟨j,A3,c3,ak,ak,Ku.o.2,rfl,⟨Ku.o.1⟩,BQ⟩
   omega
 obtain⟨k,U,P,hk,rfl,RK,BK⟩:=hcut;have hkt:k<=40:=ak;have HK:aq (k<=i):=⟨hk⟩;have OS:aq (OL wc N 153 2 (·=([]:List (Nat×Int)).map (sR m)) none 0 0):=⟨OL.nil _ _ _ _ rfl⟩;go_wp2;go_loopg[12,13,14,15,16,17](k+1)(fun gg mN ko _ _ _ _ wr=>∃(q:Nat) (S:List (Nat×Int)) (A5:aA) (c5:Nat),k-q<gg/\0<q/\mN=.slice A5 S.length c5/\ko=ae aj (q:Int)/\aq (Ca S (q-1)/\(q=1∨q<=k))/\aq (OL wr N 153 2 (·=S.map (sR m)) A5 S.length c5)/\aq (ahi N G wr))
 .exact⟨1,[],none,0,ak,ak,rfl,rfl,⟨Ca.nil _,.inl rfl⟩,OS,BK⟩
 obtain⟨q,S,A5,c5,hg,Yo,rfl,rfl,SL,OS,H⟩:=hrel;have BW:aq (az w wr):=⟨BE.o.trans (H.o.mono HN.o)⟩;by_cases hqk:q<k;rotate_left
 .have i4:=cv q k
  have SE:aq (Ca S i):=⟨⟨SL.o.1.up,fun x s=>by have:=SL.o.1.lt x s;have:=HK.o;rcases SL.o.2 with h|h<;>omega⟩⟩;go_wp2;go_ret;exact⟨_,_,S,rfl,OS.o.cJ HN.o,SE.o,BW.o⟩
 have i4:=aU q k;obtain⟨p,hp⟩:∃p,p+1=q:=⟨q-1,ak⟩;have Ry:(q:Int)-1=(p:Int):=ak;have WP:aq (IntKind.i64.wrap (p:Int)=(p:Int)):=⟨IntWalk.i64_in _ ak⟩;have p0:=ie p;have p1:=aU p k;have q0:=ie q;have cut:∀j,j<k->∃(F:Addr) (a b:Nat),U=some F/\gB m j=(a,b)/\f<=a/\a<b/\b<=t/\wr.cell? (F.add (j*2))=some (ae aj (a:Int))/\wr.cell? (bP (F.add (j*2)) 1)=some (ae aj (b:Int)):=fun j hj=>by
  have pK:=HK.o;obtain⟨I,e,v,z⟩:=(RK.o.Z H.o (by have:=H.o.size;rw[HSN.o]at this;exact this)).AQ hj;have eg:fC ((m.map cR).take k) j=cR (gB m j):=by
   rw[<-Ev ak];unfold fC;rw[List.getD_eq_getElem?_getD,List.getD_eq_getElem?_getD,List.getElem?_take,if_pos ak]
  rw[eg]at v z;obtain⟨h1,h2,h3⟩:=CI.o j ak;exact⟨I,_,_,e,rfl,h1,h2,h3,v,z⟩
 obtain⟨F,a,b,rfl,er,ha1,KD,ha3,v,z⟩:=cut p ak;obtain⟨ik,V,J,e,er',Z,ef,Fz,d0',Yp⟩:=cut q ak;obtain rfl:F=ik:=Option.some.inj e;have HG4:aq (k-q<gk/\0<q/\p+1=q/\gB m p=(a,b)/\q<k):=⟨hg,Yo,hp,er,hqk⟩;clear cut e er er' hg hp Yo;go_upto_region 14 with fail;go_cut[14,15](fun yS kf wx=>∃x y:Nat,yS=.pointer (some ⟨x,0,none⟩)/\kf=.pointer (some ⟨y,0,none⟩)/\aq (Bx wx x #[ae aj (a:Int),ae aj (b:Int)])/\aq (Bx wx y #[ae aj (V:Int),ae aj (J:Int)])/\aq (az wr wx))
 ·
  refine vj (d:=14) (k0:=72) [.slice (some F) k P,ae aj (q:Int),ae aj (p:Int),.pointer (some (F.add (p*2))),.agg #[ae aj (a:Int),ae aj (b:Int)],.slice (some F) k P,ae aj (q:Int),.pointer (some (F.add (q*2))),.agg #[ae aj (V:Int),ae aj (J:Int)]] 9 #[ae aj 0,ae aj 0] #[ae aj (a:Int),ae aj (b:Int)] #[ae aj (V:Int),ae aj (J:Int)] rfl aF aF ak aB ?_ ?_ ?_
  .intro E o9 L bm x y W M jJ l B a9 ha K kd k1 k2 k3 k4
   have hi:E=0∨E=1∨E=2∨E=3∨E=4∨E=5∨E=6∨E=7∨E=8∨E=9∨E=10∨E=11∨E=12:=by
    have:=(Array.getElem?_eq_some_iff.1 M).1;simp at this;omega
   simp only[cH,gv,two,List.setIfInBounds_toArray,List.set_cons_succ,List.set_cons_zero,Nat.reduceAdd,Nat.add_zero]at ha;subst ha;have d0:=B.fv 0 _ rfl;have d1:=B.fv 1 _ rfl;have d2:=B.fv 2 _ rfl;have d3:=B.fv 3 _ rfl;have d4:=B.fv 4 _ rfl;have d5:=B.fv 5 _ rfl;have d6:=B.fv 6 _ rfl;have d7:=B.fv 7 _ rfl;have d8:=B.fv 8 _ rfl
   have x0:=au v B.be;have x1:=au z B.be;have y0:=au d0' B.be;have y1:=au Yp B.be;rcases hi with rfl|rfl|rfl|rfl|rfl|rfl|rfl|rfl|rfl|rfl|rfl|rfl|rfl
   all_goals(injection M with M;subst M)
   all_goals(simp[Region.binds]at l)
   case' inr.inr.inr.inr.inr.inr.inr.inr.inr.inl=>have s:=k1 rfl 64
   case' inr.inr.inr.inr.inr.inr.inr.inr.inr.inr.inl=>have s:=k2 rfl 64
   case' inr.inr.inr.inr.inr.inr.inr.inr.inr.inr.inr.inl=>
    obtain⟨g,rfl,hg,hB⟩:=B.p1 l.1;rw[if_neg (by rw[jJ];simp)]at hB;obtain⟨ty,hh⟩:=hB;have hv:=d4 l.2.1;simp only[hv];refine wpOp_step rfl (fun K9 r=> ?_);rw[if_pos QO];refine wp_store_row 64 (.tmp 14) (.tmp 76) rfl g _ rfl rfl ty _ hh aF rfl dJ ?_;refine r _ _ ?_;have s:=k3 rfl g rfl;simp only[hv]at s;exact s
   case' inr.inr.inr.inr.inr.inr.inr.inr.inr.inr.inr.inr=>
    obtain⟨g,rfl,hg,hB⟩:=B.p2 l.1;rw[if_neg (by rw[jJ];simp)]at hB;obtain⟨ty,hh⟩:=hB;have hv:=d8 l.2.1;simp only[hv];refine wpOp_step rfl (fun K9 r=> ?_);rw[if_pos QO];refine wp_store_row 64 (.tmp 15) (.tmp 80) rfl g _ rfl rfl ty _ hh aF rfl dJ ?_;refine r _ _ ?_;have s:=k4 rfl g rfl;simp only[hv]at s;exact s
   all_goals
    try have s:=kd _ rfl
    try simp only[Nat.reduceAdd,Act.put,List.setIfInBounds_toArray,List.set_cons_succ,List.set_cons_zero]at s
    try simp only[d0,d1,d2,d3,d4,d5,d6,d7,d8,l]at s
    try simp only[d0,d1,d2,d3,d4,d5,d6,d7,d8,l]
    refine wpOp_step rfl (fun K9 r=> ?_);go_simp;refine r _ _ ?_
    try simp only[Act.put,List.setIfInBounds_toArray,List.set_cons_succ,List.set_cons_zero]
    first
     |exact s
     |(rw[WP.o];exact s)
  .intro L o
   refine⟨fun M l=> ?_,fun M l=> ?_⟩
   all_goals
    injection M with M
    subst M;simp[Region.binds]at l;exact l.1
  .intro x y W b1 b2 s hy Z ef hW a9 ha
   subst s hy;simp only[cH,gv,two,List.setIfInBounds_toArray,List.set_cons_succ,List.set_cons_zero,Nat.reduceAdd,Nat.add_zero]at ha;subst ha;go_step;go_step;go_meet;exact⟨b1,b2,rfl,rfl,⟨Z⟩,⟨ef⟩,⟨hW⟩⟩
 obtain⟨x,y,rfl,rfl,X1,X2,BX⟩:=hcut;have B6:aq (ahi N G wc):=⟨H.o.trans (BX.o.mono (by have:=H.o.size;rw[HSN.o]at this;exact this))⟩;have O:=BW.t BX.o;have OS6:=sH (OS.o.ar BX.o);have x0:wc.cell? ⟨x,0,none⟩=some (ae aj (a:Int)):=X1.o.cell 0;have x1:wc.cell? ⟨x,1,none⟩=some (ae aj (b:Int)):=X1.o.cell 1;have y0:wc.cell? ⟨y,0,none⟩=some (ae aj (V:Int)):=X2.o.cell 0;have y1:wc.cell? ⟨y,1,none⟩=some (ae aj (J:Int)):=X2.o.cell 1;obtain⟨T2,cT,CR⟩:=jj Ko T tn tc a b ak ak Nb (a:Int) (b:Int) rfl rfl;obtain⟨T3,cT',CR'⟩:=jj Ko T tn tc V J ak ak Nb (V:Int) (J:Int) rfl rfl;have Q:=CR.run;have ab6:=CR'.run;have PC:aq (∀D:aG wc,ahk prog 160 #[.slice T2 (b-a) cT,.slice T3 (J-V) cT'] D.1 (PCl D.1)):=⟨fun D=>Lu T2 (b-a) cT _ T3 (J-V) cT' _ D.1 (CR.fT ((R.o.ar O.o).ar D.2)) (CR'.fT ((R.o.ar O.o).ar D.2)) ((LW.o.ar O.o).ar D.2) ak ak ak ak⟩;have⟨L0,L1,M0,M1⟩:=lc4 x0 x1 y0 y1;have HB9:aq (J<=t/\b<=t):=⟨ak⟩;clear x0 x1 y0 y1 CR CR' v z d0' Yp ha1 KD ha3 Z ef Fz;go_wp2;refine aD (kF 94 SKB) aF aF ?_
 repeat(refine cF aB aB aB ?_;intro K9 r;go_big_quiet_op;go_big_quiet_on)
 refine lsA SKB (fun u=> ?_) (fun Y aV=> ?_)
 .go_simp
  exact(PC.o u).mono fun e w' ⟨k,b,he,hb⟩=>⟨_,he,⟨k,b,rfl⟩,⟨w',u.2.trans (hb.mono u.2.size)⟩,rfl⟩
 obtain⟨X,ok,rfl⟩:=aV;simp[Act.put]
 repeat(refine cF aB aB aB ?_;intro K9 r;go_big_quiet_op;go_big_quiet_on)
 intro u;have b7:=u.2;have B7:aq (ahi N G u.1):=⟨B6.o.trans (b7.mono (by have:=B6.o.size;rw[HSN.o]at this;exact this))⟩;have BW7:=O.t b7;have OS7:=sH (OS6.o.ar b7);have x1:u.1.cell? ⟨x,1,none⟩=some (ae aj (b:Int)):=(X1.o.ar b7 X1.o.lt).cell 1;clear L0 L1 M0 M1 PC Q ab6 b7;obtain⟨YO,hq4,hp4,er4,agW⟩:=HG4.o;cases ok
 .go_wp2
  go_roundg(k-q)
  .exact⟨q+1,S,A5,c5,ak,ak,rfl,aT,⟨⟨SL.o.1.up,fun x s=>by have:=SL.o.1.lt x s;omega⟩,.inr ak⟩,OS7,B7⟩
  omega
 .have hsl:S.length<=40:=by have:=SL.o.1.len;omega
  have EM:aq ((S++[(p,X)]).map (sR m)=S.map (sR m)++[[(b:Int),X]]):=⟨by rw[List.map_append];show _=_++_;simp[sR,er4]⟩;have SN:aq (Ca (S++[(p,X)]) q):=⟨by have h:=SL.o.1;rw[show q-1=p by omega]at h;have:=h.more X;rwa [hp4]at this⟩;have HL:aq ((S++[(p,X)]).length=S.length+1):=⟨aQ⟩;have Sl:N<=u.1.heap.size:=by have:=B7.o.size;rw[HSN.o]at this;exact this
  clear er4 hp4;go_wp2_with (at_builtin;refine bK (L':=(·=(S++[(p,X)]).map (sR m))) TSl rfl (.tmp 98) (.tmp 103) rfl rfl (OS7.o.alloc _) rfl [(b:Int),X] rfl (cg _ _ _ _ _ aQ rfl) (fun xs _ _ h=>by rw[EM.o,h]) ak (Nat.le_trans Sl (av _ _).size) ?_;intro A8 c8 w8 o8 b8 _ _;have O8:=sH o8;have B8:aq (ahi N G w8):=⟨(B7.o.alloc Sl _).trans b8⟩;clear o8 b8);go_roundg(k-q)
  .exact⟨q+1,S++[(p,X)],A8,c8,ak,ak,by rw[HL.o],aT,⟨SN.o,.inr ak⟩,⟨by rw[HL.o];exact O8.o⟩,B8⟩
  omega
def InM(m:Nat)(v:Int):Prop:=0<=v/\v<(m:Int)
theorem JC(x:Int)(A:aA)(m c:Nat)(gs:List aC)(w:ahh)(h:Rx w w.heap.size 2 gs A m)(hm:m<=60000):ahk prog 85 #[ae aj x,.slice A m c] w (Nw w 3 .i64 aH m):=by
 have R:=sH h;clear h;have zz:aq ((prog.info? 3).map (·.zero)=some (some (ae aj 0))):=⟨aF⟩;by_cases hx:x<1
 .go_enter func85,ntmps85
  go_wp2_with (refine cS (p:=aH) lO zz.o trivial rfl (.tmp 13) (.tmp 13) rfl m rfl rfl rfl rfl ak w.heap.size bW ?_;intro g W o1 J;have O1:=sH o1;have B1:aq (az w W):=⟨J⟩;clear o1 J);go_ret;exact⟨_,_,rfl,O1.o,B1.o⟩
 go_enter func85,ntmps85;go_wp2_with (refine cS (p:=aH) lO zz.o trivial rfl (.tmp 13) (.tmp 13) rfl m rfl rfl rfl rfl ak w.heap.size bW ?_;intro g W o1 J;have O1:=sH o1;have B1:aq (az w W):=⟨J⟩;clear o1 J);go_loopg[6,7,8,9,10,11,18] 4 (fun gg _ _ _ _ _ _ Y wr=>∃k:Nat,3-k<gg/\k<=3/\Y=ae aj (k:Int)/\aq (Ow wr w.heap.size 3 .i64 aH (some ⟨g,0,none⟩) m m)/\aq (az w wr))
 .exact⟨0,ak,ak,rfl,O1,B1⟩
 obtain⟨k,hg,hk,rfl,OW,BE⟩:=hrel;obtain⟨l,rfl⟩:=eX wr;by_cases C:k<3;rotate_left
 .have i4:¬(k:Int)<3:=by omega
  go_wp2;go_ret;exact⟨_,_,rfl,OW.o,BE.o⟩
 have i4:(k:Int)<3:=ak;have HG:aq (3-k<gk/\k<3):=⟨hg,C⟩;have hgB:=OW.o.lt;clear hg hk C;go_wp2;go_loopg[7,8,9,23](m+1)(fun gg v7 _ _ v23 wr=>∃(i q:Nat) (D:aA) (F:Nat),m-i<gg/\i<=m/\q<=i/\v7=.slice D q F/\v23=ae aj (i:Int)/\aq (Ow wr l.heap.size 3 .i64 (InM m) D q F)/\aq (az l wr))
 .exact⟨0,0,none,0,ak,ak,ak,rfl,rfl,⟨Ow.nil _ _ _ _ _⟩,cA⟩
 obtain⟨i,q,D,F,n,hi,hq,rfl,rfl,OQ,y⟩:=hrel;have M:=BE.t y.o;have K:=y.o.size;by_cases B:i<m
 .have i5:=aU i m
  obtain⟨ad,rfl,e0,e1⟩:=(R.o.Z M.o M.o.size).AQ B;have t:aq (m-i<gk):=⟨n⟩;have HI:aq (InM m (i:Int)):=⟨ak,ak⟩;generalize nth (fC gs i) 0=a at*;generalize nth (fC gs i) 1=b at*;have⟨Q,bU⟩:=eX ((wr:ahh).alloc (.cells #[ae aj a,ae aj b] 153));have X2:aq (Bx Q wr.heap.size #[ae aj a,ae aj b]):=⟨mf⟩;have B3:aq (az l Q):=⟨by rw[bU];exact y.o.alloc K _⟩;have O3:aq (Ow Q l.heap.size 3 .i64 (InM m) D q F):=⟨by rw[bU];exact OQ.o.alloc _⟩;have U:=B3.o.size;go_upto_region 11 with fail;rw[<-bU];clear bU e0 e1 n;have x1:Q.cell? ⟨wr.heap.size,1,none⟩=some (ae aj b):=X2.o.cell 1;cases hb:(b==(k:Int))
  .go_wp2
   go_roundg(m-i)
   .exact⟨i+1,q,D,F,ak,ak,ak,rfl,aT,O3,B3⟩
   have:=t.o;omega
  .go_wp2_with (at_builtin;refine bO lO rfl (.tmp 32) (.tmp 34) rfl rfl (O3.o.alloc _) rfl (bh _ _ _) HI.o ak cw ?_;intro A8 c8 w8 o8 b8;have O8:=sH o8;have B8:aq (az l w8):=⟨(B3.o.alloc U _).trans b8⟩;clear o8 b8)
   go_roundg(m-i)
   .exact⟨i+1,q+1,A8,c8,ak,ak,ak,rfl,aT,O8,B8⟩
   have:=t.o;omega
 have i5:=cv i m;have E:=sH (OW.o.ar y.o);clear n B;rcases Nat.eq_zero_or_pos q with L|L
 .have XZ:((q:Int)==0)=true:=by simp;omega
  clear L;go_wp2;have hg9:=HG.o;go_roundg(3-k)
  .exact⟨k+1,ak,ak,aT,E,M⟩
  omega
 .have XZ:((q:Int)==0)=false:=pI
  have SC:=sH (Qd x q wr L ak);have HQ:aq (0<q/\q<=m):=⟨ak⟩;clear L;go_wp2_with fail;refine SC.o.mono ?_;rintro e o ⟨A5,c5,rfl,o5,s⟩;have O5:=sH o5;have B5:aq (az l o):=⟨y.o.trans (s.mono K)⟩;have f:=sH (OQ.o.ar s);have X:=sH (E.o.ar s);have T:=M.t s;have rZ:=B5.o.size;clear o5 s SC;obtain⟨g7,rfl,Z,G⟩:=f.o.form HQ.o.1;obtain⟨g5,rfl,V,I⟩:=O5.o.form HQ.o.1;have⟨N,hN⟩:=eY l.heap.size;have KQ:aq (∀j,j<q->∃v,InM m v/\o.cell? ⟨g7,j,none⟩=some (ae aj v)):=⟨fun j O=>f.o.get O⟩;have KS:aq (∀j,j<q->∃v,o.cell? ⟨g5,j,none⟩=some (ae aj v)):=⟨fun j O=>by obtain⟨v,_,e⟩:=O5.o.get O;exact⟨v,e⟩⟩;have HN:aq (g<N/\N<=g7/\g7<o.heap.size/\N<=g5/\g5<o.heap.size):=⟨ak⟩;clear hN Z G V I f O5;go_wp2;go_loopg[10,11,45](q+1)(fun gg _ _ S wr=>∃j:Nat,q-j<gg/\j<=q/\S=ae aj (j:Int)/\aq (Ow wr w.heap.size 3 .i64 aH (some ⟨g,0,none⟩) m m)/\aq (KP N o wr)/\aq (az w wr))
  .exact⟨0,ak,ak,rfl,X,⟨KP.refl _ _⟩,T⟩
  obtain⟨j,r,O,rfl,P,KJ,BJ⟩:=hrel;by_cases d:j<q;rotate_left
  .have i6:=cv j q
   go_wp2;go_ret;exact⟨_,_,rfl,P.o,BJ.o⟩
  have i6:=aU j q;obtain⟨v,⟨Cw,hv1⟩,ev⟩:=KQ.o j d;obtain⟨u,eu⟩:=KS.o j d;obtain⟨n1,n2,n3,n4,n5⟩:=HN.o;have ev:=KJ.o.cell n2 n3 ev;have eu:=KJ.o.cell n4 n5 eu;obtain⟨v,rfl⟩:∃z:Nat,v=(z:Int):=⟨v.toNat,ak⟩;have H:v<m:=ak;obtain⟨_,_,k0⟩:=P.o.get H;have k1:=P.o.fz v;have O9:aq (Ow (wr.setCell ⟨g,v,none⟩ (ae aj u)) w.heap.size 3 .i64 aH (some ⟨g,0,none⟩) m m):=⟨P.o.set v trivial⟩;have B9:aq (az w (wr.setCell ⟨g,v,none⟩ (ae aj u))):=⟨Below.setCell BJ.o (p:=⟨g,v,none⟩) hgB.1 _⟩;have K9:aq (KP N o (wr.setCell ⟨g,v,none⟩ (ae aj u))):=⟨KJ.o.set n1 _⟩;have UG:aq (q-j<gk):=⟨r⟩;clear n1 n2 n3 n4 n5 r H;go_wp2;go_roundg(q-j)
  .exact⟨j+1,ak,ak,aT,O9,K9,B9⟩
  have:=UG.o;omega
def l5(bs:List aZ)(n:Nat):List (Nat×Nat):=(List.range n).map fun j=>((aJ bs j).f.toNat,(aJ bs j).t.toNat)
theorem LL(bs:List aZ)(n:Nat):(l5 bs n).length=n:=by simp[l5]
theorem J'(bs:List aZ)(n:Nat):l5 bs (n+1)=l5 bs n++[((aJ bs n).f.toNat,(aJ bs n).t.toNat)]:=by simp[l5,List.range_succ]
theorem GN{bs:List aZ}{n j:Nat}(h:j<n):gB (l5 bs n) j=((aJ bs j).f.toNat,(aJ bs j).t.toNat):=by simp[gB,l5,h]
structure FiB(bs:List aZ)(tl f t:Nat):Prop where
 inj:∀i j,i<tl->j<tl->(aJ bs i).t=(aJ bs j).t->i=j
 nv:∀j,j<tl->(f:Int)<=(aJ bs j).f/\(aJ bs j).f<(aJ bs j).t/\(aJ bs j).t<=(t:Int)
theorem FiB.ct{bs:List aZ}{f t:Nat}(h:FiB bs b f t):aci (l5 bs b) f t:=fun j a=>by
 rw[LL]at a;have:=h.nv j a;rw[GN a];show f<=(aJ bs j).f.toNat/\(aJ bs j).f.toNat<(aJ bs j).t.toNat/\(aJ bs j).t.toNat<=t;omega
def afU(B g c:Nat)(ps:List BoxM)(w:ahh)(e:ahn)(a:ahh):Prop:=e=.returned (.tuple #[])/\∃qs:List BoxM,cX a B (some ⟨g,0,none⟩) c qs/\dS (ps.map (·.1)) (qs.map (·.1))/\ahi B w a
theorem UO(T:aA)(tn tc:Nat)(ts:aC)(B g c C:Nat)(ps:List BoxM)(f t:Nat)(x:Int)(w:ahh)(h:aM .i32 w T tn tc ts)(hL:Laid w)(ho:cX w B (some ⟨g,0,none⟩) c ps)(hB:B<=w.heap.size)(hl:C<=ps.length)(hf:FiB (ps.map (·.1)) C f t)(ht:t<=tn)(hn:tn<=40)(ht4:C<=40):
 ahk prog 33 #[.slice T tn tc,.slice (some ⟨g,0,none⟩) C c,ae aj (f:Int),ae aj (t:Int),ae aj x] w (afU B g c ps w):=by
 have⟨bs,X⟩:=eY (ps.map (·.1));have R:=sH h;have LW:=sH hL;have OW:=sH ho;rw[X]at hf;have FB:=sH hf;have CI:=sH hf.ct;have K:=sH X;have kN:aq (∀W,az w W->∀j,j<C->∃(G:aA) (N:Nat),W.cell? ⟨g,j*6,none⟩=some (ae aj (aJ bs j).f)/\W.cell? ⟨g,j*6+1,none⟩=some (ae aj (aJ bs j).t)/\W.cell? ⟨g,j*6+2,none⟩=some (ae aj (aJ bs j).lv)/\W.cell? ⟨g,j*6+3,none⟩=some (ae aj (aJ bs j).x)/\W.cell? ⟨g,j*6+4,none⟩=some (ae aj (aJ bs j).wd)/\W.cell? ⟨g,j*6+5,none⟩=some (.slice G (aJ bs j).gs.length N)):=⟨fun W hW j hj=>by
  obtain⟨G,N,h0,l,d,P,h4,h5,_⟩:=(ho.ar hW).kN (show j<ps.length by omega);rw[X]at h0 l d P h4 h5;exact⟨G,N,h0,l,d,P,h4,h5⟩⟩
 clear h hL ho hf X;go_enter func33,ntmps33;go_wp2;go_loopg[10,12,21](C+1)(fun gg v10 _ v21 wr=>∃(i:Nat) (A1:aA) (c1:Nat),C-i<gg/\i<=C/\v10=.slice A1 i c1/\v21=ae aj (i:Int)/\aq (OL wr w.heap.size 64 2 (·=(l5 bs i).map cR) A1 i c1)/\aq (az w wr))
 .exact⟨0,none,0,ak,ak,rfl,rfl,⟨OL.nil _ _ _ _ rfl⟩,cA⟩
 obtain⟨i,A1,c1,hg,hi,rfl,rfl,OO,BE⟩:=hrel;by_cases o:i<C
 .have i4:=aU i C
  have jG:aq (C-i<gk):=⟨hg⟩;obtain⟨G,N,L,e1,e2,e3,e4,e5⟩:=kN.o wr BE.o i o;obtain⟨l,d,P⟩:=FB.o.nv i o;have ET:aq ((l5 bs (i+1)).map cR=(l5 bs i).map cR++[[(aJ bs i).f,(aJ bs i).t]]):=⟨by
   rw[J',List.map_append];show _++[[(((aJ bs i).f.toNat:Nat):Int),(((aJ bs i).t.toNat:Nat):Int)]]=_;rw[show(((aJ bs i).f.toNat:Nat):Int)=(aJ bs i).f by omega,show(((aJ bs i).t.toNat:Nat):Int)=(aJ bs i).t by omega]⟩
  generalize(aJ bs i).gs.length=s at*;generalize aJ bs i=b at*;have i5:b.f<b.t:=d;have⟨D,bU⟩:=eX ((wr:ahh).alloc (.cells #[ae aj b.f,ae aj b.t,ae aj b.lv,ae aj b.x,ae aj b.wd,.slice G s N] 51));have X2:aq (Bx D wr.heap.size #[ae aj b.f,ae aj b.t,ae aj b.lv,ae aj b.x,ae aj b.wd,.slice G s N]):=⟨mf⟩;have B2:aq (az w D):=⟨abt⟩;have Z:aq (OL D w.heap.size 64 2 (·=(l5 bs i).map cR) A1 i c1):=⟨by rw[bU];exact OO.o.ar (av _ _)⟩;have ij:=B2.o.size;go_upto_region 4 with fail;rw[<-bU];clear bU L e1 e2 e3 e4 e5 hg l d P;have x0:D.cell? ⟨wr.heap.size,0,none⟩=some (ae aj b.f):=X2.o.cell 0;have x1:D.cell? ⟨wr.heap.size,1,none⟩=some (ae aj b.t):=X2.o.cell 1;go_wp2_with (at_builtin;refine bK (L':=(·=(l5 bs (i+1)).map cR)) YK rfl (.tmp 30) (.tmp 36) rfl rfl (Z.o.alloc _) rfl [b.f,b.t] rfl (cg _ _ _ _ _ aQ rfl) (fun xs _ _ h=>by rw[ET.o,h]) ak cw ?_;intro A8 c8 w8 o8 b8 _ _;have O8:=sH o8;have B8:aq (az w w8):=⟨(B2.o.alloc ak _).trans b8⟩;clear o8 b8);go_roundg(C-i)
  .exact⟨i+1,A8,c8,ak,ak,rfl,aT,O8,B8⟩
  have:=jG.o;omega
 have i4:=cv i C;obtain rfl:i=C:=ak;have RX:aq (Rx wr wr.heap.size 2 ((l5 bs i).map cR) A1 i):=⟨by
  obtain⟨gs,l,d⟩:=OO.o.rl ak;subst l;exact d⟩
 have SC:=sH (Qf T tn tc ts f t A1 i c1 (l5 bs i) wr (R.o.ar BE.o) (LW.o.ar BE.o) RX.o CI.o ht hn ak);clear OO o RX;go_wp2_with fail;refine SC.o.mono ?_;rintro e w3 ⟨A3,c3,S,rfl,o3,sl,b3⟩;have O3:=sH o3;have SL:=sH sl;have B3:=BE.t b3;have hsl:S.length<=40:=by have:=sl.len;omega
 have RS:aq (Rx w3 w3.heap.size 2 (S.map (sR (l5 bs i))) A3 S.length):=⟨by
  obtain⟨gs,l,d⟩:=o3.rl ak;subst l;exact d⟩
 have PC:=sH (JC x A3 S.length c3 _ w3 RS.o ak);clear o3 sl b3 SC;go_wp2_with fail;refine PC.o.mono ?_;rintro e u ⟨A4,c4,rfl,o4,b4⟩;have O4:=sH o4;have B4:=B3.t b4;have RS4:aq (Rx u u.heap.size 2 (S.map (sR (l5 bs i))) A3 S.length):=⟨RS.o.Z b4 b4.size⟩;clear b4 PC RS;have hgw:0<i->g<w.heap.size/\B<=g:=fun h0=>by
  obtain⟨g1,e,l,d⟩:=aw.form OW.o.row (show 0<ps.length by omega);injection e with e
  injection e with e
  subst e;exact⟨d,l⟩
 have HGW:=sH hgw;have KS:aq (∀j,j<S.length->∃O cl:_,A3=some ⟨O,0,none⟩/\w.heap.size<=O/\O<u.heap.size/\u.cell? ⟨O,j*2,none⟩=some (ae aj (aJ bs (Ej S j)).t)/\u.cell? ⟨O,j*2+1,none⟩=some (ae aj cl)):=⟨fun j hj=>by
  obtain⟨O,rfl,l,d⟩:=O3.o.form (show 0<S.length by omega);obtain⟨ad,e,L,e1⟩:=RS4.o.AQ hj;obtain rfl:(⟨O,0,none⟩:Addr)=ad:=Option.some.inj e;rw[bj]at L e1;have hb:=SL.o.at_ hj;have hbi:=FB.o.nv _ hb;have e2:nth (fC (S.map (sR (l5 bs i))) j) 0=(aJ bs (Ej S j)).t:=by
   rw[VH _ hj];show(((gB (l5 bs i) S[j].1).2:Nat):Int)=_;rw[<-yq hj,GN hb];show(((aJ bs (Ej S j)).t.toNat:Nat):Int)=_;omega
  rw[e2]at L;have P:=BE.o.size;have h4:=B3.o.size;have h5:=B4.o.size;exact⟨O,_,rfl,ak,by have:=block_lt_of_cell L;exact this,L,e1⟩⟩
 have KX:aq (∀j,j<S.length->∃(g4:Nat) (v:Int),A4=some ⟨g4,0,none⟩/\w.heap.size<=g4/\g4<u.heap.size/\u.cell? ⟨g4,j,none⟩=some (ae aj v)):=⟨fun j hj=>by
  obtain⟨g4,rfl,l,d⟩:=O4.o.form (show 0<S.length by omega);obtain⟨v,_,e⟩:=O4.o.get hj;have h4:=B3.o.size;exact⟨g4,v,rfl,ak,d,e⟩⟩
 have OW4:aq (cX u B (some ⟨g,0,none⟩) c ps/\dS bs (ps.map (·.1))/\ps.map (·.2)=ps.map (·.2)):=⟨OW.o.ar B4.o,by rw[K.o];exact dS.refl _,rfl⟩;have BB4:aq (ahi B w u):=⟨B4.o.mono hB⟩;have U:aq (B<=w.heap.size/\i<=ps.length/\i<=40):=⟨hB,hl,ht4⟩;clear O3 O4 RS4 B3 hgw;generalize hmm:S.length=m at*;go_wp2;go_loopg[15,16,17,18,49](m+1)(fun gg H _ _ _ v49 wr=>∃(j k:Nat) (qs:List BoxM),m-j<gg/\j<=m/\H=ae aj (k:Int)/\v49=ae aj (j:Int)/\aq (cX wr B (some ⟨g,0,none⟩) c qs/\dS bs (qs.map (·.1))/\qs.map (·.2)=ps.map (·.2))/\aq (∀q,j<=q->q<m->k<=Ej S q)/\aq (KP w.heap.size u wr)/\aq (ahi B w wr))
 .exact⟨0,0,ps,ak,ak,rfl,rfl,⟨OW4.o.1,OW4.o.2.1,rfl⟩,⟨fun _ _ _=>Nat.zero_le _⟩,⟨KP.refl _ _⟩,BB4⟩
 obtain⟨j,k,qs,dw,hj,rfl,rfl,OQ,LK,KK,BQ⟩:=hrel;obtain⟨wo,rfl⟩:=eX wr;by_cases o:j<m;rotate_left
 .have i5:=cv j m
  have DN:aq (∃qs:List BoxM,cX wo B (some ⟨g,0,none⟩) c qs/\dS (ps.map (·.1)) (qs.map (·.1))):=⟨qs,OQ.o.1,by rw[K.o];exact OQ.o.2.1⟩;go_wp2;obtain⟨a,l,d⟩:=DN.o;go_end0;exact⟨rfl,a,l,d,BQ.o⟩
 have i5:=aU j m;obtain⟨O,cl,rfl,Y,V,L,e1⟩:=KS.o j o
 replace L:=KK.o.cell Y V L
 replace e1:=KK.o.cell Y V e1
 have hb:=SL.o.at_ (show j<S.length by omega);have hkb:=LK.o j bW o;have HG:aq (m-j<gk/\j<m):=⟨dw,o⟩;have INJ:aq (∀q,q<i->(aJ bs q).t=(aJ bs (Ej S j)).t->q=Ej S j):=⟨fun q hq e=>FB.o.inj q _ hq hb e⟩;have NXT:aq (∀q,j+1<=q->q<m->Ej S j<=Ej S q):=⟨fun q l d=>Nat.le_of_lt (SL.o.afS (show j<q by omega) ak)⟩;have EB:aq (Ej S j<i):=⟨hb⟩;generalize hbx:Ej S j=bx at*;have⟨tb,Kv⟩:=eY ((aJ bs bx).t);rw[Kv]at L INJ;have⟨D,bU⟩:=eX ((wo:ahh).alloc (.cells #[ae aj tb,ae aj cl] 153));have X2:aq (Bx D wo.heap.size #[ae aj tb,ae aj cl]):=⟨mf⟩;have b2:az wo D:=jx;have Z:aq (cX D B (some ⟨g,0,none⟩) c qs/\dS bs (qs.map (·.1))/\qs.map (·.2)=ps.map (·.2)):=⟨OQ.o.1.ar b2,OQ.o.2⟩;have K2:aq (KP w.heap.size u D):=⟨KK.o.below b2⟩;have B2:aq (ahi B w D):=⟨BQ.o.trans (b2.mono (by have:=BQ.o.size;have:=U.o;omega))⟩;have HTB:=sH Kv;go_upto_region 12 with fail;go_upto_block 4 with fail;rw[<-bU];clear bU b2 L e1 hbx Kv hb dw o Y V LK OQ KK BQ;go_cut[15](fun H wx=>H=ae aj (bx:Int)/\aq (az D wx))
 ·
  go_wp2;go_loopg[15](bx+1)(fun gg H wr=>∃k:Nat,bx-k<gg/\k<=bx/\H=ae aj (k:Int)/\aq (az D wr))
  .exact⟨k,ak,hkb,rfl,cA⟩
  obtain⟨k,si,hk,rfl,BR⟩:=hrel;have OR:=Z.o.1.ar BR.o;have hlen:=Z.o.2.1.len;rw[<-K.o,List.length_map,List.length_map]at hlen;obtain⟨G,N,c0,M,-⟩:=OR.kN (show k<qs.length by have:=EB.o;have:=U.o;omega);have L1:=Z.o.2.1.at_ k;rw[L1.1]at c0;rw[L1.2.1]at M;have ti:=FB.o.nv k Bm;have x0:wr.cell? ⟨wo.heap.size,0,none⟩=some (ae aj tb):=(X2.o.ar BR.o X2.o.lt).cell 0;have IN:=INJ.o k Bm;have TB:=HTB.o;have k0:=ie k;have k1:(k:Int)<(i:Int):=Bm;have qh:((aJ bs k).f==(aJ bs k).t)=false:=pI;have Q:((aJ bs k).t !=tb)=decide (k≠bx):=by
   by_cases e:k=bx
   .subst e;rw[TB];simp
   .have:¬(aJ bs k).t=tb:=fun h=>e (IN h)
    simp[e,this]
  have⟨C0,C1,X0⟩:=lc3 c0 M x0;have UG:aq (bx-k<gk/\k<=bx):=⟨si,hk⟩;generalize(aJ bs k).f=bf at*;generalize(aJ bs k).t=bt at*;clear c0 M x0 L1 ti IN TB si hk OR hlen;by_cases e:k=bx
  .subst e
   have ht3:(bt !=tb)=false:=by rw[Q];simp
   clear Q;go_wp2;refine mRl ?_;rintro _ ⟨nq,rfl⟩;have BN:=BR.t nq.2;go_wp2;go_meet;exact⟨rfl,BN⟩
  .have ht3:(bt !=tb)=true:=by rw[Q];simpa using e
   clear Q;go_wp2;refine mRl ?_;rintro _ ⟨nq,rfl⟩;have BN:=BR.t nq.2;go_wp2;have si:=UG.o;go_roundg(bx-k)
   .exact⟨k+1,ak,ak,aT,BN⟩
   omega
 obtain⟨rfl,BR⟩:=hcut;have hlen:=Z.o.2.1.len;rw[<-K.o,List.length_map,List.length_map]at hlen;have F:bx<qs.length:=by have:=EB.o;have:=U.o;omega
 have B3:aq (ahi B w wc):=⟨B2.o.trans (BR.o.mono (by have:=B2.o.size;have:=U.o;omega))⟩;have K3:aq (KP w.heap.size u wc):=⟨K2.o.below BR.o⟩;have O3:aq (cX wc B (some ⟨g,0,none⟩) c qs):=⟨Z.o.1.ar BR.o⟩;obtain⟨g4,v,rfl,Y,V,ev⟩:=KX.o j HG.o.2;have ev:=K3.o.cell Y V ev;obtain⟨G,N,c0,M,c2,wV,c4',c5,cf,hG,eG⟩:=O3.o.kN F;have cf4:=cf 4 ak;have k0:=ie bx;have k1:(bx:Int)<(i:Int):=Bm;have j0:=ie j;have j1:(j:Int)<(m:Int):=by have:=HG.o;omega
 obtain⟨dW,dw⟩:=HGW.o Bm;obtain⟨a,o4,e4,e5⟩:=O3.o.wid F (ahl ((aJ (qs.map (·.1)) bx).wd+v));have OW5:aq (cX (wc.setCell ⟨g,bx*6+4,none⟩ (ae aj (ahl ((aJ (qs.map (·.1)) bx).wd+v)))) B (some ⟨g,0,none⟩) c a):=⟨o4⟩;have r:aq (dS bs (a.map (·.1))/\a.length=qs.length/\a.map (·.2)=ps.map (·.2)):=⟨by
  refine⟨?_,by have:=congrArg List.length e4;simpa using this,e5.trans Z.o.2.2⟩;rw[e4];exact Z.o.2.1.trans (Oa (by simpa using F) rfl)⟩
 have K5:aq (KP w.heap.size u (wc.setCell ⟨g,bx*6+4,none⟩ (ae aj (ahl ((aJ (qs.map (·.1)) bx).wd+v))))):=⟨K3.o.set dW _⟩;have B5:aq (ahi B w (wc.setCell ⟨g,bx*6+4,none⟩ (ae aj (ahl ((aJ (qs.map (·.1)) bx).wd+v))))):=⟨Below.setCell B3.o (p:=⟨g,bx*6+4,none⟩) dw _⟩;have HB6:aq (bx<qs.length):=⟨F⟩;generalize(aJ (qs.map (·.1)) bx).wd=wd at*;clear cf hG eG o4 e4 e5 F hlen Y V c0 M c2 wV c5;go_wp2;go_region;have⟨W5,I⟩:=eX ((wc.setCell ⟨g,bx*6+4,none⟩ (ae aj (ahl (wd+v)))).drew);have O6:aq (cX W5 B (some ⟨g,0,none⟩) c a):=⟨by rw[I];exact OW5.o.ar (bC (Below.refl _ _))⟩;have K6:aq (KP w.heap.size u W5):=⟨by rw[I];exact K5.o.below (bC (Below.refl _ _))⟩;have B6:aq (ahi B w W5):=⟨by rw[I];exact bC B5.o⟩;rw[<-I];clear I OW5 K5 B5 ev cf4 c4' O3 K3 B3;have ef:bx<a.length:=by have:=r.o.2.1;have:=HB6.o;omega
 have y:bx<ps.length:=by have:=congrArg List.length r.o.2.2;simp at this;omega
 obtain⟨G,N,-,-,c2,-,-,c5,-,-,eG⟩:=O6.o.kN ef;have eG2:aq (a[bx].2.1=G/\(∀A,G=some ⟨A,0,none⟩->0<(aJ (a.map (·.1)) bx).gs.length->A<w.heap.size/\B<=A)):=⟨eG,fun A e h0=>by
  have l:(a.map (·.2))[bx]? =(ps.map (·.2))[bx]? :=by rw[r.o.2.2]
  rw[List.getElem?_map,List.getElem?_map,List.getElem?_eq_getElem ef,List.getElem?_eq_getElem y]at l;simp only[Option.map_some,Option.some.injEq]at l;have d:=OW.o.gl _ (List.getElem_mem y);rw[<-l,eG,e]at d;have P:=(r.o.1.at_ bx).2.2;have h4:(aJ bs bx).gs.length=ps[bx].1.gs.length:=by rw[<-K.o,iK (by simpa using y)];simp
  obtain⟨g6,e6,h5,h6⟩:=d.form ak;injection e6 with e6
  injection e6 with e6
  subst e6;exact⟨h6,h5⟩⟩
 have mv:=sH ef;obtain⟨s,I6,c5n,eG3⟩:∃s,aq ((aJ (a.map (·.1)) bx).gs.length=s)/\W5.cell? ⟨g,bx*6+5,none⟩=some (.slice G s N)/\aq (a[bx].2.1=G/\(∀A,G=some ⟨A,0,none⟩->0<s->A<w.heap.size/\B<=A)):=⟨_,⟨rfl⟩,c5,eG2⟩;clear c5 eG2;obtain⟨lv,c2n⟩:∃lv,W5.cell? ⟨g,bx*6+2,none⟩=some (ae aj lv):=⟨_,c2⟩;clear c2;have CO:aq (∀W,_):=⟨fun W=>Fi lv W⟩;have⟨od,hod⟩:=eY (tt lv);rw[hod]at CO;clear eG hod y;go_wp2_with fail;refine(CO.o _).mono ?_;rintro e _ ⟨rfl,rfl⟩;cases od
 .go_wp2
  have hg9:=HG.o;go_roundg(m-j)
  .exact⟨j+1,bx,a,ak,ak,rfl,aT,⟨O6.o,r.o.1,r.o.2.2⟩,NXT,K6,B6⟩
  omega
 go_wp2;go_loopg[18,101](s+1)(fun gg _ afy wr=>∃n:Nat,s-n<gg/\n<=s/\afy=ae aj (n:Int)/\aq (cX wr B (some ⟨g,0,none⟩) c a)/\aq (KP w.heap.size u wr)/\aq (ahi B w wr))
 .exact⟨0,ak,ak,rfl,O6,K6,B6⟩
 obtain⟨n,Mf,hn5,rfl,ON,KN,BN⟩:=hrel;by_cases acO:n<s;rotate_left
 .have i6:=cv n s
  go_wp2;have hg9:=HG.o;go_roundg(m-j)
  .exact⟨j+1,bx,a,ak,ak,rfl,aT,⟨ON.o,r.o.1,r.o.2.2⟩,NXT,KN,BN⟩
  omega
 have i6:=aU n s;obtain⟨G',gc',-,-,-,-,-,d5,-,J,eG'⟩:=ON.o.kN mv.o;obtain rfl:G'=G:=eG'.symm.trans eG3.o.1;rw[I6.o]at d5 J;obtain⟨A,rfl,_,_⟩:=J.form ak;obtain⟨h5,h6⟩:=eG3.o.2 A rfl ak;obtain⟨z,cz,fz⟩:=J.cell acO;obtain⟨g4',v',E,Y,V,ev⟩:=KX.o j HG.o.2;injection E with E
 injection E with E
 subst E;have ev:=KN.o.cell Y V ev;have O9:aq (cX (wr.setCell ⟨A,n*4+2,none⟩ (ae aj (ahl (z+v')))) B (some ⟨g,0,none⟩) c a):=⟨ON.o.acR mv.o eG3.o.1 ak _⟩;have K9:aq (KP w.heap.size u (wr.setCell ⟨A,n*4+2,none⟩ (ae aj (ahl (z+v'))))):=⟨KN.o.set h5 _⟩;have B9:aq (ahi B w (wr.setCell ⟨A,n*4+2,none⟩ (ae aj (ahl (z+v'))))):=⟨Below.setCell BN.o (p:=⟨A,n*4+2,none⟩) h6 _⟩;have n0:=ie n;have HG5:aq (s-n<gk/\n<s/\s<=9223372036854775807):=⟨Mf,acO,by obtain⟨_,_,_,P⟩:=J;have:=aw.le P;have:=aw.uD P;omega⟩;clear Y V h5 h6 J eG' Mf;go_wp2;go_region;go_wp2;obtain⟨y1,y2,y3⟩:=HG5.o;go_roundg(s-n)
 .exact⟨n+1,ak,ak,Xx,⟨O9.o.ar (bC (Below.refl _ _))⟩,⟨K9.o.below (bC (Below.refl _ _))⟩,⟨bC B9.o⟩⟩
 omega
theorem Pc(x:Int)(w:ahh):ahk prog 156 #[ae aj x] w (PB w):=by
 go_enter func156,ntmps156;go_wp2_with fail
 all_goals(go_ret;exact⟨_,rfl,Below.refl _ _⟩)
theorem aae(x:Int)(w:ahh):ahk prog 80 #[ae aj x] w (PB w):=by
 have a:=sH (Pc x w);go_enter func80,ntmps80;go_wp2_with fail
 all_goals first
  |(go_ret;exact⟨_,rfl,Below.refl _ _⟩)
  |(refine a.o.mono ?_
    rintro e f ⟨b,rfl,d⟩;have c:=sH d;go_wp2;go_ret;exact⟨_,rfl,c.o⟩)
theorem Ey(A:aA)(n c:Nat)(w:ahh)(h:Iw w w.heap.size .i64 aH A n)(o:0<n)(F:n<=100000):ahk prog 78 #[.slice A n c] w (Nw w 3 .i64 aH n):=by
 have R:=sH h;obtain⟨f,z,rfl,_⟩:=R.o.get o;obtain⟨xs,m,q⟩:=R.o;have C:=m.len;have p:aq (aw (w.alloc (.cells #[] 3)) w.heap.size 3 1 (some ⟨w.heap.size,0,none⟩) 0 0 []):=⟨World.ownsRow_made w #[] 0 bW (Nat.zero_le _) rfl⟩;have D:aq (nm (w.alloc (.cells #[] 3)) (some f) n (xs.map (ae aj))):=⟨fun _=>⟨f,rfl,fun j u b=>by
  have r:j<n:=by have:=(List.getElem?_eq_some_iff.1 b).1;simp at this;omega
  obtain⟨d,e,_,t⟩:=m.2 o;obtain rfl:f=d:=Option.some.inj e;have:=t j r;rw[List.getElem?_map,List.getElem?_eq_getElem ak,Option.map_some]at b;injection b with b
  subst b;rw[cB ak]at this;exact aI this _⟩⟩
 have E:∀(w:ahh) (a:aA) (n c g c':Nat),(binOp .eql 39 (.slice a n c) (.slice none g c')).run prog w=.ok (.bool a.isNone) w:=fun w a n c g c'=>Lib.run_eql_slice_nil w _ _ a n c g c' underlying39
 go_enter func78,ntmps78;go_wp2_with (at_builtin;refine wpList_plain rfl fun G i=> ?_;refine oM lO (.tmp 5) (.tmp 6) rfl rfl p.o rfl D.o cw (fun u b=>by obtain⟨x,_,rfl⟩:=List.mem_map.1 b;rfl) ak aQ ?_;intro v B H l k;refine i _ _ ?_;have y:=sH l;have s:=sH ((av w _).trans k);clear l k);go_ret;exact⟨v,B,rfl,⟨xs,by have:=y.o;rw[Nat.zero_add,List.nil_append]at this;exact this,q⟩,s.o⟩
theorem UX(A:aA)(n c:Nat)(ts:aC)(V:aA)(B:Nat)(base:Int)(f t:Nat)(w:ahh)(h:aM .i32 w A n c ts)(P:Laid w)(Z:Iw w w.heap.size .i64 aH V n)(K:n<=B)(qh:f<t)(ht:t<=n)(hn:n<=100000):ahk prog 29 #[.slice A n c,.slice V n B,ae aj base,ae aj (f:Int),ae aj (t:Int)] w (Nw w 3 .i64 aH (t-f)):=by
 have R:=sH h;have LW:=sH P;have RV:=sH Z;clear h P Z;have g1:¬(f:Int)<0:=ak;have g2:=cv t f;have g3:=cv n t;go_enter func29,ntmps29;obtain⟨l,a,d,RI⟩:∃(l:aA) (a:Nat),(∀W:ahh,(Instr.slice 39 (.slice V n B) (some (ae aj (f:Int))) (some (ae aj (t:Int))) none).run prog W=.ok (.slice l (t-f) a) W)/\aq (Iw w w.heap.size .i64 aH l (t-f)):=by
  obtain⟨xs,M,_⟩:=RV.o;obtain⟨l,a,O⟩:=jj lO V n B f t ak ht K (f:Int) (t:Int) rfl rfl;exact⟨l,a,O.run,⟨_,O.at_ M,fun _ _=>trivial⟩⟩
 have F:=sH (Ey l (t-f) a w RI.o ak ak);have r:aq (0<t-f/\f<t/\t<=n):=⟨ak⟩;have⟨m,hm⟩:=eY (t-f);rw[hm]at F r d⊢;clear RI;go_wp2_with fail;refine F.o.mono ?_;rintro e w1 ⟨A2,G,rfl,o1,U⟩;obtain⟨g,rfl,E,dw⟩:=o1.form r.o.1;have O1:=sH o1;have B1:aq (az w w1):=⟨U⟩;clear o1 U d g1 g2 g3 F;go_wp2;go_loopg[12,13,14](n+1)(fun gg J I _ wr=>∃(k:Nat) (b:Bool),k<gg/\f<=k/\k<=t/\J=.bool b/\I=ae aj ((k:Int)-1)/\aq (Ow wr w.heap.size 3 .i64 aH (some ⟨g,0,none⟩) m G)/\aq (az w wr))
 .exact⟨t,true,ak,ak,ak,rfl,jy,O1,B1⟩
 obtain⟨k,b,hg,hfk,hkt,rfl,rfl,X,C⟩:=hrel;by_cases aK:f<k;rotate_left
 .have i4:¬(f:Int)<=(k:Int)-1:=by omega
  go_wp2;go_ret;exact⟨_,_,rfl,X.o,C.o⟩
 obtain⟨j,rfl⟩:∃j,k=j+1:=⟨k-1,ak⟩;have o:((j+1:Nat):Int)-1=(j:Int):=ak;rw[o];have i4:(f:Int)<=(j:Int):=ak;have j0:=ie j;have j1:=aU j n;obtain⟨ad,rfl,e0⟩:=(R.o.ar C.o).ce (show j<n by omega);obtain⟨u,s⟩:=bounds_i32 (R.o.dt (show j<n by omega));have Y:=sH (lP (nth ts j) u s wr (LW.o.ar C.o));have D:aq (j+1<gk/\f<=j/\j+1<=t):=⟨ak⟩;clear u s hg o;generalize nth ts j=z at*;go_wp2_with fail;refine callK Y.o C fun w2 Q L=> ?_;have N:=sH (X.o.ar Q);clear Q Y e0;generalize(a7 z).iU=x at*;go_upto_region 9 with fail;go_cut[12](fun v S=>(∃b:Bool,v=.bool b)/\aq (az w S)/\aq (Ow S w.heap.size 3 .i64 aH (some ⟨g,0,none⟩) m G))
 ·
  cases M:(x==11)<;>cases h2:(x==12)<;>cases b
  all_goals
   go_wp2_with fail
   first
    |(go_meet;exact⟨⟨_,rfl⟩,L,N⟩)
    |(refine(aae x _).mono ?_
      rintro e w5 ⟨b5,rfl,i⟩;have B5:=L.t i;have O5:=sH (N.o.ar i);clear i;go_wp2;go_meet;exact⟨⟨_,rfl⟩,B5,O5⟩)
 obtain⟨⟨b',rfl⟩,T,y⟩:=hcut;obtain⟨si,hf3,ht3⟩:=D.o;cases b'
 .go_wp2
  go_roundg(j+1)
  .exact⟨j,_,ak,ak,ak,rfl,jy,y,T⟩
  omega
 .obtain⟨q,hq⟩:∃q:Nat,(j:Int)-(f:Int)=(q:Int):=⟨j-f,ak⟩
  have H:q<m:=ak;have q0:=ie q;have q1:=aU q m;obtain⟨_,_,k0⟩:=y.o.get H;have k1:=y.o.fz q;have O7:aq (Ow (wc.setCell ⟨g,q,none⟩ (ae aj base)) w.heap.size 3 .i64 aH (some ⟨g,0,none⟩) m G):=⟨y.o.set q trivial⟩;have B7:aq (az w (wc.setCell ⟨g,q,none⟩ (ae aj base))):=⟨Below.setCell T.o (p:=⟨g,q,none⟩) E _⟩;go_wp2;go_roundg(j+1)
  .exact⟨j,_,ak,ak,ak,rfl,jy,O7,B7⟩
  omega
theorem Bx.p9{g e j f a c k i d:ahj}(h:Bx w b #[g,e,j,f,a,c,k,i,d]):w.cell? ⟨b,0,none⟩=some g/\w.cell? ⟨b,1,none⟩=some e/\w.cell? ⟨b,2,none⟩=some j/\w.cell? ⟨b,3,none⟩=some f/\w.cell? ⟨b,4,none⟩=some a/\w.cell? ⟨b,5,none⟩=some c/\w.cell? ⟨b,6,none⟩=some k/\w.cell? ⟨b,7,none⟩=some i/\w.cell? ⟨b,8,none⟩=some d:=⟨h.cell 0,h.cell 1,h.cell 2,h.cell 3,h.cell 4,h.cell 5,h.cell 6,h.cell 7,h.cell 8⟩
def Tx(w:ahh)(g:Nat)(cs:Array ahj)(t:ahm):Prop:=w.heap[g]? =some (.cells cs t (0,0))
theorem Tx.bx(h:Tx w g cs t):Bx w g cs:=⟨t,h⟩
theorem Tx.ar{a:ahh}(h:Tx w g cs t)(b:az w a):Tx a g cs t:=(b.block g h.bx.lt).trans h
theorem Tx.apart{B n c k:Nat}{e:ahm}{A:aA}{vs:List ahj}(h:Tx w g cs t)(o:aw w B e k A n c vs)(d:e≠t):bM A (some ⟨g,0,none⟩):=fun j f b=>by
 subst f;injection b with b
 injection b with b
 subst b;obtain⟨cur,i,a⟩:=aw.typ o;rw[h]at a;injection a with a
 injection a with _ a
 exact d a.symm
theorem Tx.row(h:Tx w g cs t)(ds:Array ahj):Tx (w.setRow g ds) g ds t:=setRow_heap _ _ _ ds _ _ h
def ZT(N:Nat)(cs:Array ahj)(t:ahm):Sat:=⟨fun v w=>∃g:Nat,v=.pointer (some ⟨g,0,none⟩)/\N<=g/\Tx w g cs t,fun _ _ _ ⟨g,b,d,c⟩ a=>⟨g,b,d,c.ar a⟩⟩
theorem Cv{w0:ahh}(n:aG w0)(cs:Array ahj)(t:ahm):(ZT w0.heap.size cs t).p (.pointer (some ⟨n.1.heap.size,0,none⟩)) (n.1.alloc (.cells cs t))/\(∃m:aG w0,n.1.alloc (.cells cs t)=m.1)/\ahi n.1.heap.size n.1 (n.1.alloc (.cells cs t)):=
 ⟨⟨_,rfl,n.2.size,heap_alloc_new _ _⟩,⟨⟨_,n.2.trans ((av _ _).mono n.2.size)⟩,rfl⟩,av _ _⟩
theorem ZT.get{N:Nat}(h:(ZT N cs t).p (.pointer (some ⟨g,0,none⟩)) w):Tx w g cs t:=by
 obtain⟨a,e,_,h⟩:=h;injection e with e
 injection e with e
 injection e with e
 subst e;exact h
end Go.Proofs.YtklncadpkniojaaGreatDoor
