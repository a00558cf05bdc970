/- Part of LineFills. -/
import Derived.Test.YtijcgdkpconjcaaGreatDoorAg
import Derived.Test.YtijcgdkpconjcaaGreatDoorAf
import Derived.OwnWalk
import Derived.Deep.MidRow
namespace Go.Proofs.YtijcgdkpconjcaaGreatDoor
open Go.ChangeShapes Go.WideShapes Go.ChangeAt Go.RowKit Go.Proofs.Tryz
open Go renaming World->EE,Value->EN,Calls->GK,TypeId->IQ,Ending->IS,Program->I3
open Go.RowKit renaming Below->EI,wrap64->IK
open Option renaming some->OH,none->OJ
open Bool renaming true->OX,false->OZ
open Go.Value renaming slice->Pl,bool->PF,pointer->PK,tuple->P8,agg->Q4
open Go.Ending renaming returned->RE
open Go.Obj renaming cells->RM
open Go.Value renaming int->ae
open Go.IntKind renaming i64->aj
set_option linter.all false
set_option maxRecDepth 100000
set_option maxHeartbeats 16000000
variable{w w0:EE}{B N at_ b bytes c g i j m n u:Nat}{args cs:Array EN}{k:IntKind}{a:Act}{e t:IQ}{f:dv}{A:aB}{xs:aC}{P:I3}{hi lo z:Int}{ops:Array Oper}{rest:List Oper}{o:Oper}{K Q:(EE->Prop)->Act->Prop}{G:Prop}{L:List aC->Prop}{E:EE->Prop}{Q':Exit->Act->EE->Prop}{V:EN->Prop}
def ZB(N:Nat):Sat:=⟨λv w=>∃g:Nat,v=PK (OH ⟨g,0,OJ⟩)/\N<=g/\Bx w g #[ae aj 0,ae aj 0,ae aj 0,ae aj 0,ae aj 0,ae aj 0,ae aj 0,ae aj 0,ae aj 0,ae aj 0],λv w e ⟨g,c,d,a⟩ b=>⟨g,c,d,a.ar b a.lt⟩⟩
def ZI:Sat:=⟨λv _=>∃z:Int,v=ae aj z,λ_ _ _ h _=>h⟩
def ZG(a:Int):Sat:=⟨λv _=>∃z:Int,v=Q4 #[ae aj z,ae aj a,ae aj 0,ae aj 0,ae aj 0,ae aj (-1),ae aj (-1),ae aj 0,ae aj 0,ae aj 0],λ_ _ _ h _=>h⟩
def Bx.fz(h:Bx w b cs)(o:Nat):w.frozen? ⟨b,o,OJ⟩=OZ:=by
 obtain⟨t,h⟩:=h;simp[World.frozen?,h]
def Bx.row{ds:Array EN}(h:Bx w b cs):Bx (w.setRow b ds) b ds:=by
 obtain⟨t,h⟩:=h;exact⟨t,setRow_heap w b cs ds t (0,0) h⟩
def Bx.Gs{l k a e f c i d j g:EN}(h:Bx w b #[l,k,a,e,f,c,i,d,j,g]):w.cell? ⟨b,0,OJ⟩=OH l/\w.cell? ⟨b,1,OJ⟩=OH k/\w.cell? ⟨b,2,OJ⟩=OH a/\w.cell? ⟨b,3,OJ⟩=OH e/\w.cell? ⟨b,4,OJ⟩=OH f/\w.cell? ⟨b,5,OJ⟩=OH c/\w.cell? ⟨b,6,OJ⟩=OH i/\w.cell? ⟨b,7,OJ⟩=OH d/\w.cell? ⟨b,8,OJ⟩=OH j/\w.cell? ⟨b,9,OJ⟩=OH g:=
 ⟨h.cell 0,h.cell 1,h.cell 2,h.cell 3,h.cell 4,h.cell 5,h.cell 6,h.cell 7,h.cell 8,h.cell 9⟩
def Bx.jq(h:Bx w b cs)(o:Nat)(v:EN):Bx (w.setCell ⟨b,o,OJ⟩ v) b (cs.setIfInBounds o v):=by
 obtain⟨t,h⟩:=h;refine⟨t, ?_⟩;have aG:=(Array.getElem?_eq_some_iff.1 h).1;have a:w.heap[b]=RM cs t (0,0):=(Array.getElem?_eq_some_iff.1 h).2;unfold World.setCell;rw[Array.getElem?_eq_getElem CG,Array.getElem_modify];simp[a]
def Bx.heap(h:Bx w b cs):∃t,w.heap[b]? =OH (RM cs t (0,0)):=h
def aJ.Iq{a:EE}(h:aJ k w A n c xs)(b:az w a):aJ k a A n c xs:=⟨h.at_.Z b,h.le,h.cap,h.wf⟩
def bO.iC(h:bO w B k A n xs){i:Nat}(hi:i<n):∃a,A=OH a/\w.cell? (a.add i)=OH (.int k (nth xs i)):=by
 obtain⟨a,e,_,b⟩:=h.2 aq;exact⟨a,e,b i hi⟩
def aJ.iC(h:aJ k w A n c xs){i:Nat}(hi:i<n):∃a,A=OH a/\w.cell? (a.add i)=OH (.int k (nth xs i)):=h.at_.iC hi
def aZ{n:aI w0}{f:FuncId}(S:Sat)(h:GK P f args n.1 λe a=>∃v,e=RE v/\S.p v a/\EI n.1.heap.size n.1 a):GK P f args n.1 λe a=>∃v,e=RE v/\S.p v a/\(∃m:aI w0,a=m.1)/\EI n.1.heap.size n.1 a:=
 h.mono λe a ⟨v,d,c,b⟩=>⟨v,d,c,⟨⟨a,n.2.trans (b.mono n.2.size)⟩,rfl⟩,b⟩
def QT(n:aI w0)(t:IQ):(ZB w0.heap.size).p (PK (OH ⟨n.1.heap.size,0,OJ⟩)) (n.1.alloc (RM #[ae aj 0,ae aj 0,ae aj 0,ae aj 0,ae aj 0,ae aj 0,ae aj 0,ae aj 0,ae aj 0,ae aj 0] t))/\
 (∃m:aI w0,n.1.alloc (RM #[ae aj 0,ae aj 0,ae aj 0,ae aj 0,ae aj 0,ae aj 0,ae aj 0,ae aj 0,ae aj 0,ae aj 0] t)=m.1)/\EI n.1.heap.size n.1 (n.1.alloc (RM #[ae aj 0,ae aj 0,ae aj 0,ae aj 0,ae aj 0,ae aj 0,ae aj 0,ae aj 0,ae aj 0,ae aj 0] t)):=
 ⟨⟨_,rfl,n.2.size,Bx.new _ _ _⟩,⟨⟨_,n.2.trans ((aw _ _).mono n.2.size)⟩,rfl⟩,aw _ _⟩
def ZB.zb(h:(ZB N).p (PK (OH ⟨g,0,OJ⟩)) w):Bx w g #[ae aj 0,ae aj 0,ae aj 0,ae aj 0,ae aj 0,ae aj 0,ae aj 0,ae aj 0,ae aj 0,ae aj 0]:=by
 obtain⟨a,e,_,h⟩:=h;injection e with e
 injection e with e
 injection e with e
 subst e;exact h
def CSm(lo hi z:Int)(cs:aC):Prop:=CS lo hi cs/\∀x∈cs,x<=z
def CS.push{cs:aC}(h:CS lo hi cs)(b:lo<=z/\z<hi)(a:∀x∈cs,x<=z):CS lo hi (cs++[z]):=by
 have:=CS.mid (ds:=[]) zl b a aT 1;simpa using this
def CSm.push{y:Int}{cs:aC}(h:CSm lo hi y cs)(c:lo<=z/\z<hi)(b:y<=z):CSm lo hi z (cs++[z]):=⟨h.1.push c λx a=>Int.le_trans (h.2 x a) b,λx a=>by
 rcases List.mem_append.1 a with a|a
 .exact Int.le_trans (h.2 x a) b
 .simp at a;omega⟩
def agM(N:Nat)(a:Int)(d:Option Tmp):Option Sat:=if d=OH 28 then OH ZI else if d=OH 32 then OH (ZG a)else if d=OH 12 then OH (ZB N)else OJ
def adX(f:dv)(E:aB)(d N:Nat)(ts:aC)(c:Nat)(X:aB)(s mc:Nat)(ms:aC)(w:EE)(h:cC w w.heap.size f)(ht:aJ .i32 w E d N ts)(hm:bO w w.heap.size .i64 X s ms)(iG:d<=5000)(hmn:s<=9000000)(hfr:c<=100000):
 GK prog 208 #[f.v,Pl E d N,ae aj (c:Int),Pl X s mc] w (Uk w (bI c (c+d)) d):=by
 have⟨S,y,o,Z⟩:=box1 w f.row 102;have⟨R,T,MS⟩:=MO (h.Z o.o o.o.size) (ht.ar o.o) (hm.Z o.o);go_enter func208,ntmps208;go_wp2;rw[<-y];clear y;go_loopg[9,10,11,12](d+1)(λgg B v10 K _ wr=>∃(i a:Nat) (O:aB) (P:Nat),d-i<gg/\i<=d/\a<=i/\B=Pl O i P/\v10=ae aj (a:Int)/\K=ae aj (i:Int)/\ak (iZ wr S.heap.size (λxs=>CSm c (c+d) (c+a) (aM xs)) O i P)/\ak (az S wr))
 .exact⟨0,0,OJ,0,aq,aq,aq,rfl,rfl,rfl,⟨OL.nil _ _ _ _ ⟨CS.nil _ _,by simp[aM]⟩⟩,cJ⟩
 obtain⟨i,a,O,P,hg,hi,hai,rfl,rfl,rfl,O2,Q⟩:=hrel;by_cases H:i<d
 .go_wp2_with fail
  refine callK (tA E d N ts (i:Int) wr (T.o.Iq Q.o) aq) Q λx b2 k=> ?_;have O3:=sH (O2.o.ar b2);have⟨c0,c1,I,c3,c4,c5⟩:=(Z.o.ar k.o Z.o.lt).f6;obtain⟨adt,rfl,ct⟩:=(T.o.Iq k.o).iC H;generalize Ms (ks ts) (i:Int)=b;go_upto_if 21 with fail;go_cut[10](λv D=>∃q:Nat,a<=q/\q<=i/\v=ae aj (q:Int)/\x=D)
  ·
   cases b
   all_goals
    go_wp2;go_meet
    first
     |exact⟨a,aq,aq,rfl,rfl⟩
     |exact⟨i,aq,aq,rfl,rfl⟩
  obtain⟨q,haq,hqi,rfl,rfl⟩:=hcut;go_wp2;have⟨L0,L1,L2,L3,L4,L5,LT⟩:=lc7 c0 c1 I c3 c4 c5 ct;have i1:=aU i d;refine aQ (agM x.heap.size ((c:Int)+(q:Int))) 11 rfl aF aF aF aF aF rfl ?_;refine mLw ?_;refine lwA ZI (λr=> ?_) (λB j=> ?_)
  .go_simp
   refine aZ ZI ((td f _ r.1 (R.o.Z (k.o.trans (r.2.mono k.o.size)) (k.o.trans (r.2.mono k.o.size)).size)).mono ?_);rintro e w5 ⟨z,rfl,L⟩;exact⟨_,rfl,⟨z,rfl⟩,L⟩
  obtain⟨_,_,z,rfl⟩:=j;simp[Act.put];refine mLw ?_;refine lwA (ZG ((c:Int)+(q:Int))) (λr=> ?_) (λB j=> ?_)
  .go_simp
   refine aZ (ZG ((c:Int)+(q:Int))) ((yW z ((c:Int)+(q:Int)) r.1).mono ?_);rintro e w5 ⟨rfl,L⟩;exact⟨_,rfl,⟨z,rfl⟩,L⟩
  obtain⟨_,_,C,rfl⟩:=j;simp[Act.put];refine lwA (ZB x.heap.size) (λr=> ?_) (λB j=> ?_)
  .go_simp
   exact QT r _
  obtain⟨_,_,g,rfl,u,_⟩:=j;simp[Act.put];intro n hE;have A:Bx n.1 g #[ae aj 0,ae aj 0,ae aj 0,ae aj 0,ae aj 0,ae aj 0,ae aj 0,ae aj 0,ae aj 0,ae aj 0]:=ZB.zb hE.2;obtain⟨F,G⟩:=A.heap;refine wp_store_row 126 (.tmp 12) (.tmp 32) rfl g _ rfl rfl F _ G aF rfl ed ?_;have t:=sH (A.row (ds:=#[ae aj C,ae aj ((c:Int)+(q:Int)),ae aj 0,ae aj 0,ae aj 0,ae aj (-1),ae aj (-1),ae aj 0,ae aj 0,ae aj 0]));have⟨w6,l⟩:=eX (n.1.setRow g #[ae aj C,ae aj ((c:Int)+(q:Int)),ae aj 0,ae aj 0,ae aj 0,ae aj (-1),ae aj (-1),ae aj 0,ae aj 0,ae aj 0]);have M:ak (az x w6):=⟨by rw[l];exact below_setRow n.2 u _⟩;rw[<-l]at t;rw[<-l];clear l;have gz:=k.o.size;have X6:=t.o.Gs;have F9:=t.o.fz 9;go_upto_if 36 with fail;go_cut[36](λ_ D=>∃m:Int,ak (Bx D g #[ae aj C,ae aj ((c:Int)+(q:Int)),ae aj 0,ae aj 0,ae aj 0,ae aj (-1),ae aj (-1),ae aj 0,ae aj 0,ae aj m])/\ak (az x D))
  ·
   by_cases J:i<s
   .have i2:=aU i s
    obtain⟨adm,rfl,cm⟩:=(MS.o.Z (k.o.trans (M.o.mono k.o.size))).iC J;obtain⟨e0,e1,e2,e3,e4,e5,e6,e7,e8,e9⟩:=X6;go_wp2;go_meet;exact⟨nth ms i,⟨Bx.jq t.o 9 _⟩,⟨Below.setCell M.o (p:=⟨g,9,OJ⟩) u _⟩⟩
   .have i2:=cI i s
    go_wp2;go_meet;exact⟨0,t,M⟩
  obtain⟨m,X7,Y⟩:=hcut;have V:=k.t Y.o;have OS:=sH (O3.o.ar Y.o);have hs6:=V.o.size;have⟨e0,e1,e2,e3,e4,e5,e6,e7,e8,e9⟩:=X7.o.Gs;go_wp2_with (at_builtin;refine cd (L':=λxs=>CSm c (c+d) (c+(q:Nat)) (aM xs)) pT rfl (.tmp 42) (.tmp 44) rfl rfl (OS.o.alloc _) rfl [C,(c:Int)+(q:Int),0,0,0,-1,-1,0,0,m] rfl (cP _ _ _ _ _ aT rfl) (λxs _ _ h=>by rw[gB];exact h.push (by omega) (by omega)) aq br ?_;intro A8 c8 w8 W U _ _;have O8:=sH W;have B8:ak (az S w8):=⟨(V.o.alloc (by first|omega|(simp;omega)) _).trans U⟩;clear W U);go_roundg(d-i)
  .exact⟨i+1,q,A8,c8,aq,aq,aq,rfl,lZ,aV,O8,B8⟩
  omega
 .obtain rfl:i=d:=by omega
  go_wp2;go_ret;exact⟨_,_,rfl,(O2.o.imp λ_ _ _ h=>h.1).cS o.o.size,o.o.trans (Q.o.mono o.o.size)⟩
section
variable{w w':EE}{B B' n c:Nat}{e:IQ}{k:IntKind}{P P':Int -> Prop}{A:aB}
def Ow(w:EE)(B:Nat)(e:IQ)(k:IntKind)(P:Int->Prop)(A:aB)(n c:Nat):Prop:=∃xs,Own w B e k A n c xs/\∀x∈xs,P x
def Nw(w:EE)(e:IQ)(k:IntKind)(P:Int->Prop)(n:Nat)(r:IS)(w':EE):Prop:=∃(A:aB) (c:Nat),r=RE (Pl A n c)/\Ow w' w.heap.size e k P A n c/\az w w'
def Iw(w:EE)(B:Nat)(k:IntKind)(P:Int->Prop)(A:aB)(n:Nat):Prop:=∃xs,bO w B k A n xs/\∀x∈xs,P x
abbrev Wf(k:IntKind)(x:Int):Prop:=(Lit.int k x).wf=OX
def Iw.Z(h:Iw w B k P A n)(a:EI B w w')(f:B<=B'):Iw w' B' k P A n:=by
 obtain⟨xs,b,d⟩:=h;exact⟨xs,(b.below a).more f,d⟩
def Iw.get(h:Iw w B k P A n){j:Nat}(g:j<n):∃(a:Addr) (z:Int),A=OH a/\P z/\w.cell? (a.add j)=OH (.int k z):=by
 obtain⟨xs,b,f⟩:=h;obtain⟨a,e,d⟩:=b.iC g;have:=b.len;exact⟨a,_,e,f _ Cw,d⟩
def aJ.iw(h:aJ k w A n c xs):Iw w w.heap.size k (Wf k) A n:=⟨xs,h.at_,h.wf⟩
def Ow.nil(w:EE)(B:Nat)(e:IQ)(k:IntKind)(P:Int->Prop):Ow w B e k P OJ 0 0:=⟨[],Own.nil _ _ _ _,aT⟩
def Ow.ar(h:Ow w B e k P A n c)(a:az w w'):Ow w' B e k P A n c:=by
 obtain⟨xs,b,d⟩:=h;exact⟨xs,b.ar a,d⟩
def Ow.alloc(h:Ow w B e k P A n c)(o:Obj):Ow (w.alloc o) B e k P A n c:=h.ar (aw _ _)
def Ow.cS(h:Ow w B e k P A n c)(i:B'<=B):Ow w B' e k P A n c:=by
 obtain⟨xs,b,a⟩:=h;refine⟨xs,⟨b.1, ?_⟩,a⟩;rcases b.2 with a|⟨g,cap,cur,d,f,r⟩
 .exact .inl a
 .exact .inr ⟨g,cap,cur,d,aq,r⟩
def Ow.imp(h:Ow w B e k P A n c)(d:∀x,P x->P' x):Ow w B e k P' A n c:=by
 obtain⟨xs,a,b⟩:=h;exact⟨xs,a,λx f=>d x (b x f)⟩
def Ow.form(h:Ow w B e k P A n c)(b:0<n):∃g,A=OH ⟨g,0,OJ⟩/\B<=g/\g<w.heap.size:=by
 obtain⟨xs,a,d⟩:=h;exact aA.form a b
def Ow.lt(h:Ow w B e k P (OH ⟨g,0,OJ⟩) n c):B<=g/\g<w.heap.size:=by
 obtain⟨xs,a,b⟩:=h;exact aA.yp a
def Ow.le(h:Ow w B e k P A n c):n<=c/\c<=9223372036854775807:=by
 obtain⟨xs,a,b⟩:=h;exact⟨aA.le a,aA.tE a⟩
def Ow.fz(h:Ow w B e k P (OH ⟨g,0,OJ⟩) n c)(j:Nat):w.frozen? ⟨g,j,OJ⟩=OZ:=by
 obtain⟨xs,a,b⟩:=h;exact aA.frozenAt a j
def Ow.get(h:Ow w B e k P (OH ⟨g,0,OJ⟩) n c){j:Nat}(d:j<n):∃z:Int,P z/\w.cell? ⟨g,j,OJ⟩=OH (.int k z):=by
 obtain⟨xs,a,b⟩:=h;have:=a.len;exact⟨_,b _ Cw,bU a d⟩
def Ow.set(h:Ow w B e k P (OH ⟨g,0,OJ⟩) n c)(j:Nat){y:Int}(d:P y):Ow (w.setCell ⟨g,j,OJ⟩ (.int k y)) B e k P (OH ⟨g,0,OJ⟩) n c:=by
 obtain⟨xs,b,f⟩:=h;refine⟨_,Own.sI b j y,λx a=> ?_⟩;rcases List.mem_or_eq_of_mem_set a with a|rfl
 .exact f x a
 .exact d
def Ow.iw(h:Ow w B e k P A n c):Iw w w.heap.size k P A n:=by
 obtain⟨xs,a,b⟩:=h;exact⟨xs,a.ints,b⟩
def Ow.sl(h:Ow w B e k (Wf k) A n c):∃xs,aJ k w A n c xs:=by
 obtain⟨xs,a,b⟩:=h;exact⟨xs,a.gI b⟩
def adw{r:IS}(h:lE w e k n xs r w')(f:∀x∈xs,P x):Nw w e k P n r w':=by
 obtain⟨A,c,b,d,a⟩:=h;exact⟨A,c,b,⟨xs,d,f⟩,a⟩
def bW{P:I3}{w:EE}{K:Exit->Act->EE->Prop}{e:IQ}(T:aS P t e 1 bytes)(j:o.guard=OJ)(s x:Operand)
 (E:o.op=.call {callee:=.builtin .append,args:=#[s,x],argTypes:=#[t,t]}) {B:Nat} {k:IntKind} {p:Int->Prop} {A:aB} {n c:Nat} (q:a.eval s=Pl A n c) (f:Ow w B e k p A n c)
 {g:Nat} (D:a.eval x=Pl (OH ⟨g,0,OJ⟩) 1 1) {y:Int} (u:w.cell? ⟨g,0,OJ⟩=OH (.int k y)) (m:p y)
 (C:(n+1)*bytes<=140737488355328) (r:B<=w.heap.size)
 (h:∀i c' w',Ow w' B e k p i (n+1) c'->EI B w w'->wpList P ops K rest (a.put o.dst (Pl i (n+1) c')) w'):wpList P ops K (o::rest) a w:=by
 obtain⟨xs,l,v⟩:=f;refine ju T j s x E q l D u C r λi c' w' o b=>h i c' w' ⟨_,o,λz d=> ?_⟩ b
 rw[List.mem_append]at d;rcases d with d|d
 .exact v z d
 .simp at d;subst d;exact m
def dx{P:I3}{w:EE}{Q:Exit->Act->EE->Prop}{e:IQ}{k:IntKind}{p:Int->Prop}(T:aS P t e 1 bytes)(d:(P.info? e).map (·.zero)=OH (OH (.int k 0)))(r:p 0)(b:o.guard=OJ)(l c:Operand)
 (E:o.op=.makeSlice t l c) {f q:IntKind} {L C:Int} (n:Nat) (j:a.eval l=.int f L) (u:a.eval c=.int q C) (m:L=(n:Int)) (y:C=(n:Int)) (z:n*bytes<=140737488355328) (B:Nat) (s:B<=w.heap.size)
 (h:∀g w',Ow w' B e k p (OH ⟨g,0,OJ⟩) n n->EI B w w'->wpList P ops Q rest (a.put o.dst (Pl (OH ⟨g,0,OJ⟩) n n)) w'):wpList P ops Q (o::rest) a w:=
 fe T d b l c E n j u m y z B s λg w' i v=>h g w' ⟨_,i,λx D=>by rw[(List.mem_replicate.1 D).2];exact r⟩ v
end
def l5:aS prog 39 3 1 8:=bD underlying39 (z:=ae aj 0) aF rfl aq aq
def Mp:aS prog 27 21 1 4:=bD underlying27 (z:=.int .i32 0) aF rfl aq aq
abbrev aK(_:Int):Prop:=True
abbrev Sb.row(x:Sb):Array EN:=#[Pl x.C x.cn x.cc,Pl x.T x.tn x.tc,Pl x.L x.ln x.lc,Pl x.B x.bn x.bc,Pl x.J x.jn x.jc,Pl x.A x.an x.ac,Pl x.N x.nn x.nc,Pl x.V x.vn x.vc,Pl x.P x.pn x.pc,Pl x.U x.un x.uc,Pl x.M x.mn x.mc,Pl x.H x.hn x.hc]
def PTo(w:EE)(e:IS)(a:EE):Prop:=∃(A:aB) (m c:Nat) (b:Bool),e=RE (P8 #[Pl A m c,PF b])/\(b=OX->m<=16/\cU a a.heap.size eD A m c)/\az w a
def UF(h:cU w B eD A n c)(f:j<n):∃(a:Addr) (b:Int),A=OH a/\w.cell? (a.add j)=OH (ae aj b)/\(Lit.int .i64 b).wf=OX:=by
 obtain⟨a,e,_,g⟩:=h.2.2.2 aq;obtain⟨m,i,l⟩:=g j f;obtain⟨b,rfl,k⟩:=i;have d:=l 0 _ rfl;rw[fA]at d;rw[show eD.n=1 from rfl,Nat.mul_one]at d;exact⟨a,b,e,d,k⟩
def Bx.nv{x:Sb}(h:Bx w b x.row):w.cell? ⟨b,0,OJ⟩=OH (Pl x.C x.cn x.cc)/\w.cell? ⟨b,1,OJ⟩=OH (Pl x.T x.tn x.tc)/\w.cell? ⟨b,2,OJ⟩=OH (Pl x.L x.ln x.lc)/\w.cell? ⟨b,3,OJ⟩=OH (Pl x.B x.bn x.bc)/\w.cell? ⟨b,4,OJ⟩=OH (Pl x.J x.jn x.jc)/\w.cell? ⟨b,5,OJ⟩=OH (Pl x.A x.an x.ac)/\w.cell? ⟨b,6,OJ⟩=OH (Pl x.N x.nn x.nc)/\w.cell? ⟨b,7,OJ⟩=OH (Pl x.V x.vn x.vc)/\w.cell? ⟨b,8,OJ⟩=OH (Pl x.P x.pn x.pc)/\w.cell? ⟨b,9,OJ⟩=OH (Pl x.U x.un x.uc)/\w.cell? ⟨b,10,OJ⟩=OH (Pl x.M x.mn x.mc)/\w.cell? ⟨b,11,OJ⟩=OH (Pl x.H x.hn x.hc):=
 ⟨h.cell 0,h.cell 1,h.cell 2,h.cell 3,h.cell 4,h.cell 5,h.cell 6,h.cell 7,h.cell 8,h.cell 9,h.cell 10,h.cell 11⟩
def th{x:Sb}{a:EE}(c:nH w w.heap.size x)(h:a=w.alloc (RM x.row 184)):az w a/\Bx a w.heap.size x.row/\nH a a.heap.size x:=by
 have b:az w a:=LO;exact⟨b,by rw[h];exact Bx.new _ _ _,c.Z b b.size⟩
def ahw(k:Lk)(g:Int)(w:EE)(h:ny w w.heap.size k)(hc:FK w w.heap.size k):GK prog 327 #[k.v,ae aj g] w (PTo w):=by
 have⟨W1,m,b,J⟩:=box1 w k.row 175;have⟨R,RC⟩:=K' (h.Z b.o b.o.size) (hc.Z b.o b.o.size);have oE:=h.rS.bd;clear h hc;have⟨F,C,u,D⟩:=J.o.k4;by_cases hk:k.kind=1∨k.kind=2;rotate_left
 .have Z:(k.kind !=1)=OX:=by simp;omega
  have h2:(k.kind !=2)=OX:=br;go_enter func327,ntmps327;go_wp2;go_ret2;rw[<-m];exact⟨_,_,_,_,rfl,aT,b.o⟩
 have A:Mx k.kind:=by rcases hk with h|h<;>simp[Mx,h]
 have BW:=sH b.o;have T2:∀(wr:EE),az W1 wr->ny wr wr.heap.size k/\FK wr wr.heap.size k/\Bx wr w.heap.size k.row/\az w wr:=λwr o=>⟨R.o.Z o o.size,RC.o.Z o o.size,J.o.ar o J.o.lt,b.o.trans (o.mono b.o.size)⟩
 have N:=Lib.hid T2;clear T2;have main:(k.kind=1∨((k.kind !=1)=OX/\k.kind=2)):=by by_cases h:k.kind=1;exact .inl h;exact .inr ⟨by simp;omega,by omega⟩
 rcases main with Z|⟨Z,h2⟩
 all_goals
  clear F C u D;obtain⟨kk,fl,st,S,s,sc⟩:=k;dsimp only at*
  first
   |subst h2
   |subst Z
  go_enter func327,ntmps327;go_wp2;rw[<-m];clear m;go_loopg[6,7,8,9,10](s+1)(λgg v6 _ _ _ _ wr=>∃i:Nat,s-i<gg/\i<=s/\v6=ae aj (i:Int)/\ak (az W1 wr))
  .exact⟨0,aq,aq,rfl,cJ⟩
  obtain⟨i,hg,hi,rfl,BE⟩:=hrel;obtain⟨RR,v,XX,BB⟩:=N.out wr BE.o;have⟨F,C,u,D⟩:=XX.k4;by_cases l:i<s
  .obtain⟨ad,x,B,c,L,V,e2,e3,e4,e5,e6,e7,e8,e9,H,O⟩:=ko RR.rS l
   have⟨T,r⟩:=K' ((v.at A l B L V).1) ((v.at A l B L V).2);have⟨W2,e⟩:=eX (wr.alloc (RM x.row 184));obtain⟨E,x2,G⟩:=th c e;have HC:=sH (r.o.Z E E.size);have B2:=BE.t E;have⟨X2,R2⟩:=K' x2 G;have TZ:=G.rC.bd;clear r E x2 G c;rw[B]at D;clear B;go_wp2;rw[<-e];clear e L V e2 e3 e4 e5 e6 e7 e8 e9 H O F C u D;go_loopg[8,9,10](x.cn+1)(λgg v8 _ _ wr=>∃j:Nat,x.cn-j<gg/\j<=x.cn/\v8=ae aj (j:Int)/\ak (az W2 wr))
   .exact⟨0,aq,aq,rfl,cJ⟩
   obtain⟨j,hgj,hj,rfl,a⟩:=hrel;have⟨c0,X,c2,c3,c4,c5,c6,c7,c8,c9,Gs,W⟩:=(X2.o.ar a.o X2.o.lt).nv;have Q:=B2.t a.o;by_cases f:j<x.cn
   .obtain⟨ady,y,ey,dy⟩:=il (R2.o.rC.Z a.o a.o.size) f
    obtain⟨adT,A3,p,yk,M,t,Y⟩:=fR (R2.o.rT.Z a.o a.o.size) (j:=j) (by rw[T.o];exact f);have U:=((HC.o.Z a.o a.o.size).at (by rw[T.o];exact f) M Y).1;have RA:=sH t;rw[T.o,M]at X;rw[ey]at c0;clear t ey M;by_cases hy:y=g
    .go_wp2
     clear c0 c2 c3 c4 c5 c6 c7 c8 c9 Gs W dy;have⟨P,d⟩:=eX wr;rw[<-d]at a Q RA X Y;rw[<-d];clear d;go_loopg[9,10](p+1)(λgg v9 v10 wr=>∃(q:Nat) (I:aB) (c4:Nat) (xs:aC),p-q<gg/\q<=p/\v9=Pl I q c4/\v10=ae aj (q:Int)/\ak (Own wr P.heap.size 3 .i64 I q c4 xs)/\ak (∀x∈xs,(Lit.int .i64 x).wf=OX)/\ak (az P wr))
     .exact⟨0,OJ,0,[],aq,aq,rfl,rfl,⟨Own.nil _ _ _ _⟩,⟨aT⟩,cJ⟩
     obtain⟨q,I,c4,xs,Lx,hq,rfl,rfl,O4,F4,n⟩:=hrel;have C:=av X n.o;have u:=av Y n.o;have BQ:=Q.t n.o;have JY:=n.o.size;by_cases K:q<p
     .obtain⟨adz,z,ez,dz,wz⟩:=UF (RA.o.Z n.o n.o.size) K
      have WZ:=sH wz;clear wz;rw[ez]at u;clear ez;go_wp2_with (at_builtin;refine bL TIv rfl (.tmp 62) (.tmp 71) rfl rfl (O4.o.alloc _) rfl (nF _ _ _ _ rfl) aq br ?_;intro A5 c5 w5 o5 b5 _ _;have O5:=sH o5;have B5:ak (az P w5):=⟨(n.o.alloc aq _).trans b5⟩;clear o5 b5);go_roundg(p-q)
      case measure=>omega
      case rel=>exact⟨q+1,A5,c5,_,aq,aq,rfl,aV,O5,⟨λx c=>by
       rcases List.mem_append.1 c with c|c
       .exact F4.o x c
       .simp at c;subst c;exact WZ.o⟩,B5⟩
     .obtain rfl:q=p:=by omega
      go_wp2;go_ret2;exact⟨_,_,_,_,rfl,λ_=>⟨U,(abB O4.o F4.o aq)⟩,b.o.trans (BQ.o.mono b.o.size)⟩
    .have hy':(y==g)=OZ:=by simp[hy]
     go_wp2;go_roundg(x.cn-j)
     .exact⟨j+1,aq,aq,aV,a⟩
     omega
   .go_wp2
    go_roundg(s-i)
    .exact⟨i+1,aq,aq,aV,Q⟩
    omega
  .go_wp2
   go_ret2;exact⟨_,_,_,_,rfl,aT,BB⟩
def TY:aS prog 52 57 2 16:=bD underlying52 (z:=Q4 #[ae aj 0,ae aj 0]) aF rfl aq aq
abbrev Dl(w:EE)(B:Nat)(ps:List (Nat×Nat))(A:aB)(n c:Nat):Prop:=aA w B 57 2 A n c (dG ps)
def ZTo:Sat:=⟨λv w=>∃(A:aB) (m c:Nat) (b:Bool),v=P8 #[Pl A m c,PF b]/\(b=OX->m<=16/\cU w w.heap.size eD A m c),λv w g ⟨A,m,c,b,f,d⟩ a=>⟨A,m,c,b,f,λe=>⟨(d e).1,(d e).2.Z a a.size⟩⟩⟩
def ZTo.get{b:Bool}(h:ZTo.p (P8 #[Pl A m c,PF b]) w):b=OX->m<=16/\cU w w.heap.size eD A m c:=by
 obtain⟨a,f,c',d,e,h⟩:=h;simp at e;obtain⟨⟨rfl,rfl,rfl⟩,rfl⟩:=e;exact h
def jD(t:Nat)(S:Sat)(d:Option Tmp):Option Sat:=if d=OH t then OH S else OJ
def PAp(w:EE)(B:Nat)(Q:List aC->Prop)(N:Nat)(e:IS)(a:EE):Prop:=∃(A:aB) (m c x:Nat) (b:Bool),e=RE (P8 #[Pl A m c,ae aj (x:Int),PF b])/\(b=OX->m<=N/\x<=1000000/\iZ a B Q A m c)/\az w a
def OL.me{q:Nat}(h:OL w B e 10 (bI lo hi) (OH ⟨g,0,OJ⟩) n c)(a:j<n)(f:q<10)(d:q≠1)(v:Int):OL (w.setCell ⟨g,j*10+q,OJ⟩ (ae aj v)) B e 10 (bI lo hi) (OH ⟨g,0,OJ⟩) n c:=
 h.set a f v λgs i k b=>by
  show CS _ _ _;rw[qN gs aq d];exact b
def Oq.le{k:Nat}{Q:aC->Prop}(h:Oq w B e k Q A n c):n<=c:=by
 obtain⟨gs,b,d,a⟩:=h;exact aA.le a
def Ho(f:dv)(k:Lk)(lo hi:Int)(A:aB)(n c at_:Nat)(w:EE)(h:cC w w.heap.size f)(P:ny w w.heap.size k)(V:FK w w.heap.size k)(I:lF w (bI lo hi) A n)(hn:n<=50000)(z:at_<n)(o:n<=c):
 GK prog 312 #[f.v,k.v,Pl A n c,ae aj (at_:Int)] w (PAp w w.heap.size (bI lo hi) (n+16)):=by
 have⟨W1,j,a,X1,S⟩:=box2 w f.row 102 k.row 175;have⟨R,X,D⟩:=MO (P.Z a.o a.o.size) (V.Z a.o a.o.size) (I.Z a.o a.o.size);have i1:¬((n:Int)<=(at_:Int)):=aq;have i3:=aU at_ n;have⟨F,W,L,K⟩:=S.o.k4;obtain⟨B,Q,x1,x2,x3,x4,x5,x6,x7,Y,x9,rfl,Z,M,_⟩:=D.o.jB.bK z;go_enter func312,ntmps312;go_wp2;rw[<-j];clear j;have⟨M0,M1,M2,M3,E0⟩:=lc5 F W L K M;refine bm (jD 31 ZTo) aF aF ?_;refine mLw ?_;refine lwA ZTo (λb=> ?_) (λv9 p=> ?_)
 .go_simp
  refine aZ ZTo ((ahw k Q b.1 (R.o.Z b.2 b.2.size) (X.o.Z b.2 b.2.size)).mono ?_);rintro e w5 ⟨u,l,c5,v,rfl,O,N⟩;exact⟨_,rfl,⟨u,l,c5,v,rfl,O⟩,N⟩
 obtain⟨_,_,u,l,c5,v,rfl,_⟩:=p;simp[Act.put];refine mLw ?_;intro b T;have d:=ZTo.get T;have⟨i,x⟩:=K' b.2 (D.o.Z b.2 b.2.size);have⟨y,g⟩:=eX b.1;rw[<-g]at i x d;rw[<-g];clear g;cases v
 .clear d
  go_wp2_with fail;refine(FN (bI lo hi) (OH B) n c y x.o aq).mono ?_;rintro e E ⟨t,s,rfl,C,r⟩;have m:=sH (a.o.trans ((i.o.trans (r.mono i.o.size)).mono a.o.size));go_wp2;go_ret3;exact⟨_,_,_,at_,_,rfl,aT,m.o⟩
 .have H:=sH ((d rfl).2)
  have hm:=(d rfl).1;go_wp2_with fail;refine(Lv lo hi (OH B) n c at_ u l c5 y x.o H.o aq aq z o).mono ?_;rintro e E ⟨q,hq,t,s,rfl,C,r⟩;have J:=i.o.size;have G:=a.o.size;have m:=sH (a.o.trans ((i.o.trans (r.mono i.o.size)).mono a.o.size));have U:ak (iZ E w.heap.size (bI lo hi) t q s):=⟨C.cS aq⟩;go_wp2;go_ret3;exact⟨t,q,s,at_+l,OX,rfl,λ_=>⟨aq,aq,U.o⟩,m.o⟩
section
open Ty
def aae{k:Nat}:∀(l:List (List EN)) (h:∀g∈l,g.length=k) (q i:Nat) (g:List EN),l[q]? =OH g->i<k->l.flatten[q*k+i]? =g[i]?
 |[],_,q,i,g,h,_=>by simp at h
 |y::l,hl,0,i,g,h,hi=>by
  simp at h;subst h;have:=hl y aT;rw[List.flatten_cons,List.getElem?_append_left aq];simp
 |y::l,hl,q+1,i,g,h,hi=>by
  simp at h;have a:=hl y aT;rw[List.flatten_cons,List.getElem?_append_right (by rw[a,Nat.add_mul];omega),a,show(q+1)*k+i-k=q*k+i by rw[Nat.add_mul];omega];exact aae l (λg b=>hl g (by simp[b])) q i g h hi
def xe{k:Nat}(l:List (List EN))(h:∀g∈l,g.length=k):l.flatten.length=l.length*k:=by
 induction l with
 |nil=>simp
 |cons y l ih=>
  rw[List.flatten_cons,List.length_append,ih λg a=>h g (by simp[a]),List.length_cons,Nat.add_mul,h y aT];omega
def Rd.one{w:EE}{B:Nat}:∀{t:Ty} {vs:List EN},Rd w B t vs->∀u∈vs,u.oneCell'=OX
 | .num _,_,⟨_,e,_⟩=>by rw[e];simp[Value.oneCell']
 | .JU,_,⟨_,e⟩=>by rw[e];simp[Value.oneCell']
 | .str,_,⟨_,e,_⟩=>by rw[e];simp[Value.oneCell']
 | .arr _,_,⟨_,_,_,e,_⟩=>by rw[e];simp[Value.oneCell']
 | .two a b,_,⟨us,ws,e,h1,h2⟩=>λu c=>by
   rw[e]at c;rcases List.mem_append.1 c with c|c
   .exact Rd.one h1 u c
   .exact Rd.one h2 u c
def cU.less{e:Ty}(h:cU w B e A n c)(a:m<=n):cU w B e A m c:=
 ⟨Nat.le_trans a h.1,h.2.1,Nat.le_trans (Nat.mul_le_mul_right _ a) h.2.2.1,λi=>by
  obtain⟨d,e,b,f⟩:=h.2.2.2 aq;exact⟨d,e,b,λj g=>f j aq⟩⟩
def cU.rows{w:EE}{B:Nat}{e:Ty}{A:aB}{c:Nat}:∀{n:Nat},cU w B e A n c->∃a:List (List EN),a.length=n/\(∀r∈a,Rd w B e r)/\nu w A n a.flatten
 |0,_=>⟨[],rfl,aT,λh=>absurd h aq⟩
 |n+1,h=>by
  obtain⟨a,h1,o,q⟩:=cU.rows (h.less (Nat.le_succ n));obtain⟨m,l,_,v⟩:=h.2.2.2 aq;obtain⟨r,g2,t⟩:=v n aq;have s:∀r∈a,r.length=e.n:=λr y=>(o r y).len
  refine⟨a++[r],mo,λx d=> ?_,λ_=>⟨m,l,λj u b=> ?_⟩⟩
  .rcases List.mem_append.1 d with d|d
   .exact o x d
   .simp at d;subst d;exact g2
  .have hlen:=xe a s
   rw[List.flatten_append]at b;rcases Nat.lt_or_ge j a.flatten.length with f|f
   .rw[List.getElem?_append_left f]at b
    obtain⟨i,p,g⟩:=q (by
     rcases Nat.eq_zero_or_pos n with k|k
     .subst k;rw[hlen,h1]at f;omega
     .exact k)
    obtain rfl:m=i:=by rw[l]at p;exact Option.some.inj p
    exact g j u b
   .rw[List.getElem?_append_right f]at b
    simp only[List.flatten_cons,List.flatten_nil,List.append_nil]at b;have:=t _ u b;rw[aY,hlen,h1]at this;rwa [show n*e.n+(j-n*e.n)=j by rw[hlen,h1]at f;omega]at this
def Yn{e:Ty}{a:List (List EN)}(h:aA w B t e.n A n c a.flatten)(y:a.length=n)(k:∀r∈a,Rd w w.heap.size e r)(x:0<e.n)(f:n*e.lb<=140737488351232):cU w w.heap.size e A n c:=
 ⟨aA.le h,aA.tE h,f,λp=>by
  obtain⟨g,rfl,_,d⟩:=aA.form h p;refine⟨_,rfl,d,λj v=> ?_⟩;have o:∀r∈a,r.length=e.n:=λr f=>(k r f).len
  have i:a[j]? =OH a[j]:=List.getElem?_eq_getElem aq;have l:a[j]∈a:=List.getElem_mem _;refine⟨a[j],k _ l,λq u m=> ?_⟩;have b:=(List.getElem?_eq_some_iff.1 m).1;rw[o _ l]at b;have s:j*e.n+q<n*e.n:=by
   have:=Nat.mul_le_mul_right e.n (show j+1<=n by omega);rw[Nat.add_mul]at this;omega
  rw[aY,bC,aA.cellAt h (j*e.n+q) s,aae a o j q _ i b,m]⟩
def TLg:aS prog 327 329 2 32:=bD underlying327 (z:=Q4 #[Pl OJ 0 0,ae aj 0]) aF rfl aq aq
def Xp(k:Lk)(g:Int)(w:EE)(h:ny w w.heap.size k):GK prog 348 #[k.v,ae aj g] w (PRd w ye):=by
 have⟨W1,D,q,L⟩:=box1 w k.row 175;have R:=sH (h.Z q.o q.o.size);have U:=h.rS.bd;go_enter func348,ntmps348;go_wp2;rw[<-D];go_loopg[5,6,7,8](k.sn+1)(λgg Y _ _ _ wr=>∃i:Nat,k.sn-i<gg/\i<=k.sn/\Y=ae aj (i:Int)/\ak (az W1 wr))
 .exact⟨0,aq,aq,rfl,cJ⟩
 obtain⟨i,hg,hi,rfl,o⟩:=hrel;have⟨d0,d1,d2,K⟩:=(L.o.ar o.o L.o.lt).k4;have BW:=q.t o.o;by_cases s:i<k.sn
 .obtain⟨ad,x,ea,P,e0,_,S,_⟩:=ko (R.o.rS.Z o.o o.o.size) s
  have M:=sH P;rw[ea]at K;have V:=P.rC.bd;go_wp2_with fail;refine(VJ x.C x.cn x.cc g wr M.o.rC).mono ?_;rintro e N ⟨z,b,rfl,Z,X,n⟩;have I:=o.t n;have B:=q.t I.o;have f:=sH (M.o.Z n n.size);have D3:=av K n;have E2:=av S n;cases b
  .go_wp2
   go_roundg(k.sn-i)
   .exact⟨i+1,aq,aq,aV,I⟩
   omega
  .obtain⟨a,rfl⟩:∃a:Nat,z=(a:Int):=⟨z.toNat,aq⟩
   have vC:=f.o.rL.bd;by_cases v:a<x.ln
   .obtain⟨W,A2,Q,c2,T,c,dL⟩:=fR f.o.rL v
    have HL:=sH c;obtain⟨O,t,p,C⟩:=c.rows;have E:∀r∈O,r.length=2:=λr j=>(p r j).len
    have⟨m,d,A,HK⟩:=MQ t p C E;have l:=c.rb;rw[T]at E2;have i1:¬((x.ln:Int)<=(a:Int)):=aq;go_wp2_with (at_builtin;refine wpList_plain rfl λ_ hK=>oC TLg (.tmp 38) (.tmp 47) rfl rfl (aA.nil N N.heap.size _ _) rfl A.o (by rw[xe O HK.o,m.o]) (λu F=>by obtain⟨r,j,F⟩:=List.mem_flatten.1 F;exact Rd.one (d.o r j) u F) (by simp[Ty.lb]at l;omega) cr ?_;intro A8 c8 w8 J H;have O8:=sH J;have y:=sH H;clear J H);go_ret;have G:=O8.o;simp only[Nat.zero_add,List.nil_append]at G;exact⟨A8,Q,c8,rfl,Yn (e:=ye) G m.o (λr j=>(d.o r j).Z y.o y.o.size) (by simp[Ty.n]) l,B.o.trans (y.o.mono B.o.size)⟩
   .have i1:((x.ln:Int)<=(a:Int)):=by omega
    go_wp2;go_ret;exact⟨_,_,_,rfl,cU.nil _ _ _,B.o⟩
 .go_wp2
  go_ret;exact⟨_,_,_,rfl,cU.nil _ _ _,BW.o⟩
end
abbrev Lg.row(x:Lg):Array EN:=#[Pl x.P x.pn x.pc,ae aj x.gl]
def Bx.g2{x:Lg}(h:Bx w b x.row):w.cell? ⟨b,0,OJ⟩=OH (Pl x.P x.pn x.pc)/\w.cell? ⟨b,1,OJ⟩=OH (ae aj x.gl):=⟨h.cell 0,h.cell 1⟩
def Kd(w:EE)(B:Nat)(at_ n:Nat)(A:aB)(m c:Nat):Prop:=∃xs:aC,1<=m/\m<=n/\Own w B 3 .i64 A m c xs/\nth xs 0=at_/\∀x∈xs,(at_:Int)<=x/\x<n
def PFo(w:EE)(at_ n:Nat)(e:IS)(a:EE):Prop:=∃(A:aB) (m c:Nat) (b:Bool),e=RE (P8 #[Pl A m c,PF b])/\(b=OX->Kd a w.heap.size at_ n A m c)/\az w a
def Hu(w:EE)(x:Int):Own (w.alloc (RM #[ae aj x] 3)) w.heap.size 3 .i64 (OH ⟨w.heap.size,0,OJ⟩) 1 1 [x]:=
 ⟨aT,.inr ⟨w.heap.size,1,#[ae aj x],rfl,Nat.le_refl _,heap_alloc_new w _,aq,ri,aT,aT⟩⟩
def Oy{a:aC}{k:Nat}(h:k<xs.length):nth (xs++a) k=nth xs k:=by simp[nth,List.getElem?_append_left h]
def Lp(f:dv)(k:Lk)(Q:aC->Prop)(A:aB)(n c at_:Nat)(x:Lg)(w:EE)(h:cC w w.heap.size f)(O:vv w Q A n)(j:LgR w w.heap.size x)(hn:n<=50000)(ha:at_<n):
 GK prog 349 #[f.v,k.v,Pl A n c,ae aj (at_:Int),x.v] w (PFo w at_ n):=by
 have⟨o,aP⟩:=eX ((w.alloc (RM f.row 102)).alloc (RM k.row 175));have q:=iS aP;have E:ak (az w o):=⟨q.1⟩;have C:ak (Bx o w.heap.size f.row):=⟨q.2.1⟩;have K:ak (Bx o (w.heap.size+1) k.row):=⟨q.2.2⟩;clear q;have⟨d,cg⟩:=eX (o.alloc (RM x.row 329));have r:az o d:=jT;have hN:o.heap.size=w.heap.size+2:=oW;have g:ak (az w d):=⟨E.o.trans (r.mono E.o.size)⟩;have p:ak (Bx d (w.heap.size+2) x.row):=⟨Tj⟩;have V:ak (Bx d w.heap.size f.row):=⟨C.o.ar r C.o.lt⟩;have T:ak (Bx d (w.heap.size+1) k.row):=⟨K.o.ar r K.o.lt⟩;have G:d.heap.size=w.heap.size+3:=Cv;rw[aP]at cg;clear r hN aP C K E;have R:ak (cC d d.heap.size f):=⟨h.Z g.o g.o.size⟩;have GL:ak (vv d Q A n):=⟨O.Z g.o g.o.size⟩;have RX:ak (LgR d d.heap.size x):=⟨j.Z g.o g.o.size⟩;have XM:=j.rP.bd;clear h O j;go_enter func349,ntmps349;go_wp2;rw[<-cg];clear cg;go_loopg[3,12,13](x.pn+1)(λgg v3 s B wr=>∃(i a:Nat) (L:aB) (M:Nat) (xs:aC),x.pn-i<gg/\i<=x.pn/\at_+i<=a/\a<n/\v3=ae aj (a:Int)/\s=Pl L (i+1) M/\B=ae aj (i:Int)/\ak (Own wr d.heap.size 3 .i64 L (i+1) M xs)/\ak (nth xs 0=at_)/\ak (∀x∈xs,(at_:Int)<=x/\x<n)/\ak (az d wr))
 .exact⟨0,at_,OH ⟨d.heap.size,0,OJ⟩,1,[(at_:Int)],aq,aq,aq,ha,rfl,by simp[G],rfl,⟨Hu d at_⟩,⟨rfl⟩,⟨λx j=>by simp at j;omega⟩,⟨aw _ _⟩⟩
 obtain⟨i,a,L,M,xs,hg,hi,hia,F,rfl,rfl,rfl,H,W,Z,l⟩:=hrel;have⟨c0,c1,v,c3,c4,c5⟩:=(V.o.ar l.o V.o.lt).f6;have⟨d0,d1,d2,d3⟩:=(T.o.ar l.o T.o.lt).k4;have⟨J,U⟩:=(p.o.ar l.o p.o.lt).g2;have BW:ak (az w wr):=⟨g.o.trans (l.o.mono g.o.size)⟩;by_cases u:i<x.pn
 .have S:ak _:=⟨yU f k Q A n c a wr (R.o.Z l.o l.o.size) (GL.o.Z l.o l.o.size) aq F⟩
  go_wp2_with fail;refine S.o.mono ?_;rintro e w1 ⟨z,rfl,hz,D⟩;have m:ak (az d w1):=⟨l.o.trans (D.mono l.o.size)⟩;have O5:ak _:=⟨H.o.ar D⟩;have Y:ak (az w w1):=⟨g.o.trans (m.o.mono g.o.size)⟩;clear S c0 c1 v c3 c4 c5 d0 d1 d2 d3 J U H;have⟨J,U⟩:=(p.o.ar m.o p.o.lt).g2;obtain⟨adp,y,N,dp⟩:=il (RX.o.rP.Z m.o m.o.size) u;rw[N]at J;clear D N;rcases hz with rfl|⟨gL,dZ⟩
  .go_wp2
   go_quiet (fail);go_wp2;go_ret2;exact⟨_,_,_,_,rfl,aT,aO Y.o _⟩
  .obtain⟨b,rfl⟩:∃b:Nat,z=(b:Int):=⟨z.toNat,aq⟩
   obtain⟨ad,I,x1,x2,x3,x4,x5,x6,x7,x8,x9,rfl,hQ,e0,_⟩:=(GL.o.Z m.o m.o.size).bK (show b<n by omega);clear hQ;have X:¬((b:Int)<0):=aq;have P:((b:Int)<(n:Int)):=aq;by_cases hy:I=y
   .have t:(I !=y)=OZ:=by simp[hy]
    go_wp2;go_quiet (fail);have sO:=m.o.size;go_wp2_with (at_builtin;refine bL TIv rfl (.tmp 43) (.tmp 45) rfl rfl ((Own.drewN O5.o _).alloc _) rfl (nF _ _ _ _ rfl) aq br ?_;intro A5 c5 w5 o5 b5 _ _;have O6:ak _:=⟨o5⟩;have B6:ak (az d w5):=⟨((aO m.o _).alloc br _).trans b5⟩;clear o5 b5);go_roundg(x.pn-i)
    case measure=>omega
    case rel=>exact⟨i+1,b,A5,c5,xs++[(b:Int)],aq,aq,aq,aq,rfl,rfl,aV,O6,⟨by rw[Oy (by have:=O5.o.len;omega)];exact W.o⟩,⟨λx j=>by
     rcases List.mem_append.1 j with j|j
     .exact Z.o x j
     .simp at j;omega⟩,B6⟩
   .have t:(I !=y)=OX:=by simp[hy]
    go_wp2;go_quiet (fail);go_wp2;go_ret2;exact⟨_,_,_,_,rfl,aT,aO Y.o _⟩
 .obtain rfl:i=x.pn:=by omega
  go_wp2;go_ret2;exact⟨_,_,_,_,rfl,λ_=>⟨xs,aq,aq,H.o.gW g.o.size,W.o,Z.o⟩,BW.o⟩
def Un(e:Ty):Sat:=⟨λv w=>∃(A:aB) (n c:Nat),v=Pl A n c/\cU w w.heap.size e A n c,λv w f ⟨A,n,c,b,d⟩ a=>⟨A,n,c,b,d.Z a a.size⟩⟩
def Un.get{e:Ty}(h:(Un e).p (Pl A n c) w):cU w w.heap.size e A n c:=by
 obtain⟨a,b,c',e,h⟩:=h;simp at e;obtain⟨rfl,rfl,rfl⟩:=e;exact h
def Kd.ar{a:EE}(h:Kd w B at_ n A m c)(d:az w a):Kd a B at_ n A m c:=by
 obtain⟨xs,e,f,b,g⟩:=h;exact⟨xs,e,f,b.ar d,g⟩
def Kd.cS{a:Nat}(h:Kd w B at_ n A m c)(d:a<=B):Kd w a at_ n A m c:=by
 obtain⟨xs,e,f,b,g⟩:=h;exact⟨xs,e,f,b.gW d,g⟩
def aA.agB{size:Nat}{vs:List EN}(h:aA w B e size A n c vs)(k:g<B)(cs:Array EN):aA (w.setRow g cs) B e size A n c vs:=by
 obtain⟨f,a⟩:=h;refine⟨f, ?_⟩;rcases a with a|⟨d,cap,cur,i,b,j,r⟩
 .exact .inl a
 .exact .inr ⟨d,cap,cur,i,b,by rw[setRow_other _ _ _ _ (by omega)];exact j,r⟩
def Kd.row(h:Kd w B at_ n A m c)(f:g<B)(cs:Array EN):Kd (w.setRow g cs) B at_ n A m c:=by
 obtain⟨xs,d,e,b,a⟩:=h;exact⟨xs,d,e,aA.agB b f cs,a⟩
def ZPl(N at_ n:Nat):Sat:=⟨λv w=>∃(A:aB) (m c:Nat) (b:Bool),v=P8 #[Pl A m c,PF b]/\(b=OX->Kd w N at_ n A m c),λv w g ⟨A,m,c,b,d,f⟩ a=>⟨A,m,c,b,d,λe=>(f e).ar a⟩⟩
def ZPl.get{b:Bool}(h:(ZPl N at_ n).p (P8 #[Pl A m c,PF b]) w):b=OX->Kd w N at_ n A m c:=by
 obtain⟨a,f,c',d,e,h⟩:=h;simp at e;obtain⟨⟨rfl,rfl,rfl⟩,rfl⟩:=e;exact h
def afM(s:G:=by
 have hp':tmps[p]?.getD undef=PK (OH ⟨g,0,OJ⟩):=Tt;simp[results,h,hp',asAddr,run_loadVar_row w g t ty cs fr d hg hu hd hi]):G:=s
def nZ{c:Func}{p a b:Tmp}{ty:IQ}(h:c.results=#[.cell p ty,.tmp a,.tmp b])(tmps:Array EN)(w:EE)(g:Nat)(t:IQ)(cs:Array EN)(fr:Nat×Nat)(d:TypeDesc)
 (hp:tmps.getD p undef=PK (OH ⟨g,0,OJ⟩)) (hg:w.heap[g]? =OH (RM cs t fr))
 (hu:P.underlying ty=OH d) (hd:(match d with| .struct _| .array _ _=>OX|_=>OZ)=OX) (hi:(P.info? ty).map (·.size)=OH cs.size):
 (results c tmps).run P w=.ok (P8 #[Q4 cs,tmps.getD a undef,tmps.getD b undef]) w:=by
 exact afM
def bY{b:Func}{p a:Tmp}{ty:IQ}(h:b.results=#[.cell p ty,.tmp a])(tmps:Array EN)(w:EE)(g:Nat)(t:IQ)(cs:Array EN)(fr:Nat×Nat)(d:TypeDesc)
 (hp:tmps.getD p undef=PK (OH ⟨g,0,OJ⟩)) (hg:w.heap[g]? =OH (RM cs t fr))
 (hu:P.underlying ty=OH d) (hd:(match d with| .struct _| .array _ _=>OX|_=>OZ)=OX) (hi:(P.info? ty).map (·.size)=OH cs.size):
 (results b tmps).run P w=.ok (P8 #[Q4 cs,tmps.getD a undef]) w:=by
 exact afM
def PFi(w:EE)(at_ n:Nat)(e:IS)(a:EE):Prop:=∃(x:Lg) (A:aB) (m c:Nat) (b:Bool),e=RE (P8 #[x.v,Pl A m c,PF b])/\(b=OX->Kd a w.heap.size at_ n A m c)/\az w a
def abW(f:dv)(k:Lk)(Q:aC->Prop)(A:aB)(n c at_:Nat)(w:EE)(h:cC w w.heap.size f)(hk:ny w w.heap.size k)(hl:vv w Q A n)(hn:n<=50000)(ha:at_<n):
 GK prog 329 #[f.v,k.v,Pl A n c,ae aj (at_:Int)] w (PFi w at_ n):=by
 have⟨W1,aP,B1,S,Y⟩:=box2 w f.row 102 k.row 175;have⟨T,cg⟩:=eX (W1.alloc (RM #[Pl OJ 0 0,ae aj 0] 329));have J:az W1 T:=jT;have hN:W1.heap.size=w.heap.size+2:=oW;have q:=B1.t J;have G:ak (Bx T (w.heap.size+2) #[Pl OJ 0 0,ae aj 0]):=⟨Tj⟩;have⟨N,M⟩:=K' (S.o.ar J S.o.lt) (Y.o.ar J Y.o.lt);have Iu:T.heap.size=w.heap.size+3:=Cv;rw[aP]at cg;clear J hN aP S Y B1;have⟨R,RK,GL⟩:=MO (h.Z q.o q.o.size) (hk.Z q.o q.o.size) (hl.Z q.o q.o.size);clear h hl hk;have i1:¬((n:Int)<=(at_:Int)):=aq;have i3:=aU at_ n;have⟨c0,E,d,D,c4,c5⟩:=N.o.f6;have⟨s,B,y,v⟩:=M.o.k4;obtain⟨ad,x0,x1,x2,x3,x4,x5,x6,x7,x8,x9,rfl,hQ,e0,_⟩:=GL.o.bK ha;clear hQ;go_enter func329,ntmps329;go_wp2;rw[<-cg];clear cg;have⟨Z,M1,P,O,E0⟩:=lc5 s B y v e0;clear c0 E d D c4 c5 s B y v e0;refine bm (jD 30 (Un ye)) aF aF ?_;refine mLw ?_;refine lwA (Un ye) (λa=> ?_) (λv9 m=> ?_)
 .go_simp
  refine aZ (Un ye) ((Xp k x0 a.1 (RK.o.Z a.2 a.2.size)).mono ?_);rintro e w5 ⟨A5,j,c5,rfl,h5,U⟩;exact⟨_,rfl,⟨A5,j,c5,rfl,h5⟩,U⟩
 obtain⟨_,_,A5,j,c5,rfl,t⟩:=m;have hm5:=t.bd;clear t;simp[Act.put];refine mLw ?_;intro a z;have⟨RL,BN⟩:=K' (Un.get z) a.2;have⟨w2,l⟩:=eX a.1;rw[<-l]at BN RL;rw[<-l];clear l z E0 Z M1 P O;go_wp2;go_loopg[12,13,14](j+1)(λgg K _ _ wr=>∃(i:Nat),j-i<gg/\i<=j/\K=ae aj (i:Int)/\ak (az w2 wr))
 .exact⟨0,aq,aq,rfl,cJ⟩
 obtain⟨i,hg,hi,rfl,H⟩:=hrel;have g:=BN.t H.o;have⟨c0,E,d,D,c4,c5⟩:=(N.o.ar g.o N.o.lt).f6;have⟨s,B,y,v⟩:=(M.o.ar g.o M.o.lt).k4;have W:=q.t g.o;by_cases L:i<j
 .obtain⟨adp,x,rfl,hx,F,C⟩:=CL (RL.o.Z H.o H.o.size) L
  have HX:=sH hx;clear hx;have i4:=aU i j;go_wp2;have⟨L0,L1,L2,L3,L4,L5,Z,M1⟩:=lc8 c0 E d D c4 c5 s B;have⟨P,O,G0,G1⟩:=lc4 y v F C;clear c0 E d D c4 c5 s B y v F C;refine bm (jD 46 (ZPl wr.heap.size at_ n)) aF aF ?_;refine mLw ?_;refine lwA (ZPl wr.heap.size at_ n) (λa=> ?_) (λv9 m=> ?_)
  .go_simp
   have I:=g.o.trans (a.2.mono g.o.size);refine aZ (ZPl wr.heap.size at_ n) ((Lp f k Q (OH ad) n c at_ x a.1 (R.o.Z I I.size) (GL.o.Z I I.size) (HX.o.Z a.2 a.2.size) hn ha).mono ?_);rintro e w5 ⟨A6,m6,c6,X,rfl,h6,U⟩;exact⟨_,rfl,⟨A6,m6,c6,X,rfl,λe=>(h6 e).cS a.2.size⟩,U⟩
  obtain⟨_,_,A6,m6,c6,X,rfl,_⟩:=m;simp[Act.put];refine mLw ?_;intro a z;have PL:=sH (ZPl.get z);have BM:=H.t a.2;have BV:=W.t a.2;have XN:=sH (G.o.ar (g.o.trans (a.2.mono g.o.size)) G.o.lt);have F:=G0 a;have C:=G1 a;have ib:=W.o.size;have ahP:=g.o.size;have⟨w3,o⟩:=eX a.1;rw[<-o]at BM BV PL XN F C;rw[<-o];clear o z L0 L1 L2 L3 L4 L5 Z M1 P O G0 G1;cases X
  .go_wp2
   go_roundg(j-i)
   .exact⟨i+1,aq,aq,aV,BM⟩
   omega
  .obtain⟨b,u⟩:=XN.o.heap
   go_wp2_with (refine wpList_store_row rfl 329 (.tmp 8) (.tmp 53) rfl (w.heap.size+2) x.row rfl rfl b _ u aF aD ed ?_;have V:Bx (w3.setRow (w.heap.size+2) x.row) (w.heap.size+2) x.row:=⟨b,setRow_heap _ _ _ _ _ _ u⟩);obtain⟨p,r⟩:=V.heap;refine bodyPost_ret (nZ results329 _ _ (w.heap.size+2) p x.row (0,0) _ aD r underlying329 rfl aF) rfl ?_;exact⟨x,_,_,_,_,rfl,λ_=>((PL.o aT).row aq _).cS aq,below_setRow BV.o aq _⟩
 .obtain⟨b,u⟩:=(G.o.ar g.o G.o.lt).heap
  go_wp2_with (refine wpList_store_row rfl 329 (.tmp 8) (.tmp 55) rfl (w.heap.size+2) #[Pl OJ 0 0,ae aj 0] rfl aD b _ u aF aD ed ?_;have V:Bx (wr.setRow (w.heap.size+2) #[Pl OJ 0 0,ae aj 0]) (w.heap.size+2) #[Pl OJ 0 0,ae aj 0]:=⟨b,setRow_heap _ _ _ _ _ _ u⟩);obtain⟨p,r⟩:=V.heap;refine bodyPost_ret (nZ results329 _ _ (w.heap.size+2) p _ (0,0) _ aD r underlying329 rfl aF) rfl ?_;exact⟨⟨OJ,0,0,0⟩,_,_,_,_,rfl,aT,below_setRow W.o aq _⟩
section
variable{w w':EE}{B k n c g:Nat}{e:IQ}{Q:aC -> Prop}{A:aB}
def Oq.mj(h:Oq w B e k Q A n c)(b:bR A (OH ⟨g,0,OJ⟩))(j:Nat)(u:EN):Oq (w.setCell ⟨g,j,OJ⟩ u) B e k Q A n c:=by
 obtain⟨gs,d,f,a⟩:=h;exact⟨gs,d,f,aA.mj a b u⟩
def aA.NY{vs:List EN}(h:aA w B e k A n c vs)(f:bR A (OH ⟨g,0,OJ⟩))(cs:Array EN):aA (w.setRow g cs) B e k A n c vs:=by
 refine⟨h.1, ?_⟩;rcases h.2 with j|⟨d,cap,cur,b,a,i,r⟩
 .exact .inl j
 .refine .inr ⟨d,cap,cur,b,a, ?_,r⟩
  rw[setRow_other _ _ _ _ (λe=> ?_)]
  .exact i
  .injection b with h1
   exact f d h1 (by rw[e])
def Oq.iA(h:Oq w B e k Q A n c)(b:bR A (OH ⟨g,0,OJ⟩))(cs:Array EN):Oq (w.setRow g cs) B e k Q A n c:=by
 obtain⟨gs,d,f,a⟩:=h;exact⟨gs,d,f,aA.NY a b cs⟩
def Oq.gX(h:Oq w B e k Q A n c)(b:w.heap.size<=g):bR A (OH ⟨g,0,OJ⟩):=by
 obtain⟨gs,d,f,a⟩:=h;exact aA.gX a b
def Bx.kept(h:Bx w b cs)(f:w.grownBy w' (Value.slice A n c).ownBlock)(d:bR A (OH ⟨b,0,OJ⟩))(i:A=OJ∨∃g,A=OH ⟨g,0,OJ⟩):Bx w' b cs:=by
 have a:=h.lt;obtain⟨t,h⟩:=h;refine⟨t,(f.block b a λe=> ?_).trans h⟩;rcases i with rfl|⟨g,rfl⟩
 .simp[Value.ownBlock]at e
 .simp[Value.ownBlock]at e
  subst e;exact d _ rfl rfl
def Oq.head(h:Oq w B e k Q A n c):A=OJ∨∃g,A=OH ⟨g,0,OJ⟩:=by
 obtain⟨gs,b,d,a⟩:=h;exact aA.dU a
def OL.mj(h:OL w B e k L A n c)(b:bR A (OH ⟨g,0,OJ⟩))(j:Nat)(u:EN):OL (w.setCell ⟨g,j,OJ⟩ u) B e k L A n c:=by
 obtain⟨gs,d,f,a,i⟩:=h;exact⟨gs,d,f,a,aA.mj i b u⟩
def OL.iA(h:OL w B e k L A n c)(b:bR A (OH ⟨g,0,OJ⟩))(cs:Array EN):OL (w.setRow g cs) B e k L A n c:=by
 obtain⟨gs,d,f,a,i⟩:=h;exact⟨gs,d,f,a,aA.NY i b cs⟩
def OL.gX(h:OL w B e k L A n c)(a:w.heap.size<=g):bR A (OH ⟨g,0,OJ⟩):=h.o.gX a
def OL.head(h:OL w B e k L A n c):A=OJ∨∃g,A=OH ⟨g,0,OJ⟩:=h.o.head
end
def nW{w:EE}{K:Exit->Act->EE->Prop}{e:IQ}{k:Nat}(T:aS P t e k bytes)(i:o.guard=OJ)(s x:Operand)
 (H:o.op=.call {callee:=.builtin .append,args:=#[s,x],argTypes:=#[t,t]}) {B:Nat} {Q:aC->Prop} {A:aB} {n c:Nat} (z:a.eval s=Pl A n c) (d:Oq w B e k Q A n c)
 {b:Nat} (G:a.eval x=Pl (OH ⟨b,0,OJ⟩) 1 1) (g:aC) (l:g.length=k) (D:∀j u,(dt g)[j]? =OH u->w.cell? ⟨b,j,OJ⟩=OH u) (q:Q g)
 (F:(n+1)*bytes<=140737488355328) (C:B<=w.heap.size)
 (h:∀f c' w',Oq w' B e k Q f (n+1) c'->EI B w w'->w.grownBy w' (Value.slice A n c).ownBlock->(∀g,f=OH ⟨g,0,OJ⟩->A=OH ⟨g,0,OJ⟩∨w.heap.size<=g)->wpList P ops K rest (a.put o.dst (Pl f (n+1) c')) w'):wpList P ops K (o::rest) a w:=by
 obtain⟨gs,p,E,m⟩:=d;exact bE T i s x H z m G (by simp[dt,l]) D (λu hu=>zy) F C λf c' w' o b v r=>h f c' w' (Oq.more p E l q o) b v r
def aaX(Q:aC->Prop)(A:aB)(n c:Nat)(w:EE)(h:vv w Q A n)(x:n<=100000):GK prog 331 #[Pl A n c] w (aef w):=by
 have R:=sH h;go_enter func331,ntmps331;go_wp2;go_loopg[3,4](n+1)(λgg v3 v4 wr=>∃(i:Nat) (z:Int),n-i<gg/\i<=n/\v3=ae aj z/\v4=ae aj (i:Int)/\wr=w)
 .exact⟨0,0,aq,aq,rfl,rfl,rfl⟩
 obtain⟨i,z,p,hi,rfl,rfl,rfl⟩:=hrel;by_cases a:i<n
 .obtain⟨m,y,d,r,s,q,l,j,b,t,f,rfl,o,_,_,_,_,_,_,_,u,_⟩:=R.o.bK a
  have C:=aU i n;by_cases v:b>z
  .go_wp2
   go_roundg(n-i)
   .exact⟨i+1,_,aq,aq,rfl,aV,rfl⟩
   omega
  .go_wp2
   go_roundg(n-i)
   .exact⟨i+1,_,aq,aq,rfl,aV,rfl⟩
   omega
 .go_wp2
  go_ret;exact⟨_,rfl,rfl⟩
def Gx(w:EE)(g:Nat):Prop:=∃cs:Array EN,cs.size=10/\Bx w g cs
def GN{b:EE}{o:Obj}(h:Gx w g)(f:(w.alloc o).grownBy b (Value.slice A n c).ownBlock)(d:bR A (OH ⟨g,0,OJ⟩))(i:A=OJ∨∃g,A=OH ⟨g,0,OJ⟩):Gx b g:=by
 obtain⟨cs,e,a⟩:=h;exact⟨cs,e,(a.ar (aw _ _) a.lt).kept f d i⟩
def Jd{c:aB}(f:bR A (OH ⟨g,0,OJ⟩))(h:∀g,c=OH ⟨g,0,OJ⟩->A=OH ⟨g,0,OJ⟩∨N<=g)(a:Gx w g)(i:w.heap.size<=N):bR c (OH ⟨g,0,OJ⟩):=λb d e=>by
 injection e with e
 injection e with e
 subst e;obtain⟨cs,_,a⟩:=a;have:=a.lt;rcases h _ d with h|h
 .exact f _ h rfl
 .omega
def apT(N:Nat)(a:Int)(d:Option Tmp):Option Sat:=if d=OH 57 then OH (ZG a)else if d=OH 17 then OH (ZB N)else OJ
def Vl(f:dv)(k:Lk)(lo hi:Int)(A:aB)(n c at_:Nat)(w:EE)(h:cC w w.heap.size f)(hk:ny w w.heap.size k)(hl:lF w (bI lo hi) A n)(hn:n<=50000)(Z:at_<n)(II:n<=c):
 GK prog 314 #[f.v,k.v,Pl A n c,ae aj (at_:Int)] w (PAp w w.heap.size (bI lo hi) n):=by
 have⟨W1,aP,B,X1,X2⟩:=box2 w f.row 102 k.row 175;have⟨R,RK,GL⟩:=MO (h.Z B.o B.o.size) (hk.Z B.o B.o.size) (hl.Z B.o B.o.size);have⟨c0,c1,aW,c3,c4,c5⟩:=X1.o.f6;have⟨d0,d1,d2,d3⟩:=X2.o.k4;go_enter func314,ntmps314;go_wp2_with fail;rw[<-aP];clear aP;refine(abW f k (Lq lo hi) A n c at_ W1 R.o RK.o GL.o.jB hn Z).mono ?_;rintro e w1 ⟨x,P,m,pc,b,rfl,hp,Y⟩;have⟨BF,G1⟩:=K' Y (GL.o.Z Y Y.size);have⟨W3,D,B3,X3⟩:=box1 w1 x.row 329;have⟨BV,G3⟩:=K' (B.o.trans ((BF.o.trans (B3.o.mono BF.o.size)).mono B.o.size)) (G1.o.Z B3.o B3.o.size);cases b
 .clear hp
  go_wp2;go_ret3;rw[<-D];exact⟨_,_,_,0,_,rfl,aT,BV.o⟩
 obtain⟨xs,Ja,hmn,hO,hx0,hx⟩:=hp rfl;have UE:=hO.len;obtain⟨L,hL⟩:∃L:Nat,nth xs (m-1)=L:=⟨(nth xs (m-1)).toNat,by
  have:=hx (nth xs (m-1)) Cw;omega⟩
 have hL2:at_<=L/\L<n:=by
  have:=hx (nth xs (m-1)) Cw;omega
 obtain⟨gp,rfl,ahq,ahh⟩:=aA.form hO aq;have p0:=bU hO (show m-1<m by omega);rw[hL]at p0;have p1:=λo=>aH p0 o
 have⟨OP,F0,FX,FL⟩:=MQ (hO.ar B3.o) hx0 hx hL;have sS:=B3.o.size;have hsf:=BF.o.size;have MG:=sH (Xl lo hi A n c at_ L W3 G3.o aq aq aq II);have em:(((m:Int)-1)=((m-1:Nat):Int)):=aq;have i4:((m-1:Nat):Int)<(m:Int):=aq;go_wp2_with fail;rw[<-D];clear D;refine MG.o.mono ?_;rintro e w4 ⟨A3,c3,rfl,o3,b3⟩;have B4:=sH b3;have S:=o3.le;have hrl:=o3.rl aq;obtain⟨gs,hS,hrx⟩:=hrl;have⟨HS,HX,K,X4,OP4⟩:=MR hS hrx hrx.1 (X3.o.ar b3 X3.o.lt) (OP.o.ar b3);have O:=BV.t b3;have G4:ak (vv w4 (Lq lo hi) A3 n):=⟨o3.jB.rq aq⟩;have JY:=b3.size;go_wp2_with fail;refine(aaX (Lq lo hi) A3 n c3 w4 G4.o aq).mono ?_;rintro e a ⟨z,rfl,rfl⟩;obtain⟨A6,c6,X⟩:=Ff pT A3 n c3 at_ aq S (at_:Int) rfl;have r6:=X.run;have G6:ak (RL a a.heap.size 10 (λxs=>aM xs=(aM gs).take at_) A6 at_):=⟨_,(lu _ _ _).trans aT,X.rx HX.o⟩;go_wp2_with (at_builtin;refine cL (L':=λxs=>aM xs=(aM gs).take at_) pT rfl (.tmp 45) (.tmp 48) rfl rfl (OL.nil (L:=λxs=>xs=[]) a a.heap.size _ _ rfl) rfl G6.o (λxs ys _ _ _ _ h1 h2=>Dd) aq cr ?_;intro A7 c7 w7 o7 b7;have O7:=sH o7;have G:=sH b7;clear o7 b7);rw[Nat.zero_add]at O7;have X7:=sH (X4.o.ar G.o X4.o.lt);have⟨g0,g1⟩:=X7.o.g2;have G7:=sH (G4.o.Z G.o G.o.size);obtain⟨ad,y0,r,y2,y3,y4,y5,y6,y7,y8,y9,rfl,hQ,_,e1,_,_,_,_,_,_,_,J⟩:=(HX.o.Z G.o G.o.size).bK Z;have QY:ak (∀xs:List aC,aM xs=(aM gs).take at_->(aM xs++[r]).Sublist ((aM gs).take (at_+1))):=⟨λxs h=>by
  have e:r=nth (aM gs) at_:=by rw[gK (by rw[K.o];exact Z),<-hQ];rfl
  rw[h,e,List.take_succ_eq_append_getElem (by rw[dK,K.o];exact Z),bZ];exact List.Sublist.refl _⟩
 have i3:=aU at_ n;have⟨LG0,LG1,LE1,LE9⟩:=lc4 g0 g1 e1 J;refine aQ (apT w7.heap.size r) 9 rfl aF aF aF aF aF rfl ?_;refine mLw ?_;refine lwA (ZG r) (λv=> ?_) (λv9 F=> ?_)
 .go_simp
  refine aZ (ZG r) ((yW x.gl r v.1).mono ?_);rintro e a ⟨rfl,Y⟩;exact⟨_,rfl,⟨x.gl,rfl⟩,Y⟩
 obtain⟨_,_,H,rfl⟩:=F;simp[Act.put];refine lwA (ZB w7.heap.size) (λv=> ?_) (λv9 F=> ?_)
 .go_simp
  exact QT v _
 obtain⟨_,_,g,rfl,V,_⟩:=F;simp[Act.put];intro v hE;have mA:Bx v.1 g #[ae aj 0,ae aj 0,ae aj 0,ae aj 0,ae aj 0,ae aj 0,ae aj 0,ae aj 0,ae aj 0,ae aj 0]:=ZB.zb hE.2;obtain⟨fg,zR⟩:=mA.heap;have J:=LE9 v;refine wp_store_row 126 (.tmp 17) (.tmp 57) rfl g _ rfl rfl fg _ zR aF rfl ed ?_;have T:=sH (mA.row (ds:=#[ae aj H,ae aj r,ae aj 0,ae aj 0,ae aj 0,ae aj (-1),ae aj (-1),ae aj 0,ae aj 0,ae aj 0]));have⟨Q,t⟩:=eX (v.1.setRow g #[ae aj H,ae aj r,ae aj 0,ae aj 0,ae aj 0,ae aj (-1),ae aj (-1),ae aj 0,ae aj 0,ae aj 0]);have B8:ak (az w7 Q):=⟨by rw[t];exact below_setRow v.2 V _⟩;rw[<-t]at T;rw[<-t];clear t;have⟨O8,d⟩:=K' (O7.o.ar B8.o) (O7.o.gX V);have Mu:=G.o.size;have s:=sH (G.o.trans (B8.o.mono Mu));have hs8:=s.o.size;have J:=(G4.o.Z s.o s.o.size).bK Z;obtain⟨I,_,_,_,_,_,_,_,_,_,y9,e2,_,_,_,_,_,_,_,_,_,_,J⟩:=J;obtain rfl:ad=I:=Option.some.inj e2;have⟨q0,q1,q2,q3,q4,q5,q6,q7,q8,q9⟩:=T.o.Gs;have f9:=T.o.fz 9;have f7:=T.o.fz 7;have j:a.heap.size<=g:=aq;have OS:ak (iZ ((Q.setCell ⟨g,9,OJ⟩ (ae aj y9)).setCell ⟨g,7,OJ⟩ (ae aj z)) a.heap.size (λxs=>aM xs=(aM gs).take at_) A7 at_ c7):=⟨(O8.o.mj d.o 9 _).mj d.o 7 _⟩;have BS:ak (az a ((Q.setCell ⟨g,9,OJ⟩ (ae aj y9)).setCell ⟨g,7,OJ⟩ (ae aj z))):=⟨Below.setCell (Below.setCell s.o (p:=⟨g,9,OJ⟩) j _) (p:=⟨g,7,OJ⟩) j _⟩;have W:ak (Gx ((Q.setCell ⟨g,9,OJ⟩ (ae aj y9)).setCell ⟨g,7,OJ⟩ (ae aj z)) g):=⟨⟨_,aT,(T.o.jq 9 _).jq 7 _⟩⟩;go_wp2_with (at_builtin;refine cd (L':=λxs=>(aM xs).Sublist ((aM gs).take (at_+1))) pT rfl (.tmp 66) (.tmp 68) rfl rfl (OS.o.alloc _) rfl [H,r,0,0,0,-1,-1,z,0,y9] rfl (cP _ _ _ _ _ aT rfl) (λxs _ _ h=>by rw[gB];exact QY.o xs h) aq br ?_;intro A9 c9 w9 o9 b9 M a9;have O9:=sH o9;have B9:ak (az a w9):=⟨(BS.o.alloc br _).trans b9⟩;have X9:=sH (GN W.o M d.o OS.o.head);have C:ak (bR A9 (OH ⟨g,0,OJ⟩)):=⟨Jd d.o a9 W.o aT⟩;clear o9 b9 M a9);have NA:ak (nth xs 0<((at_+1:Nat):Int)):=⟨by rw[F0.o];omega⟩;go_loopg[16,18,19](L+2)(λgg nN Qq v19 wr=>∃(i p q:Nat) (A:aB) (c:Nat),L+1-i<gg/\at_<i/\i<=L+1/\q+p=i/\p<m/\nN=Pl A q c/\Qq=ae aj (p:Int)/\v19=ae aj (i:Int)/\ak (nth xs p<(i:Int))/\ak (iZ wr a.heap.size (λxs=>(aM xs).Sublist ((aM gs).take i)) A q c)/\ak (bR A (OH ⟨g,0,OJ⟩))/\ak (Gx wr g)/\ak (az a wr))
 .exact⟨at_+1,0,at_+1,A9,c9,aq,aq,aq,aq,aq,rfl,rfl,aV,NA,O9,C,X9,B9⟩
 obtain⟨i,p,q,A,cc,hg,hai,hiL,hqp,hpm,rfl,rfl,rfl,NP,OG,d,XG,u⟩:=hrel;have hse:=u.o.size;have TK:ak (((aM gs).take i).Sublist ((aM gs).take (i+1))):=⟨(List.take_prefix_take_left aq).sublist⟩;by_cases aG:i<=L
 .have Au:p+1<m:=by
   rcases Nat.lt_or_ge (p+1) m with h|h
   .exact h
   .exfalso
    have e:p=m-1:=aq;have h1:=NP.o;rw[e,FL.o]at h1;omega
  have cp:=av (bU OP4.o Au) u.o;have i5:(i:Int)<=(L:Int):=aq;have i6:(p:Int)+1<(m:Int):=aq;by_cases hy:(i:Int)=nth xs (p+1)
  .have E:ak (nth xs (p+1)<((i+1:Nat):Int)):=⟨aq⟩
   rw[<-hy]at cp;go_wp2;go_roundg(L+1-i)
   .exact⟨i+1,p+1,q,A,cc,aq,aq,aq,aq,aq,rfl,aV,aV,E,⟨OG.o.imp λ_ _ _ h=>h.trans TK.o⟩,d,XG,u⟩
   omega
  .have E:ak (nth xs p<((i+1:Nat):Int)):=⟨by have:=NP.o;omega⟩
   have Mk:((i:Int)==nth xs (p+1))=OZ:=(by simp[hy]);generalize nth xs (p+1)=y at*;obtain⟨I,z0,z1,H,z3,z4,z5,z6,z7,z8,z9,e2,hQ,e0,e1,e2',e3,e4,e5,e6,e7,e8,J⟩:=(HX.o.Z u.o u.o.size).bK (show i<n by omega);obtain rfl:ad=I:=Option.some.inj e2;have QZ:ak (∀xs:List aC,(aM xs).Sublist ((aM gs).take i)->(aM xs++[z1]).Sublist ((aM gs).take (i+1))):=⟨λxs h=>by
    have e:z1=nth (aM gs) i:=by rw[gK (by rw[K.o];omega),<-hQ];rfl
    rw[e,List.take_succ_eq_append_getElem (by rw[dK,K.o];omega),bZ (by rw[dK,K.o];omega)];exact h.append (List.Sublist.refl _)⟩
   obtain⟨cs,yE,hB⟩:=XG.o;obtain⟨gv,hB2⟩:=hB.heap;have ve:=aU i n;have⟨U,l⟩:=eX (wr.setRow g #[ae aj z0,ae aj z1,ae aj H,ae aj z3,ae aj z4,ae aj z5,ae aj z6,ae aj z7,ae aj z8,ae aj z9]);have X6:=hB.row (ds:=#[ae aj z0,ae aj z1,ae aj H,ae aj z3,ae aj z4,ae aj z5,ae aj z6,ae aj z7,ae aj z8,ae aj z9]);rw[<-l]at X6;have O6:ak (iZ U a.heap.size (λxs=>(aM xs).Sublist ((aM gs).take i)) A q cc):=⟨by rw[l];exact OG.o.iA d.o _⟩;have B6:ak (az a U):=⟨by rw[l];exact below_setRow u.o j _⟩;have⟨q0,q1,q2,q3,q4,q5,q6,q7,q8,q9⟩:=X6.Gs;have f8:=X6.fz 8;have f7:=X6.fz 7;have OS:ak (iZ ((U.setCell ⟨g,7,OJ⟩ (ae aj z)).setCell ⟨g,8,OJ⟩ (ae aj (p:Int))) a.heap.size (λxs=>(aM xs).Sublist ((aM gs).take i)) A q cc):=⟨(O6.o.mj d.o 7 _).mj d.o 8 _⟩;have BS:ak (az a ((U.setCell ⟨g,7,OJ⟩ (ae aj z)).setCell ⟨g,8,OJ⟩ (ae aj (p:Int)))):=⟨Below.setCell (Below.setCell B6.o (p:=⟨g,7,OJ⟩) j _) (p:=⟨g,8,OJ⟩) j _⟩;have W:ak (Gx ((U.setCell ⟨g,7,OJ⟩ (ae aj z)).setCell ⟨g,8,OJ⟩ (ae aj (p:Int))) g):=⟨⟨_,aT,(X6.jq 7 _).jq 8 _⟩⟩;have hs6:=B6.o.size;go_wp2_with (first
    |(refine wpList_store_row rfl 126 (.tmp 17) (.tmp 89) rfl g _ rfl rfl gv _ hB2 aF (by simpa using yE) ed ?_;rw[<-l];clear l)
    |(at_builtin;refine cd (L':=λxs=>(aM xs).Sublist ((aM gs).take (i+1))) pT rfl (.tmp 94) (.tmp 96) rfl rfl (OS.o.alloc _) rfl [z0,z1,H,z3,z4,z5,z6,z,(p:Int),z9] rfl (cP _ _ _ _ _ aT rfl) (λxs _ _ h=>by rw[gB];exact QZ.o xs h) aq br ?_;intro A9 c9 w9 o9 b9 M a9;have O9:=sH o9;have B9:ak (az a w9):=⟨(BS.o.alloc br _).trans b9⟩;have X9:=sH (GN W.o M d.o OS.o.head);have C:ak (bR A9 (OH ⟨g,0,OJ⟩)):=⟨Jd d.o a9 W.o aT⟩;clear o9 b9 M a9))
   go_roundg(L+1-i)
   .exact⟨i+1,p,q+1,A9,c9,aq,aq,aq,aq,aq,rfl,rfl,aV,E,O9,C,X9,B9⟩
   omega
 .obtain rfl:i=L+1:=by omega
  have i5:¬((L+1:Nat):Int)<=(L:Int):=aq;obtain⟨A6,c6,X⟩:=Sc pT (OH ad) n c3 (L+1) aq S ((L:Int)+1) aT;have r6:=X.run;have G6:ak (lF wr (λxs=>aM xs=(aM gs).drop (L+1)) A6 (n-(L+1))):=⟨_,(lu _ _ _).trans (List.take_of_length_le (by rw[List.length_drop,dK,K.o];exact Nat.le_refl _)),X.rx (HX.o.Z u.o u.o.size)⟩;have⟨N,hN⟩:=eX (q+(n-(L+1)));have Iu:N<=n:=aq;have hsv:=O.o.size;go_wp2_with (at_builtin;refine cL (L':=bI lo hi) pT rfl (.tmp 100) (.tmp 104) rfl rfl OG.o rfl G6.o (λxs ys _ _ _ _ h1 h2=>CS.sub HS.o (by rw[gB,h2];conv=>{rhs;rw[<-List.take_append_drop (L+1) (aM gs)]};exact h1.append (List.Sublist.refl _))) aq aq ?_;intro A8 c8 Q o8 b8;rw[<-hN]at o8;rw[<-hN];have O8:=sH (o8.cS hsv);have B8:=sH (O.o.trans ((u.o.trans b8).mono hsv));clear o8 b8 hN);go_ret3;exact⟨A8,N,c8,q,OX,rfl,λ_=>⟨Iu,aq,O8.o⟩,B8.o⟩
def Xy(A:aB)(n c:Nat)(xs:aC)(at_ a now:Nat)(w:EE)(h:bO w w.heap.size .i64 A n xs)(C:n<=100000)(v:at_<=100000)(z:a<=100000)(j:now<=100000):
 GK prog 350 #[Pl A n c,ae aj (at_:Int),ae aj (a:Int),ae aj (now:Int)] w (aa4 w n):=by
 have R:=sH h;go_enter func350,ntmps350;go_wp2;go_loopg[10,11,12](n+1)(λgg v10 g _ wr=>∃(i:Nat) (e:aB) (f:Nat) (m:aC),n-i<gg/\i<=n/\v10=Pl e i f/\g=ae aj (i:Int)/\ak (Own wr w.heap.size 3 .i64 e i f m)/\ak (az w wr))
 .exact⟨0,OJ,0,[],aq,aq,rfl,rfl,⟨Own.nil _ _ _ _⟩,cJ⟩
 obtain⟨i,e,f,m,y,hi,rfl,rfl,o,b⟩:=hrel;by_cases d:i<n
 .obtain⟨x,rfl,u⟩:=(R.o.Z b.o).iC d
  have B:=b.o.size;have D:=aU i n;generalize nth xs i=p at*;go_wp2_with (at_builtin;refine bL TIv rfl (.tmp 47) (.tmp 49) rfl rfl (o.o.alloc _) rfl (nF _ _ _ _ rfl) aq br ?_;intro q c5 t k l _ _;have s:=sH k;have r:ak (az w t):=⟨(b.o.alloc aq _).trans l⟩;clear k l)
  all_goals(go_roundg(n-i)<;>first|omega|exact⟨i+1,q,c5,_,aq,aq,rfl,aV,s,r⟩)
 .obtain rfl:i=n:=by omega
  go_wp2;go_ret;exact⟨_,_,_,rfl,o.o,b.o⟩
def yN(n:Nat):Sat:=⟨λv w=>∃(A:aB) (m c:Nat) (b:Bool),v=P8 #[Pl A m c,PF b]/\(b=OX->m<=n/\∃xs,bO w w.heap.size .i64 A m xs/\∀x∈xs,0<=x/\x<n),λv w g ⟨A,m,c,b,f,a⟩ d=>⟨A,m,c,b,f,λe=>⟨(a e).1,(a e).2.choose,(a e).2.choose_spec.1.Z d,(a e).2.choose_spec.2⟩⟩⟩
def yN.get{b:Bool}(h:(yN n).p (P8 #[Pl A m c,PF b]) w):b=OX->m<=n/\∃xs,bO w w.heap.size .i64 A m xs/\∀x∈xs,0<=x/\x<n:=by
 obtain⟨a,f,c',d,e,h⟩:=h;simp at e;obtain⟨⟨rfl,rfl,rfl⟩,rfl⟩:=e;exact h
def Hd{n:aI w0}{f:FuncId}(h:GK P f args n.1 (UK n.1 N)):GK P f args n.1 λe d=>∃v,e=RE v/\(yN N).p v d/\(∃m:aI w0,d=m.1)/\EI n.1.heap.size n.1 d:=
 aZ (yN N) (h.mono λe d ⟨A,m,c,b,g,a,i⟩=>⟨_,g,⟨A,m,c,b,rfl,λe=>⟨(a e).1,(a e).2.choose,(a e).2.choose_spec.1.ints,(a e).2.choose_spec.2⟩⟩,i⟩)
def Ha(w:EE)(B n:Nat)(A:aB)(m c:Nat):Prop:=∃xs:aC,1<=m/\m<=n+1/\Own w B 3 .i64 A m c xs/\∀x∈xs,0<=x/\x<n
def Ha.ar{a:EE}(h:Ha w B n A m c)(d:az w a):Ha a B n A m c:=by
 obtain⟨xs,e,f,b,g⟩:=h;exact⟨xs,e,f,b.ar d,g⟩
def Ha.cS{a:Nat}(h:Ha w B n A m c)(d:a<=B):Ha w a n A m c:=by
 obtain⟨xs,e,f,b,g⟩:=h;exact⟨xs,e,f,b.gW d,g⟩
def PSt(w:EE)(n:Nat)(e:IS)(a:EE):Prop:=∃(A:aB) (m c:Nat) (b:Bool),e=RE (P8 #[Pl A m c,PF b])/\(b=OX->Ha a w.heap.size n A m c)/\az w a
def zY{k:Lk}{x:Sb}{b:EE}(h:b=((w.alloc (RM f.row 102)).alloc (RM k.row 175)).alloc (RM x.row 184)):az w b/\Bx b w.heap.size f.row/\Bx b (w.heap.size+1) k.row/\Bx b (w.heap.size+2) x.row:=by
 have⟨i,a⟩:=eX ((w.alloc (RM f.row 102)).alloc (RM k.row 175));obtain⟨e,g,d⟩:=iS a;rw[<-a]at h;have c:az i b:=LO;exact⟨e.trans (c.mono e.size),g.ar c g.lt,d.ar c d.lt,by rw[h];exact Bx.iR _ _ _ (by rw[a];simp)⟩
def TLi:aS prog 100 39 1 24:=bD underlying100 (z:=Pl OJ 0 0) aF rfl aq aq
def abE{m:IQ}{e:Ty}(T:aS P t m e.n bytes){w:EE}{B:Nat}{A:aB}{n c:Nat}(h:cU w B e A n c)(i:Nat)(hi:i<=n)(l:Int)(s:l=i):
 ∃b d,(∀w:EE,(Instr.slice t (Pl A n c) (OH (ae aj l)) OJ OJ).run P w=.ok (Pl b (n-i) d) w)/\cU w B e b (n-i) d:=by
 subst s;have z:=h.1;have f:=h.2.1;refine⟨if c=i then A else A.map (·.add (i*e.n)),c-i,λw=> ?_,aq,aq,Nat.le_trans (Nat.mul_le_mul_right _ aq) h.2.2.1,λv=> ?_⟩
 .rw[run_slice_l w t A n c (cY T) .i64 i aq aq,de T]
  simp[Result.andThen,sliced]
 .obtain⟨r,rfl,hb,a⟩:=h.2.2.2 aq
  rw[if_neg aq];refine⟨r.add (i*e.n),rfl,Mb,λj y=> ?_⟩;obtain⟨g,p,o⟩:=a (i+j) aq;refine⟨g,p,λq x u=> ?_⟩;have k:=o q x u;rw[aY]at k;rw[aY,aY];rwa [show i*e.n+(j*e.n+q)=(i+j)*e.n+q by rw[Nat.add_mul];omega]
def RO(f:dv)(k:Lk)(x:Sb)(Q:aC->Prop)(A:aB)(n c at_:Nat)(w:EE)(h:cC w w.heap.size f)(s:nH w w.heap.size x)(hl:vv w Q A n)(hn:n<=50000)(ha:at_<n):
 GK prog 321 #[f.v,k.v,x.v,Pl A n c,ae aj (at_:Int)] w (PSt w n):=by
 have⟨r,o⟩:=eX (((w.alloc (RM f.row 102)).alloc (RM k.row 175)).alloc (RM x.row 184));obtain⟨bb,W,Z,P⟩:=zY o;have j:ak _:=⟨bb⟩;have M:ak _:=⟨W⟩;have O:ak _:=⟨Z⟩;have K:ak _:=⟨P⟩;have R:ak (cC r r.heap.size f):=⟨h.Z j.o j.o.size⟩;have U:ak (nH r r.heap.size x):=⟨s.Z j.o j.o.size⟩;have GL:ak (vv r Q A n):=⟨hl.Z j.o j.o.size⟩;clear h s hl bb W Z P;have i3:=aU at_ n;have hjn:=U.o.rJ.bd;have⟨e0,e1,e2,e3,N,e5,e6,e7,e8,e9,sV,rX⟩:=K.o.nv;by_cases hj:x.jn=0
 .have mv:((x.jn:Int)==0)=OX:=by simp[hj]
  clear hj;go_enter func321,ntmps321;go_wp2;rw[<-o];clear o;go_quiet (fail);go_wp2;go_ret2;exact⟨_,_,_,_,rfl,aT,aO j.o _⟩
 have mv:((x.jn:Int)==0)=OZ:=by simp[hj]
 obtain⟨adj,J,jn0,jc0,ej,hJ,dj⟩:=fR U.o.rJ (show 0<x.jn by omega);have RJ:ak _:=⟨hJ⟩;rw[fA]at dj;rw[ej]at N;obtain⟨ad,x0,x1,x2,x3,x4,x5,x6,x7,x8,x9,rfl,hQ,q0,_⟩:=GL.o.bK ha;clear hQ hJ ej;have⟨LJ,LQ,X⟩:=lc3 dj q0 N;clear e0 e1 e2 e3 e5 e6 e7 e8 e9 sV rX;go_enter func321,ntmps321;go_wp2;rw[<-o];clear o dj q0 N;refine aE (kC 33 SB) aF aF ?_
 repeat(refine cB aD aD aD ?_;intro K9 p;go_big_quiet_op;go_big_quiet_on)
 refine cK SB aD aD (λw9 l=> ?_) (λv9 m=> ?_)
 .obtain⟨d,rfl⟩:=l
  go_simp;exact bP (gh J jn0 jc0 x0 d.1 (RJ.o.Z d.2 d.2.size))
 obtain⟨b,rfl⟩:=m;simp[Act.put]
 repeat(refine cB aD aD aD ?_;intro K9 p;go_big_quiet_op;go_big_quiet_on)
 intro d;obtain⟨w2,g⟩:=d;have V:ak (az r w2):=⟨g⟩;have BM:ak (az w w2):=⟨j.o.trans (g.mono j.o.size)⟩
 try dsimp only
 clear g LJ LQ X;cases b
 .go_wp2
  go_ret2;exact⟨_,_,_,_,rfl,aT,BM.o⟩
 have a:=V.o;have⟨c0,I,i,v,c4,c5⟩:=(M.o.ar a M.o.lt).f6;have⟨u,C,z,F⟩:=(O.o.ar a O.o.lt).k4;have⟨_,_,_,_,N,_⟩:=(K.o.ar a K.o.lt).nv;have⟨L0,L1,L2,L3,X,L5,M0,M1⟩:=lc8 c0 I i v c4 c5 u C;have⟨M2,M3,E4⟩:=lc3 z F N;clear c0 I i v c4 c5 u C z F N a;obtain⟨J2,jc2,rJ,sJ⟩:=abE TLi U.o.rJ 1 aq 1 rfl;have SJ:ak _:=⟨sJ⟩;clear sJ;go_wp2;refine bm (jD 44 (yN n)) aF aF ?_
 repeat(refine cH aD aD aD ?_;intro K9 p;go_big_quiet_op;go_big_quiet_on)
 refine dA (yN n) aD aD (λw9 l=> ?_) (λv9 m=> ?_)
 .obtain⟨d,rfl⟩:=l
  go_simp;have g:=V.o.trans (d.2.mono V.o.size);exact Hd (Pm f k Q (OH ad) n c at_ J2 (x.jn-1) jc2 d.1 (R.o.Z g g.size) (GL.o.Z g g.size) (SJ.o.Z g g.size) aq ha)
 obtain⟨_,_,A5,t,c5,b5,rfl,_⟩:=m;simp[Act.put]
 repeat(refine cH aD aD aD ?_;intro K9 p;go_big_quiet_op;go_big_quiet_on)
 intro d hE;have PR:ak _:=⟨yN.get hE⟩;have H:ak (az r d.1):=⟨V.o.trans (d.2.mono V.o.size)⟩;have S:ak (az w d.1):=⟨BM.o.trans (d.2.mono BM.o.size)⟩;have⟨Y,y⟩:=eX d.1;rw[<-y]at H S PR
 try dsimp only
 rw[<-y];clear y hE L0 L1 L2 L3 X L5 M0 M1 M2 M3 E4 rJ;cases b5
 .go_wp2
  go_ret2;exact⟨_,_,_,_,rfl,aT,S.o⟩
 obtain⟨hm5,xs,T,s⟩:=PR.o rfl;have XS:ak (bO Y Y.heap.size .i64 A5 t xs):=⟨T⟩;have HX:ak _:=⟨s⟩;clear T s PR;have AX:ak (∀x∈(at_:Int)::xs,0<=x/\x<n):=⟨λx s=>by
  rcases List.mem_cons.1 s with rfl|s
  .omega
  .exact HX.o x s⟩
 have O3:=Hu Y (at_:Int);have OS:ak _:=⟨O3⟩;clear O3;have sS:=H.o.size;go_wp2_with (at_builtin;refine uV TIv rfl (.tmp 51) (.tmp 52) rfl rfl OS.o rfl (XS.o.Z (aw _ _)) (t+1) aq aq aT ?_;intro A7 c7 w7 o7 b7;have O7:ak (Own w7 Y.heap.size 3 .i64 A7 (t+1) c7 ((at_:Int)::xs)):=⟨o7⟩;have B7:ak (az r w7):=⟨H.o.trans (((aw Y _).trans b7).mono sS)⟩;have a:=B7.o;have⟨c0,I,i,v,c4,q⟩:=(M.o.ar a M.o.lt).f6;have⟨u,C,z,F⟩:=(O.o.ar a O.o.lt).k4;have⟨_,_,_,e3,_⟩:=(K.o.ar a K.o.lt).nv;clear o7 b7 a);have a:=B7.o;refine(Rf f k Q (OH ad) n c at_ x.B x.bn x.bc w7 (R.o.Z a a.size) (GL.o.Z a a.size) (U.o.rB.Z a a.size) aq ha).mono ?_;rintro e w8 ⟨A8,m8,c8,b8,rfl,_,B⟩;have B8:ak (az r w8):=⟨a.trans (B.mono a.size)⟩;have G:ak (az w w8):=⟨j.o.trans (B8.o.mono j.o.size)⟩;have O8:ak _:=⟨O7.o.ar B⟩;clear a B c0 I i v c4 q u C z F e3 O7 B7;cases b8
 .go_wp2
  go_ret2;exact⟨_,_,_,_,rfl,aT,G.o⟩
 obtain⟨g7,rfl,hg7,Vt⟩:=aA.form O8.o aq;have p0:=bU O8.o (show t<t+1 by omega);obtain⟨L,hL,hLn⟩:∃L:Nat,nth ((at_:Int)::xs) t=L/\L<n:=by
  have hl:=O8.o.len;have:=AX.o (nth ((at_:Int)::xs) t) Cw;exact⟨(nth ((at_:Int)::xs) t).toNat,aq,aq⟩
 rw[hL]at p0;have a:=B8.o;have⟨c0,I,i,v,c4,q⟩:=(M.o.ar a M.o.lt).f6;have⟨u,C,z,F⟩:=(O.o.ar a O.o.lt).k4;have⟨_,_,_,_,_,e5,_⟩:=(K.o.ar a K.o.lt).nv;have⟨L0,L1,L2,L3,X,L5,M0,M1⟩:=lc8 c0 I i v c4 q u C;have⟨M2,M3,E5,P0⟩:=lc4 z F e5 p0;clear c0 I i v c4 q u C z F e5 a p0 hL;go_wp2;refine bm (jD 78 (yN n)) aF aF ?_
 repeat(refine cH aD aD aD ?_;intro K9 p;go_big_quiet_op;go_big_quiet_on)
 refine dA (yN n) aD aD (λw9 l=> ?_) (λv9 m=> ?_)
 .obtain⟨d,rfl⟩:=l
  go_simp;have g:=B8.o.trans (d.2.mono B8.o.size);exact Hd (Pm f k Q (OH ad) n c L x.A x.an x.ac d.1 (R.o.Z g g.size) (GL.o.Z g g.size) (U.o.rA.Z g g.size) aq hLn)
 obtain⟨_,_,A9,m9,c9,b9,rfl,_⟩:=m;simp[Act.put]
 repeat(refine cH aD aD aD ?_;intro K9 p;go_big_quiet_op;go_big_quiet_on)
 intro d hE;have E:ak (az w d.1):=⟨G.o.trans (d.2.mono G.o.size)⟩;have iW:=j.o.size;have O9:ak (Own d.1 w.heap.size 3 .i64 (OH ⟨g7,0,OJ⟩) (t+1) c7 ((at_:Int)::xs)):=⟨(O8.o.ar d.2).gW aq⟩;have⟨w4,D⟩:=eX d.1;rw[<-D]at E O9
 try dsimp only
 rw[<-D];clear D hE L0 L1 L2 L3 X L5 M0 M1 M2 M3 E5 P0;cases b9
 .go_wp2
  go_ret2;exact⟨_,_,_,_,rfl,aT,E.o⟩
 .go_wp2
  go_ret2;exact⟨_,_,_,_,rfl,λ_=>⟨_,aq,aq,O9.o,AX.o⟩,E.o⟩
def ZPs(N n:Nat):Sat:=⟨λv w=>∃(A:aB) (m c:Nat) (b:Bool),v=P8 #[Pl A m c,PF b]/\(b=OX->Ha w N n A m c),λv w g ⟨A,m,c,b,d,f⟩ a=>⟨A,m,c,b,d,λe=>(f e).ar a⟩⟩
def ZPs.get{b:Bool}(h:(ZPs N n).p (P8 #[Pl A m c,PF b]) w):b=OX->Ha w N n A m c:=by
 obtain⟨a,f,c',d,e,h⟩:=h;simp at e;obtain⟨⟨rfl,rfl,rfl⟩,rfl⟩:=e;exact h
def PMa(w:EE)(n d:Nat)(e:IS)(a:EE):Prop:=∃(i:Nat) (A:aB) (m c:Nat) (b:Bool),e=RE (P8 #[ae aj (i:Int),Pl A m c,PF b])/\(b=OX->i<d/\Ha a w.heap.size n A m c)/\az w a
def Ht(f:dv)(k:Lk)(Q:aC->Prop)(A:aB)(n c at_:Nat)(w:EE)(h:cC w w.heap.size f)(F:ny w w.heap.size k)(I:vv w Q A n)(hn:n<=50000)(ha:at_<n):
 GK prog 299 #[f.v,k.v,Pl A n c,ae aj (at_:Int)] w (PMa w n k.sn):=by
 have⟨W1,p,j,U,X2⟩:=box2 w f.row 102 k.row 175;have⟨R,RK,GL⟩:=MO (h.Z j.o j.o.size) (F.Z j.o j.o.size) (I.Z j.o j.o.size);have v:=F.rS.bd;obtain⟨kk,fl,st,S,b,W⟩:=k;dsimp only at v⊢;clear h I F;have i1:¬((n:Int)<=(at_:Int)):=aq;go_enter func299,ntmps299;go_wp2;rw[<-p];clear p;go_loopg[11,12,13](b+1)(λgg B _ _ wr=>∃(i:Nat),b-i<gg/\i<=b/\B=ae aj (i:Int)/\ak (az W1 wr))
 .exact⟨0,aq,aq,rfl,cJ⟩
 obtain⟨i,hg,hi,rfl,d⟩:=hrel;have⟨c0,V,o,O,c4,c5⟩:=(U.o.ar d.o U.o.lt).f6;have⟨t,H,C,z⟩:=(X2.o.ar d.o X2.o.lt).k4;dsimp only at t H C z;have D:=j.t d.o;by_cases l:i<b
 .obtain⟨ad,x,rfl,hx,Z,K,L,T,e4,Y,e6,e7,M,J,m,q⟩:=ko (A:=S) (n:=b) (c:=W) (RK.o.rS.Z d.o d.o.size) l
  have HX:=sH hx;clear hx;have i4:=aU i b;go_wp2;have⟨L0,L1,L2,L3,L4,L5,M0,M1⟩:=lc8 c0 V o O c4 c5 t H;have⟨M2,M3,E0,E1,E2,E3,E4,E5⟩:=lc8 C z Z K L T e4 Y;have⟨E6,E7,E8,E9,E,y⟩:=lc6 e6 e7 M J m q;clear c0 V o O c4 c5 t H C z Z K L T e4 Y e6 e7 M J m q;refine bm (jD 39 (ZPs wr.heap.size n)) aF aF ?_;refine mLw ?_;refine lwA (ZPs wr.heap.size n) (λa=> ?_) (λv9 u=> ?_)
  .go_simp
   have r:=d.o.trans (a.2.mono d.o.size);refine aZ (ZPs wr.heap.size n) ((RO f ⟨kk,fl,st,OH ad,b,W⟩ x Q A n c at_ a.1 (R.o.Z r r.size) (HX.o.Z a.2 a.2.size) (GL.o.Z r r.size) hn ha).mono ?_);rintro e w5 ⟨P,N,c6,G,rfl,h6,hb⟩;exact⟨_,rfl,⟨P,N,c6,G,rfl,λe=>(h6 e).cS a.2.size⟩,hb⟩
  obtain⟨_,_,P,N,c6,G,rfl,_⟩:=u;simp[Act.put];refine mLw ?_;intro a hE;have PL:=sH (ZPs.get hE);have BM:=d.t a.2;have X:=D.t a.2;have s:=D.o.size;have⟨w3,g⟩:=eX a.1;rw[<-g]at BM X PL
  try dsimp only
  rw[<-g];clear g hE L0 L1 L2 L3 L4 L5 M0 M1 M2 M3 E0 E1 E2 E3 E4 E5 E6 E7 E8 E9 E y;cases G
  .go_wp2
   go_roundg(b-i)
   .exact⟨i+1,aq,aq,aV,BM⟩
   omega
  .go_wp2
   go_ret3;exact⟨i,_,_,_,OX,rfl,λ_=>⟨l,(PL.o aT).cS s⟩,X.o⟩
 .go_wp2
  go_ret3;exact⟨0,_,_,_,OZ,rfl,aT,D.o⟩
def TN(w:EE)(B:Nat)(C:aB)(n:Nat)(g:Int):Prop:=∃(j:Nat) (a:Addr),j<n/\C=OH a/\a.block<B/\w.cell? (a.add j)=OH (ae aj g)
def TN.Z{b:EE}{a:Nat}{C:aB}{g:Int}(h:TN w B C n g)(e:EI B w b)(l:B<=a):TN b a C n g:=by
 obtain⟨j,k,f,i,d,c⟩:=h;exact⟨j,k,f,i,aq,(e.cell (by rw[aL];exact d)).trans c⟩
def PPl(w:EE)(C:aB)(n:Nat)(g:Int)(e:IS)(a:EE):Prop:=∃z:Int,e=RE (ae aj z)/\-1<=z/\z<n/\(0<=z->TN w w.heap.size C n g)/\(z<0->¬TN w w.heap.size C n g)/\a=w
def Gp(A:aB)(n c:Nat)(g:Int)(w:EE)(h:cU w w.heap.size eD A n c):GK prog 334 #[Pl A n c,ae aj g] w (PPl w A n g):=by
 have H:=h.bd;have R:ak _:=⟨h⟩;clear h;go_enter func334,ntmps334;go_wp2;go_loopg[5](n+1)(λgg D wr=>∃i:Nat,n-i<gg/\i<=n/\D=ae aj (i:Int)/\ak (∀(j:Nat) (a:Addr),j<i->A=OH a->w.cell? (a.add j)≠OH (ae aj g))/\wr=w)
 .exact⟨0,aq,aq,rfl,⟨λj a C=>by omega⟩,rfl⟩
 obtain⟨i,G,hi,rfl,s,rfl⟩:=hrel;by_cases d:i<n
 .obtain⟨a,e,r,b⟩:=R.o.2.2.2 aq
  have z:ak _:=⟨r⟩;obtain⟨k,y,p,q⟩:=il R.o d;obtain rfl:a=k:=by rw[e]at p;exact Option.some.inj p
  have t:ak _:=⟨e⟩;clear p r b;by_cases o:y=g
  .subst o
   have u:ak (TN wr wr.heap.size A n y):=⟨⟨i,a,d,t.o,z.o,q⟩⟩;rw[e]at*;clear e;go_wp2;go_ret;exact⟨_,rfl,aq,aq,λ_=>u.o,λh=>by omega,rfl⟩
  .have v:(y==g)=OZ:=by simp[o]
   have f:ak (∀(j:Nat) (a:Addr),j<i+1->A=OH a->wr.cell? (a.add j)≠OH (ae aj g)):=⟨λj m C l=>by
    rcases Nat.lt_or_ge j i with h|h
    .exact s.o j m h l
    .obtain rfl:j=i:=by omega
     rw[t.o]at l;obtain rfl:=Option.some.inj l;rw[q];intro h;injection h with h
     injection h with _ h
     exact o h⟩
   obtain rfl:=e;go_wp2;go_roundg(n-i)
   .exact⟨i+1,aq,aq,aV,f,rfl⟩
   omega
 .obtain rfl:i=n:=by omega
  go_wp2;go_ret;exact⟨_,rfl,aq,aq,λh=>by omega,λ_ ⟨j,a,B,E,F,x⟩=>s.o j a B E x,rfl⟩
def ZHt(C:aB)(n:Nat)(g:Int):Sat:=⟨λv w=>∃z:Int,v=ae aj z/\-1<=z/\z<n/\(0<=z->TN w w.heap.size C n g),λv w f ⟨z,c,d,b,e⟩ a=>⟨z,c,d,b,λh=>(e h).Z a a.size⟩⟩
def ZHt.get{C:aB}{g:Int}(h:(ZHt C n g).p (ae aj z) w): -1<=z/\z<n/\(0<=z->TN w w.heap.size C n g):=by
 obtain⟨a,e,h⟩:=h;injection e with _ e
 subst e;exact h
def Sr(w:EE)(S:aB)(i:Nat)(g:Int):Prop:=∃(b:Addr) (C:aB) (a c:Nat),S=OH b/\w.cell? (b.add (i*12))=OH (Pl C a c)/\TN w w.heap.size C a g
def PHo(w:EE)(k:Lk)(g:Int)(e:IS)(a:EE):Prop:=∃(i:Nat) (b:Bool),e=RE (P8 #[ae aj (i:Int),PF b])/\(b=OX->k.kind=5/\i<k.sn/\Sr a k.S i g)/\az w a
def afl(s:G:=by
 simp[Act.put]
 repeat first
  |(refine cH aD aD aD ?_;intro K9 bQ;go_big_quiet_op;go_big_quiet_on)
  |(refine pF aD ?_;simp[Act.put])
 intro nq hE;have BM:=B71.t nq.2;have⟨w3,dP⟩:=eX nq.1;rw[<-dP]at BM
 try dsimp only
 rw[<-dP];clear dP hE LQ LE;go_wp2;go_roundg(sn-i)
 .exact⟨i+1,aq,aq,aV,BM⟩
 omega):G:=s
def Yb(f:dv)(k:Lk)(Q:aC->Prop)(A:aB)(n c at_:Nat)(g:Int)(w:EE)(h:cC w w.heap.size f)(hk:ny w w.heap.size k)(hl:vv w Q A n)(hg:∃r,A=OH r/\w.cell? (r.add (at_*10))=OH (ae aj g))(hn:n<=50000)(ha:at_<n):
 GK prog 333 #[f.v,k.v,Pl A n c,ae aj (at_:Int)] w (PHo w k g):=by
 have⟨W1,v,b,L,I⟩:=box2 w f.row 102 k.row 175;have⟨R,RK,GL⟩:=MO (h.Z b.o b.o.size) (hk.Z b.o b.o.size) (hl.Z b.o b.o.size);have U:=hk.rS.bd;obtain⟨kk,fl,st,S,sn,sc⟩:=k;obtain⟨E,rfl,l⟩:=hg;have B:=av l b.o;dsimp only at U⊢;clear h hl hk l;have i1:¬((n:Int)<=(at_:Int)):=aq;have i2:((at_:Int)<(n:Int)):=aq;have⟨j,p,m,q⟩:=I.o.k4;by_cases H:kk=5;rotate_left
 .have h5:(kk !=5)=OX:=by simp[H]
  go_enter func333,ntmps333;go_wp2;go_ret2;rw[<-v];exact⟨0,OZ,rfl,aT,b.o⟩
 subst H;go_enter func333,ntmps333;go_wp2;rw[<-v];clear v j p m q;have HG:=sH B;clear B;go_loopg[10,11,12,13,14,15](sn+1)(λgg v10 _ _ _ _ _ wr=>∃(i:Nat),sn-i<gg/\i<=sn/\v10=ae aj (i:Int)/\ak (az W1 wr))
 .exact⟨0,aq,aq,rfl,cJ⟩
 obtain⟨i,hg,hi,rfl,y⟩:=hrel;have⟨c0,O,d,K,c4,c5⟩:=(L.o.ar y.o L.o.lt).f6;have⟨j,p,m,q⟩:=(I.o.ar y.o I.o.lt).k4;dsimp only at j p m q;have BW:=b.t y.o;by_cases F:i<sn
 .obtain⟨r,x,rfl,hx,D,e1,e2,e3,e4,e5,e6,e7,e8,e9,T,W⟩:=ko (A:=S) (n:=sn) (c:=sc) (RK.o.rS.Z y.o y.o.size) F
  have E0:=sH D;have⟨W2,s⟩:=eX (wr.alloc (RM x.row 184));obtain⟨Z,x2,r2⟩:=th hx s;have B2:=y.t Z;have⟨C,P,X⟩:=MO Z x2 r2;have i4:=aU i sn;clear hx x2 r2;have C0:=λo=>aH c0 o;have C1:=λo=>aH O o;have C2:=λo=>aH d o;have C3:=λo=>aH K o;have C4:=λo=>aH c4 o;have C5:=λo=>aH c5 o
  have D0:=λo=>aH j o;have D1:=λo=>aH p o;have D2:=λo=>aH m o;have D3:=λo=>aH q o
  have a:=B2.o;have BK:=sH (Rf f ⟨5,fl,st,OH r,sn,sc⟩ Q (OH E) n c at_ x.B x.bn x.bc W2 (R.o.Z a a.size) (GL.o.Z a a.size) X.o.rB aq ha);clear a Z;go_wp2_with fail;rw[<-s];clear s C0 C1 C2 C3 C4 C5 D0 D1 D2 D3 c0 O d K c4 c5 j p m q D e1 e2 e3 e4 e5 e6 e7 e8 e9 T W;refine BK.o.mono ?_;rintro e w8 ⟨A8,m8,c8,b8,rfl,_,u⟩;have N:=sH u;have V:=B2.t u;clear u BK;have a:=V.o;have RW:=sH (Pm f ⟨5,fl,st,OH r,sn,sc⟩ Q (OH E) n c at_ x.A x.an x.ac w8 (R.o.Z a a.size) (GL.o.Z a a.size) (X.o.rA.Z N.o N.o.size) aq ha);have⟨c0,O,d,K,c4,c5⟩:=(L.o.ar a L.o.lt).f6;have⟨j,p,m,q⟩:=(I.o.ar a I.o.lt).k4;dsimp only at j p m q;have⟨_,_,_,_,_,e5,_⟩:=(P.o.ar N.o P.o.lt).nv;clear a;go_wp2_with fail;refine RW.o.mono ?_;rintro e w7 ⟨A7,m7,c7,b7,rfl,_,J⟩;have G:=N.t J;have B71:=B2.t G.o;clear J RW c0 O d K c4 c5 j p m q e5;have⟨D,_⟩:=(P.o.ar G.o P.o.lt).nv;have q0:=av HG.o B71.o;have EC:=av E0.o (C.o.trans (G.o.mono C.o.size));have ECS:=sH EC;clear EC;go_wp2;have⟨LQ,LE⟩:=lc2 q0 D;clear q0 D;refine bm (jD 68 (ZHt x.C x.cn g)) aF aF ?_;refine mLw ?_;refine lwA (ZHt x.C x.cn g) (λnq=> ?_) (λv9 Y=> ?_)
  .go_simp
   have bq:=G.o.trans (nq.2.mono G.o.size);refine aZ (ZHt x.C x.cn g) ((Gp x.C x.cn x.cc g nq.1 (X.o.rC.Z bq bq.size)).mono ?_);rintro e w5 ⟨z,rfl,h1,h2,h3,_,rfl⟩;exact⟨_,rfl,⟨z,rfl,h1,h2,h3⟩,Below.refl _ _⟩
  obtain⟨_,_,z,rfl,_,_,_⟩:=Y;have M:z<0∨0<=z:=aq;rcases M with M|M
  .have dZ:¬0<=z:=by omega
   simp[Act.put]
   repeat first
    |(refine cH aD aD aD ?_;intro K9 bQ;go_big_quiet_op;go_big_quiet_on)
    |(refine pF aD ?_;simp[Act.put])
   intro nq hE;have BM:=B71.t nq.2;have⟨w3,dP⟩:=eX nq.1;rw[<-dP]at BM
   try dsimp only
   rw[<-dP];clear dP hE LQ LE;go_wp2;go_roundg(sn-i)
   .exact⟨i+1,aq,aq,aV,BM⟩
   omega
  .cases b8
   .exact afl
   .cases b7
    .exact afl
    .simp[Act.put]
     repeat first
      |(refine cH aD aD aD ?_;intro K9 bQ;go_big_quiet_op;go_big_quiet_on)
      |(refine pF aD ?_;simp[Act.put])
     intro nq hE;have HH:ak (Sr nq.1 (OH r) i g):=⟨⟨r,x.C,x.cn,x.cc,rfl,av ECS.o nq.2,(ZHt.get hE).2.2 M⟩⟩;have BV:=sH (b.o.trans ((B71.o.trans (nq.2.mono B71.o.size)).mono b.o.size));have⟨w3,dP⟩:=eX nq.1;rw[<-dP]at BV HH
     try dsimp only
     rw[<-dP];clear dP hE LQ LE;go_wp2;go_ret2;exact⟨i,OX,rfl,λ_=>⟨rfl,F,HH.o⟩,BV.o⟩
 .go_wp2
  go_ret2;exact⟨0,OZ,rfl,aT,BW.o⟩
def ZIn(n:Nat):Sat:=⟨λv _=>∃q:Nat,v=ae aj (q:Int)/\q<n,λ_ _ _ h _=>h⟩
def PRp(w:EE)(B:Nat)(Q:List aC->Prop)(n:Nat)(e:IS)(a:EE):Prop:=∃(A:aB) (c:Nat) (b:Bool),e=RE (P8 #[Pl A n c,PF b])/\iZ a B Q A n c/\az w a
def Wc(f:dv)(k:Lk)(lo hi:Int)(A:aB)(n c at_:Nat)(w:EE)(h:cC w w.heap.size f)(hk:ny w w.heap.size k)(hc:FK w w.heap.size k)(hl:lF w (bI lo hi) A n)(hn:n<=50000)(S:at_<n):
 GK prog 316 #[f.v,k.v,Pl A n c,ae aj (at_:Int)] w (PRp w w.heap.size (bI lo hi) n):=by
 have⟨W1,M,l,X1,X⟩:=box2 w f.row 102 k.row 175;have⟨R,RK,RC,GL⟩:=MQ (h.Z l.o l.o.size) (hk.Z l.o l.o.size) (hc.Z l.o l.o.size) (hl.Z l.o l.o.size);have oE:=hk.rS.bd;clear h hl hk hc;go_enter func316,ntmps316;go_wp2_with fail;rw[<-M];clear M;refine(FN (bI lo hi) A n c W1 GL.o aq).mono ?_;rintro e w2 ⟨A2,c2,rfl,o2,g⟩;have⟨B2,O2,E⟩:=MO g o2 (GL.o.Z g g.size);clear o2;obtain⟨ad,x0,x1,x2,x3,x4,x5,x6,x7,x8,x9,rfl,hQ,B,_⟩:=E.o.jB.bK S;have⟨HO,Q0⟩:=K' (Yb f k (Lq lo hi) (OH ad) n c at_ x0 w2 (R.o.Z g g.size) (RK.o.Z g g.size) E.o.jB ⟨ad,rfl,B⟩ hn S) B;have⟨c0,c1,aW,c3,c4,c5⟩:=(X1.o.ar g X1.o.lt).f6;have⟨O,T,Q,L⟩:=(X.o.ar g X.o.lt).k4;clear hQ g B;go_wp2_with fail;refine HO.o.mono ?_;rintro e w3 ⟨i,b,rfl,hb,W⟩;have B3:=B2.t W;have BV:=l.t B3.o;have O3:=sH ((O2.o.ar W).cS l.o.size);have B:=av Q0.o W;clear HO c0 c1 aW c3 c4 c5 O T Q L W;cases b
 .go_wp2
  go_ret2;exact⟨A2,c2,OZ,rfl,O3.o,BV.o⟩
 obtain⟨v,J,yd,C,cn,cc,Y,eC,hH⟩:=hb rfl;have a:=B3.o;obtain⟨D,x,r,U,d,V,_⟩:=ko (RK.o.rS.Z a a.size) J;obtain rfl:yd=D:=by rw[Y]at r;exact Option.some.inj r
 obtain⟨u,K⟩:=(RC.o.Z a a.size).at (by simp[Mx,v]) J Y d V;have o:x.C=C/\x.cn=cn/\x.cc=cc:=by rw[eC]at d;simp at d;exact⟨d.1.symm,d.2.1.symm,d.2.2.symm⟩
 have⟨O,T,Q,L⟩:=(X.o.ar a X.o.lt).k4;have⟨HT,HC,K5,HX⟩:=MQ u K v U;have HI:ak (TN w3 w3.heap.size x.C x.cn x0):=⟨by rw[o.1,o.2.1];exact hH⟩;have F:0<x.cn:=by obtain⟨j,_,hj,_⟩:=hH;rw[o.2.1];omega
 obtain⟨adT,eT,_,_⟩:=U.rT.2.2.2 (by rw[u];exact F);have ET:=sH eT;have AB:=U.rT.bd;rw[Y]at L;rw[eT]at V;obtain⟨g2,rfl,dV,tC⟩:=O3.o.form aq;have i3:=aU at_ n;have i4:(i:Int)<(k.sn:Int):=aq;have⟨LQ,LE0,Z,M0,M1,M2,M3⟩:=lc7 B d V O T Q L;clear hb v Y eC hH U r u K o F eT B d V O T Q L;go_wp2;refine aQ (jD 45 (ZIn x.cn)) 26 rfl aF aF aF aF aF rfl ?_;refine mLw ?_;refine lwA (ZIn x.cn) (λm=> ?_) (λv9 aX=> ?_)
 .go_simp
  refine aZ (ZIn x.cn) ((Gp x.C x.cn x.cc x0 m.1 (HX.o.rC.Z m.2 m.2.size)).mono ?_);rintro e w5 ⟨z,rfl,h1,h2,h3,h4,rfl⟩;have hz:0<=z:=by
   rcases Int.lt_or_le z 0 with h|h
   .exact absurd (HI.o.Z m.2 m.2.size) (h4 h)
   .exact h
  exact⟨_,rfl,⟨z.toNat,by rw[Int.toNat_of_nonneg hz],aq⟩,Below.refl _ _⟩
 obtain⟨_,_,z,rfl,N⟩:=aX;obtain⟨H,A5,m5,c5,s,I,dT⟩:=fR HX.o.rT (j:=z) (by rw[HT.o];exact N);have G:=HC.o.at (by rw[HT.o];exact N) s dT;obtain rfl:adT=H:=by have:=ET.o;rw[s]at this;exact(Option.some.inj this).symm
 have Ja:1<=m5:=by have:=K5.o;rcases G.2 with h|h;omega;exact h
 have Dm:=aU 0 m5;obtain⟨ady,y,rfl,dy⟩:=il I (show 0<m5 by omega);rw[fA]at dy;have hzt:(z:Int)<(x.tn:Int):=Jo;have⟨LT,LY⟩:=lc2 dT dy;clear s I dT G dy;simp[Act.put];refine mLw ?_;intro m hE;have P:=sH (O3.o.ar m.2);have BN:=BV.t m.2;obtain⟨y0,y1,y2,y3,y4,y5,y6,y7,y8,y9,_,d,_⟩:=P.o.jB.bK S;have f0:=P.o.fz (at_*10);have⟨w4,t⟩:=eX m.1;rw[<-t]at BN P d f0
 try dsimp only
 rw[<-t];clear t hE LQ LE0 Z M0 M1 M2 M3 LT LY;have O5:ak (iZ (w4.setCell ⟨g2,at_*10,OJ⟩ (ae aj y)) w.heap.size (bI lo hi) (OH ⟨g2,0,OJ⟩) n c2):=⟨by
  have:=P.o.me S (q:=0) aq aq y;simpa using this⟩
 have B5:ak (az w (w4.setCell ⟨g2,at_*10,OJ⟩ (ae aj y))):=⟨Below.setCell BN.o (p:=⟨g2,at_*10,OJ⟩) dV _⟩;go_simp;go_wp2;go_ret2;exact⟨OH ⟨g2,0,OJ⟩,c2,OX,rfl,O5.o,B5.o⟩
abbrev aht(f:dv)(u:Nat):Array EN:=#[ae aj f.em,Pl f.G f.gn f.gc,Pl f.M f.mn f.mc,Pl f.L f.ln f.lc,Pl f.F f.fn f.fc,Pl f.S f.sn f.sc,ae aj (u:Int)]
structure Mc(w:EE)(g:Nat)(f:dv)(u:Nat):Prop where
 bx:Bx w g (aht f u)
 fr:cC w g f
 ls:Mj w g f
 hu:u<=65536
section
variable{w w':EE}{g:Nat}{f:dv}{u:Nat}
def Mc.Z(h:Mc w g f u)(a:az w w'):Mc w' g f u:=
 have:=h.bx.lt
 ⟨h.bx.ar a h.bx.lt,h.fr.Z (a.mono aq) cr,h.ls.Z (a.mono aq) cr,h.hu⟩
def Mc.fnt(h:Mc w g f u):cC w w.heap.size f:=h.fr.Z (Below.refl _ _) (Nat.le_of_lt h.bx.lt)
def Mc.set(h:Mc w g f u)(a:u<65536):Mc (w.setCell ⟨g,6,OJ⟩ (ae aj ((u:Int)+1))) g f (u+1):=
 have b:EI g w (w.setCell ⟨g,6,OJ⟩ (ae aj ((u:Int)+1))):=Below.setCell (Below.refl _ _) (p:=⟨g,6,OJ⟩) (Nat.le_refl g) _
 ⟨h.bx.jq 6 _,h.fr.Z b cr,h.ls.Z b cr,aq⟩
def Mc.m7(h:Mc w g f u):w.cell? ⟨g,0,OJ⟩=OH (ae aj f.em)/\w.cell? ⟨g,1,OJ⟩=OH (Pl f.G f.gn f.gc)/\w.cell? ⟨g,2,OJ⟩=OH (Pl f.M f.mn f.mc)/\w.cell? ⟨g,3,OJ⟩=OH (Pl f.L f.ln f.lc)/\w.cell? ⟨g,4,OJ⟩=OH (Pl f.F f.fn f.fc)/\w.cell? ⟨g,5,OJ⟩=OH (Pl f.S f.sn f.sc)/\w.cell? ⟨g,6,OJ⟩=OH (ae aj (u:Int)):=
 ⟨h.bx.cell 0,h.bx.cell 1,h.bx.cell 2,h.bx.cell 3,h.bx.cell 4,h.bx.cell 5,h.bx.cell 6⟩
def Bx.ky(h:Bx w b cs)(d:b≠g)(c:dk g w w'):Bx w' b cs:=by
 have a:=h.lt;obtain⟨t,h⟩:=h;exact⟨t,(c.block b a d).trans h⟩
def bO.ky(h:bO w w.heap.size k A n xs)(l:mI g A n)(a:dk g w w'):bO w' w'.heap.size k A n xs:=⟨h.1,λb=>by
 obtain⟨c,d,m,e⟩:=h.2 b;have:=a.size;exact⟨c,d,aq,λj i=>a.cell (e j i) (by rw[aL];exact l b c d)⟩⟩
def Own.Al(h:Own w B e k A n c xs)(l:g<B):mI g A n:=λd o a=>by
 obtain⟨b,i,m,_⟩:=aA.form h d;rw[i]at a;have j:=Option.some.inj a;rw[<-j];show b≠g;omega
end
def RL.ky{w w':EE}{g k:Nat}(h:RL w w.heap.size k L A n)(t:mI g A n)(d:dk g w w'):RL w' w'.heap.size k L A n:=by
 obtain⟨gs,i,m,o,l⟩:=h;refine⟨gs,i,m,o,λb=> ?_⟩;obtain⟨e,c,a,p⟩:=l b;exact⟨e,c,Nat.lt_of_lt_of_le a d.size,λj r s q x v=>d.cell (p j r s q x v) (by rw[aL,aL];exact t b e c)⟩
structure Bu(w:EE)(g:Nat)(Q:List aC->Prop)(A:aB)(n c:Nat):Prop where
 gl:lF w Q A n
 ni:mI g A n
 nc:n<=c
 nn:n<=16384
def Bu.ky{w w':EE}{g:Nat}{Q:List aC->Prop}(h:Bu w g Q A n c)(a:dk g w w'):Bu w' g Q A n c:=⟨h.gl.ky h.ni a,h.ni,h.nc,h.nn⟩
def Bu.own{w:EE}{g:Nat}{Q:List aC->Prop}(h:iZ w B Q A n c)(b:g<B)(a:n<=16384):Bu w g Q A n c:=⟨h.rl aq,h.o.Al b,h.le,a⟩
def PCo(w:EE)(g:Nat)(u:Nat)(A:aB)(n c:Nat)(x:Int)(b:Bool)(e:IS)(w':EE):Prop:=
 (b=OX/\n<=16384/\e=RE (P8 #[Pl A n c,ae aj x,PF OX])/\w'=w.setCell ⟨g,6,OJ⟩ (ae aj ((u:Int)+1)))∨(e=RE (P8 #[Pl OJ 0 0,ae aj 0,PF OZ])/\w'=w)
def nC(g:Nat)(f:dv)(u:Nat)(A:aB)(n c:Nat)(x:Int)(b:Bool)(w:EE)(h:Mc w g f u):GK prog 313 #[PK (OH ⟨g,0,OJ⟩),Pl A n c,ae aj x,PF b] w (PCo w g u A n c x b):=by
 obtain⟨m,k,j,l,o,i,e⟩:=h.m7;have p:=h.hu;have f6:=h.bx.fz 6;cases b
 .go_enter func313,ntmps313
  go_wp2;go_ret3;exact .inr ⟨rfl,rfl⟩
 .by_cases d:n<=16384
  .have a:¬((16384:Int)<(n:Int)):=by omega
   go_enter func313,ntmps313;go_wp2;go_ret3;exact .inl ⟨rfl,d,rfl,rfl⟩
  .have a:((16384:Int)<(n:Int)):=by omega
   go_enter func313,ntmps313;go_wp2;go_ret3;exact .inr ⟨rfl,rfl⟩
def TP(w:EE)(g:Nat)(f:dv)(u:Nat)(Q:List aC->Prop)(n:Nat)(at_:Int)(d:Prop)(e:IS)(w':EE):Prop:=∃(A:aB) (m c x:Nat) (b:Bool) (a:Nat),e=RE (P8 #[Pl A m c,ae aj (x:Int),PF b])/\u<=a/\Mc w' g f a/\dk g w w'/\
 (b=OX->u<a/\Bu w' g Q A m c/\(d->m=n)/\x<=1000000/\0<=at_/\at_<n)
def Rev(w:EE)(f:dv)(c:Int):Prop:=∀(j:Nat) (a:Addr) (b:Int),c=j->j<f.ln->f.L=OH a->w.cell? (a.add (j*4))=OH (ae aj b)->b=5
def uH(d:Nat):Prop:=∀(g:Nat) (f:dv) (u:Nat) (lo hi:Int) (a at_:Int) (A:aB) (n c:Nat) (b:Prop) (w:EE),Mc w g f u->Bu w g (bI lo hi) A n c->(b->Rev w f a)->
 GK prog 297 #[PK (OH ⟨g,0,OJ⟩),ae aj a,Pl A n c,ae aj at_,ae aj (d:Int)] w (TP w g f u (bI lo hi) n at_ b)
def PNe(w:EE)(g:Nat)(f:dv)(u:Nat)(Q:List aC->Prop)(e:IS)(w':EE):Prop:=∃(A:aB) (m c a:Nat),e=RE (Pl A m c)/\u<=a/\Mc w' g f a/\dk g w w'/\Bu w' g Q A m c
def Vz(d:Nat)(H:uH (d+1))(g:Nat)(f:dv)(u:Nat)(lo hi:Int)(A:aB)(n c:Nat)(U:aB)(j T:Nat)(P:aB)(m k:Nat)(xs:aC)(w:EE)(h:Mc w g f u)(hl:Bu w g (bI lo hi) A n c)(Z:cU w g As U j T)(hP:bO w w.heap.size .i64 P m xs)(Q:mI g P m)(hm:m<=60000)(hd:d<=8):
 GK prog 332 #[PK (OH ⟨g,0,OJ⟩),Pl A n c,Pl U j T,Pl P m k,ae aj (d:Int)] w (PNe w g f u (bI lo hi)):=by
 have⟨HO,M,l,RN,s,t⟩:=NT H h hl Z hP Q;have hnn:=Z.bd;have hgs:=h.bx.lt;go_enter func332,ntmps332;go_wp2;go_loopg[1,3,11,12,13,14,15](j+1)(λgg v1 v3 K _ _ _ _ wr=>∃(i:Nat) (A:aB) (n c o:Nat) (P:aB) (k:Nat) (xs:aC),j-i<gg/\i<=j/\v1=Pl A n c/\v3=Pl P m k/\K=ae aj (i:Int)/\u<=o/\ak (Mc wr g f o)/\ak (dk g w wr)/\ak (Bu wr g (bI lo hi) A n c)/\ak (bO wr wr.heap.size .i64 P m xs)/\ak (mI g P m))
 .exact⟨0,A,n,c,u,P,k,xs,aq,aq,rfl,rfl,rfl,aq,M,⟨dk.refl _ _⟩,l,s,t⟩
 obtain⟨i,A,n,c,o,P,k,xs,hg,Zv,rfl,rfl,rfl,r,M,B,l,s,t⟩:=hrel;by_cases G:i<j
 .obtain⟨ad,y,z,rfl,e0,e1⟩:=yP (RN.o.Z (B.o.below cr aq) cr) G
  have i4:=aU i j;by_cases hy0:y<0
  .go_wp2
   go_roundg(j-i)
   .exact⟨i+1,A,n,c,o,P,k,xs,aq,aq,rfl,rfl,aV,r,M,B,l,s,t⟩
   omega
  obtain⟨a,rfl⟩:∃a:Nat,y=(a:Int):=⟨y.toNat,aq⟩;by_cases N:a<m;rotate_left
  .have h1:((m:Int)<=(a:Int)):=by omega
   go_wp2;go_roundg(j-i)
   .exact⟨i+1,A,n,c,o,P,k,xs,aq,aq,rfl,rfl,aV,r,M,B,l,s,t⟩
   omega
  have h1:¬((m:Int)<=(a:Int)):=aq;have h2:((a:Int)<(m:Int)):=aq;obtain⟨v,rfl,p0⟩:=s.o.iC N;generalize nth xs a=p at*;go_wp2_with fail;refine(HO.o g f o lo hi z p A n c False wr M.o l.o (λh=>h.elim)).mono ?_;rintro e w1 ⟨A1,V,c1,x1,b,u1,rfl,hu1,hM,D,X⟩;have⟨R,Y,O,x⟩:=MQ hM (B.o.trans D) (l.o.ky D) (s.o.ky t.o D);cases b
  .clear X D
   go_wp2;go_roundg(j-i)
   .exact⟨i+1,A,n,c,u1,OH v,k,xs,aq,aq,rfl,rfl,aV,aq,R,Y,O,x,t⟩
   omega
  .obtain⟨hu2,C,_,_,Di,XM⟩:=X rfl
   have J:=sH C;obtain⟨q,rfl⟩:∃q:Nat,p=(q:Int):=⟨p.toNat,aq⟩;have W:=l.o.nn;have Ja:=C.nn;go_wp2_with fail;refine(Xy (OH v) m k xs q n V w1 x.o aq aq aq aq).mono ?_;rintro e w2 ⟨A2,c2,ys,rfl,S,L⟩;have⟨M2,B2,I,F,E⟩:=MR (R.o.Z L) (Y.o.trans (dk.of L)) (J.o.ky (dk.of L)) S.ints (S.Al R.o.bx.lt);go_wp2;go_roundg(j-i)
   .exact⟨i+1,A1,V,c1,u1,A2,c2,ys,aq,aq,rfl,rfl,aV,aq,M2,B2,I,F,E⟩
   omega
 .go_wp2
  go_ret;exact⟨_,_,_,o,rfl,r,M.o,B.o,l.o⟩
def ZMa(N n g:Nat):Sat:=⟨λv w=>∃(i:Nat) (A:aB) (m c:Nat) (b:Bool),v=P8 #[ae aj (i:Int),Pl A m c,PF b]/\(b=OX->i<g/\Ha w N n A m c),λv w h ⟨i,A,m,c,b,f,a⟩ d=>⟨i,A,m,c,b,f,λe=>⟨(a e).1,(a e).2.ar d⟩⟩⟩
def ZMa.get{d:Nat}{b:Bool}(h:(ZMa N n d).p (P8 #[ae aj (i:Int),Pl A m c,PF b]) w):b=OX->i<d/\Ha w N n A m c:=by
 obtain⟨g,q,p,c',o,e,h⟩:=h;simp at e;obtain⟨r,⟨l,k,j⟩,f⟩:=e;have a:i=g:=aq;subst a;subst l;subst k;subst j;subst f
 exact h
def ny.more{a:Nat}{k:Lk}(h:ny w B k)(b:B<=a):ny w a k:=h.Z (Below.refl _ _) b
def J4(d:Nat)(H:uH (d+1))(g:Nat)(f:dv)(u:Nat)(k:Lk)(lo hi:Int)(A:aB)(n c at_:Nat)(w:EE)(h:Mc w g f u)(hk:ny w g k)(S:Bu w g (bI lo hi) A n c)(ha:at_<n)(hd:d<=8)(hu:u<65536):
 GK prog 315 #[PK (OH ⟨g,0,OJ⟩),k.v,Pl A n c,ae aj (at_:Int),ae aj (d:Int)] w (TP w g f u (bI lo hi) n (at_:Int) False):=by
 have⟨r,aP,Q,T⟩:=box1 w k.row 175;have HO:=sH H;have M:ak (Mc r g f u):=⟨h.Z Q.o⟩;have RK:ak (ny r g k):=⟨hk.Z (Q.o.mono (Nat.le_of_lt h.bx.lt)) cr⟩;have BL:ak (Bu r g (bI lo hi) A n c):=⟨S.ky (dk.of Q.o)⟩;have hgs:=h.bx.lt;have iW:=Q.o.size;have hn:=S.nn;have F:w.heap.size+1=r.heap.size:=oW;obtain⟨m0,m1,m2,m3,m4,m5,b⟩:=M.o.m7;have⟨U,d1,d2,D⟩:=T.o.k4;clear H h hk S;go_enter func315,ntmps315;go_wp2;rw[<-aP];clear aP;have⟨L0,L1,L2,L3,L4,L5,M0,M1⟩:=lc8 m0 m1 m2 m3 m4 m5 U d1;have⟨M2,Y⟩:=lc2 d2 D;clear m0 m1 m2 m3 m4 m5 b U d1 d2 D;refine bm (jD 26 (ZMa r.heap.size n k.sn)) aF aF ?_;refine mLw ?_;refine lwA (ZMa r.heap.size n k.sn) (λa=> ?_) (λv9 aX=> ?_)
 .go_simp
  have bq:=dk.of (g:=g) a.2;refine aZ (ZMa r.heap.size n k.sn) ((Ht f k (Lq lo hi) A n c at_ a.1 (M.o.Z a.2).fnt ((RK.o.more aq).Z a.2 a.2.size) (BL.o.ky bq).gl.jB aq ha).mono ?_);rintro e w5 ⟨i,A6,b,c6,b6,rfl,h6,hb⟩;exact⟨_,rfl,⟨i,A6,b,c6,b6,rfl,λe=>⟨(h6 e).1,(h6 e).2.cS a.2.size⟩⟩,hb⟩
 obtain⟨_,_,i,A6,b,c6,b6,rfl,_⟩:=aX;simp[Act.put];refine mLw ?_;intro a hE;have q:=ZMa.get hE;have K:ak (Mc a.1 g f u):=⟨M.o.Z a.2⟩;have BN:ak (dk g w a.1):=⟨(dk.of Q.o).trans (dk.of a.2)⟩;have O:=sH (BL.o.ky (dk.of (g:=g) a.2));have N:ak (ny a.1 g k):=⟨RK.o.Z (a.2.mono aq) cr⟩;have XN:ak (Bx a.1 w.heap.size k.row):=⟨T.o.ar a.2 T.o.lt⟩;have X:r.heap.size<=a.1.heap.size:=a.2.size;have⟨w2,v⟩:=eX a.1;rw[<-v]at K BN O q N XN X
 try dsimp only
 rw[<-v];clear v hE L0 L1 L2 L3 L4 L5 M0 M1 M2 Y M BL T RK;cases b6
 .clear q
  go_wp2;go_ret3;exact⟨OJ,0,0,0,OZ,u,rfl,Nat.le_refl _,K.o,BN.o,aT⟩
 obtain⟨ux,xs,Ja,Um,z,B⟩:=q rfl;obtain⟨C,rfl,ahq,ahh⟩:=aA.form z aq;obtain⟨L,hL,hLn⟩:∃L:Nat,nth xs (b-1)=L/\L<n:=by
  have S:=z.len;have:=B (nth xs (b-1)) Cw;exact⟨(nth xs (b-1)).toNat,aq,aq⟩
 have I:=bU z (show b-1<b by omega);rw[hL]at I;have em:(((b:Int)-1)=((b-1:Nat):Int)):=aq;have i4:((b-1:Nat):Int)<(b:Int):=aq;obtain⟨q0,q1,q2,q3,q4,q5,q6⟩:=K.o.m7;have f6:=K.o.bx.fz 6;have⟨l,y⟩:=eX (w2.setCell ⟨g,6,OJ⟩ (ae aj ((u:Int)+1)));have s:dk g w2 l:=by rw[y];exact(dk.refl _ _).set 6 _
 have Y:ak (Mc l g f (u+1)):=⟨by rw[y];exact K.o.set hu⟩;have B3:ak (dk g w l):=⟨BN.o.trans s⟩;have Z:=sH (O.o.ky s);have IP:ak (bO l l.heap.size .i64 (OH ⟨C,0,OJ⟩) b xs):=⟨z.ints.ky (z.Al aq) s⟩;have NP:ak (mI g (OH ⟨C,0,OJ⟩) b):=⟨z.Al aq⟩;have Mq:ak (ny l g k):=⟨N.o.Z (s.below cr aq) cr⟩;have X3:ak (Bx l w.heap.size k.row):=⟨XN.o.ky aq s⟩;have p3:=s.cell I (by show C≠g;omega);have sS:=s.size;have p00:=sH I;clear q z B hL s q0 q1 q2 q3 q4 q5 I p3;have W:(0:Int)<=(L:Int)/\(L:Int)<n/\(n:Int)<=16384:=aq;have KX:ak (∀j,az l j->∃(m:Addr) (x:Sb),nH j g x/\j.cell? ⟨w.heap.size,3,OJ⟩=OH (Pl (OH m) k.sn k.sc)/\j.cell? (bX (m.add (i*12)) 6)=OH (Pl x.N x.nn x.nc)):=⟨λj E=>by
  have⟨U,d1,d2,D⟩:=(X3.o.ar E X3.o.lt).k4;have V:ny j g k:=Mq.o.Z (E.mono aq) cr;obtain⟨m,x,eS,B,_,_,_,_,_,_,e6,_⟩:=ko V.rS ux;rw[eS]at D;exact⟨m,x,B,D,e6⟩⟩
 have i5:(i:Int)<(k.sn:Int):=aq;have fh:¬C=g:=aq;have G:¬g=C:=aq;have I:=p00.o;clear F W G;go_wp2_with (at_builtin;rw[<-y];refine cL (L':=bI lo hi) pT rfl (.tmp 50) (.tmp 51) rfl rfl (OL.nil (L:=λxs=>xs=[]) l l.heap.size _ _ rfl) rfl Z.o.gl (λxs ys _ _ _ _ h1 h2=>Dd) aq cr ?_;intro A7 c7 j o7 E;have O7:=sH o7;have B7:ak (az l j):=⟨E⟩;obtain⟨m,x,B,D,e6⟩:=KX.o j E;have HX:=sH B;clear o7 E B);have M7:ak (Mc j g f (u+1)):=⟨Y.o.Z B7.o⟩;have BL7:ak (Bu j g (bI lo hi) A7 n c7):=⟨by
  have o:=O7.o;rw[Nat.zero_add]at o;exact Bu.own o aq hn⟩
 have B7g:ak (dk g w j):=⟨B3.o.trans (dk.of B7.o)⟩;have IP7:=sH (IP.o.Z B7.o);refine(Vz d HO.o g f (u+1) lo hi A7 n c7 x.N x.nn x.nc (OH ⟨C,0,OJ⟩) b c6 xs j M7.o BL7.o HX.o.rN IP7.o NP.o aq hd).mono ?_;rintro e w8 ⟨A8,t,c8,u8,rfl,hu8,P,J,p⟩;have M8:=sH P;have B8:ak (dk g w w8):=⟨B7g.o.trans J⟩;have R:=sH p;have hn8:=p.nn;clear P J p;by_cases hmx:(at_:Int)<(t:Int)-((n:Int)-(L:Int)-1)
 .go_wp2
  go_ret3;exact⟨A8,t,c8,t-(n-L-1),OX,u8,by show Ending.returned (P8 #[Pl A8 t c8,ae aj ((t:Int)-((n:Int)-(L:Int)-1)),PF OX])=_;rw[show((t-(n-L-1):Nat):Int)=(t:Int)-((n:Int)-(L:Int)-1) by omega],aq,M8.o,B8.o,λ_=>⟨aq,R.o,λh=>h.elim,aq,aq,aq⟩⟩
 .go_wp2
  go_ret3;exact⟨A8,t,c8,at_,OX,u8,rfl,aq,M8.o,B8.o,λ_=>⟨aq,R.o,λh=>h.elim,aq,aq,aq⟩⟩
def Gy(B:Nat)(Q:List aC->Prop)(N:Nat):Sat:=⟨λv w=>∃(A:aB) (m c x:Nat) (b:Bool),v=P8 #[Pl A m c,ae aj (x:Int),PF b]/\(b=OX->m<=N/\x<=1000000/\iZ w B Q A m c),λv w g ⟨A,m,c,x,b,f,a⟩ d=>⟨A,m,c,x,b,f,λe=>⟨(a e).1,(a e).2.1,(a e).2.2.ar d⟩⟩⟩
def Gy.get{Q:List aC->Prop}{x:Nat}{b:Bool}(h:(Gy B Q N).p (P8 #[Pl A m c,ae aj (x:Int),PF b]) w):b=OX->m<=N/\x<=1000000/\iZ w B Q A m c:=by
 obtain⟨n,l,c',d,k,e,h⟩:=h;simp at e;obtain⟨⟨j,i,g⟩,o,f⟩:=e;have a:x=d:=aq;subst a;subst j;subst i;subst g;subst f
 exact h
def ZRp(B:Nat)(Q:List aC->Prop)(n:Nat):Sat:=⟨λv w=>∃(A:aB) (c:Nat) (b:Bool),v=P8 #[Pl A n c,PF b]/\iZ w B Q A n c,λv w f ⟨A,c,b,d,e⟩ a=>⟨A,c,b,d,e.ar a⟩⟩
def ZRp.get{Q:List aC->Prop}{b:Bool}(h:(ZRp B Q n).p (P8 #[Pl A n c,PF b]) w):iZ w B Q A n c:=by
 obtain⟨g,c',i,e,h⟩:=h;simp at e;obtain⟨⟨d,f⟩,a⟩:=e;subst d;subst f;subst a
 exact h
def TP.imp{Q:List aC->Prop}{at_:Int}{d rv':Prop}{e:IS}{i:EE}(h:TP w g f u Q n at_ d e i)(p:rv'->d):TP w g f u Q n at_ rv' e i:=by
 obtain⟨A,m,c,x,b,q,l,o,k,j,a⟩:=h;exact⟨A,m,c,x,b,q,l,o,k,j,λe=>⟨(a e).1,(a e).2.1,λr=>(a e).2.2.1 (p r),(a e).2.2.2⟩⟩
def TP.Z{d:EE}{Q:List aC->Prop}{at_:Int}{a:Prop}{e:IS}{i:EE}(h:TP d g f u Q n at_ a e i)(l:dk g w d):TP w g f u Q n at_ a e i:=by
 obtain⟨A,m,c,x,b,r,p,q,k,j,o⟩:=h;exact⟨A,m,c,x,b,r,p,q,k,l.trans j,o⟩
def lP{a:EE}{Q:List aC->Prop}{at_:Int}{c:Prop}(h:Mc a g f u)(b:dk g w a):TP w g f u Q n at_ c (RE (P8 #[Pl OJ 0 0,ae aj 0,PF OZ])) a:=
 ⟨OJ,0,0,0,OZ,u,rfl,Nat.le_refl _,h,b,aT⟩
def x'(s:G:=by
 have hx6:=(OE.o rfl).2.1
 have BU:=(Bu.own (OE.o rfl).2.2 aq hm).ky ((dk.refl g w4).set 6 (ae aj ((u:Int)+1)));have BS:=sH BU;clear BU;go_wp2;go_ret3;exact⟨A6,m6,c6,x6,OX,u+1,rfl,aq,MN.o.set h6,B4.o.set 6 _,λ_=>⟨aq,BS.o,λr=>by have:=HK5.o r;omega,hx6,aq,aq⟩⟩):G:=s
def Zb(s:G:=by
 go_wp2
 go_ret3;exact lP MN.o B4.o):G:=s
def kT(d:Nat)(hd:d<=9)(H:d<=8->uH (d+1)):uH d:=by
 intro g f u lo hi lk at_ A n c rv w h hl hr;have⟨HO,M,BL,RV⟩:=MQ H h hl hr;have hn:=hl.nn;have hgs:=h.bx.lt;have hu:=h.hu;have vC:=h.fr.rL.bd;clear H h hl hr;obtain⟨m0,m1,m2,m3,m4,m5,m6⟩:=M.o.m7;by_cases h1:lk<0
 .go_enter func297,ntmps297
  go_wp2;go_ret3;exact lP M.o (dk.refl _ _)
 obtain⟨j,rfl⟩:∃j:Nat,lk=(j:Int):=⟨lk.toNat,aq⟩;by_cases h2:j<f.ln;rotate_left
 .have Eb:(f.ln:Int)<=(j:Int):=by omega
  go_enter func297,ntmps297;go_wp2;go_ret3;exact lP M.o (dk.refl _ _)
 have Eb:¬(f.ln:Int)<=(j:Int):=aq;by_cases h3:at_<0
 .go_enter func297,ntmps297
  go_wp2;go_ret3;exact lP M.o (dk.refl _ _)
 obtain⟨a,rfl⟩:∃a:Nat,at_=(a:Int):=⟨at_.toNat,aq⟩;by_cases h4:a<n;rotate_left
 .have Yo:(n:Int)<=(a:Int):=by omega
  go_enter func297,ntmps297;go_wp2;go_ret3;exact lP M.o (dk.refl _ _)
 have Yo:¬(n:Int)<=(a:Int):=aq;by_cases h5:d<=8;rotate_left
 .have h5':=aU 8 d
  go_enter func297,ntmps297;go_wp2;go_ret3;exact lP M.o (dk.refl _ _)
 have h5':=cI 8 d;by_cases h6:u<65536;rotate_left
 .have h6':(65536:Int)<=(u:Int):=by omega
  go_enter func297,ntmps297;go_wp2;go_ret3;exact lP M.o (dk.refl _ _)
 have h6':¬(65536:Int)<=(u:Int):=aq;clear h1 h3;obtain⟨I,k,eL,hk,e0,e1,e2,e3⟩:=ru M.o.fr.rL h2;have KC:ak (FK w g k):=⟨M.o.ls.at h2 eL e0 e1 e2 e3⟩;have RK:ak (ny w g k):=⟨hk⟩;have HK5:ak (rv->k.kind=5):=⟨λr=>RV.o r j I k.kind rfl h2 eL e0⟩;obtain⟨Q,G,gn,V,Z,T,X,L,D,W,F,U,R,S,P,Y⟩:=f;obtain⟨O,fl,st,KS,t,s⟩:=k;dsimp only at*;subst eL;have⟨W2,cg⟩:=eX (w.alloc (RM (Lk.row ⟨O,fl,st,KS,t,s⟩) 175));have B2:ak (az w W2):=⟨jT⟩;have X2:ak (Bx W2 w.heap.size (Lk.row ⟨O,fl,st,KS,t,s⟩)):=⟨lY⟩;have gz:W2.heap.size=w.heap.size+1:=by rw[cg];simp
 have⟨M2,Xf⟩:=K' (M.o.Z B2.o) (BL.o.ky (dk.of B2.o));have nK:=aU j D;have KM:=aU a n;go_enter func297,ntmps297;go_wp2;rw[<-cg];clear cg m0 m1 m2 m3 m4 m5 m6 e0 e1 e2 e3;obtain⟨m0,m1,m2,m3,m4,m5,m6⟩:=M2.o.m7;have⟨m,p,o,q⟩:=X2.o.k4;dsimp only at m0 m1 m2 m3 m4 m5 m6 m p o q;obtain⟨qS,x0,x1,x2,x3,x4,x5,x6,x7,x8,x9,rfl,hQ,y,_⟩:=Xf.o.gl.jB.bK h4;have⟨L0,L1,L2,L3,L4,L5,M0,M1⟩:=lc8 m0 m1 m2 m3 m4 m5 m p;have⟨x,M3,LQ⟩:=lc3 o q y;clear m0 m1 m2 m3 m4 m5 m6 m p o q y hQ;refine aE (kC 73 SB) aF aF ?_
 repeat(refine cB aD aD aD ?_;intro K9 bQ;go_big_quiet_op;go_big_quiet_on)
 refine lsA SB (λnq=> ?_) (λv9 v=> ?_)
 .go_simp
  exact bP (pO ⟨Q,G,gn,V,Z,T,X,OH I,D,W,F,U,R,S,P,Y⟩ ⟨O,fl,st,KS,t,s⟩ x0 nq.1 (M2.o.Z nq.2).fnt)
 obtain⟨b,rfl⟩:=v;simp[Act.put]
 repeat(refine cB aD aD aD ?_;intro K9 bQ;go_big_quiet_op;go_big_quiet_on)
 intro nq;obtain⟨C,bq⟩:=nq;have l:=sH (M2.o.Z bq);have B3:ak (dk g w C):=⟨(dk.of B2.o).trans (dk.of bq)⟩;have z:=sH (Xf.o.ky (dk.of (g:=g) bq));have X3:=sH (X2.o.ar bq X2.o.lt);have sS:=bq.size;have Mq:ak (ny C g ⟨O,fl,st,KS,t,s⟩):=⟨RK.o.Z (B3.o.below cr aq) cr⟩;have KC3:ak (FK C g ⟨O,fl,st,KS,t,s⟩):=⟨KC.o.Z (B3.o.below cr aq) cr⟩
 try dsimp only
 clear bq L0 L1 L2 L3 L4 L5 M0 M1 x M3 LQ M2 Xf X2 RK KC;cases b;rotate_left
 .go_wp2
  go_ret3;exact lP l.o B3.o
 have Gq:O=1∨O=2∨O=3∨O=4∨O=5∨((O==1)=OZ/\(O==2)=OZ/\(O==3)=OZ/\(O==4)=OZ/\(O==5)=OZ):=br;have hn3:w.heap.size+1<=C.heap.size:=aq;rcases Gq with rfl|rfl|rfl|rfl|rfl|⟨k1,k2,k3,k4,k5⟩
 .obtain⟨y,N,E,K,q4,J,q6⟩:=l.o.m7
  have⟨m,p,o,q⟩:=X3.o.k4;dsimp only at y N E K q4 J q6 m p o q;go_wp2;have⟨L0,L1,L2,L3,L4,L5,M0,M1⟩:=lc8 y N E K q4 J m p;have⟨x,M3⟩:=lc2 o q;clear y N E K q4 J q6 m p o q;refine bm (jD 87 (Gy C.heap.size (bI lo hi) (n+16))) aF aF ?_;refine mLw ?_;refine lwA (Gy C.heap.size (bI lo hi) (n+16)) (λnq=> ?_) (λv9 v=> ?_)
  .go_simp
   refine aZ (Gy C.heap.size (bI lo hi) (n+16)) ((Ho ⟨Q,G,gn,V,Z,T,X,OH I,D,W,F,U,R,S,P,Y⟩ ⟨1,fl,st,KS,t,s⟩ lo hi (OH qS) n c a nq.1 (l.o.Z nq.2).fnt ((Mq.o.Z (nq.2.mono aq) cr).more Cz) ((KC3.o.Z (nq.2.mono aq) cr).Z (Below.refl _ _) Cz) (z.o.ky (dk.of (g:=g) nq.2)).gl aq h4 z.o.nc).mono ?_);rintro e w5 ⟨A6,m6,c6,x6,B,rfl,h6,hb⟩;exact⟨_,rfl,⟨A6,m6,c6,x6,B,rfl,λe=>⟨by have:=(h6 e).1;omega,(h6 e).2.1,(h6 e).2.2.cS nq.2.size⟩⟩,hb⟩
  obtain⟨_,_,A6,m6,c6,x6,B,rfl,_⟩:=v;simp[Act.put];refine mLw ?_;intro nq hE;have OE:=sH (Gy.get hE);have MN:ak (Mc nq.1 g ⟨Q,G,gn,V,Z,T,X,OH I,D,W,F,U,R,S,P,Y⟩ u):=⟨l.o.Z nq.2⟩;have B4:ak (dk g w nq.1):=⟨B3.o.trans (dk.of nq.2)⟩;have⟨w4,i⟩:=eX nq.1;rw[<-i]at MN B4 OE
  try dsimp only
  rw[<-i];clear i hE L0 L1 L2 L3 L4 L5 M0 M1 x M3;go_wp2_with fail;refine(nC g ⟨Q,G,gn,V,Z,T,X,OH I,D,W,F,U,R,S,P,Y⟩ u A6 m6 c6 (x6:Int) B w4 MN.o).mono ?_;rintro e w5 (⟨rfl,hm,rfl,rfl⟩|⟨rfl,rfl⟩)
  .exact x'
  .exact Zb
 .obtain⟨y,N,E,K,q4,J,q6⟩:=l.o.m7
  have⟨m,p,o,q⟩:=X3.o.k4;dsimp only at y N E K q4 J q6 m p o q;go_wp2;have⟨L0,L1,L2,L3,L4,L5,M0,M1⟩:=lc8 y N E K q4 J m p;have⟨x,M3⟩:=lc2 o q;clear y N E K q4 J q6 m p o q;refine bm (jD 87 (Gy C.heap.size (bI lo hi) (n+16))) aF aF ?_;refine mLw ?_;refine lwA (Gy C.heap.size (bI lo hi) (n+16)) (λnq=> ?_) (λv9 v=> ?_)
  .go_simp
   refine aZ (Gy C.heap.size (bI lo hi) (n+16)) ((Ho ⟨Q,G,gn,V,Z,T,X,OH I,D,W,F,U,R,S,P,Y⟩ ⟨2,fl,st,KS,t,s⟩ lo hi (OH qS) n c a nq.1 (l.o.Z nq.2).fnt ((Mq.o.Z (nq.2.mono aq) cr).more Cz) ((KC3.o.Z (nq.2.mono aq) cr).Z (Below.refl _ _) Cz) (z.o.ky (dk.of (g:=g) nq.2)).gl aq h4 z.o.nc).mono ?_);rintro e w5 ⟨A6,m6,c6,x6,B,rfl,h6,hb⟩;exact⟨_,rfl,⟨A6,m6,c6,x6,B,rfl,λe=>⟨by have:=(h6 e).1;omega,(h6 e).2.1,(h6 e).2.2.cS nq.2.size⟩⟩,hb⟩
  obtain⟨_,_,A6,m6,c6,x6,B,rfl,_⟩:=v;simp[Act.put];refine mLw ?_;intro nq hE;have OE:=sH (Gy.get hE);have MN:ak (Mc nq.1 g ⟨Q,G,gn,V,Z,T,X,OH I,D,W,F,U,R,S,P,Y⟩ u):=⟨l.o.Z nq.2⟩;have B4:ak (dk g w nq.1):=⟨B3.o.trans (dk.of nq.2)⟩;have⟨w4,i⟩:=eX nq.1;rw[<-i]at MN B4 OE
  try dsimp only
  rw[<-i];clear i hE L0 L1 L2 L3 L4 L5 M0 M1 x M3;go_wp2_with fail;refine(nC g ⟨Q,G,gn,V,Z,T,X,OH I,D,W,F,U,R,S,P,Y⟩ u A6 m6 c6 (x6:Int) B w4 MN.o).mono ?_;rintro e w5 (⟨rfl,hm,rfl,rfl⟩|⟨rfl,rfl⟩)
  .exact x'
  .exact Zb
 .obtain⟨y,N,E,K,q4,J,q6⟩:=l.o.m7
  have⟨m,p,o,q⟩:=X3.o.k4;dsimp only at y N E K q4 J q6 m p o q;go_wp2;have⟨L0,L1,L2,L3,L4,L5,M0,M1⟩:=lc8 y N E K q4 J m p;have⟨x,M3⟩:=lc2 o q;clear y N E K q4 J q6 m p o q;refine bm (jD 109 (Gy C.heap.size (bI lo hi) (n+16))) aF aF ?_;refine mLw ?_;refine lwA (Gy C.heap.size (bI lo hi) (n+16)) (λnq=> ?_) (λv9 v=> ?_)
  .go_simp
   refine aZ (Gy C.heap.size (bI lo hi) (n+16)) ((Vl ⟨Q,G,gn,V,Z,T,X,OH I,D,W,F,U,R,S,P,Y⟩ ⟨3,fl,st,KS,t,s⟩ lo hi (OH qS) n c a nq.1 (l.o.Z nq.2).fnt ((Mq.o.Z (nq.2.mono aq) cr).more Cz) (z.o.ky (dk.of (g:=g) nq.2)).gl aq h4 z.o.nc).mono ?_);rintro e w5 ⟨A6,m6,c6,x6,B,rfl,h6,hb⟩;exact⟨_,rfl,⟨A6,m6,c6,x6,B,rfl,λe=>⟨by have:=(h6 e).1;omega,(h6 e).2.1,(h6 e).2.2.cS nq.2.size⟩⟩,hb⟩
  obtain⟨_,_,A6,m6,c6,x6,B,rfl,_⟩:=v;simp[Act.put];refine mLw ?_;intro nq hE;have OE:=sH (Gy.get hE);have MN:ak (Mc nq.1 g ⟨Q,G,gn,V,Z,T,X,OH I,D,W,F,U,R,S,P,Y⟩ u):=⟨l.o.Z nq.2⟩;have B4:ak (dk g w nq.1):=⟨B3.o.trans (dk.of nq.2)⟩;have⟨w4,i⟩:=eX nq.1;rw[<-i]at MN B4 OE
  try dsimp only
  rw[<-i];clear i hE L0 L1 L2 L3 L4 L5 M0 M1 x M3;go_wp2_with fail;refine(nC g ⟨Q,G,gn,V,Z,T,X,OH I,D,W,F,U,R,S,P,Y⟩ u A6 m6 c6 (x6:Int) B w4 MN.o).mono ?_;rintro e w5 (⟨rfl,hm,rfl,rfl⟩|⟨rfl,rfl⟩)
  .exact x'
  .exact Zb
 .have CX:=sH (J4 d (HO.o h5) g ⟨Q,G,gn,V,Z,T,X,OH I,D,W,F,U,R,S,P,Y⟩ u ⟨4,fl,st,KS,t,s⟩ lo hi (OH qS) n c a C l.o Mq.o z.o h4 h5 h6)
  have⟨m,p,o,q⟩:=X3.o.k4;dsimp only at m p o q;go_wp2_with fail;refine CX.o.mono ?_;rintro e w5 hp;have hp2:=(hp.Z B3.o).imp (rv':=rv) (λr=>by have:=HK5.o r;omega);obtain⟨A6,m6,c6,x6,B,u6,rfl,g1,g2,g3,g4⟩:=hp2;have⟨PP,PB,PC⟩:=MO g2 g3 g4;clear hp g2 g3 g4 CX;go_wp2;go_ret3;exact⟨A6,m6,c6,x6,B,u6,rfl,g1,PP.o,PB.o,PC.o⟩
 .obtain⟨y,N,E,K,q4,J,q6⟩:=l.o.m7
  have⟨m,p,o,q⟩:=X3.o.k4;dsimp only at y N E K q4 J q6 m p o q;go_wp2;have⟨L0,L1,L2,L3,L4,L5,M0,M1⟩:=lc8 y N E K q4 J m p;have⟨x,M3⟩:=lc2 o q;clear y N E K q4 J q6 m p o q;refine bm (jD 142 (ZRp C.heap.size (bI lo hi) n)) aF aF ?_;refine mLw ?_;refine lwA (ZRp C.heap.size (bI lo hi) n) (λnq=> ?_) (λv9 v=> ?_)
  .go_simp
   refine aZ (ZRp C.heap.size (bI lo hi) n) ((Wc ⟨Q,G,gn,V,Z,T,X,OH I,D,W,F,U,R,S,P,Y⟩ ⟨5,fl,st,KS,t,s⟩ lo hi (OH qS) n c a nq.1 (l.o.Z nq.2).fnt ((Mq.o.Z (nq.2.mono aq) cr).more Cz) ((KC3.o.Z (nq.2.mono aq) cr).Z (Below.refl _ _) Cz) (z.o.ky (dk.of (g:=g) nq.2)).gl aq h4).mono ?_);rintro e w5 ⟨A6,c6,B,rfl,h6,hb⟩;exact⟨_,rfl,⟨A6,c6,B,rfl,h6.cS nq.2.size⟩,hb⟩
  obtain⟨_,_,A6,c6,B,rfl,_⟩:=v;simp[Act.put];refine mLw ?_;intro nq hE;have OE:=sH (ZRp.get hE);have MN:ak (Mc nq.1 g ⟨Q,G,gn,V,Z,T,X,OH I,D,W,F,U,R,S,P,Y⟩ u):=⟨l.o.Z nq.2⟩;have B4:ak (dk g w nq.1):=⟨B3.o.trans (dk.of nq.2)⟩;have⟨w4,i⟩:=eX nq.1;rw[<-i]at MN B4 OE
  try dsimp only
  rw[<-i];clear i hE L0 L1 L2 L3 L4 L5 M0 M1 x M3;go_wp2_with fail;refine(nC g ⟨Q,G,gn,V,Z,T,X,OH I,D,W,F,U,R,S,P,Y⟩ u A6 n c6 ((a:Int)+1) B w4 MN.o).mono ?_;rintro e w5 (⟨rfl,hm,rfl,rfl⟩|⟨rfl,rfl⟩)
  .have BU:=(Bu.own OE.o aq hm).ky ((dk.refl g w4).set 6 (ae aj ((u:Int)+1)))
   have BS:=sH BU;clear BU;go_wp2;go_ret3;exact⟨A6,n,c6,a+1,OX,u+1,rfl,aq,MN.o.set h6,B4.o.set 6 _,λ_=>⟨aq,BS.o,λ_=>rfl,aq,aq,aq⟩⟩
  .exact Zb
 .have⟨m,p,o,q⟩:=X3.o.k4
  dsimp only at m p o q;go_wp2;go_ret3;exact lP l.o B3.o
def AJ:uH 0:=
 kT 0 aq λ_=>kT 1 aq λ_=>kT 2 aq λ_=>kT 3 aq λ_=>kT 4 aq λ_=>kT 5 aq λ_=>kT 6 aq λ_=>kT 7 aq λ_=>kT 8 aq λ_=>kT 9 aq λh=>absurd h aq
def Rev.ky{m:EE}{e:Int}(h:Rev w f e)(k:Mc w g f u)(o:dk g w m):Rev m f e:=λj l n p q i d=>by
 obtain⟨a,c,b,_⟩:=k.fr.rL.2.2.2 aq;obtain rfl:l=a:=by rw[i]at c;exact Option.some.inj c
 have r:=k.bx.lt;rw[(o.below (Nat.le_refl g) aq).cell (by rw[aL];exact b)]at d;exact h j l n p q i d
def QG(g:Nat)(f:dv)(u:Nat)(lo hi:Int)(a o:Int)(A:aB)(n c:Nat)(w:EE)(h:Mc w g f u)(v:Bu w g (bI lo hi) A n c)(F:Rev w f a):
 GK prog 296 #[PK (OH ⟨g,0,OJ⟩),Q4 #[ae aj a,ae aj o],Pl A n c] w (PNe w g f u (bI lo hi)):=by
 have⟨d,aP⟩:=eX (w.alloc (RM #[ae aj a,ae aj o] 271));have l:az w d:=nR;have P:ak (Bx d w.heap.size #[ae aj a,ae aj o]):=⟨re⟩;have M:ak (Mc d g f u):=⟨h.Z l⟩;have j:ak (Bu d g (bI lo hi) A n c):=⟨v.ky (dk.of l)⟩;have U:ak (dk g w d):=⟨dk.of l⟩;have O:ak (Rev d f a):=⟨F.ky h (dk.of l)⟩;have W:=h.bx.lt;have hn:=v.nn;clear h v F l;go_enter func296,ntmps296;go_wp2;rw[<-aP];clear aP;go_loopg[2,7,8,9,10](n+1)(λgg v2 v7 _ _ _ wr=>∃(i:Nat) (A:aB) (c k:Nat),i<gg/\i<=n/\v2=Pl A n c/\v7=ae aj ((i:Int)-1)/\u<=k/\ak (Mc wr g f k)/\ak (dk g d wr)/\ak (Bu wr g (bI lo hi) A n c))
 .exact⟨n,A,c,u,aq,aq,rfl,aV,aq,M,⟨dk.refl _ _⟩,j⟩
 obtain⟨i,A,c,k,hg,X,rfl,rfl,y,t,q,j⟩:=hrel;have T:ak (dk g w wr):=⟨U.o.trans q.o⟩;rcases i with _|i
 .go_wp2
  go_ret;exact⟨_,_,_,k,rfl,y,t.o,T.o,j.o⟩
 .have G:(((i+1:Nat):Int)-1)=(i:Int):=by omega
  rw[G];clear G;have x:i<n:=aq;have i4:=aU i n;have i5:=gT i;have H:ak (Bx wr w.heap.size #[ae aj a,ae aj o]):=⟨P.o.ky aq q.o⟩;have R:wr.cell? ⟨w.heap.size,0,OJ⟩=OH (ae aj a):=H.o.cell 0;have K:wr.cell? ⟨w.heap.size,1,OJ⟩=OH (ae aj o):=H.o.cell 1;obtain⟨s,x0,x1,x2,x3,x4,x5,x6,x7,x8,x9,rfl,L,_,_,_,_,_,_,_,_,_,N⟩:=j.o.gl.jB.bK x;clear L;go_wp2;go_quiet (fail);go_wp2_with fail
  .refine(AJ g f k lo hi a (i:Int) (OH s) n c True _ (t.o.Z (aO (Below.refl _ _) _)) (j.o.ky (dk.of (aO (Below.refl _ _) _))) (λ_=>(O.o.ky M.o q.o).ky t.o (dk.of (aO (Below.refl _ _) _)))).mono ?_
   rintro e I ⟨Y,m1,S,Z,b,u1,rfl,Q,E,C,z⟩;have J:=sH E;have m:ak (dk g d I):=⟨q.o.trans ((dk.of (aO (Below.refl _ _) _)).trans C)⟩;have B:ak (Bu I g (bI lo hi) (OH s) n c):=⟨j.o.ky ((dk.of (aO (Below.refl _ _) _)).trans C)⟩;clear E C R K N;cases b
   .clear z
    go_wp2;go_roundg(i+1)
    .exact⟨i,OH s,c,u1,aq,aq,rfl,aV,aq,J,m,B⟩
    omega
   .obtain⟨V,r,p,_⟩:=z rfl
    obtain rfl:=p trivial;have D:=sH r;clear z r p;go_wp2;go_roundg(i+1)
    .exact⟨i,Y,S,u1,aq,aq,rfl,aV,aq,J,m,D⟩
    omega
  .go_roundg(i+1)
   case measure=>omega
   case rel=>exact⟨i,OH s,c,k,aq,aq,rfl,aV,aq,⟨t.o.Z (aO (Below.refl _ _) _)⟩,⟨q.o.trans (dk.of (aO (Below.refl _ _) _))⟩,⟨j.o.ky (dk.of (aO (Below.refl _ _) _))⟩⟩
def Qe(g:Nat)(f:dv)(u:Nat)(lo hi:Int)(y C:Int)(A:aB)(n c:Nat)(w:EE)(h:Mc w g f u)(T:Bu w g (bI lo hi) A n c):
 GK prog 259 #[PK (OH ⟨g,0,OJ⟩),Q4 #[ae aj y,ae aj C],Pl A n c] w (PNe w g f u (bI lo hi)):=by
 have⟨l,aP⟩:=eX (w.alloc (RM #[ae aj y,ae aj C] 271));have O:az w l:=nR;have P:ak (Bx l w.heap.size #[ae aj y,ae aj C]):=⟨re⟩;have M:ak (Mc l g f u):=⟨h.Z O⟩;have o:ak (Bu l g (bI lo hi) A n c):=⟨T.ky (dk.of O)⟩;have N:ak (dk g w l):=⟨dk.of O⟩;have hgs:=h.bx.lt;have hn:=T.nn;have vC:=h.fr.rL.bd;have s:l.cell? ⟨w.heap.size,0,OJ⟩=OH (ae aj y):=P.o.cell 0;have J:l.cell? ⟨w.heap.size,1,OJ⟩=OH (ae aj C):=P.o.cell 1;obtain⟨q0,q1,q2,K,q4,q5,q6⟩:=M.o.m7;clear h T O;by_cases h1:y<0
 .go_enter func259,ntmps259
  go_wp2;rw[<-aP];clear aP;go_quiet (fail);go_wp2;go_ret;exact⟨_,_,_,u,rfl,Nat.le_refl _,M.o.Z (aO (Below.refl _ _) _),N.o.trans (dk.of (aO (Below.refl _ _) _)),o.o.ky (dk.of (aO (Below.refl _ _) _))⟩
 obtain⟨j,rfl⟩:∃j:Nat,y=(j:Int):=⟨y.toNat,aq⟩;by_cases h2:j<f.ln;rotate_left
 .have H:(f.ln:Int)<=(j:Int):=by omega
  go_enter func259,ntmps259;go_wp2;rw[<-aP];clear aP;go_quiet (fail);go_wp2;go_ret;exact⟨_,_,_,u,rfl,Nat.le_refl _,M.o.Z (aO (Below.refl _ _) _),N.o.trans (dk.of (aO (Below.refl _ _) _)),o.o.ky (dk.of (aO (Below.refl _ _) _))⟩
 have H:¬(f.ln:Int)<=(j:Int):=aq;have I:(j:Int)<(f.ln:Int):=aq;obtain⟨ad,k,U,hk,t,_⟩:=ru M.o.fr.rL h2;have⟨EL,E0⟩:=K' U t;rw[U]at K;clear U hk h1;by_cases B:k.kind=5
 .rw[B]at t
  go_enter func259,ntmps259;go_wp2;rw[<-aP];clear aP;go_quiet (fail);go_wp2;generalize lA:l.drewN _=G;have i:az l G:=aas;have v:=av K i;have D:=av t i;have z:=av s i;clear lA;go_quiet (fail);generalize m:G.drewN _=r;have d:az l r:=by rw[<-m];exact aO i _
  clear m v D z i;have E:Rev r f (j:Int):=λj2 ew kk f1 f2 f3 f4=>by
   obtain rfl:j=j2:=aq;rw[EL.o]at f3;obtain rfl:=Option.some.inj f3;have:=av t d;rw[this]at f4;injection f4 with f4
   injection f4 with _ f4
   exact f4.symm
  have BH:=sH (QG g f u lo hi (j:Int) C A n c r (M.o.Z d) (o.o.ky (dk.of d)) E);have D3:ak (az l r):=⟨d⟩;have s:=av s d;have J:=av J d;clear d E t q0 q1 q2 K q4 q5 q6;go_wp2_with fail;refine BH.o.mono ?_;rintro e w5 ⟨A6,m6,c6,u6,rfl,g1,g2,g3,g4⟩;have G2:=sH g2;have G3:ak (dk g w w5):=⟨(N.o.trans (dk.of D3.o)).trans g3⟩;have G4:=sH g4;clear g2 g3 g4 BH;go_wp2;go_ret;exact⟨_,_,_,u6,rfl,g1,G2.o,G3.o,G4.o⟩
 .have hk6:(k.kind==5)=OZ:=by simp[B]
  go_enter func259,ntmps259;go_wp2;rw[<-aP];clear aP;go_quiet (fail);go_wp2;generalize lA:l.drewN _=G;have i:az l G:=aas;have v:=av K i;have D:=av t i;have z:=av s i;clear lA;go_quiet (fail);generalize m:G.drewN _=r;have d:az l r:=by rw[<-m];exact aO i _
  clear m v D z i;have M3:=sH (M.o.Z d);have B3:ak (dk g w r):=⟨N.o.trans (dk.of d)⟩;have V:=sH (o.o.ky (dk.of (g:=g) d));have X3:=sH (P.o.ar d P.o.lt);have sS:=d.size;have iW:w.heap.size<=l.heap.size:=N.o.size;clear d t q0 q1 q2 K q4 q5 q6 s J;go_wp2;have F:decide (f.ln<=j)=OZ:=ji;simp only[F,Bool.or_false];clear h2 H I B hk6 F;go_loopg[2,7,8,9,10](65536*20000+20000)(λgg v2 v7 _ _ _ wr=>∃(a:Nat) (A:aB) (n c p:Nat),(65536-p)*20000+(n-a)<gg/\v2=Pl A n c/\v7=ae aj (a:Int)/\a<=1000000/\u<=p/\ak (Mc wr g f p)/\ak (dk g r wr)/\ak (Bu wr g (bI lo hi) A n c))
  .exact⟨0,A,n,c,u,aq,rfl,rfl,aq,aq,M3,⟨dk.refl _ _⟩,V⟩
  obtain⟨a,A,n,c,p,hg,rfl,rfl,ha,X,R,Q,o⟩:=hrel;have B2:ak (dk g w wr):=⟨B3.o.trans Q.o⟩;have hu':=R.o.hu;by_cases Z:a<n;rotate_left
  .have i4:=cI a n
   go_wp2;go_ret;exact⟨_,_,_,p,rfl,X,R.o,B2.o,o.o⟩
  have i4:=aU a n;have hn3:=o.o.nn;have XR:ak (Bx wr w.heap.size #[ae aj (j:Int),ae aj C]):=⟨X3.o.ky aq Q.o⟩;have s:wr.cell? ⟨w.heap.size,0,OJ⟩=OH (ae aj (j:Int)):=XR.o.cell 0;have J:wr.cell? ⟨w.heap.size,1,OJ⟩=OH (ae aj C):=XR.o.cell 1;obtain⟨q,x0,x1,x2,x3,x4,x5,x6,x7,x8,x9,rfl,hQ,_,_,_,_,_,_,_,_,_,e9⟩:=o.o.gl.jB.bK Z;clear hQ;go_wp2;go_quiet (fail);go_wp2_with fail
  .refine(AJ g f p lo hi (j:Int) (a:Int) (OH q) n c False _ (R.o.Z (aO (Below.refl _ _) _)) (o.o.ky (dk.of (aO (Below.refl _ _) _))) (λh=>h.elim)).mono ?_
   rintro e w1 ⟨A1,m1,c1,y1,b,u1,rfl,hu1,S,hB,Y⟩;have M1:=sH S;have L:ak (dk g r w1):=⟨Q.o.trans ((dk.of (aO (Below.refl _ _) _)).trans hB)⟩;have BL1:ak (Bu w1 g (bI lo hi) (OH q) n c):=⟨o.o.ky ((dk.of (aO (Below.refl _ _) _)).trans hB)⟩;have aic:=S.hu;clear S hB s J e9;cases b
   .clear Y
    go_wp2;go_roundg((65536-p)*20000+(n-a))
    .exact⟨a+1,OH q,n,c,u1,aq,rfl,aV,aq,aq,M1,L,BL1⟩
    omega
   .obtain⟨hu2,x,_,hy1,_⟩:=Y rfl
    have W:=sH x;have Ja:=x.nn;clear Y x;go_wp2;go_roundg((65536-p)*20000+(n-a))
    .exact⟨y1,A1,m1,c1,u1,aq,rfl,rfl,aq,aq,M1,L,W⟩
    omega
  .go_roundg((65536-p)*20000+(n-a))
   case measure=>omega
   case rel=>exact⟨a+1,OH q,n,c,p,aq,rfl,aV,aq,aq,⟨R.o.Z (aO (Below.refl _ _) _)⟩,⟨Q.o.trans (dk.of (aO (Below.refl _ _) _))⟩,⟨o.o.ky (dk.of (aO (Below.refl _ _) _))⟩⟩
def Rq.vG{Q:aC->Prop}(h:Rq w B 2 Q A n){j:Nat}(i:j<n):∃(a:Addr) (c b:Int),A=OH a/\Q [c,b]/\w.cell? (a.add (j*2))=OH (ae aj c)/\w.cell? (bX (a.add (j*2)) 1)=OH (ae aj b):=by
 obtain⟨a,e,_,l⟩:=h aq;obtain⟨g,m,k,f⟩:=l j i
 match g,m with
 |[c,b],_=>
  have d:=f 0 _ rfl;rw[fA]at d;exact⟨a,c,b,e,k,d,f 1 _ rfl⟩
abbrev Sv(_:aC):Prop:=True
def abM(g:Nat)(f:dv)(u:Nat)(lo hi:Int)(m:aB)(a p:Nat)(A:aB)(n c:Nat)(w:EE)(h:Mc w g f u)(r:Bu w g (bI lo hi) A n c)(D:Rq w g 2 Sv m a)(C:a<=1000000000):
 GK prog 204 #[PK (OH ⟨g,0,OJ⟩),Pl m a p,Pl A n c] w (PNe w g f u (bI lo hi)):=by
 have⟨M,d,s⟩:=MO h r D;have v:=h.bx.lt;go_enter func204,ntmps204;go_wp2;go_loopg[2,7](a+1)(λgg v2 v7 wr=>∃(i:Nat) (A:aB) (n c b:Nat),a-i<gg/\i<=a/\v2=Pl A n c/\v7=ae aj (i:Int)/\u<=b/\ak (Mc wr g f b)/\ak (dk g w wr)/\ak (Bu wr g (bI lo hi) A n c))
 .exact⟨0,A,n,c,u,aq,aq,rfl,rfl,aq,M,⟨dk.refl _ _⟩,d⟩
 obtain⟨i,A,n,c,b,L,F,rfl,rfl,j,o,l,d⟩:=hrel;by_cases k:i<a
 .obtain⟨K,x,y,rfl,_,J,N⟩:=(s.o.Z (l.o.below cr aq) cr).vG k
  have O:=aU i a;have q:=sH (Qe g f b lo hi x y A n c wr o.o d.o);go_wp2_with fail;refine q.o.mono ?_;rintro e Q ⟨G,z,c6,u6,rfl,P,g2,B,t⟩;have⟨E,H,I⟩:=MO g2 (l.o.trans B) t;go_wp2;go_roundg(a-i)
  .exact⟨i+1,G,z,c6,u6,aq,aq,rfl,aV,aq,E,H,I⟩
  omega
 .go_wp2
  go_ret;exact⟨_,_,_,b,rfl,j,o.o,l.o,d.o⟩
def PGl(w:EE)(Q:List aC->Prop)(e:IS)(a:EE):Prop:=∃(A:aB) (m c:Nat),e=RE (Pl A m c)/\lF a Q A m/\m<=c/\m<=16384/\az w a
def ac5(f:dv)(lo hi:Int)(i:aB)(g o:Nat)(A:aB)(n c:Nat)(w:EE)(h:cC w w.heap.size f)(j:Mj w w.heap.size f)(q:lF w (bI lo hi) A n)(k:n<=c)(F:n<=16384)(C:Rq w w.heap.size 2 Sv i g)(l:g<=1000000000):
 GK prog 131 #[f.v,Pl i g o,Pl A n c] w (PGl w (bI lo hi)):=by
 have⟨b,aP⟩:=eX ((w.alloc (RM f.row 102)).alloc (RM #[ae aj f.em,Pl f.G f.gn f.gc,Pl f.M f.mn f.mc,Pl f.L f.ln f.lc,Pl f.F f.fn f.fc,Pl f.S f.sn f.sc,ae aj 0] 261));have a:az w b:=aan;have I:ak (Mc b (w.heap.size+1) f 0):=⟨⟨l7,h.Z a aq,j.Z a aq,aq⟩⟩;have G:ak (Bu b (w.heap.size+1) (bI lo hi) A n c):=⟨⟨q.Z a a.size,λz J r=>by
  obtain⟨s,d,x,_⟩:=q.jB z;rw[r]at d;obtain rfl:=Option.some.inj d;omega,k,F⟩⟩
 have v:ak (Rq b (w.heap.size+1) 2 Sv i g):=⟨C.Z a aq⟩;have⟨u,D⟩:=K' a (abM (w.heap.size+1) f 0 lo hi i g o A n c b I.o G.o v.o l);have t:=a.size;have p:b.heap.size=w.heap.size+2:=oW;go_enter func131,ntmps131;go_wp2_with fail;rw[<-aP];clear aP;refine D.o.mono ?_;rintro e E ⟨M,K,c6,u6,rfl,L,g2,B,y⟩;have H:ak (az w E):=⟨u.o.trans (B.below aq aq)⟩;have m:=sH y;go_wp2;go_ret;exact⟨_,_,_,rfl,m.o.gl,m.o.nc,m.o.nn,H.o⟩
namespace Kx
def kd:EN->Nat
 | ae aj _=>0
 | PF _=>1
 |_=>2
def Ext(w c:EE):Prop:=∀b cs,Bx w b cs->(∀v∈cs.toList,kd v≠2)->∃a:Array EN,Bx c b a/\a.toList.map kd=cs.toList.map kd
def Ext.of{c:EE}(h:az w c):Ext w c:=λb cs a _=>⟨cs,a.ar h a.lt,rfl⟩
def Ext.refl(w:EE):Ext w w:=λb cs a _=>⟨cs,a,rfl⟩
def Ext.row{ds:Array EN}(h:Bx w g cs)(i:ds.toList.map kd=cs.toList.map kd):Ext w (w.setRow g ds):=λb f d _=>by
 by_cases c:b=g
 .subst c
  refine⟨ds,h.row, ?_⟩;obtain⟨t,e⟩:=h;obtain⟨j,a⟩:=d;rw[e]at a;injection a with a
  injection a with a
  rw[i,a]
 .obtain⟨t,d⟩:=d
  exact⟨f,⟨t,by rw[setRow_other _ _ _ _ c];exact d⟩,rfl⟩
structure Sat where
 p:EN->EE->Prop
 st:∀v w w',p v w->Ext w w'->p v w'
section
variable{P:I3}{ops:Array Oper}{md:Region.Mode}{C:EE -> Prop}{T:Option Tmp -> Option Sat}
def iD(P:I3)(C:EE->Prop)(w:EE)(S:Sat):Result Next->Prop
 | .ok (.value u) w'=>S.p u w'/\C w'/\Ext w w'
 | .ok (.enter f args) w'=>w'=w/\GK P f args w (λe a=>∃v,e=RE v/\S.p v a/\C a/\Ext w a)
 |_=>False
attribute [go_sem] iD
@[go_sem] def mw(P : I3)(o : Oper)(a : Act)(C : EE -> Prop)(w : EE)(S : Sat) : Prop := iD P C w S ((execOp a.eval o).run P w)
def zf(C:EE->Prop)(w:EE):Result Next->Prop
 | .ok .skip w'=>C w'/\Ext w w'
 |_=>False
attribute [go_sem] zf
@[go_sem] def Ai(P : I3)(o : Oper)(a : Act)(C : EE -> Prop)(w : EE) : Prop := zf C w ((execOp a.eval o).run P w)
def Has(C:EE->Prop)(S:Sat)(v:EN):Prop:=∃w,C w/\S.p v w
def gu(P:I3)(T:Option Tmp->Option Sat)(C:EE->Prop)(o:Oper)(E:EE->Prop)(a:Act)(K:(EE->Prop)->Act->Prop):Prop:=
 if o.dst=OJ then(∀w,C w->E w->Ai P o a C w)/\K E (a.put o.dst undef)else
 match T o.dst with
 |some S=>(∀w,C w->mw P o a C w S)/\∀v,Has C S v->K (λw=>E w/\S.p v w) (a.put o.dst v)
 |none=>iu o=OX/\o.quiet P a C (K E)
def du(P:I3)(ops:Array Oper)(T:Option Tmp->Option Sat)(C:EE->Prop)(Q:(EE->Prop)->Act->Prop):List Oper->(EE->Prop)->Act->Prop
 |[],E,a=>Q E a
 |o::rest,E,a=>if Region.wanted o (yielded ops a.tmps)then gu P T C o E a (du P ops T C Q rest)else du P ops T C Q rest E (a.put o.dst undef)
def gG(P:I3)(ops:Array Oper)(T:Option Tmp->Option Sat)(C:EE->Prop)(i:Nat)(K:(EE->Prop)->Act->Prop)(E:EE->Prop)(a:Act):Prop:=
 match ops[i]? with
 |none=>K E a
 |some o=>if Region.wanted o (yielded ops a.tmps)then gu P T C o E a K else K E (a.put o.dst undef)
def nx{d:(EE->Prop)->Act->Prop}(h:∀E a,K E a->d E a)(b:gu P T C o E a K):gu P T C o E a d:=by
 unfold gu at*;by_cases c:o.dst=OJ
 .rw[if_pos c]at*
  exact⟨b.1,h _ _ b.2⟩
 rw[if_neg c]at*;split
 .rename_i S e
  rw[e]at b;exact⟨b.1,λv f=>h _ _ (b.2 v f)⟩
 .rename_i e
  rw[e]at b;exact⟨b.1,Oper.quiet_mono (h E) b.2⟩
def qT{d:(EE->Prop)->Act->Prop}(h:∀E a,K E a->d E a)(b:gG P ops T C i K E a):gG P ops T C i d E a:=by
 unfold gG at*;split
 .exact h _ _ (by simpa[*]using b)
 .rename_i o e
  simp only[e]at b;split
  .rename_i c;simp only[c,if_true]at b;exact nx h b
  .rename_i c;simp only[c]at b;exact h _ _ b
def gN(P:I3)(md:Region.Mode)(ops:Array Oper)(T:Option Tmp->Option Sat)(C:EE->Prop)(Q:(EE->Prop)->Act->Prop):Nat->Array Bool->(EE->Prop)->Act->Prop
 |0,listed,E,a=>Region.ready md ops listed=[]/\Q E a
 |fuel+1,listed,E,a=>
  (Region.ready md ops listed=[]->Q E a)/\
  ∀i∈Region.ready md ops listed,gG P ops T C i (gN P md ops T C Q fuel (listed.setIfInBounds i OX)) E a
def vH(E:EE->Prop):Prop:=∀w a,E w->Ext w a->E a
def oN{z:Act->EE->Prop}(q:C w)(l:E w)(g:vH E)(h:∀E a c,C c->E c->vH E->K E a->z a c)(k:gu P T C o E a K):o.wp P a w z Q':=by
 unfold gu at k;by_cases t:o.dst=OJ
 .rw[if_pos t]at k
  obtain⟨m,j⟩:=k;have b:=m w q l;unfold Ai at b;unfold Oper.wp;generalize(execOp a.eval o).run P w=r at*;cases r with
  |ok n c=>
   cases n<;>simp only[zf]at b<;>simp only[Oper.upon]
   case skip=>exact h E _ _ b.1 (g _ _ l b.2) g j
  |halt x c=>simp only[zf]at b
 rw[if_neg t]at k;split at k
 .obtain⟨m,j⟩:=k
  have b:=m w q;unfold mw at b;unfold Oper.wp;generalize(execOp a.eval o).run P w=r at*;cases r with
  |ok n c=>
   cases n<;>simp only[iD]at b<;>simp only[Oper.upon]
   case value u=>
    rename_i S e;exact h (λw=>E w/\S.p u w) _ _ b.2.1 ⟨g _ _ l b.2.2,b.1⟩ (λu B p i=>⟨g _ _ p.1 i,S.st _ _ _ p.2 i⟩) (j _ ⟨_,b.2.1,b.1⟩)
   case enter f args=>
    rename_i S e;rw[b.1];refine b.2.mono λe F ⟨v,A,y,d,i⟩=> ?_;subst A;exact h (λw=>E w/\S.p v w) _ _ d ⟨g _ _ l i,y⟩ (λu B p i=>⟨g _ _ p.1 i,S.st _ _ _ p.2 i⟩) (j _ ⟨_,d,y⟩)
  |halt x c=>simp only[iD]at b
 .obtain⟨D,v,m,j⟩:=k
  have b:=m w q;unfold Oper.quietAt at b;unfold Oper.wp;have s:=mP (P:=P) D a.eval w;generalize(execOp a.eval o).run P w=r at*;cases r with
  |ok n c=>
   cases n<;>simp only[Oper.quietUpon]at b<;>simp only[Oper.upon]
   case value u=>rw[b.1,b.2];exact h _ _ _ q l g j
   case skip=>rw[b.1,<-b.2];exact h _ _ _ q l g j
   case enter f args=>exact absurd rfl (s f args c)
  |halt x c=>simp only[Oper.quietUpon]at b
def fU{k:Act->EE->Prop}(e:C w)(d:E w)(c:vH E)(h:∀E a g,C g->E g->vH E->K E a->k a g)(b:gG P ops T C i K E a):wpOp P ops Q' i k a w:=by
 unfold gG at b;unfold wpOp;split
 .rename_i j;simp only[j]at b;exact h _ _ _ e d c b
 .rename_i o j
  simp only[j]at b;split
  .rename_i f;simp only[f,if_true]at b;exact .inl (oN e d c h b)
  .rename_i f;simp only[f]at b;exact h _ _ _ e d c b
def gZ{Q:(EE->Prop)->Act->Prop}{Q':Exit->Act->EE->Prop}(c:∀E a w,C w->E w->Q E a->Q' .normal a w):∀(fuel:Nat) (listed:Array Bool) (E:EE->Prop) (a:Act) (w:EE),C w->E w->vH E->
 gN P md ops T C Q fuel listed E a->wpAny P md ops Q' fuel listed a w
 |0,_,_,_,_,hw,hE,_,h=>⟨h.1,c _ _ _ hw hE h.2⟩
 |fuel+1,_,_,_,_,hw,hE,hs,h=>⟨λf=>c _ _ _ hw hE (h.1 f),λi hi=>fU hw hE hs (λj g k e b d=>gZ c fuel _ j g k e b d) (h.2 i hi)⟩
def fw(P:I3)(ops:Array Oper)(T:Option Tmp->Option Sat)(C:EE->Prop)(o:Oper)(V:EN->Prop)(G:EN->(EE->Prop)->EE->Prop)(E:EE->Prop)(a:Act):Prop:=
 (Region.wanted o (yielded ops a.tmps)=OX/\o.dst≠OJ/\∃S,T o.dst=OH S/\V=Has C S/\G=(λv E w=>E w/\S.p v w)/\∀w,C w->mw P o a C w S)∨
 (Region.wanted o (yielded ops a.tmps)=OX/\o.dst≠OJ/\T o.dst=OJ/\iu o=OX/\(G=λ_ E=>E)/\∃v,(V=λu=>u=v)/\∀w,C w->o.quietAt P a C w v)∨
 (Region.wanted o (yielded ops a.tmps)=OZ/\(G=λ_ E=>E)/\V=λv=>v=undef)∨
 (Region.wanted o (yielded ops a.tmps)=OX/\o.dst=OJ/\(G=λ_ E=>E)/\(V=λv=>v=undef)/\∀w,C w->E w->Ai P o a C w)
def fw.mono{G:EN->(EE->Prop)->EE->Prop}{b:EE->Prop}(h:fw P ops T C o V G E a)(d:∀w,b w->E w):fw P ops T C o V G b a:=by
 rcases h with h|h|h|⟨i,j,f,c,g⟩
 .exact .inl h
 .exact .inr (.inl h)
 .exact .inr (.inr (.inl h))
 .exact .inr (.inr (.inr ⟨i,j,f,c,λw k e=>g w k (d w e)⟩))
def fw.has{G:EN->(EE->Prop)->EE->Prop}(h:fw P ops T C o V G E a)(g:∃w,C w):∃v,V v:=by
 rcases h with⟨_,_,S,_,rfl,_,h⟩|⟨_,_,_,_,_,v,rfl,_⟩|⟨_,_,rfl⟩|⟨_,_,_,rfl,_⟩
 .obtain⟨w,i⟩:=g
  have:=h w i;unfold mw at this;generalize(execOp a.eval o).run P w=r at*;cases r with
  |ok n b=>
   cases n<;>simp only[iD]at this
   case value u=>exact⟨u,b,this.2.1,this.1⟩
   case enter f args=>
    obtain⟨e,b,j,⟨v,_,c,d,_⟩,_⟩:=this.2 [];exact⟨v,b,d,c⟩
  |halt x b=>simp only[iD]at this
 .exact⟨v,rfl⟩
 .exact⟨_,rfl⟩
 .exact⟨_,rfl⟩
def fw.comm{G:EN->(EE->Prop)->EE->Prop}{e:EE->Prop}(h:fw P ops T C o V G e a)(v:EN)(E X:EE->Prop):G v (λw=>E w/\X w)=λw=>G v E w/\X w:=by
 rcases h with⟨_,_,S,_,_,rfl,_⟩|⟨_,_,_,_,rfl,_⟩|⟨_,rfl,_⟩|⟨_,_,rfl,_⟩
 .funext w
  exact propext ⟨fun⟨⟨c,d⟩,b⟩=>⟨⟨c,b⟩,d⟩,fun⟨⟨c,b⟩,d⟩=>⟨⟨c,d⟩,b⟩⟩
 .rfl
 .rfl
 .rfl
def fw.of_same{G:EN->(EE->Prop)->EE->Prop}{b:Act}(e:fw P ops T C o V G E a)(d:execOp b.eval o=execOp a.eval o)
 (c:Region.wanted o (yielded ops b.tmps)=Region.wanted o (yielded ops a.tmps)):fw P ops T C o V G E b:=by
 unfold fw mw Ai Oper.quietAt at*;rw[d,c];exact e
def fw.lv{G:EN->(EE->Prop)->EE->Prop}(hi:ops[i]? =OH o)(f:fw P ops T C o V G E a){K:(EE->Prop)->Act->Prop}(h:∀v,V v->K (G v E) (a.put o.dst v)):gG P ops T C i K E a:=by
 unfold gG;simp only[hi];rcases f with⟨b,c,S,e,rfl,rfl,d⟩|⟨b,c,e,g,rfl,v,rfl,d⟩|⟨b,rfl,rfl⟩|⟨b,c,rfl,rfl,d⟩
 .simp only[b,if_true]
  unfold gu;rw[if_neg c];simp only[e];exact⟨d,h⟩
 .simp only[b,if_true]
  unfold gu;rw[if_neg c];simp only[e];exact⟨g,v,d,h v rfl⟩
 .simp only[b,Bool.false_eq_true,if_false]
  exact h _ rfl
 .simp only[b,if_true]
  unfold gu;rw[if_pos c];exact⟨d,h _ rfl⟩
def jR(hi:ops[i]? =OH o)(h:gG P ops T C i K E a):∃V G,fw P ops T C o V G E a/\∀v,V v->K (G v E) (a.put o.dst v):=by
 unfold gG at h;simp only[hi]at h;by_cases b:Region.wanted o (yielded ops a.tmps)=OX
 .simp only[b,if_true]at h
  unfold gu at h;by_cases c:o.dst=OJ
  .rw[if_pos c]at h
   exact⟨λv=>v=undef,λ_ E=>E,.inr (.inr (.inr ⟨b,c,rfl,rfl,h.1⟩)),λu d=>by rw[d];exact h.2⟩
  rw[if_neg c]at h;split at h
  .rename_i S e
   exact⟨_,_,.inl ⟨b,c,S,e,rfl,rfl,h.1⟩,h.2⟩
  .rename_i e
   obtain⟨j,v,f,g⟩:=h;exact⟨λu=>u=v,λ_ E=>E,.inr (.inl ⟨b,c,e,j,rfl,v,rfl,f⟩),λu d=>by rw[d];exact g⟩
 .simp only[b]at h
  exact⟨λv=>v=undef,λ_ E=>E,.inr (.inr (.inl ⟨by simpa using b,rfl,rfl⟩)),λu d=>by rw[d];exact h⟩
def uD{d c:Oper}{G:EN->(EE->Prop)->EE->Prop}(I:∃w,C w)(Q:ops[j]? =OH c)(z:d.apart ops c=OX)(U:c.dst=OJ->T d.dst=OJ∨d.dst=OJ)
 (x:∀cs b,d.op≠ .select cs b) (i:∀cs b,c.op≠ .select cs b) {K:(EE->Prop)->Act->Prop} {E:EE->Prop} {a:Act}
 (k:fw P ops T C d V G E a) (h:∀v,V v->gG P ops T C j K (G v E) (a.put d.dst v)):
 gG P ops T C j (λM L=>fw P ops T C d V G M L/\∀v,V v->K (G v M) (L.put d.dst v)) E a:=by
 obtain⟨p,s,H⟩:=Oper.apart_spec z;have nL:∀(a:Act),fw P ops T C d V G E a->∀u,fw P ops T C d V G E (a.put c.dst u):=λa k u=>
  k.of_same (execOp_put d x a c.dst u H) (wanted_put d a c.dst u H)
 obtain⟨o,n⟩:=k.has I;obtain⟨w0,q⟩:=I;unfold gG at*;simp only[Q]at*;have f:∀v,V v->if Region.wanted c (yielded ops a.tmps)=OX then gu P T C c (G v E) (a.put d.dst v) K else K (G v E) ((a.put d.dst v).put c.dst undef):=λv l=>by
  have:=h v l;rwa [wanted_put c a d.dst v p]at this
 split
 .rename_i A
  simp only[A,if_true]at f;unfold gu at*;by_cases t:c.dst=OJ
  .simp only[if_pos t]at f⊢
   have W:∀v,G v E=E:=λv=>by
    rcases k with⟨_,y,S,r,_⟩|⟨_,_,_,_,rfl,_⟩|⟨_,rfl,_⟩|⟨_,_,rfl,_⟩
    .rcases U t with h|h
     .rw[r]at h;cases h
     .exact absurd h y
    .rfl
    .rfl
    .rfl
   refine⟨λw g R=> ?_,nL a k _,λv l=> ?_⟩
   .have:=(f o n).1 w g (by rw[W];exact R)
    unfold Ai at*;rwa [execOp_put c i a d.dst o p]at this
   .rw[<-Act.put_comm a v undef s]
    exact(f v l).2
  simp only[if_neg t]at f⊢;cases r:T c.dst with
  |some S'=>
   simp only[r]at f⊢;refine⟨λw g=> ?_,λu D=>⟨(nL a k u).mono λw h=>h.1,λv l=> ?_⟩⟩
   .have:=(f o n).1 w g
    unfold mw at*;rwa [execOp_put c i a d.dst o p]at this
   .rw[<-Act.put_comm a v u s,k.comm]
    exact(f v l).2 u D
  |none=>
   simp only[r]at f⊢;obtain⟨J,u0,F,N⟩:=f o n;have m:∀w,C w->c.quietAt P a C w u0:=λw g=>by
    have:=F w g;unfold Oper.quietAt at*;rwa [execOp_put c i a d.dst o p]at this
   refine⟨J,u0,m,nL a k u0,λv l=> ?_⟩;obtain⟨_,u,D,O⟩:=f v l;have B:c.quietAt P a C w0 u:=by
    have:=D w0 q;unfold Oper.quietAt at*;rwa [execOp_put c i a d.dst v p]at this
   have e:=rD J (m w0 q) B;subst e;rw[<-Act.put_comm a v u0 s];exact O
 .rename_i A
  simp only[A]at f;exact⟨nL a k _,λv l=>by rw[<-Act.put_comm a v undef s];exact f v l⟩
def jQ{g:Oper}{G:EN->(EE->Prop)->EE->Prop}(K:∃w,C w)(hi:ops[i]? =OH g)(q:∀(j:Nat) (o:Oper) cs b,ops[j]? =OH o->o.op≠ .select cs b):
 ∀(fuel:Nat) (listed:Array Bool) (E:EE->Prop) (a:Act),
  (∀j l,ops[j]? =OH l->j≠i->listed.getD j OX=OZ->(∀e∈l.after,Region.binds md e=OX->e.on≠i)->g.apart ops l=OX/\(l.dst=OJ->T g.dst=OJ∨g.dst=OJ))->
  i∈Region.ready md ops listed->fw P ops T C g V G E a->
  (∀v,V v->gN P md ops T C Q fuel (listed.setIfInBounds i OX) (G v E) (a.put g.dst v))->gN P md ops T C Q (fuel+1) listed E a:=by
 intro fuel
 induction fuel with
 |zero=>
  intro listed E a _ hr x H;refine⟨λh=>Jp,λj z=> ?_⟩;by_cases c:j=i
  .subst c;exact x.lv hi H
  .have:=ready_mono z c
   obtain⟨v,D⟩:=x.has K;rw[(H v D).1]at this;cases this
 |succ fuel ih=>
  intro listed E a d hr x H;refine⟨λh=>Jp,λj z=> ?_⟩;by_cases c:j=i
  .subst c;exact x.lv hi H
  .have r:=λv D=>(H v D).2 j (ready_mono z c)
   obtain⟨f,l,n,u⟩:=mem_ready.1 z;have p:∀e∈l.after,Region.binds md e=OX->e.on≠i:=λe N L heq=>by
    have r:=u e N L;have J:=(mem_ready.1 hr).1;rw[heq]at r;rcases Nat.lt_or_ge i listed.size with A|A
    .simp[A]at J r;rw[J]at r;cases r
    .simp[Array.getElem?_eq_none A]at r
   have O:=uD K n (d j l n c f p).1 (d j l n c f p).2 (λcs b=>q i g cs b hi) (λcs b=>q j l cs b n) x r;have m:∀k s,ops[k]? =OH s->k≠i->(listed.setIfInBounds j OX).getD k OX=OZ->
    (∀e∈s.after,Region.binds md e=OX->e.on≠i)->g.apart ops s=OX/\(s.dst=OJ->T g.dst=OJ∨g.dst=OJ):=λk s M B y F=>by
    refine d k s M B ?_ F;by_cases t:j=k
    .subst t;exact f
    .rw[getD_set_ne OX t]at y;exact y
   refine qT (λS R I=>ih (listed.setIfInBounds j OX) S R m (ready_mono hr (Ne.symm c)) I.1 ?_) O;rw[Array.setIfInBounds_comm _ _ c];exact I.2
def stB(md:Region.Mode)(ops:Array Oper)(c:Option Tmp->Bool):Bool:=(List.range ops.size).all λj=>(List.range ops.size).all λi=>((ops[j]?).bind λb=>(ops[i]?).map λa=>b.dst.isSome||a.dst.isNone|| !c a.dst||b.after.any (λe=>Region.binds md e&&e.on==i)).getD OX
def Rm{n:Option Tmp->Bool}(h:stB md ops n=OX)(q:∀d,n d=OZ->T d=OJ){i j:Nat}{c a:Oper}(hi:ops[i]? =OH c)(m:ops[j]? =OH a)(f:∀e∈a.after,Region.binds md e=OX->e.on≠i)(o:a.dst=OJ):T c.dst=OJ∨c.dst=OJ:=by
 have g:=(Array.getElem?_eq_some_iff.1 hi).1;have l:=(Array.getElem?_eq_some_iff.1 m).1;have h1:=(List.all_eq_true.1 ((List.all_eq_true.1 h) j (List.mem_range.2 l))) i (List.mem_range.2 g);simp only[hi,m,Option.bind_some,Option.map_some,Option.getD_some,o,Option.isSome_none,Bool.false_or,Bool.or_eq_true]at h1;rcases h1 with(h1|h1)|h1
 .exact .inr Gf
 .exact .inl (q _ Gf)
 .exfalso
  rw[Array.any_eq_true]at h1;obtain⟨k,p,b⟩:=h1;rw[Bool.and_eq_true]at b;exact f _ (Array.getElem_mem p) b.1 (by simpa using b.2)
def iT{Q:(EE->Prop)->Act->Prop}{q:Option Tmp->Bool}(b:stB md ops q=OX)(f:∀d,q d=OZ->T d=OJ)(r:∃w,C w)(p:Region.noSelect ops=OX):∀(l:List Oper) (k:Nat) (listed:Array Bool) (E:EE->Prop) (a:Act),(∀j,l[j]? =ops[k+j]?)->
 Region.lexFrom md ops l.length k listed=OX->du P ops T C Q l E a->gN P md ops T C Q l.length listed E a
 |[],_,_,_,_,_,hB,h=>⟨SY,h⟩
 |o::l,k,listed,E,a,hl,hB,h=>by
  have h0:ops[k]? =OH o:=by simpa using (hl 0).symm
  simp only[List.length_cons,Region.lexFrom,Bool.and_eq_true]at hB;obtain⟨⟨x,y⟩,i⟩:=hB;have n:gG P ops T C k (du P ops T C Q l) E a:=k9;obtain⟨V,G,t,hK⟩:=jR h0 n;exact jQ r h0 (Region.noSelect_spec p) l.length listed E a (λj s c g m e=>⟨Region.free_spec h0 y j s c g m e,Rm b f h0 c e⟩) (by simpa using x) t
   (λv u=>iT b f r p l (k+1) _ _ _ (λj=>afC) i (hK v u))
def bm{Q:Exit->Act->EE->Prop}{l:List Oper}(T:Option Tmp->Option Sat)(i:Option Tmp->Bool)(g:∀d,i d=OZ->T d=OJ)(k:P.follows .mixedOrders=OX)(c:stB .any l.toArray i=OX)(f:Region.lexB .any l.toArray=OX)
 (h:du P l.toArray T (λb=>∃n:aI w,b=n.1) (λE e=>∀n:aI w,E n.1->Q .normal e n.1) l (λ_=>True) a):(Code.region m l.toArray OX).wp P Q a w:=by
 simp only[Region.lexB,Bool.and_eq_true]at f;have j:(λb=>∃n:aI w,b=n.1) {w with drawn:=w.drawn+1}:=⟨⟨{w with drawn:=w.drawn+1},⟨rfl,rfl,rfl,Nat.le_refl _,λ_ _=>rfl⟩⟩,rfl⟩;refine wp_region_any k (gZ (T:=T) (C:=λb=>∃n:aI w,b=n.1) (Q:=λE e=>∀n:aI w,E n.1->Q .normal e n.1) (λE e b nM hE h=>Th) _ _ (λ_=>True) _ _ j trivial (λ_ _ _ _=>trivial) ?_);have:=iT (md:=.any) c g ⟨_,j⟩ f.1 l 0 (Array.replicate l.toArray.size OZ) (λ_=>True) a aT (by simpa using f.2) h;simpa using this
def pF(b:Region.wanted o (yielded ops a.tmps)=OZ)(h:du P ops T C Q rest E (a.put o.dst undef)):du P ops T C Q (o::rest) E a:=by
 unfold du;rw[if_neg (by rw[b];exact Bool.false_ne_true)];exact h
def cH(d:Region.wanted o (yielded ops a.tmps)=OX)(b:o.dst≠OJ)(e:T o.dst=OJ)(c:iu o=OX)
 (h:∀K:Act->Prop,(∀a,du P ops T C Q rest E a->K a)->o.quiet P a C K):du P ops T C Q (o::rest) E a:=by
 unfold du;rw[if_pos d];unfold gu;rw[if_neg b,e];exact⟨c,h _ λ_ h=>h⟩
def dA(S:Sat)(e:Region.wanted o (yielded ops a.tmps)=OX)(c:o.dst≠OJ)(f:T o.dst=OH S)
 (b:∀w,C w->mw P o a C w S) (d:∀v,Has C S v->du P ops T C Q rest (λw=>E w/\S.p v w) (a.put o.dst v)):du P ops T C Q (o::rest) E a:=by
 unfold du;rw[if_pos e];unfold gu;rw[if_neg c,f];exact⟨b,d⟩
def fN(e:Region.wanted o (yielded ops a.tmps)=OX)(c:o.dst=OJ)
 (b:∀w,C w->E w->Ai P o a C w) (d:du P ops T C Q rest E (a.put o.dst undef)):du P ops T C Q (o::rest) E a:=by
 unfold du;rw[if_pos e];unfold gu;rw[if_pos c];exact⟨b,d⟩
def vJ{r:Nat}{Q:Exit->Act->EE->Prop}{l:List Oper}(T:Option Tmp->Option Sat)(o:Option Tmp->Bool)(g:EE->Prop)(f:az w0 w)(k:g w)(e:vH g)(m:∀d,o d=OZ->T d=OJ)(q:P.follows .mixedOrders=OX)(c:stB .any l.toArray o=OX)(j:Region.lexB .any l.toArray=OX)
 (h:du P l.toArray T (λb=>∃n:aI w0,b=n.1) (λE i=>∀n:aI w0,E n.1->Q .normal i n.1) l g a):(Code.region r l.toArray OX).wp P Q a w:=by
 simp only[Region.lexB,Bool.and_eq_true]at j;have p:(λb=>∃n:aI w0,b=n.1) {w with drawn:=w.drawn+1}:=⟨⟨{w with drawn:=w.drawn+1},⟨f.os,f.tape,f.output,f.size,f.block⟩⟩,rfl⟩;refine wp_region_any q (gZ (T:=T) (C:=λb=>∃n:aI w0,b=n.1) (Q:=λE i=>∀n:aI w0,E n.1->Q .normal i n.1) (λE i b nM hE h=>Th) _ _ g _ _ p (e _ _ k (Ext.of ⟨rfl,rfl,rfl,Nat.le_refl _,λ_ _=>rfl⟩)) e ?_);have:=iT (md:=.any) c m ⟨_,p⟩ j.1 l 0 (Array.replicate l.toArray.size OZ) g a aT (by simpa using j.2) h;simpa using this
end
def ZP(p:EN->Prop):Sat:=⟨λv _=>p v,λ_ _ _ h _=>h⟩
def ZK(N:Nat)(ks:List Nat):Sat:=⟨λv w=>∃g:Nat,v=PK (OH ⟨g,0,OJ⟩)/\N<=g/\2∉ks/\∃cs:Array EN,Bx w g cs/\cs.toList.map kd=ks,λv w m ⟨g,j,l,b,cs,h,c⟩ i=>by
 obtain⟨a,f,d⟩:=i g cs h (λv k e=>b (by rw[<-c,<-e];exact List.mem_map_of_mem k));exact⟨g,j,l,b,a,f,d.trans c⟩⟩
def ZK.get{ks:List Nat}(h:(ZK N ks).p (PK (OH ⟨g,0,OJ⟩)) w):∃cs:Array EN,Bx w g cs/\cs.toList.map kd=ks:=by
 obtain⟨a,e,_,_,h⟩:=h;injection e with e
 injection e with e
 injection e with e
 subst e;exact h
def aZ{n:aI w0}{P:I3}{f:FuncId}(S:Sat)(h:GK P f args n.1 λe a=>∃v,e=RE v/\S.p v a/\EI n.1.heap.size n.1 a):GK P f args n.1 λe a=>∃v,e=RE v/\S.p v a/\(∃m:aI w0,a=m.1)/\Ext n.1 a:=
 h.mono λe a ⟨v,d,c,b⟩=>⟨v,d,c,⟨⟨a,n.2.trans (b.mono n.2.size)⟩,rfl⟩,Ext.of b⟩
def lN(n:aI w0)(t:IQ)(cs:Array EN)(ks:List Nat)(b:cs.toList.map kd=ks)(a:2∉ks):(ZK w0.heap.size ks).p (PK (OH ⟨n.1.heap.size,0,OJ⟩)) (n.1.alloc (RM cs t))/\(∃m:aI w0,n.1.alloc (RM cs t)=m.1)/\Ext n.1 (n.1.alloc (RM cs t)):=
 ⟨⟨_,rfl,n.2.size,a,cs,Bx.new _ _ _,b⟩,⟨⟨_,n.2.trans ((aw _ _).mono n.2.size)⟩,rfl⟩,Ext.of (aw _ _)⟩
def fK{P:I3}{n:aI w0}(b:IQ)(x y:Operand)(r:o.op=.store b x y)(g:Nat)(cells:Array EN)(q:a.eval x=PK (OH ⟨g,0,OJ⟩))(h:a.eval y=Q4 cells)
 (i:∃cs:Array EN,Bx n.1 g cs/\cs.toList.map kd=cells.toList.map kd) (hi:(P.info? b).map (·.size)=OH cells.size) (j:cells.all (·.oneCell')=OX) (k:w0.heap.size<=g):Ai P o a (λp=>∃m:aI w0,p=m.1) n.1:=by
 obtain⟨cs,e,d⟩:=i;have c:=e;obtain⟨t,l⟩:=e;have f:cs.size=cells.size:=by have:=congrArg List.length d;simpa using this
 unfold Ai execOp;simp only[r,q,h,Instr.storeAt,Instr.sureAddr,Sem.run_bind,Sem.run_pure,Result.andThen_ok,run_storeVar_row n.1 g t b cs cells l hi f j];exact⟨⟨⟨_,below_setRow n.2 k _⟩,rfl⟩,Ext.row c d.symm⟩
def Zi{d:EE}(h:∃cs:Array EN,Bx w b cs/\cs.toList.map kd=[0,0,0])(l:Ext w d):∃cs:Array EN,Bx d b cs/\cs.toList.map kd=[0,0,0]:=by
 obtain⟨cs,j,c⟩:=h;obtain⟨a,g,k⟩:=l b cs j (λv i e=>by have:=List.mem_map_of_mem (f:=kd) i;rw[c,e]at this;simp at this);exact⟨a,g,k.trans c⟩
def Cm(h:cs.toList.map kd=[0,0,0]):∃a b c:Int,cs=#[ae aj a,ae aj b,ae aj c]:=by
 have key:∀v:EN,kd v=0->∃z,v=ae aj z:=λv d=>by
  unfold kd at d;split at d
  .exact⟨_,rfl⟩
  .cases d
  .cases d
 have⟨l,hl⟩:=eY cs.toList;rw[hl]at h;rcases l with _|⟨u,_|⟨v,_|⟨x,_|⟨y,l⟩⟩⟩⟩<;>simp at h
 obtain⟨a,rfl⟩:=key _ h.1;obtain⟨b,rfl⟩:=key _ h.2.1;obtain⟨c,rfl⟩:=key _ h.2.2;exact⟨a,b,c,YX⟩
end Kx
def mKx{R:Prop}(h:R)(s:R->G:=by
 intro b
 repeat(refine Kx.cH aD aT aD aD ?_;intro c a;go_big_quiet_op;go_big_quiet_on)
 exact b):G:=s h
def kxA{P:I3}{ops:Array Oper}{T:Option Tmp->Option Kx.Sat}(S:Kx.Sat)
 (f:∀d:aI w0,Kx.mw P o a (λb=>∃n:aI w0,b=n.1) d.1 S) (g:∀v,Kx.Has (λb=>∃n:aI w0,b=n.1) S v->Kx.du P ops T (λb=>∃n:aI w0,b=n.1) Q rest (λw=>E w/\S.p v w) (a.put o.dst v)) (h:Region.wanted o (yielded ops a.tmps)=OX:=by rfl) (c:o.dst≠OJ:=by simp) (i:T o.dst=OH S:=by rfl):Kx.du P ops T (λb=>∃n:aI w0,b=n.1) Q (o::rest) E a:=
 Kx.dA S h c i (λ_ ⟨n,e⟩=>e▸f n) g
def aho(w:EE)(e:IS)(c:EE):Prop:=∃(a d y:Int) (b:Bool),e=RE (P8 #[Q4 #[ae aj a,ae aj d,ae aj y],PF b])/\az w c
abbrev v3(a d y:Int):Array EN:=#[ae aj a,ae aj d,ae aj y]
def ad5(k:Lk)(g:Int)(w:EE)(h:ny w w.heap.size k):GK prog 337 #[k.v,ae aj g] w (aho w):=by
 have⟨M,aP,Z,H⟩:=box1 w k.row 175;have⟨r,cg⟩:=eX (M.alloc (RM (v3 0 0 0) 310));have N:az M r:=jT;have hN:M.heap.size=w.heap.size+1:=oW;have Iu:r.heap.size=w.heap.size+2:=Cv;have q:=Z.t N;have s:ak (Bx r (w.heap.size+1) (v3 0 0 0)):=⟨Tj⟩;have V:=sH (H.o.ar N H.o.lt);rw[aP]at cg;have R:=sH (h.Z q.o q.o.size);have F:=h.rS.bd;clear h N hN aP H Z;obtain⟨kk,fl,st,S,a,sc⟩:=k;dsimp only at F cg;go_enter func337,ntmps337;go_wp2;rw[<-cg];clear cg;go_loopg[6,7,8](a+1)(λgg v6 _ _ wr=>∃i:Nat,a-i<gg/\i<=a/\v6=ae aj (i:Int)/\ak (az r wr))
 .exact⟨0,aq,aq,rfl,cJ⟩
 obtain⟨i,hg,hi,rfl,l⟩:=hrel;have⟨O,d1,X,W⟩:=(V.o.ar l.o V.o.lt).k4;dsimp only at O d1 X W;have BW:=q.t l.o;by_cases C:i<a
 .obtain⟨ad,x,rfl,hx,e0,e1,e2,e3,e4,e5,e6,e7,e8,e9,D,K⟩:=ko (A:=S) (n:=a) (c:=sc) (R.o.rS.Z l.o l.o.size) C
  have⟨W3,b⟩:=eX (wr.alloc (RM x.row 184));obtain⟨T,U,t⟩:=th hx b;have m:=l.t T;have⟨X5,Q⟩:=K' U t;have TZ:=t.rC.bd;have hvn:=t.rV.bd;have i4:=aU i a;clear hx U t T;go_wp2;rw[<-b];clear b e0 e1 e2 e3 e4 e5 e6 e7 e8 e9 D K O d1 X W;go_loopg[8](x.cn+1)(λgg v8 wr=>∃j:Nat,x.cn-j<gg/\j<=x.cn/\v8=ae aj (j:Int)/\wr=W3)
  .exact⟨0,aq,aq,rfl,rfl⟩
  obtain⟨j,hgj,hj,rfl,rfl⟩:=hrel;have⟨c0,_,_,_,_,_,_,c7,_⟩:=X5.o.nv;by_cases B:j<x.cn
  .obtain⟨ady,y,P,dy⟩:=il Q.o.rC B
   rw[P]at c0;clear P;by_cases u:y=g
   .have z:(y !=g)=OZ:=by simp[u]
    by_cases L:j<x.vn
    .obtain⟨adv,G,v,J,Y,f0,f1,f2⟩:=NR Q.o.rV L
     rw[Y]at c7;clear Y;have p:(j:Int)<(x.vn:Int):=aq;have o:=s.o.ar m.o s.o.lt;obtain⟨d,E⟩:=o.heap;have ib:=m.o.size;clear u;go_wp2_with (refine wpList_store_row rfl 310 (.tmp 4) (.tmp 44) rfl (w.heap.size+1) (v3 G v J) rfl rfl d _ E aF aD ed ?_;have I:=o.row (ds:=v3 G v J));obtain⟨e,f⟩:=I.heap;refine bodyPost_ret (bY results337 _ _ (w.heap.size+1) e _ (0,0) _ aD f underlying310 rfl aF) rfl ?_;exact⟨G,v,J,OX,rfl,below_setRow (q.o.trans (m.o.mono q.o.size)) aq _⟩
    .have p:¬(j:Int)<(x.vn:Int):=by omega
     clear u;go_wp2;go_roundg(a-i)
     .exact⟨i+1,aq,aq,aV,m⟩
     omega
   .have z:(y !=g)=OX:=by simp[u]
    go_wp2;go_roundg(x.cn-j)
    .exact⟨j+1,aq,aq,aV,rfl⟩
    omega
  .go_wp2
   go_roundg(a-i)
   .exact⟨i+1,aq,aq,aV,m⟩
   omega
 .have o:=s.o.ar l.o s.o.lt
  obtain⟨d,E⟩:=o.heap;go_wp2_with (refine wpList_store_row rfl 310 (.tmp 4) (.tmp 45) rfl (w.heap.size+1) (v3 0 0 0) rfl aD d _ E aF aD ed ?_;have I:=o.row (ds:=v3 0 0 0));obtain⟨e,f⟩:=I.heap;refine bodyPost_ret (bY results337 _ _ (w.heap.size+1) e _ (0,0) _ aD f underlying310 rfl aF) rfl ?_;exact⟨0,0,0,OZ,rfl,below_setRow BW.o aq _⟩
abbrev v10(j f a d i b g c h e:Int):Array EN:=#[ae aj j,ae aj f,ae aj a,ae aj d,ae aj i,ae aj b,ae aj g,ae aj c,ae aj h,ae aj e]
def Xr(h:Int)(v:EN):Prop:=∃j a d i b f c g e:Int,v=Q4 (v10 j h a d i b f c g e)
def PAg(w:EE)(a:Int)(e:IS)(b:EE):Prop:=∃v,e=RE v/\Xr a v/\az w b
def Zr(l b k f h c i e j g a d y:Int)(w:EE):GK prog 338 #[Q4 (v10 l b k f h c i e j g),Q4 (v3 a d y)] w (PAg w b):=by
 have o:∀o1 n:Obj,(((w.alloc o1).alloc n).alloc (RM (v10 l b (IK (k+a)) (IK (f+d)) (IK (h+y)) c i e j g) 126)).heap[w.heap.size+2]? =OH (RM (v10 l b (IK (k+a)) (IK (f+d)) (IK (h+y)) c i e j g) 126 (0,0)):=λo1 n=>by
  have:=heap_alloc_new ((w.alloc o1).alloc n) (RM (v10 l b (IK (k+a)) (IK (f+d)) (IK (h+y)) c i e j g) 126);simpa using this
 have m:=Lib.hid o;go_enter func338,ntmps338;go_wp2_with fail;refine bodyPost_ret (results_cell_row results338 _ _ (w.heap.size+2) 126 _ (0,0) _ aD (m.out _ _) underlying126 rfl aF) rfl ?_;exact⟨_,rfl,⟨_,_,_,_,_,_,_,_,_,rfl⟩,((aw _ _).alloc aT _).alloc br _⟩
def lf{o:Func}{p q b:Tmp}{a:IQ}(h:o.results=#[.cell p a,.cell q a,.tmp b])(tmps:Array EN)(w:EE)(g g2:Nat)(t l:IQ)(cs ds:Array EN)(n c:Nat×Nat)(d:TypeDesc)
 (hp:tmps.getD p undef=PK (OH ⟨g,0,OJ⟩)) (s:tmps.getD q undef=PK (OH ⟨g2,0,OJ⟩)) (r:w.heap[g]? =OH (RM cs t n)) (e:w.heap[g2]? =OH (RM ds l c))
 (m:P.underlying a=OH d) (k:(match d with| .struct _| .array _ _=>OX|_=>OZ)=OX) (hi:(P.info? a).map (·.size)=OH cs.size) (j:(P.info? a).map (·.size)=OH ds.size):
 (results o tmps).run P w=.ok (P8 #[Q4 cs,Q4 ds,tmps.getD b undef]) w:=by
 have f:tmps[p]?.getD undef=PK (OH ⟨g,0,OJ⟩):=Tt;have i:tmps[q]?.getD undef=PK (OH ⟨g2,0,OJ⟩):=by simpa using s
 simp[results,h,f,i,asAddr,run_loadVar_row w g t a cs n d r m k hi,run_loadVar_row w g2 l a ds c d e m k j]
def ze(h:cU w B IW A n c)(q:j<n):∃(a:Addr) (o l k g m d i f:Int),A=OH a/\w.cell? (a.add (j*8))=OH (ae aj o)/\w.cell? (bX (a.add (j*8)) 1)=OH (ae aj l)/\w.cell? (bX (a.add (j*8)) 2)=OH (ae aj k)/\w.cell? (bX (a.add (j*8)) 3)=OH (ae aj g)/\w.cell? (bX (a.add (j*8)) 4)=OH (ae aj m)/\w.cell? (bX (a.add (j*8)) 5)=OH (ae aj d)/\w.cell? (bX (a.add (j*8)) 6)=OH (ae aj i)/\w.cell? (bX (a.add (j*8)) 7)=OH (ae aj f):=by
 obtain⟨a,e,_,r⟩:=h.2.2.2 aq;obtain⟨t,s,b⟩:=r j q;obtain⟨_,_,rfl,⟨o,rfl,_⟩,⟨_,_,rfl,⟨l,rfl,_⟩,⟨_,_,rfl,⟨_,_,rfl,⟨k,rfl,_⟩,⟨_,_,rfl,⟨g,rfl,_⟩,⟨m,rfl,_⟩⟩⟩,⟨_,_,rfl,⟨d,rfl,_⟩,⟨_,_,rfl,⟨i,rfl,_⟩,⟨f,rfl,_⟩⟩⟩⟩⟩⟩:=s;have p:=b 0 _ rfl;rw[fA]at p;exact⟨a,o,l,k,g,m,d,i,f,e,p,b 1 _ rfl,b 2 _ rfl,b 3 _ rfl,b 4 _ rfl,b 5 _ rfl,b 6 _ rfl,b 7 _ rfl⟩
def Bx.aeB(h:Bx w b cs)(a:b≠g)(ds:Array EN):Bx (w.setRow g ds) b cs:=by
 obtain⟨t,h⟩:=h;exact⟨t,by rw[setRow_other _ _ _ _ a];exact h⟩
def acS(w:EE)(e:IS)(h:EE):Prop:=∃(a d y g c f:Int) (b:Bool),e=RE (P8 #[Q4 (v3 a d y),Q4 (v3 g c f),PF b])/\az w h
def aaE(k:Lk)(s g2:Int)(w:EE)(h:ny w w.heap.size k):GK prog 340 #[k.v,ae aj s,ae aj g2] w (acS w):=by
 have⟨T,aP,B1,L⟩:=box1 w k.row 175;have⟨t,cg⟩:=eX ((T.alloc (RM (v3 0 0 0) 310)).alloc (RM (v3 0 0 0) 310));have bb:az T t:=aam;have hN:T.heap.size=w.heap.size+1:=oW;have Iu:t.heap.size=w.heap.size+3:=Cv;have v:=B1.t bb;have X3:ak (Bx t (w.heap.size+1) (v3 0 0 0)):=⟨by rw[cg];exact(Bx.iR _ _ _ hN).ar ((Below.refl (w.heap.size+2) _).alloc (by simp;omega) _) (by omega)⟩;have r:ak (Bx t (w.heap.size+2) (v3 0 0 0)):=⟨by rw[cg];exact Bx.iR _ _ _ (by simp;omega)⟩;have X4:=sH (L.o.ar bb L.o.lt);rw[aP]at cg;have R:=sH h;have J:=h.rS.bd;clear h bb hN aP L B1;obtain⟨kk,fl,st,S,d,sc⟩:=k;dsimp only at J cg;go_enter func340,ntmps340;go_wp2;rw[<-cg];clear cg;go_loopg[9,10,11](d+1)(λgg v9 _ _ wr=>∃i:Nat,d-i<gg/\i<=d/\v9=ae aj (i:Int)/\wr=t)
 .exact⟨0,aq,aq,rfl,rfl⟩
 obtain⟨i,hg,hi,rfl,rfl⟩:=hrel;have⟨d0,d1,d2,d3⟩:=X4.o.k4;dsimp only at d0 d1 d2 d3;by_cases X:i<d
 .obtain⟨ad,x,rfl,V,e0,e1,e2,e3,e4,e5,e6,e7,Y,e9,I,Q⟩:=ko (A:=S) (n:=d) (c:=sc) R.o.rS X
  have Y:=av Y v.o;have RP:=sH V.rP;have XM:=V.rP.bd;generalize x.P=PA at*;have i4:=aU i d;clear V;go_wp2;clear d0 d1 d2 d3 e0 e1 e2 e3 e4 e5 e6 e7 Y e9 I Q;go_loopg[11](x.pn+1)(λgg M Z=>∃j:Nat,x.pn-j<gg/\j<=x.pn/\M=ae aj (j:Int)/\Z=wr)
  .exact⟨0,aq,aq,rfl,rfl⟩
  obtain⟨j,hgj,hj,rfl,rfl⟩:=hrel;by_cases W:j<x.pn
  .obtain⟨adp,F,N,x2,x3,x4,x5,x6,x7,rfl,O,p1,p2,p3,p4,p5,p6,p7⟩:=ze RP.o W
   have ag3:(j:Int)<(x.pn:Int):=aq;have⟨B,D,C,E,z,G⟩:=lc6 p2 p3 p4 p5 p6 p7;have LS:=sH (And.intro B (And.intro D (And.intro C (And.intro E (And.intro z G)))));have O:=av O v.o;have p1:=av p1 v.o;clear B D C E z G p2 p3 p4 p5 p6 p7;by_cases p:F=s
   .by_cases y:N=g2
    .have q:(F==s)=OX:=by simp[p]
     have P:(N==g2)=OX:=(by simp[y]);clear p y;go_wp2;obtain⟨B,D,C,E,z,G⟩:=LS.o;clear O p1;refine Kx.vJ (w0:=w) (λ_=>OJ) (λ_=>OZ) (λw'=>(∃cs:Array EN,Bx w' (w.heap.size+1) cs/\cs.toList.map Kx.kd=[0,0,0])/\(∃cs:Array EN,Bx w' (w.heap.size+2) cs/\cs.toList.map Kx.kd=[0,0,0])) v.o ⟨⟨_,X3.o,rfl⟩,⟨_,r.o,rfl⟩⟩ (λu u' hu he=>⟨Kx.Zi hu.1 he,Kx.Zi hu.2 he⟩) (λ_ _=>rfl) aF aF aF ?_;refine mKx ?_;refine Kx.fN aD aD (λw9 f o=> ?_) ?_
     .obtain⟨U,rfl⟩:=f
      exact Kx.fK 310 (.tmp 6) (.tmp 51) rfl (w.heap.size+1) (v3 x2 x3 x4) rfl rfl o.1 aF ed aq
     simp[Act.put];refine mKx ?_;refine Kx.fN aD aD (λw9 f o=> ?_) ?_
     .obtain⟨U,rfl⟩:=f
      exact Kx.fK 310 (.tmp 7) (.tmp 56) rfl (w.heap.size+2) (v3 x5 x6 x7) rfl rfl o.2 aF ed aq
     simp[Act.put];refine mKx ?_;intro U hE;obtain⟨⟨cs,hX1,k1⟩,⟨ds,hX2,k2⟩⟩:=hE;obtain⟨a,b,c,rfl⟩:=Kx.Cm k1;obtain⟨a',b',c',rfl⟩:=Kx.Cm k2;obtain⟨e,hZ⟩:=hX1.heap;obtain⟨l,m⟩:=hX2.heap;have BN:=sH U.2;clear B D C E z G k1 k2;go_wp2_with fail;refine bodyPost_ret (lf results340 _ _ (w.heap.size+1) (w.heap.size+2) e l _ _ (0,0) (0,0) _ aD aD hZ m underlying310 rfl aF aF) rfl ?_;exact⟨a,b,c,a',b',c',OX,rfl,BN.o⟩
    .have q:(F==s)=OX:=by simp[p]
     have P:(N==g2)=OZ:=(by simp[y]);clear p y;go_wp2;go_roundg(x.pn-j)
     .exact⟨j+1,aq,aq,aV,rfl⟩
     omega
   .have q:(F==s)=OZ:=by simp[p]
    clear p;go_wp2;go_roundg(x.pn-j)
    .exact⟨j+1,aq,aq,aV,rfl⟩
    omega
  .go_wp2
   go_roundg(d-i)
   .exact⟨i+1,aq,aq,aV,rfl⟩
   omega
 .obtain⟨H,hX⟩:=X3.o.heap
  go_wp2_with (first
   |(refine wpList_store_row rfl 310 (.tmp 6) (.tmp 57) rfl (w.heap.size+1) (v3 0 0 0) rfl aD H _ hX aF aD ed ?_;have X5:=X3.o.row (ds:=v3 0 0 0);have X6:=r.o.aeB (g:=w.heap.size+1) aq (v3 0 0 0);obtain⟨K,hY⟩:=X6.heap)
   |(refine wpList_store_row rfl 310 (.tmp 7) (.tmp 58) rfl (w.heap.size+2) (v3 0 0 0) rfl aD K _ hY aF aD ed ?_;have X7:=X6.row (ds:=v3 0 0 0);have X8:=X5.aeB (g:=w.heap.size+2) aq (v3 0 0 0)))
  obtain⟨e,hZ⟩:=X8.heap;obtain⟨l,m⟩:=X7.heap;refine bodyPost_ret (lf results340 _ _ (w.heap.size+1) (w.heap.size+2) e l _ _ (0,0) (0,0) _ aD aD hZ m underlying310 rfl aF aF) rfl ?_;exact⟨0,0,0,0,0,0,OZ,rfl,below_setRow (below_setRow v.o aq _) aq _⟩
section
open Go.Deep
def OL.Ee{cs:aC}(h:OL w B e 10 (λxs=>aM xs=cs) (OH ⟨g,0,OJ⟩) n c){j:Nat}(a:j<n)(p t m r o d i f l s:Int)(D:t=nth cs j):
 OL (w.setCells g (j*10) (v10 p t m r o d i f l s).toList) B e 10 (λxs=>aM xs=cs) (OH ⟨g,0,OJ⟩) n c:=by
 have k:∀(q:Nat) (v:Int),q≠1->∀(xs:List aC) (u:xs.length=n),(∀g∈xs,g.length=10)->aM xs=cs->aM (xs.set j ((xs[j]' aq).set q v))=cs:=λq v K xs u _ b=>by rw[qN xs aq K,b]
 have F:=h.set (L':=λxs=>aM xs=cs) a (q:=0) aq p (k 0 p aq);have C:=F.set (L':=λxs=>aM xs=cs) a (q:=1) aq t (λxs u E b=>by
  have G:=dK xs;rw[tR xs j aq E,b,D,bZ (by rw[<-b];omega),List.set_getElem_self])
 have J:=C.set (L':=λxs=>aM xs=cs) a (q:=2) aq m (k 2 m aq);have z:=J.set (L':=λxs=>aM xs=cs) a (q:=3) aq r (k 3 r aq);have y:=z.set (L':=λxs=>aM xs=cs) a (q:=4) aq o (k 4 o aq);have A:=y.set (L':=λxs=>aM xs=cs) a (q:=5) aq d (k 5 d aq);have I:=A.set (L':=λxs=>aM xs=cs) a (q:=6) aq i (k 6 i aq);have H:=I.set (L':=λxs=>aM xs=cs) a (q:=7) aq f (k 7 f aq);have x:=H.set (L':=λxs=>aM xs=cs) a (q:=8) aq l (k 8 l aq);exact x.set (L':=λxs=>aM xs=cs) a (q:=9) aq s (k 9 s aq)
def Oq.xY{Q:aC->Prop}(h:Oq w B e 10 Q (OH ⟨g,0,OJ⟩) n c){j:Nat}(p:j<n):w.there g (j*10) 10:=λi hi=>by
 obtain⟨z,D,x,A,y,s,u,t,v,C,_,b,f,l,q,d,a,o,r,m,k⟩:=h.bK p;refine⟨?_,h.fz _⟩
 match i,hi with
 |0,_=>rw[Nat.add_zero,b];rfl
 |1,_=>rw[f];rfl
 |2,_=>rw[l];rfl
 |3,_=>rw[q];rfl
 |4,_=>rw[d];rfl
 |5,_=>rw[a];rfl
 |6,_=>rw[o];rfl
 |7,_=>rw[r];rfl
 |8,_=>rw[m];rfl
 |9,_=>rw[k];rfl
def dO{B g:Nat}{a:EE}(b:B<=g):∀(vs:List EN) (o:Nat) (w:EE),EI B a w->EI B a (w.setCells g o vs)
 |[],_,_,h=>h
 |v::vs,o,w,h=>dO b vs (o+1) _ (Below.setCell h (p:=⟨g,o,OJ⟩) b v)
def PAs(w:EE)(B:Nat)(Q:List aC->Prop)(n:Nat)(e:IS)(a:EE):Prop:=∃(A:aB) (m c x:Nat) (b:Bool),e=RE (P8 #[Pl A m c,ae aj (x:Int),PF b])/\(b=OX->m=n/\x<=n+1/\iZ a B Q A m c)/\az w a
def Bx.fL(h:Bx w b cs)(a:b≠g)(o:Nat)(v:EN):Bx (w.setCell ⟨g,o,OJ⟩ v) b cs:=by
 obtain⟨t,h⟩:=h;exact⟨t,(Below.heap_setCell _ _ _ _ a).trans h⟩
def Bx.uJ{b g:Nat}{cs:Array EN}(a:b≠g):∀(vs:List EN) (o:Nat) {w:EE},Bx w b cs->Bx (w.setCells g o vs) b cs
 |[],_,_,h=>h
 |v::vs,o,w,h=>Bx.uJ a vs (o+1) (h.fL a o v)
def ZQ(p:EN->Prop):Sat:=⟨λv _=>p v,λ_ _ _ h _=>h⟩
def ka(v:EN):Prop:=∃(a d y:Int) (b:Bool),v=P8 #[Q4 (v3 a d y),PF b]
def Pb(v:EN):Prop:=∃(a d y e f c:Int) (b:Bool),v=P8 #[Q4 (v3 a d y),Q4 (v3 e f c),PF b]
def afp(s:G:=by
 go_simp
 refine aZ (ZQ (Xr x1)) ((Zr x0 x1 x2 x3 x4 x5 x6 x7 x8 x9 a1 a2 a3 nq.1).mono ?_);rintro e w5 ⟨v,rfl,hv,hb⟩;exact⟨_,rfl,hv,hb⟩):G:=s
def Yg(f:dv)(k:Lk)(lo hi:Int)(A:aB)(n c at_:Nat)(w:EE)(h:cC w w.heap.size f)(hk:ny w w.heap.size k)(hl:lF w (bI lo hi) A n)(hn:n<=50000)(ha:at_<n):
 GK prog 322 #[f.v,k.v,Pl A n c,ae aj (at_:Int)] w (PAs w w.heap.size (bI lo hi) n):=by
 have⟨Y,aP,T,X1,X2⟩:=box2 w f.row 102 k.row 175;have⟨R,RK,GL⟩:=MO (h.Z T.o T.o.size) (hk.Z T.o T.o.size) (hl.jB.Z T.o T.o.size);obtain⟨gs,hS,hx0⟩:=hl;have⟨GX,HN⟩:=K' (hx0.Z T.o T.o.size) hx0.1;have su:ak (∀xs,aM xs=aM gs->bI lo hi xs):=⟨λxs h=>by show CS _ _ _;rw[h];exact hS⟩;clear h hk hS hx0;have i1:¬((n:Int)<=(at_:Int)):=aq;have i3:=aU at_ n;obtain⟨kk,fl,st,S,sn,sc⟩:=k;have Gq:kk=6∨kk=7∨((kk==6)=OZ/\(kk==7)=OZ):=br;rcases Gq with rfl|rfl|⟨k1,k2⟩
 rotate_left 2
 .go_enter func322,ntmps322
  go_wp2_with (at_builtin;rw[<-aP];refine cL (M:=λxs=>xs=gs) (L':=λxs=>aM xs=aM gs) pT rfl (.tmp 26) (.tmp 27) rfl rfl (OL.nil (L:=λxs=>xs=[]) Y Y.heap.size _ _ rfl) rfl ⟨gs,rfl,GX.o⟩ (λxs ys _ _ _ _ h1 h2=>by subst h1;subst h2;rfl) aq cr ?_;intro A7 c7 w7 o7 U;rw[Nat.zero_add]at o7;have O7:=sH o7;have G:=sH U;have⟨V,X,W,d3⟩:=(X2.o.ar U X2.o.lt).k4;have⟨c0,c1,c2,c3,c4,c5⟩:=(X1.o.ar U X1.o.lt).f6;dsimp only at V X W d3;clear o7 U);go_ret3;exact⟨OJ,0,0,0,OZ,rfl,aT,T.o.trans (G.o.mono T.o.size)⟩
 .go_enter func322,ntmps322
  go_wp2_with (at_builtin;rw[<-aP];refine cL (M:=λxs=>xs=gs) (L':=λxs=>aM xs=aM gs) pT rfl (.tmp 26) (.tmp 27) rfl rfl (OL.nil (L:=λxs=>xs=[]) Y Y.heap.size _ _ rfl) rfl ⟨gs,rfl,GX.o⟩ (λxs ys _ _ _ _ h1 h2=>by subst h1;subst h2;rfl) aq cr ?_;intro A7 c7 w7 o7 U;rw[Nat.zero_add]at o7;have O7:=sH o7;have G:=sH U;have⟨V,X,W,d3⟩:=(X2.o.ar U X2.o.lt).k4;have⟨c0,c1,c2,c3,c4,c5⟩:=(X1.o.ar U X1.o.lt).f6;dsimp only at V X W d3;clear o7 U);have Mu:=G.o.size;have⟨M0,M1,M2,M3⟩:=lc4 V X W d3;have BV7:=T.t G.o;have⟨G7,RK7⟩:=K' (GL.o.Z G.o G.o.size) (RK.o.Z G.o G.o.size);obtain⟨ad,x0,x1,x2,x3,x4,x5,x6,x7,x8,x9,rfl,Z,P,_⟩:=G7.o.bK ha;have E0:=au P;clear V X W d3 c0 c1 c2 c3 c4 c5 P Z;refine Kx.bm (λd=>if d=OH 40 then OH (Kx.ZP ka)else if d=OH 12 then OH (Kx.ZK w7.heap.size [0,0,0])else OJ) (λd=>d==OH 40||d==OH 12) (λd hd=>C9) aF aF aF ?_;refine mKx ?_;refine kxA (Kx.ZP ka) (λnq=> ?_) (λv9 j=> ?_)
  .go_simp
   refine Kx.aZ (Kx.ZP ka) ((ad5 ⟨6,fl,st,S,sn,sc⟩ x0 nq.1 (RK7.o.Z nq.2 nq.2.size)).mono ?_);rintro e w5 ⟨a,d,y,b,rfl,hb⟩;exact⟨_,rfl,⟨a,d,y,b,rfl⟩,hb⟩
  obtain⟨_,_,va,vd,vy,b,rfl⟩:=j;simp[Act.put];refine mKx ?_;refine kxA (Kx.ZK w7.heap.size [0,0,0]) (λnq=> ?_) (λv9 j=> ?_)
  .go_simp
   exact Kx.lN nq _ _ _ rfl aT
  obtain⟨_,_,g2,rfl,dV,_⟩:=j;simp[Act.put];refine Kx.fN aD aD (λw9 i O=> ?_) ?_
  .obtain⟨nq,rfl⟩:=i
   exact Kx.fK 310 (.tmp 12) (.tmp 41) rfl g2 (v3 va vd vy) rfl rfl (Kx.ZK.get O.2) aF ed dV
  simp[Act.put];refine mKx ?_;intro nq Q;obtain⟨cs,hX,se⟩:=Kx.ZK.get Q.2;obtain⟨a1,a2,a3,rfl⟩:=Kx.Cm se;have⟨X8,I,O8⟩:=MO hX (G.o.trans (nq.2.mono Mu)) (O7.o.ar nq.2);have l:=BV7.t nq.2;have⟨w8,J⟩:=eX nq.1;rw[<-J]at I O8 l X8
  try dsimp only
  rw[<-J];clear J Q E0 M0 M1 M2 M3 hX se;have iW:=T.o.size;cases b
  .go_wp2
   go_ret3;exact⟨OJ,0,0,0,OZ,rfl,aT,l.o⟩
  go_wp2;obtain⟨m,rfl,Nb,Vt⟩:=O8.o.form aq;obtain⟨ad8,x0,x1,x2,x3,x4,x5,x6,x7,x8,x9,o,Z,P,e1,e2,e3,e4,e5,e6,e7,e8,e9⟩:=(GX.o.Z I.o I.o.size).bK ha;obtain rfl:ad=ad8:=Option.some.inj o;have QX:ak (x1=nth (aM gs) at_):=⟨by rw[gK (by rw[HN.o];exact ha),<-Z];rfl⟩;have⟨F0,F1,F2,F3,F4,F5,F6,F7⟩:=lc8 P e1 e2 e3 e4 e5 e6 e7;have⟨F8,F9,H0,H1,H2⟩:=lc5 e8 e9 (X8.o.cell 0) (X8.o.cell 1) (X8.o.cell 2);clear P e1 e2 e3 e4 e5 e6 e7 e8 e9 o Z;refine aQ (jD 51 (ZQ (Xr x1))) 9 rfl aF aF aF aF aF rfl ?_;refine mLw ?_;refine lwA (ZQ (Xr x1)) (λnq=> ?_) (λv9 j=> ?_)
  .exact afp
  obtain⟨_,_,E,F,x,u,s,C,B,D,r,rfl⟩:=j;simp[Act.put];refine mLw ?_;intro nq Q;have p:iZ nq.1 Y.heap.size (λxs=>aM xs=aM gs) (OH ⟨m,0,OJ⟩) n c7:=O8.o.ar nq.2;have TH:=p.o.xY ha;have O9:=sH (p.Ee ha E x1 F x u s C B D r QX.o);have q:ak (az w (nq.1.setCells m (at_*10) (v10 E x1 F x u s C B D r).toList)):=⟨dO aq _ _ _ (l.o.trans (nq.2.mono l.o.size))⟩;have K:ak (az Y (nq.1.setCells m (at_*10) (v10 E x1 F x u s C B D r).toList)):=⟨dO aq _ _ _ (I.o.trans (nq.2.mono I.o.size))⟩;have KB:ak (∀(b:Nat) (cs:Array EN),Bx w8 b cs->b≠m->Bx (nq.1.setCells m (at_*10) (v10 E x1 F x u s C B D r).toList) b cs):=⟨λb cs hb hn=>Bx.uJ hn _ _ (hb.ar nq.2 hb.lt)⟩;clear F0 F1 F2 F3 F4 F5 F6 F7 F8 F9 H0 H1 H2;refine wp_store_mid 126 (.tmp 52) (.tmp 51) rfl m (at_*10) (v10 E x1 F x u s C B D r) rfl rfl TH aF ed ?_;have⟨w9,i⟩:=eX (nq.1.setCells m (at_*10) (v10 E x1 F x u s C B D r).toList);rw[<-i]at O9 q K KB
  try dsimp only
  rw[<-i]
  try simp only[Act.put]
  clear i TH p Q;go_wp2;go_ret3;exact⟨_,n,c7,at_+1,OX,rfl,λ_=>⟨rfl,aq,(O9.o.imp λxs _ _ h=>su.o xs h).cS aq⟩,q.o⟩
 .go_enter func322,ntmps322
  go_wp2_with (at_builtin;rw[<-aP];refine cL (M:=λxs=>xs=gs) (L':=λxs=>aM xs=aM gs) pT rfl (.tmp 26) (.tmp 27) rfl rfl (OL.nil (L:=λxs=>xs=[]) Y Y.heap.size _ _ rfl) rfl ⟨gs,rfl,GX.o⟩ (λxs ys _ _ _ _ h1 h2=>by subst h1;subst h2;rfl) aq cr ?_;intro A7 c7 w7 o7 U;rw[Nat.zero_add]at o7;have O7:=sH o7;have G:=sH U;have⟨V,X,W,d3⟩:=(X2.o.ar U X2.o.lt).k4;have⟨c0,c1,c2,c3,c4,c5⟩:=(X1.o.ar U X1.o.lt).f6;dsimp only at V X W d3;clear o7 U);have Mu:=G.o.size;have BV7:=T.t G.o;have⟨G7,RK7⟩:=K' (GL.o.Z G.o G.o.size) (RK.o.Z G.o G.o.size);have NX:=sH (yU f ⟨7,fl,st,S,sn,sc⟩ (Lq lo hi) A n c at_ w7 (R.o.Z G.o G.o.size) G7.o aq ha);refine NX.o.mono ?_;rintro e w6 ⟨z,rfl,hz,H⟩;have B6:=sH (G.o.trans (H.mono Mu));have GJ:=BV7.t H;have⟨O6,G6,RK6⟩:=MO (O7.o.ar H) (G7.o.Z H H.size) (RK7.o.Z H H.size);clear NX H c0 c1 c2 c3 c4 c5 V X W d3;rcases hz with rfl|⟨gL,dZ⟩
  .go_wp2
   go_ret3;exact⟨OJ,0,0,0,OZ,rfl,aT,GJ.o⟩
  obtain⟨t,rfl⟩:∃t:Nat,z=(t:Int):=⟨z.toNat,aq⟩;have iG:t<n:=aq;have i5:=aU t n;have i6:((t:Int)== -1)=OZ:=iY;have⟨V,X,W,d3⟩:=(X2.o.ar B6.o X2.o.lt).k4;dsimp only at V X W d3;obtain⟨ad,x0,x1,x2,x3,x4,x5,x6,x7,x8,x9,rfl,Z,P,_⟩:=G6.o.bK ha;obtain⟨jo,y0,y1,y2,y3,y4,y5,y6,y7,y8,y9,o,hQ',f0,_⟩:=G6.o.bK iG;obtain rfl:ad=jo:=Option.some.inj o;have⟨E0,E1,M0,M1,M2,M3⟩:=lc6 P f0 V X W d3;clear V X W d3 P f0 Z hQ' o gL dZ;go_wp2;refine Kx.bm (λd=>if d=OH 77 then OH (Kx.ZP Pb)else if d=OH 15 then OH (Kx.ZK w6.heap.size [0,0,0])else if d=OH 16 then OH (Kx.ZK w6.heap.size [0,0,0])else OJ) (λd=>d==OH 77||d==OH 15||d==OH 16) (λd hd=>C9) aF aF aF ?_;refine mKx ?_;refine kxA (Kx.ZP Pb) (λnq=> ?_) (λv9 j=> ?_)
  .go_simp
   refine Kx.aZ (Kx.ZP Pb) ((aaE ⟨7,fl,st,S,sn,sc⟩ x0 y0 nq.1 (RK6.o.Z nq.2 nq.2.size)).mono ?_);rintro e w5 ⟨a,d,y,a',d',y',b,rfl,hb⟩;exact⟨_,rfl,⟨a,d,y,a',d',y',b,rfl⟩,hb⟩
  obtain⟨_,_,va,vd,vy,va',vd',vy',b,rfl⟩:=j;simp[Act.put];refine mKx ?_;refine kxA (Kx.ZK w6.heap.size [0,0,0]) (λnq=> ?_) (λv9 j=> ?_)
  .go_simp
   exact Kx.lN nq _ _ _ rfl aT
  obtain⟨_,_,g2,rfl,dV,_⟩:=j;simp[Act.put];refine kxA (Kx.ZK w6.heap.size [0,0,0]) (λnq=> ?_) (λv9 j=> ?_)
  .go_simp
   exact Kx.lN nq _ _ _ rfl aT
  obtain⟨_,_,g3,rfl,tC,_⟩:=j;simp[Act.put];refine Kx.fN aD aD (λw9 i O=> ?_) ?_
  .obtain⟨nq,rfl⟩:=i
   exact Kx.fK 310 (.tmp 15) (.tmp 78) rfl g2 (v3 va vd vy) rfl rfl (Kx.ZK.get (by first|exact O.1.2|exact O.2.1)) aF ed dV
  simp[Act.put];refine Kx.fN aD aD (λw9 i O=> ?_) ?_
  .obtain⟨nq,rfl⟩:=i
   exact Kx.fK 310 (.tmp 16) (.tmp 79) rfl g3 (v3 va' vd' vy') rfl rfl (Kx.ZK.get (by first|exact O.2|exact O.2.2)) aF ed tC
  simp[Act.put];refine mKx ?_;intro nq Q;obtain⟨cs,hX,se⟩:=Kx.ZK.get (w:=nq.1) (g:=g2) (N:=w6.heap.size) (by first|exact Q.1.2|exact Q.2.1);obtain⟨a1,a2,a3,rfl⟩:=Kx.Cm se;obtain⟨ds,hX',ade⟩:=Kx.ZK.get (w:=nq.1) (g:=g3) (N:=w6.heap.size) (by first|exact Q.2.2|exact Q.2);obtain⟨b1,b2,b3,rfl⟩:=Kx.Cm ade;have⟨X8,X9⟩:=K' hX hX';have hs6:=B6.o.size;have⟨I,O8⟩:=K' (B6.o.trans (nq.2.mono hs6)) (O6.o.ar nq.2);have l:=GJ.t nq.2;have hO6:∀g,A7=OH ⟨g,0,OJ⟩->g<w6.heap.size:=λg e=>by
   obtain⟨g',e',_,h⟩:=O6.o.form aq;rw[e]at e';injection e' with e'
   injection e' with e'
   omega
  have HO6:=sH hO6;have⟨w8,J⟩:=eX nq.1;rw[<-J]at I O8 l X8 X9
  try dsimp only
  rw[<-J];clear J Q E0 E1 M0 M1 M2 M3 hX se hX' ade hO6;have iW:=T.o.size;cases b
  .go_wp2
   go_ret3;exact⟨OJ,0,0,0,OZ,rfl,aT,l.o⟩
  go_wp2;obtain⟨m,rfl,Nb,Vt⟩:=O8.o.form aq;have fh:g3≠m:=by have:=HO6.o m rfl;omega
  obtain⟨ad8,x0,x1,x2,x3,x4,x5,x6,x7,x8,x9,o,Z,P,e1,e2,e3,e4,e5,e6,e7,e8,e9⟩:=(GX.o.Z I.o I.o.size).bK ha;obtain rfl:ad=ad8:=Option.some.inj o;have QX:ak (x1=nth (aM gs) at_):=⟨by rw[gK (by rw[HN.o];exact ha),<-Z];rfl⟩;have⟨F0,F1,F2,F3,F4,F5,F6,F7⟩:=lc8 P e1 e2 e3 e4 e5 e6 e7;have⟨F8,F9,H0,H1,H2⟩:=lc5 e8 e9 (X8.o.cell 0) (X8.o.cell 1) (X8.o.cell 2);clear P e1 e2 e3 e4 e5 e6 e7 e8 e9 o Z;refine aQ (jD 89 (ZQ (Xr x1))) 9 rfl aF aF aF aF aF rfl ?_;refine mLw ?_;refine lwA (ZQ (Xr x1)) (λnq=> ?_) (λv9 j=> ?_)
  .exact afp
  obtain⟨_,_,E,F,x,u,s,C,B,D,r,rfl⟩:=j;simp[Act.put];refine mLw ?_;intro nq Q;have p:iZ nq.1 Y.heap.size (λxs=>aM xs=aM gs) (OH ⟨m,0,OJ⟩) n c7:=O8.o.ar nq.2;have TH:=p.o.xY ha;have O9:=sH (p.Ee ha E x1 F x u s C B D r QX.o);have q:ak (az w (nq.1.setCells m (at_*10) (v10 E x1 F x u s C B D r).toList)):=⟨dO aq _ _ _ (l.o.trans (nq.2.mono l.o.size))⟩;have K:ak (az Y (nq.1.setCells m (at_*10) (v10 E x1 F x u s C B D r).toList)):=⟨dO aq _ _ _ (I.o.trans (nq.2.mono I.o.size))⟩;have KB:ak (∀(b:Nat) (cs:Array EN),Bx w8 b cs->b≠m->Bx (nq.1.setCells m (at_*10) (v10 E x1 F x u s C B D r).toList) b cs):=⟨λb cs hb hn=>Bx.uJ hn _ _ (hb.ar nq.2 hb.lt)⟩;clear F0 F1 F2 F3 F4 F5 F6 F7 F8 F9 H0 H1 H2;refine wp_store_mid 126 (.tmp 90) (.tmp 89) rfl m (at_*10) (v10 E x1 F x u s C B D r) rfl rfl TH aF ed ?_;have⟨w9,i⟩:=eX (nq.1.setCells m (at_*10) (v10 E x1 F x u s C B D r).toList);rw[<-i]at O9 q K KB
  try dsimp only
  rw[<-i]
  try simp only[Act.put]
  clear i TH p Q;have Ps:=sH (KB.o g3 _ X9.o fh);have O8:=O9;have I:=K;have l:=q;clear O9 K q KB;go_wp2;obtain⟨ad8,x0,x1,x2,x3,x4,x5,x6,x7,x8,x9,o,Z,P,e1,e2,e3,e4,e5,e6,e7,e8,e9⟩:=(GX.o.Z I.o I.o.size).bK iG;obtain rfl:ad=ad8:=Option.some.inj o;have QX:ak (x1=nth (aM gs) t):=⟨by rw[gK (by rw[HN.o];exact iG),<-Z];rfl⟩;have⟨F0,F1,F2,F3,F4,F5,F6,F7⟩:=lc8 P e1 e2 e3 e4 e5 e6 e7;have⟨F8,F9,H0,H1,H2⟩:=lc5 e8 e9 (Ps.o.cell 0) (Ps.o.cell 1) (Ps.o.cell 2);clear P e1 e2 e3 e4 e5 e6 e7 e8 e9 o Z;refine aQ (jD 98 (ZQ (Xr x1))) 9 rfl aF aF aF aF aF rfl ?_;refine mLw ?_;refine lwA (ZQ (Xr x1)) (λnq=> ?_) (λv9 j=> ?_)
  .go_simp
   refine aZ (ZQ (Xr x1)) ((Zr x0 x1 x2 x3 x4 x5 x6 x7 x8 x9 b1 b2 b3 nq.1).mono ?_);rintro e w5 ⟨v,rfl,hv,hb⟩;exact⟨_,rfl,hv,hb⟩
  obtain⟨_,_,E,F,x,u,s,C,B,D,r,rfl⟩:=j;simp[Act.put];refine mLw ?_;intro nq Q;have p:iZ nq.1 Y.heap.size (λxs=>aM xs=aM gs) (OH ⟨m,0,OJ⟩) n c7:=O8.o.ar nq.2;have TH:=p.o.xY iG;have O9:=sH (p.Ee iG E x1 F x u s C B D r QX.o);have q:ak (az w (nq.1.setCells m (t*10) (v10 E x1 F x u s C B D r).toList)):=⟨dO aq _ _ _ (l.o.trans (nq.2.mono l.o.size))⟩;have K:ak (az Y (nq.1.setCells m (t*10) (v10 E x1 F x u s C B D r).toList)):=⟨dO aq _ _ _ (I.o.trans (nq.2.mono I.o.size))⟩;have KB:ak (∀(b:Nat) (cs:Array EN),Bx w9 b cs->b≠m->Bx (nq.1.setCells m (t*10) (v10 E x1 F x u s C B D r).toList) b cs):=⟨λb cs hb hn=>Bx.uJ hn _ _ (hb.ar nq.2 hb.lt)⟩;clear F0 F1 F2 F3 F4 F5 F6 F7 F8 F9 H0 H1 H2;refine wp_store_mid 126 (.tmp 99) (.tmp 98) rfl m (t*10) (v10 E x1 F x u s C B D r) rfl rfl TH aF ed ?_;have⟨w9,i⟩:=eX (nq.1.setCells m (t*10) (v10 E x1 F x u s C B D r).toList);rw[<-i]at O9 q K KB
  try dsimp only
  rw[<-i]
  try simp only[Act.put]
  clear i TH p Q;have X11:=KB.o g3 _ Ps.o fh;have q0:=X11.cell 0;have q1:=X11.cell 1;have q2:=X11.cell 2;simp at q0 q1 q2;go_wp2_with fail
  all_goals first
   |(go_ret3;exact⟨_,n,c7,t+1,OX,rfl,λ_=>⟨rfl,aq,(O9.o.imp λxs _ _ h=>su.o xs h).cS aq⟩,q.o⟩)
   |(go_ret3;exact⟨_,n,c7,t,OX,rfl,λ_=>⟨rfl,aq,(O9.o.imp λxs _ _ h=>su.o xs h).cS aq⟩,q.o⟩)
end
abbrev v7(g:Int)(c d:Bool)(x y a b:Int):Array EN:=#[ae aj g,PF c,PF d,ae aj x,ae aj y,ae aj a,ae aj b]
def yu(h:cU w B IU A n c)(o:j<n):∃(a:Addr) (g:Int) (d f:Bool) (x y k q:Int),A=OH a/\w.cell? (a.add (j*7))=OH (ae aj g)/\w.cell? (bX (a.add (j*7)) 1)=OH (PF d)/\w.cell? (bX (a.add (j*7)) 2)=OH (PF f)/\w.cell? (bX (a.add (j*7)) 3)=OH (ae aj x)/\w.cell? (bX (a.add (j*7)) 4)=OH (ae aj y)/\w.cell? (bX (a.add (j*7)) 5)=OH (ae aj k)/\w.cell? (bX (a.add (j*7)) 6)=OH (ae aj q):=by
 obtain⟨a,e,_,r⟩:=h.2.2.2 aq;obtain⟨v,s,b⟩:=r j o;obtain⟨_,_,rfl,⟨u,rfl,_⟩,⟨_,_,rfl,⟨d,rfl⟩,⟨_,_,rfl,⟨f,rfl⟩,⟨_,_,rfl,⟨_,_,rfl,⟨m,rfl,_⟩,⟨t,rfl,_⟩⟩,⟨_,_,rfl,⟨l,rfl,_⟩,⟨p,rfl,_⟩⟩⟩⟩⟩⟩:=s;have i:=b 0 _ rfl;rw[fA]at i;exact⟨a,u,d,f,m,t,l,p,e,i,b 1 _ rfl,b 2 _ rfl,b 3 _ rfl,b 4 _ rfl,b 5 _ rfl,b 6 _ rfl⟩
def sK(v:EN):Prop:=∃(g:Int) (d e:Bool) (x y a c:Int) (b:Bool),v=P8 #[Q4 (v7 g d e x y a c),PF b]
def agH(w:EE)(e:IS)(f:EE):Prop:=∃(g:Int) (d h:Bool) (x y a c:Int) (b:Bool),e=RE (P8 #[Q4 (v7 g d h x y a c),PF b])/\az w f
abbrev k7:List Nat:=[0,1,1,0,0,0,0]
def XF(h:cs.toList.map Kx.kd=k7):∃(g:Int) (f e:Bool) (x y d i:Int),cs=v7 g f e x y d i:=by
 have key:∀v:EN,Kx.kd v=0->∃z,v=ae aj z:=λv b=>by
  unfold Kx.kd at b;split at b
  .exact⟨_,rfl⟩
  .cases b
  .cases b
 have c:∀v:EN,Kx.kd v=1->∃z,v=PF z:=λv b=>by
  unfold Kx.kd at b;split at b
  .cases b
  .exact⟨_,rfl⟩
  .cases b
 have⟨l,hl⟩:=eY cs.toList;rw[hl]at h;rcases l with _|⟨u0,_|⟨u1,_|⟨u2,_|⟨u3,_|⟨u4,_|⟨u5,_|⟨u6,_|⟨y,l⟩⟩⟩⟩⟩⟩⟩⟩<;>simp[k7]at h
 obtain⟨o,m,q,k,j,n,p⟩:=h;obtain⟨a,rfl⟩:=key _ o;obtain⟨f,rfl⟩:=c _ m;obtain⟨e,rfl⟩:=c _ q;obtain⟨x,rfl⟩:=key _ k;obtain⟨y,rfl⟩:=key _ j;obtain⟨d,rfl⟩:=key _ n;obtain⟨i,rfl⟩:=key _ p;exact⟨a,f,e,x,y,d,i,YX⟩
def yl(k:Lk)(g:Int)(w:EE)(h:ny w w.heap.size k):GK prog 342 #[k.v,ae aj g] w (agH w):=by
 have⟨M,aP,Q,H⟩:=box1 w k.row 175;have⟨s,cg⟩:=eX (M.alloc (RM (v7 0 OZ OZ 0 0 0 0) 337));have N:az M s:=jT;have hN:M.heap.size=w.heap.size+1:=oW;have Iu:s.heap.size=w.heap.size+2:=Cv;have o:=Q.t N;have u:ak (Bx s (w.heap.size+1) (v7 0 OZ OZ 0 0 0 0)):=⟨Tj⟩;have X4:=sH (H.o.ar N H.o.lt);rw[aP]at cg;have R:=sH (h.Z o.o o.o.size);have G:=h.rS.bd;clear h N hN aP H Q;obtain⟨T,fl,st,S,l,sc⟩:=k;dsimp only at G cg;by_cases f:T=8;rotate_left
 .have h8:(T !=8)=OX:=by simp[f]
  have e:=u.o;have p:=o.o;rw[cg]at e p;obtain⟨d,r⟩:=e.heap;have q:=e.row (ds:=v7 0 OZ OZ 0 0 0 0);clear f;go_enter func342,ntmps342;go_wp2_with (refine wpList_store_row rfl 337 (.tmp 4) (.tmp 11) rfl (w.heap.size+1) (v7 0 OZ OZ 0 0 0 0) rfl aD d _ r aF aD ed ?_);obtain⟨a,b⟩:=q.heap;refine bodyPost_ret (bY results342 _ _ (w.heap.size+1) a _ (0,0) _ aD b underlying337 rfl aF) rfl ?_;exact⟨0,OZ,OZ,0,0,0,0,OZ,rfl,below_setRow p aq _⟩
 subst f;go_enter func342,ntmps342;go_wp2;rw[<-cg];clear cg;go_loopg[6,7](l+1)(λgg v6 _ wr=>∃i:Nat,l-i<gg/\i<=l/\v6=ae aj (i:Int)/\wr=s)
 .exact⟨0,aq,aq,rfl,rfl⟩
 obtain⟨i,hg,hi,rfl,rfl⟩:=hrel;have⟨V,d1,d2,d3⟩:=X4.o.k4;dsimp only at V d1 d2 d3;obtain⟨d,r⟩:=u.o.heap;by_cases C:i<l
 .obtain⟨ad,x,rfl,O,e0,X,Y,e3,e4,e5,e6,e7,e8,e9,D,L⟩:=ko (A:=S) (n:=l) (c:=sc) R.o.rS C
  have U:=sH O.rU;have Z:=O.rU.bd;generalize x.U=PA at*;have i4:=aU i l;clear O e0 X Y e3 e4 e5 e6 e7 e8 D L;go_wp2;go_loopg[7](x.un+1)(λgg v7 F=>∃j:Nat,x.un-j<gg/\j<=x.un/\v7=ae aj (j:Int)/\F=wr)
  .exact⟨0,aq,aq,rfl,rfl⟩
  obtain⟨j,W,hj,rfl,rfl⟩:=hrel;by_cases z:j<x.un
  .obtain⟨adp,m,y,I,E,B,J,K,rfl,p0,p1,p2,p3,p4,p5,p6⟩:=yu U.o z
   have P:(j:Int)<(x.un:Int):=aq;by_cases t:m=g
   .have v:(m==g)=OX:=by simp[t]
    clear t;have q:=u.o.row (ds:=v7 m y I E B J K);obtain⟨a,b⟩:=q.heap;go_wp2_with (refine wpList_store_row rfl 337 (.tmp 4) (.tmp 50) rfl (w.heap.size+1) (v7 m y I E B J K) rfl aD d _ r aF aD ed ?_);refine bodyPost_ret (bY results342 _ _ (w.heap.size+1) a _ (0,0) _ aD b underlying337 rfl aF) rfl ?_;exact⟨m,y,I,E,B,J,K,OX,rfl,below_setRow o.o aq _⟩
   .have v:(m==g)=OZ:=by simp[t]
    clear t;go_wp2;go_roundg(x.un-j)
    .exact⟨j+1,aq,aq,aV,rfl⟩
    omega
  .go_wp2
   go_roundg(l-i)
   .exact⟨i+1,aq,aq,aV,rfl⟩
   omega
 .have q:=u.o.row (ds:=v7 0 OZ OZ 0 0 0 0)
  obtain⟨a,b⟩:=q.heap;go_wp2_with (refine wpList_store_row rfl 337 (.tmp 4) (.tmp 51) rfl (w.heap.size+1) (v7 0 OZ OZ 0 0 0 0) rfl aD d _ r aF aD ed ?_);refine bodyPost_ret (bY results342 _ _ (w.heap.size+1) a _ (0,0) _ aD b underlying337 rfl aF) rfl ?_;exact⟨0,OZ,OZ,0,0,0,0,OZ,rfl,below_setRow o.o aq _⟩
def sx(s:G:=by
 go_wp2
 go_ret;exact⟨_,rfl,.inl rfl,GJ.o⟩):G:=s
def aa3(f:dv)(k:Lk)(Q:aC->Prop)(A:aB)(n c at_:Nat)(w:EE)(h:cC w w.heap.size f)(hk:ny w w.heap.size k)(hl:vv w Q A n)(hn:n<=50000)(ha:at_<n):
 GK prog 341 #[f.v,k.v,Pl A n c,ae aj (at_:Int)] w (PNx w at_ n):=by
 have⟨W1,L,D,X1,M⟩:=box2 w f.row 102 k.row 175;have⟨R,RK,GL⟩:=MO (h.Z D.o D.o.size) (hk.Z D.o D.o.size) (hl.Z D.o D.o.size);clear h hl hk;have i1:¬((n:Int)<=(at_:Int)):=aq;have i3:=aU at_ n;have⟨o,u,s,y⟩:=M.o.k4;obtain⟨ad,x0,x1,x2,x3,x4,x5,x6,x7,x8,x9,rfl,hQ,e0,_⟩:=GL.o.bK ha;clear hQ;go_enter func341,ntmps341;go_wp2;rw[<-L];clear L;have⟨X,Y,M2,S,E0⟩:=lc5 o u s y e0;clear o u s y e0;refine Kx.bm (λd=>if d=OH 29 then OH (Kx.ZP sK)else if d=OH 9 then OH (Kx.ZK W1.heap.size k7)else OJ) (λd=>d==OH 29||d==OH 9) (λd hd=>C9) aF aF aF ?_;refine mKx ?_;refine kxA (Kx.ZP sK) (λa=> ?_) (λZ j=> ?_)
 .go_simp
  refine Kx.aZ (Kx.ZP sK) ((yl k x0 a.1 (RK.o.Z a.2 a.2.size)).mono ?_);rintro e w5 ⟨p,B,v,E,C,i,g,b,rfl,V⟩;exact⟨_,rfl,⟨p,B,v,E,C,i,g,b,rfl⟩,V⟩
 obtain⟨_,_,p,B,v,E,C,i,g,b,rfl⟩:=j;simp[Act.put];refine mKx ?_;refine kxA (Kx.ZK W1.heap.size k7) (λa=> ?_) (λZ j=> ?_)
 .go_simp
  exact Kx.lN a _ _ _ rfl aT
 obtain⟨_,_,g2,rfl,P,_⟩:=j;simp[Act.put];refine Kx.fN aD aD (λw9 x G=> ?_) ?_
 .obtain⟨a,rfl⟩:=x
  exact Kx.fK 337 (.tmp 9) (.tmp 30) rfl g2 (v7 p B v E C i g) rfl rfl (Kx.ZK.get G.2) aF ed P
 simp[Act.put];refine mKx ?_;intro a K;obtain⟨cs,J,m⟩:=Kx.ZK.get K.2;obtain⟨a0,ab,ac,ax,ay,ax',ay',rfl⟩:=XF m;have⟨B8,O⟩:=K' a.2 J;have⟨w8,q⟩:=eX a.1;rw[<-q]at B8 O
 try dsimp only
 rw[<-q];clear q K E0 X Y M2 S J m;have l:=B8.o;have NX:=sH (yU f k Q (OH ad) n c at_ w8 (R.o.Z l l.size) (GL.o.Z l l.size) aq ha);have⟨c0,c1,aW,c3,c4,c5⟩:=(X1.o.ar l X1.o.lt).f6;have⟨o,u,s,y⟩:=(M.o.ar l M.o.lt).k4;clear l;go_wp2_with fail;refine NX.o.mono ?_;rintro e w6 ⟨z,rfl,hz,r⟩;have H:=B8.t r;have GJ:=D.t H.o;have X6:=O.o.ar r O.o.lt;have q2:=X6.cell 2;simp at q2;clear NX r c0 c1 aW c3 c4 c5 o u s y X6;rcases hz with rfl|⟨T,U⟩
 .cases b<;>cases ac<;>
  .exact sx
 obtain⟨t,rfl⟩:∃t:Nat,z=(t:Int):=⟨z.toNat,aq⟩;have iG:t<n:=aq;have wh:at_<t:=aq;have i5:=aU t n;have i6:((t:Int)== -1)=OZ:=iY;clear T U;cases b
 .exact sx
 cases ac
 .exact sx
 have⟨o,u,s,y⟩:=(M.o.ar H.o M.o.lt).k4;obtain⟨jo,y0,y1,y2,y3,y4,y5,y6,y7,y8,y9,I,W,f0,_⟩:=(GL.o.Z H.o H.o.size).bK iG;obtain rfl:ad=jo:=Option.some.inj I;have RK6:=sH (RK.o.Z H.o H.o.size);go_wp2;have⟨E1,X,Y,M2,S⟩:=lc5 f0 o u s y;clear o u s y f0 W I q2;refine Kx.bm (λd=>if d=OH 55 then OH (Kx.ZP sK)else if d=OH 12 then OH (Kx.ZK w6.heap.size k7)else OJ) (λd=>d==OH 55||d==OH 12) (λd hd=>C9) aF aF aF ?_;refine mKx ?_;refine kxA (Kx.ZP sK) (λa=> ?_) (λZ j=> ?_)
 .go_simp
  refine Kx.aZ (Kx.ZP sK) ((yl k y0 a.1 (RK6.o.Z a.2 a.2.size)).mono ?_);rintro e w5 ⟨p,B,v,E,C,i,g,b,rfl,V⟩;exact⟨_,rfl,⟨p,B,v,E,C,i,g,b,rfl⟩,V⟩
 obtain⟨_,_,p,B,v,E,C,i,g,b',rfl⟩:=j;simp[Act.put];refine mKx ?_;refine kxA (Kx.ZK w6.heap.size k7) (λa=> ?_) (λZ j=> ?_)
 .go_simp
  exact Kx.lN a _ _ _ rfl aT
 obtain⟨_,_,g3,rfl,tC,_⟩:=j;simp[Act.put];refine Kx.fN aD aD (λw9 x G=> ?_) ?_
 .obtain⟨a,rfl⟩:=x
  exact Kx.fK 337 (.tmp 12) (.tmp 56) rfl g3 (v7 p B v E C i g) rfl rfl (Kx.ZK.get G.2) aF ed tC
 simp[Act.put];refine mKx ?_;intro a K;obtain⟨cs,J,m⟩:=Kx.ZK.get K.2;obtain⟨c0,cb,cc,cx,cy,cx',cy',rfl⟩:=XF m;have N:=GJ.t a.2;have q1:=J.cell 1;simp at q1;have⟨w7,F⟩:=eX a.1;rw[<-F]at N q1
 try dsimp only
 rw[<-F];clear F K E1 X Y M2 S J m;cases b'
 .go_wp2
  go_ret;exact⟨_,rfl,.inl rfl,N.o⟩
 cases cb
 .go_wp2
  go_ret;exact⟨_,rfl,.inl rfl,N.o⟩
 .go_wp2
  go_ret;exact⟨_,rfl,.inr ⟨aq,aq⟩,N.o⟩
def Yj(f:dv)(k:Lk)(lo hi:Int)(A:aB)(n c at_:Nat)(w:EE)(h:cC w w.heap.size f)(hk:ny w w.heap.size k)(hl:lF w (bI lo hi) A n)(hn:n<=50000)(ha:at_<n):
 GK prog 323 #[f.v,k.v,Pl A n c,ae aj (at_:Int)] w (PAs w w.heap.size (bI lo hi) n):=by
 have⟨W1,aP,N,X1,X2⟩:=box2 w f.row 102 k.row 175;have⟨R,RK,GL⟩:=MO (h.Z N.o N.o.size) (hk.Z N.o N.o.size) (hl.Z N.o N.o.size);have i3:=aU at_ n;go_enter func323,ntmps323;go_wp2_with fail;rw[<-aP];clear aP;refine(FN (bI lo hi) A n c W1 GL.o aq).mono ?_;rintro e w2 ⟨A2,J,rfl,o2,K⟩;have⟨B2,O2,NX⟩:=MO K o2 (aa3 f k (Lq lo hi) A n c at_ w2 (R.o.Z K K.size) (RK.o.Z K K.size) (GL.o.Z K K.size).jB aq ha);have⟨c0,c1,aW,c3,c4,c5⟩:=(X1.o.ar K X1.o.lt).f6;have⟨Y,d1,Z,d3⟩:=(X2.o.ar K X2.o.lt).k4;go_wp2_with fail;refine NX.o.mono ?_;rintro e w6 ⟨z,rfl,hz,yB⟩;have M:=B2.t yB;have I:=N.t M.o;have O6:=sH ((O2.o.ar yB).cS N.o.size);rcases hz with rfl|⟨gL,dZ⟩
 .go_wp2
  go_ret3;exact⟨A2,n,J,at_,OZ,rfl,aT,I.o⟩
 obtain⟨t,rfl⟩:∃t:Nat,z=(t:Int):=⟨z.toNat,aq⟩;have r:t<n:=aq;have i5:=aU t n;have i6:((t:Int)== -1)=OZ:=iY;have⟨Y,d1,Z,d3⟩:=(X2.o.ar M.o X2.o.lt).k4;obtain⟨ad,x0,x1,x2,x3,x4,x5,x6,x7,x8,x9,rfl,hQ,e0,_⟩:=(GL.o.Z M.o M.o.size).jB.bK ha;obtain⟨jo,y0,y1,y2,y3,y4,y5,y6,y7,y8,y9,vj,hQ',f0,_⟩:=(GL.o.Z M.o M.o.size).jB.bK r;obtain rfl:ad=jo:=Option.some.inj vj;have RK6:=sH (RK.o.Z M.o M.o.size);go_wp2;have⟨E0,E1,M0,M1,M2,M3⟩:=lc6 e0 f0 Y d1 Z d3;have⟨Ud,DS⟩:=K' f0 (And.intro Y (And.intro d1 (And.intro Z d3)));refine Kx.bm (λd=>if d=OH 35 then OH (Kx.ZP sK)else if d=OH 13 then OH (Kx.ZK w6.heap.size k7)else OJ) (λd=>d==OH 35||d==OH 13) (λd hd=>C9) aF aF aF ?_;refine mKx ?_;refine kxA (Kx.ZP sK) (λa=> ?_) (λu o=> ?_)
 .go_simp
  refine Kx.aZ (Kx.ZP sK) ((yl k x0 a.1 (RK6.o.Z a.2 a.2.size)).mono ?_);rintro e w5 ⟨O,T,S,V,U,F,E,b,rfl,hb⟩;exact⟨_,rfl,⟨O,T,S,V,U,F,E,b,rfl⟩,hb⟩
 obtain⟨_,_,O,T,S,V,U,F,E,b,rfl⟩:=o;simp[Act.put];refine mKx ?_;refine kxA (Kx.ZK w6.heap.size k7) (λa=> ?_) (λu o=> ?_)
 .go_simp
  exact Kx.lN a _ _ _ rfl aT
 obtain⟨_,_,g2,rfl,dV,_⟩:=o;simp[Act.put];refine Kx.fN aD aD (λw9 s X=> ?_) ?_
 .obtain⟨a,rfl⟩:=s
  exact Kx.fK 337 (.tmp 13) (.tmp 36) rfl g2 (v7 O T S V U F E) rfl rfl (Kx.ZK.get X.2) aF ed dV
 simp[Act.put];refine mKx ?_;intro a hE;obtain⟨cs,hX,P⟩:=Kx.ZK.get hE.2;obtain⟨a0,ab,ac,ax,ay,ax',ay',rfl⟩:=XF P;have⟨B7,X7,RK7⟩:=MO a.2 hX (RK6.o.Z a.2 a.2.size);have f0:=av Ud.o a.2;have Y:=av DS.o.1 a.2;have d1:=av DS.o.2.1 a.2;have Z:=av DS.o.2.2.1 a.2;have d3:=av DS.o.2.2.2 a.2;have⟨w7,W⟩:=eX a.1;rw[<-W]at B7 X7 RK7 f0 Y d1 Z d3
 try dsimp only
 rw[<-W];clear W;go_wp2;have⟨E1,M0,M1,M2,M3⟩:=lc5 f0 Y d1 Z d3;refine Kx.bm (λd=>if d=OH 45 then OH (Kx.ZP sK)else if d=OH 15 then OH (Kx.ZK w7.heap.size k7)else OJ) (λd=>d==OH 45||d==OH 15) (λd hd=>C9) aF aF aF ?_;refine mKx ?_;refine kxA (Kx.ZP sK) (λa=> ?_) (λu o=> ?_)
 .go_simp
  refine Kx.aZ (Kx.ZP sK) ((yl k y0 a.1 (RK7.o.Z a.2 a.2.size)).mono ?_);rintro e w5 ⟨O,T,S,V,U,F,E,b,rfl,hb⟩;exact⟨_,rfl,⟨O,T,S,V,U,F,E,b,rfl⟩,hb⟩
 obtain⟨_,_,O,T,S,V,U,F,E,b',rfl⟩:=o;simp[Act.put];refine mKx ?_;refine kxA (Kx.ZK w7.heap.size k7) (λa=> ?_) (λu o=> ?_)
 .go_simp
  exact Kx.lN a _ _ _ rfl aT
 obtain⟨_,_,g3,rfl,tC,_⟩:=o;simp[Act.put];refine Kx.fN aD aD (λw9 s X=> ?_) ?_
 .obtain⟨a,rfl⟩:=s
  exact Kx.fK 337 (.tmp 15) (.tmp 46) rfl g3 (v7 O T S V U F E) rfl rfl (Kx.ZK.get X.2) aF ed tC
 simp[Act.put];refine mKx ?_;intro a hE;obtain⟨cs,hX,P⟩:=Kx.ZK.get hE.2;obtain⟨c0,cb,cc,cx,cy,cx',cy',rfl⟩:=XF P;have O8a:iZ a.1 w.heap.size (bI lo hi) A2 n J:=(O6.o.ar B7.o).ar a.2;obtain⟨g7,rfl,Nb,Vt⟩:=O6.o.form aq;have Mu:=B7.o.size;have G:g2≠g7:=aq;have H:g3≠g7:=aq;have⟨x,j,i,g⟩:=MQ O8a ((I.o.trans (B7.o.mono I.o.size)).trans (a.2.mono (I.o.trans (B7.o.mono I.o.size)).size)) (X7.o.ar a.2 X7.o.lt) hX;have⟨w8,Q⟩:=eX a.1;rw[<-Q]at x j i g
 try dsimp only
 rw[<-Q];clear Q;go_wp2_with fail;obtain⟨z0,z1,z2,z3,z4,z5,z6,z7,z8,z9,_,_,_,_,r3,_⟩:=x.o.jB.bK ha;have u5:=i.o.cell 5;simp at u5;have⟨R3,U5⟩:=lc2 r3 u5;refine aQ (λ_=>OJ) 13 rfl aF aF aF aF aF rfl ?_;refine mLw ?_;intro a hE;have m:iZ a.1 w.heap.size (bI lo hi) (OH ⟨g7,0,OJ⟩) n J:=x.o.ar a.2;have B:az w a.1:=j.o.trans (a.2.mono j.o.size);have C:=i.o.ar a.2 i.o.lt;have y:=g.o.ar a.2 g.o.lt;obtain⟨y0,y1,y2,y3,y4,y5,y6,y7,y8,y9,_,s0,s1,s2,s3,s4,s5,s6,s7,s8,s9⟩:=m.jB.bK ha;have fz:=m.fz (at_*10+2);have D:ak (∀v:Int,iZ (a.1.setCell ⟨g7,at_*10+2,OJ⟩ (ae aj v)) w.heap.size (bI lo hi) (OH ⟨g7,0,OJ⟩) n J):=⟨λv=>m.me ha (q:=2) aq aq v⟩;have l:ak (∀v:Int,az w (a.1.setCell ⟨g7,at_*10+2,OJ⟩ (ae aj v))):=⟨λv=>Below.setCell B (p:=⟨g7,at_*10+2,OJ⟩) Tc _⟩;have L:ak (∀v:Int,Bx (a.1.setCell ⟨g7,at_*10+2,OJ⟩ (ae aj v)) g2 _/\Bx (a.1.setCell ⟨g7,at_*10+2,OJ⟩ (ae aj v)) g3 _):=⟨λv=>⟨C.fL G _ _,y.fL H _ _⟩⟩;go_simp;generalize o:IK _=u;have⟨x,j,i,g⟩:=MQ (D.o u) (l.o u) ((L.o u).1) ((L.o u).2);generalize s:a.1.setCell _ _=w9;rw[s]at x j i g;go_wp2_with fail;obtain⟨z0,z1,z2,z3,z4,z5,z6,z7,z8,z9,_,_,_,r2,_⟩:=x.o.jB.bK r;have u3:=g.o.cell 3;simp at u3;have⟨R3,U5⟩:=lc2 r2 u3;refine aQ (λ_=>OJ) 13 rfl aF aF aF aF aF rfl ?_;refine mLw ?_;intro a hE;have m:iZ a.1 w.heap.size (bI lo hi) (OH ⟨g7,0,OJ⟩) n J:=x.o.ar a.2;have B:az w a.1:=j.o.trans (a.2.mono j.o.size);have C:=i.o.ar a.2 i.o.lt;have y:=g.o.ar a.2 g.o.lt;obtain⟨y0,y1,y2,y3,y4,y5,y6,y7,y8,y9,_,s0,s1,s2,s3,s4,s5,s6,s7,s8,s9⟩:=m.jB.bK r;have fz:=m.fz (t*10+2);have D:ak (∀v:Int,iZ (a.1.setCell ⟨g7,t*10+2,OJ⟩ (ae aj v)) w.heap.size (bI lo hi) (OH ⟨g7,0,OJ⟩) n J):=⟨λv=>m.me r (q:=2) aq aq v⟩;have l:ak (∀v:Int,az w (a.1.setCell ⟨g7,t*10+2,OJ⟩ (ae aj v))):=⟨λv=>Below.setCell B (p:=⟨g7,t*10+2,OJ⟩) Tc _⟩;have L:ak (∀v:Int,Bx (a.1.setCell ⟨g7,t*10+2,OJ⟩ (ae aj v)) g2 _/\Bx (a.1.setCell ⟨g7,t*10+2,OJ⟩ (ae aj v)) g3 _):=⟨λv=>⟨C.fL G _ _,y.fL H _ _⟩⟩;go_simp;generalize o:IK _=u;have⟨x,j,i,g⟩:=MQ (D.o u) (l.o u) ((L.o u).1) ((L.o u).2);generalize s:a.1.setCell _ _=w9;rw[s]at x j i g;go_wp2_with fail;obtain⟨z0,z1,z2,z3,z4,z5,z6,z7,z8,z9,_,_,_,_,r3,_⟩:=x.o.jB.bK r;have u3:=g.o.cell 3;simp at u3;have⟨R3,U5⟩:=lc2 r3 u3;refine aQ (λ_=>OJ) 13 rfl aF aF aF aF aF rfl ?_;refine mLw ?_;intro a hE;have m:iZ a.1 w.heap.size (bI lo hi) (OH ⟨g7,0,OJ⟩) n J:=x.o.ar a.2;have B:az w a.1:=j.o.trans (a.2.mono j.o.size);have C:=i.o.ar a.2 i.o.lt;have y:=g.o.ar a.2 g.o.lt;obtain⟨y0,y1,y2,y3,y4,y5,y6,y7,y8,y9,_,s0,s1,s2,s3,s4,s5,s6,s7,s8,s9⟩:=m.jB.bK r;have fz:=m.fz (t*10+3);have D:ak (∀v:Int,iZ (a.1.setCell ⟨g7,t*10+3,OJ⟩ (ae aj v)) w.heap.size (bI lo hi) (OH ⟨g7,0,OJ⟩) n J):=⟨λv=>m.me r (q:=3) aq aq v⟩;have l:ak (∀v:Int,az w (a.1.setCell ⟨g7,t*10+3,OJ⟩ (ae aj v))):=⟨λv=>Below.setCell B (p:=⟨g7,t*10+3,OJ⟩) Tc _⟩;have L:ak (∀v:Int,Bx (a.1.setCell ⟨g7,t*10+3,OJ⟩ (ae aj v)) g2 _/\Bx (a.1.setCell ⟨g7,t*10+3,OJ⟩ (ae aj v)) g3 _):=⟨λv=>⟨C.fL G _ _,y.fL H _ _⟩⟩;go_simp;generalize o:IK _=u;have⟨x,j,i,g⟩:=MQ (D.o u) (l.o u) ((L.o u).1) ((L.o u).2);generalize s:a.1.setCell _ _=w9;rw[s]at x j i g;have u6:=i.o.cell 6;have u4:=g.o.cell 4;simp at u6 u4;obtain⟨z0,z1,z2,z3,z4,z5,z6,z7,z8,z9,_,s0,s1,s2,s3,s4,s5,s6,s7,s8,s9⟩:=x.o.jB.bK r;have fz4:=x.o.fz (t*10+4);have fz6:=x.o.fz (t*10+6);have D:ak (∀v v':Int,iZ ((w9.setCell ⟨g7,t*10+4,OJ⟩ (ae aj v)).setCell ⟨g7,t*10+6,OJ⟩ (ae aj v')) w.heap.size (bI lo hi) (OH ⟨g7,0,OJ⟩) n J):=⟨λv v'=>(x.o.me r (q:=4) aq aq v).me r (q:=6) aq aq v'⟩;have l:ak (∀v v':Int,az w ((w9.setCell ⟨g7,t*10+4,OJ⟩ (ae aj v)).setCell ⟨g7,t*10+6,OJ⟩ (ae aj v'))):=⟨λv v'=>Below.setCell (Below.setCell j.o (p:=⟨g7,t*10+4,OJ⟩) Tc _) (p:=⟨g7,t*10+6,OJ⟩) Tc _⟩;have ahH:¬g2=g7:=G;have ahF:¬g3=g7:=H;go_wp2;go_ret3;exact⟨OH ⟨g7,0,OJ⟩,n,J,t,OX,rfl,λ_=>⟨rfl,aq,D.o _ _⟩,l.o _ _⟩
def fb{n:aI w0}{f:FuncId}(h:GK P f args n.1 (PI n.1)):GK P f args n.1 λe a=>∃v,e=RE v/\SI v/\∃m:aI w0,a=m.1:=
 h.mono λe a ⟨b,d,c⟩=>⟨_,d,⟨b,rfl⟩,⟨a,n.2.trans (c.mono n.2.size)⟩,rfl⟩
def ab1(f:dv)(k:Lk)(Q:aC->Prop)(A:aB)(n c at_:Nat)(w:EE)(h:cC w w.heap.size f)(O:vv w Q A n)(hn:n<=50000)(X:at_<n):
 GK prog 352 #[f.v,k.v,Pl A n c,ae aj (at_:Int)] w (PIn w (-1) n):=by
 have⟨K,B,o,m,E⟩:=box2 w f.row 102 k.row 175;have⟨R,F⟩:=K' (h.Z o.o o.o.size) (O.Z o.o o.o.size);have⟨c0,v,d,u,c4,c5⟩:=m.o.f6;have⟨N,d1,U,S⟩:=E.o.k4;go_enter func352,ntmps352;go_wp2_with fail;rw[<-B];refine(yG f k Q A n c at_ K R.o F.o aq X).mono ?_;rintro e w1 ⟨z,rfl,i,l,C⟩;have T:=sH C;go_wp2;go_loopg[3](n+2)(λgg v3 wr=>∃z:Int,-1<=z/\z<n/\(z+1).toNat<gg/\v3=ae aj z/\ak (az K wr))
 .exact⟨z,aq,aq,aq,rfl,T⟩
 obtain⟨z,i,l,hg,rfl,b⟩:=hrel;have D:=o.t b.o;by_cases hz:z<0
 .have hd:decide (0<=z)=OZ:=ji
  go_wp2;go_quiet (fail);go_wp2;go_ret;exact⟨_,rfl,i,l,aO D.o _⟩
 obtain⟨t,rfl⟩:∃t:Nat,z=(t:Int):=⟨z.toNat,aq⟩;have j:t<n:=aq;have L:=gT t;have i4:=aU t n;have⟨c0,v,d,u,c4,c5⟩:=(m.o.ar b.o m.o.lt).f6;obtain⟨Y,Z,x1,x2,x3,x4,x5,x6,x7,x8,x9,rfl,hQ,W,_⟩:=(F.o.Z b.o b.o.size).bK j;have P:=sH (R.o.Z b.o b.o.size);go_wp2;have⟨L0,L1,L2,L3,L4,L5,E0⟩:=lc7 c0 v d u c4 c5 W;refine aE (kC 23 SI) aF aF ?_
 repeat(refine cB aD aD aD ?_;intro H p;go_big_quiet_op;go_big_quiet_on)
 refine lsA SI (λg=> ?_) (λv9 s=> ?_)
 .go_simp
  exact fb (uA f Z g.1 (P.o.Z g.2 g.2.size))
 obtain⟨y,rfl⟩:=s;by_cases I:y=3
 .have r:(y==3)=OX:=by simp[I]
  simp[Act.put]
  repeat(refine cB aD aD aD ?_;intro H p;go_big_quiet_op;go_big_quiet_on)
  intro g;obtain⟨J,q⟩:=g;have x:=b.t q;have G:=D.t q
  try dsimp only
  have a:=x.o;have⟨c0,v,d,u,c4,c5⟩:=(m.o.ar a m.o.lt).f6;have⟨N,d1,U,S⟩:=(E.o.ar a E.o.lt).k4;have V:=sH (yG f k Q (OH Y) n c t J (R.o.Z a a.size) (F.o.Z a a.size) aq j);go_wp2_with fail;refine V.o.mono ?_;rintro e w2 ⟨z,rfl,g1,g2,C⟩;have M:=x.t C;go_wp2;go_roundg(t+1)
  .exact⟨z,aq,aq,aq,rfl,M⟩
  omega
 .have r:(y==3)=OZ:=by simp[I]
  simp[Act.put]
  repeat(refine cB aD aD aD ?_;intro H p;go_big_quiet_op;go_big_quiet_on)
  intro g;obtain⟨J,q⟩:=g;have x:=b.t q;have G:=D.t q
  try dsimp only
  go_wp2;go_ret;exact⟨_,rfl,aq,aq,G.o⟩
