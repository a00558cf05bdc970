/- Part of LineCovers. -/
import Derived.Test.YtklncadpkniojaaGreatDoorAy
import Derived.Test.YtklncadpkniojaaGreatDoorAw
import Derived.OwnWalk
namespace Go.Proofs.YtklncadpkniojaaGreatDoor
open Go.ChangeShapes Go.WideShapes Go.ChangeAt Go.RowKit Go.Proofs.Tryz
open Go renaming World->ahh,Value->ahj,Calls->ahk,TypeId->ahm,Ending->ahn,Program->aho
open Go.RowKit renaming Below->ahi
open Go.Value renaming int->ae
open Go.IntKind renaming i64->aj
set_option linter.all false
set_option maxRecDepth 100000
set_option maxHeartbeats 16000000
variable{a w w0:ahh}{B N at_ b c g m n:Nat}{cs:Array ahj}{k:IntKind}{P:aho}{Q:Exit->Act->ahh->Prop}{lo:List Oper}{A:aA}{xs:aC}{z:Int}{G:Prop}{listed:Array Bool}{o:Oper}{L:List aC->Prop}{t:ahm}
def ZB(N:Nat):Sat:=⟨fun v w=>∃g:Nat,v=.pointer (some ⟨g,0,none⟩)/\N<=g/\Bx w g #[ae aj 0,ae aj 0,ae aj 0,ae aj 0,ae aj 0,ae aj 0,ae aj 0,ae aj 0,ae aj 0,ae aj 0],fun v w e ⟨g,c,d,a⟩ b=>⟨g,c,d,a.ar b a.lt⟩⟩
def ZI:Sat:=⟨fun v _=>∃z:Int,v=ae aj z,fun _ _ _ h _=>h⟩
def ZG(a:Int):Sat:=⟨fun v _=>∃z:Int,v=.agg #[ae aj z,ae aj a,ae aj 0,ae aj 0,ae aj 0,ae aj (-1),ae aj (-1),ae aj 0,ae aj 0,ae aj 0],fun _ _ _ h _=>h⟩
theorem Bx.fz(h:Bx w b cs)(o:Nat):w.frozen? ⟨b,o,none⟩=false:=by
 obtain⟨t,h⟩:=h;simp[World.frozen?,h]
theorem Bx.row{ds:Array ahj}(h:Bx w b cs):Bx (w.setRow b ds) b ds:=by
 obtain⟨t,h⟩:=h;exact⟨t,setRow_heap w b cs ds t (0,0) h⟩
theorem Bx.zP{i f k g a d l j e c:ahj}(h:Bx w b #[i,f,k,g,a,d,l,j,e,c]):w.cell? ⟨b,0,none⟩=some i/\w.cell? ⟨b,1,none⟩=some f/\w.cell? ⟨b,2,none⟩=some k/\w.cell? ⟨b,3,none⟩=some g/\w.cell? ⟨b,4,none⟩=some a/\w.cell? ⟨b,5,none⟩=some d/\w.cell? ⟨b,6,none⟩=some l/\w.cell? ⟨b,7,none⟩=some j/\w.cell? ⟨b,8,none⟩=some e/\w.cell? ⟨b,9,none⟩=some c:=
 ⟨h.cell 0,h.cell 1,h.cell 2,h.cell 3,h.cell 4,h.cell 5,h.cell 6,h.cell 7,h.cell 8,h.cell 9⟩
theorem Bx.heap(h:Bx w b cs):∃t,w.heap[b]? =some (.cells cs t (0,0)):=h
theorem nf{P:aho}{ops:Array Oper}{T:Option Tmp->Option Sat}{C:ahh->Prop}{Q Q':(ahh->Prop)->Act->Prop}(h:∀E a,Q E a->Q' E a):∀(l:List Oper) (E:ahh->Prop) (a:Act),dA P ops T C Q l E a->dA P ops T C Q' l E a
 |[],_,_,hh=>h _ _ hh
 |o::rest,E,a,hh=>by
  unfold dA at*;split
  .rename_i b;simp only[b,if_true]at hh;exact nr (fun E a=>nf h rest E a) hh
  .rename_i b;simp only[b]at hh;exact nf h rest _ _ hh
theorem jf{r:Nat}{a:Act}(T:Option Tmp->Option Sat)(L:Nat)(hlen:lo.length=L+1)(t:P.follows .mixedOrders=true)
 (k:Region.noSelect lo.toArray=true) (p:backward lo.toArray=true) (q:Qh lo.toArray L=true) (m:Region.lexFrom .any lo.toArray L 0 ((Array.replicate lo.length false).setIfInBounds L true)=true) (f:(lo[L]?).map (·.guard)=some none)
 (h:dA P lo.toArray T (fun j=>∃n:aG w,j=n.1) (fun E g=>∀n:aG w,E n.1->∀o,lo[L]? =some o->o.wp P g n.1 (fun b c=>Q .normal b c) Q) (lo.take L) (fun _=>True) a):(Code.region r lo.toArray true).wp P Q a w:=by
 have d:L<lo.length:=ak;have e:lo[L]? =some lo[L]:=List.getElem?_eq_getElem d;refine uB (l:=lo.take L) (o:=lo[L]) T L ?_ cw t k p q m ?_ ?_
 .rw[List.take_append_getElem d,List.take_of_length_le ak]
 .rw[e]at f;simpa using f
 .exact nf (fun E g i=>fun n s=>i n s _ e) _ _ _ h
theorem aM.FT(h:aM k w A n c xs)(b:az w a):aM k a A n c xs:=⟨h.at_.Z b,h.le,h.cap,h.wf⟩
theorem bH.fP(h:bH w B k A n xs){i:Nat}(b:i<n):∃a,A=some a/\w.cell? (a.add i)=some (.int k (nth xs i)):=by
 obtain⟨a,e,_,c⟩:=h.2 ak;exact⟨a,e,c i b⟩
theorem aM.fP(h:aM k w A n c xs){i:Nat}(b:i<n):∃a,A=some a/\w.cell? (a.add i)=some (.int k (nth xs i)):=h.at_.fP b
theorem aX{n:aG w0}{f:FuncId}{args:Array ahj}(S:Sat)(h:ahk P f args n.1 fun e a=>∃v,e=.returned v/\S.p v a/\ahi n.1.heap.size n.1 a):ahk P f args n.1 fun e a=>∃v,e=.returned v/\S.p v a/\(∃m:aG w0,a=m.1)/\ahi n.1.heap.size n.1 a:=
 h.mono fun e a ⟨v,c,d,b⟩=>⟨v,c,d,⟨⟨a,n.2.trans (b.mono n.2.size)⟩,rfl⟩,b⟩
theorem Dh(n:aG w0)(t:ahm):(ZB w0.heap.size).p (.pointer (some ⟨n.1.heap.size,0,none⟩)) (n.1.alloc (.cells #[ae aj 0,ae aj 0,ae aj 0,ae aj 0,ae aj 0,ae aj 0,ae aj 0,ae aj 0,ae aj 0,ae aj 0] t))/\
 (∃m:aG w0,n.1.alloc (.cells #[ae aj 0,ae aj 0,ae aj 0,ae aj 0,ae aj 0,ae aj 0,ae aj 0,ae aj 0,ae aj 0,ae aj 0] t)=m.1)/\ahi n.1.heap.size n.1 (n.1.alloc (.cells #[ae aj 0,ae aj 0,ae aj 0,ae aj 0,ae aj 0,ae aj 0,ae aj 0,ae aj 0,ae aj 0,ae aj 0] t)):=
 ⟨⟨_,rfl,n.2.size,Bx.new _ _ _⟩,⟨⟨_,n.2.trans ((av _ _).mono n.2.size)⟩,rfl⟩,av _ _⟩
theorem ZB.zb(h:(ZB N).p (.pointer (some ⟨g,0,none⟩)) w):Bx w g #[ae aj 0,ae aj 0,ae aj 0,ae aj 0,ae aj 0,ae aj 0,ae aj 0,ae aj 0,ae aj 0,ae aj 0]:=by
 obtain⟨a,e,_,h⟩:=h;injection e with e
 injection e with e
 injection e with e
 subst e;exact h
def YG(lo a z:Int)(cs:aC):Prop:=CS lo a cs/\∀x∈cs,x<=z
theorem CS.push{lo a:Int}{cs:aC}(h:CS lo a cs)(b:lo<=z/\z<a)(c:∀x∈cs,x<=z):CS lo a (cs++[z]):=by
 have:=CS.mid (ds:=[]) uM b c aQ 1;simpa using this
theorem YG.push{lo b y:Int}{cs:aC}(h:YG lo b y cs)(d:lo<=z/\z<b)(c:y<=z):YG lo b z (cs++[z]):=⟨h.1.push d fun x a=>Int.le_trans (h.2 x a) c,fun x a=>by
 rcases List.mem_append.1 a with a|a
 .exact Int.le_trans (h.2 x a) c
 .simp at a;omega⟩
def ab8(N:Nat)(a:Int)(d:Option Tmp):Option Sat:=if d=some 28 then some ZI else if d=some 32 then some (ZG a)else if d=some 12 then some (ZB N)else none
theorem ae0(s:G:=by
 go_simp
 refine aX ZI ((sO f _ nq.1 (R.o.Z (B2.o.trans (nq.2.mono B2.o.size)) (B2.o.trans (nq.2.mono B2.o.size)).size)).mono ?_);rintro e w5 ⟨z,rfl,hb⟩;exact⟨_,rfl,⟨z,rfl⟩,hb⟩):G:=s
theorem acz(f:cY)(TA:aA)(j tc:Nat)(ts:aC)(c:Nat)(MA:aA)(t mc:Nat)(B:aC)(w:ahh)(h:bZ w w.heap.size f)(ht:aM .i32 w TA j tc ts)(hm:bH w w.heap.size .i64 MA t B)(fZ:j<=5000)(XO:t<=9000000)(hfr:c<=100000):
 ahk prog 212 #[f.v,.slice TA j tc,ae aj (c:Int),.slice MA t mc] w (Sc w (bk c (c+j)) j):=by
 have⟨m,O,K,X1⟩:=box1 w f.row 96;have R:=sH (h.Z K.o K.o.size);have TS:=sH (ht.ar K.o);have MS:=sH (hm.Z K.o);go_enter func212,ntmps212;go_wp2;rw[<-O];clear O;go_loopg[9,10,11,12](j+1)(fun gg y v10 v11 _ wr=>∃(i a:Nat) (N:aA) (P:Nat),j-i<gg/\i<=j/\a<=i/\y=.slice N i P/\v10=ae aj (a:Int)/\v11=ae aj (i:Int)/\aq (fR wr m.heap.size (fun xs=>YG c (c+j) (c+a) (aL xs)) N i P)/\aq (az m wr))
 .exact⟨0,0,none,0,ak,ak,ak,rfl,rfl,rfl,⟨OL.nil _ _ _ _ ⟨CS.nil _ _,by simp[aL]⟩⟩,cA⟩
 obtain⟨i,a,N,P,hg,hi,hai,rfl,rfl,rfl,O2,BE⟩:=hrel;by_cases Y:i<j
 .go_wp2_with fail
  refine callK (tf TA j tc ts (i:Int) wr (TS.o.FT BE.o) ak) BE fun M b2 B2=> ?_;have S:=sH (O2.o.ar b2);have⟨c0,c1,Q,c3,c4,c5⟩:=(X1.o.ar B2.o X1.o.lt).f6;obtain⟨adt,rfl,ct⟩:=(TS.o.FT B2.o).fP Y;generalize Ks (ks ts) (i:Int)=b;cases b
  .go_wp2
   have⟨L0,L1,L2,L3,L4,L5,LT⟩:=lc7 c0 c1 Q c3 c4 c5 ct;have i1:=aU i j;refine jf (ab8 M.heap.size ((c:Int)+(a:Int))) 11 rfl aF aF aF aF aF rfl ?_;refine mLw ?_;refine lwA ZI (fun nq=> ?_) (fun y d=> ?_)
   .exact ae0
   obtain⟨_,_,z,rfl⟩:=d;simp[Act.put];refine mLw ?_;refine lwA (ZG ((c:Int)+(a:Int))) (fun nq=> ?_) (fun y d=> ?_)
   .go_simp
    refine aX (ZG ((c:Int)+(a:Int))) ((sX z ((c:Int)+(a:Int)) nq.1).mono ?_);rintro e w5 ⟨rfl,hb⟩;exact⟨_,rfl,⟨z,rfl⟩,hb⟩
   obtain⟨_,_,u,rfl⟩:=d;simp[Act.put];refine lwA (ZB M.heap.size) (fun nq=> ?_) (fun y d=> ?_)
   .go_simp
    exact Dh nq _
   obtain⟨_,_,g,rfl,r,_⟩:=d;simp[Act.put];intro n hE;have q:Bx n.1 g #[ae aj 0,ae aj 0,ae aj 0,ae aj 0,ae aj 0,ae aj 0,ae aj 0,ae aj 0,ae aj 0,ae aj 0]:=ZB.zb hE.2;obtain⟨x,D⟩:=q.heap;refine wp_store_row 120 (.tmp 12) (.tmp 32) rfl g _ rfl rfl x _ D aF rfl dJ ?_;have v:=sH (q.row (ds:=#[ae aj u,ae aj ((c:Int)+(a:Int)),ae aj 0,ae aj 0,ae aj 0,ae aj (-1),ae aj (-1),ae aj 0,ae aj 0,ae aj 0]));have⟨C,l⟩:=eX (n.1.setRow g #[ae aj u,ae aj ((c:Int)+(a:Int)),ae aj 0,ae aj 0,ae aj 0,ae aj (-1),ae aj (-1),ae aj 0,ae aj 0,ae aj 0]);have I:aq (az M C):=⟨by rw[l];exact below_setRow n.2 r _⟩;rw[<-l]at v;rw[<-l];clear l;have T:=sH (S.o.ar I.o);have k:=B2.t I.o;have Z:=k.o.size;have ij:=B2.o.size;by_cases G:i<t
   .have i2:=aU i t
    obtain⟨adm,rfl,cm⟩:=(MS.o.Z k.o).fP G;have⟨e0,e1,U,X,e4,V,e6,e7,W,e9⟩:=v.o.zP;have f9:=v.o.fz 9;have F:aq (fR (C.setCell ⟨g,9,none⟩ (ae aj (nth B i))) m.heap.size _ N i P):=⟨S.o.ar (Below.setCell I.o (p:=⟨g,9,none⟩) r _)⟩;have H:aq (az m (C.setCell ⟨g,9,none⟩ (ae aj (nth B i)))):=⟨Below.setCell k.o (p:=⟨g,9,none⟩) (by show m.heap.size<=g;omega) _⟩;go_wp2_with (at_builtin;refine bK (L':=fun xs=>YG c (c+j) (c+(a:Nat)) (aL xs)) my rfl (.tmp 42) (.tmp 44) rfl rfl (F.o.alloc _) rfl [u,(c:Int)+(a:Int),0,0,0,-1,-1,0,0,nth B i] rfl (cg _ _ _ _ _ aQ rfl) (fun xs _ _ h=>Xj) ak cw ?_;intro J c8 L s o _ _;have A:=sH s;have E:aq (az m L):=⟨(H.o.alloc Xl _).trans o⟩;clear s o);go_roundg(j-i)
    .exact⟨i+1,a,J,c8,ak,ak,ak,rfl,jy,aT,A,E⟩
    omega
   .have i2:=cv i t
    have⟨e0,e1,U,X,e4,V,e6,e7,W,e9⟩:=v.o.zP;have F:=T;have H:=k;go_wp2_with (at_builtin;refine bK (L':=fun xs=>YG c (c+j) (c+(a:Nat)) (aL xs)) my rfl (.tmp 42) (.tmp 44) rfl rfl (F.o.alloc _) rfl [u,(c:Int)+(a:Int),0,0,0,-1,-1,0,0,0] rfl (cg _ _ _ _ _ aQ rfl) (fun xs _ _ h=>Xj) ak cw ?_;intro J c8 L s o _ _;have A:=sH s;have E:aq (az m L):=⟨(H.o.alloc Xl _).trans o⟩;clear s o);go_roundg(j-i)
    .exact⟨i+1,a,J,c8,ak,ak,ak,rfl,jy,aT,A,E⟩
    omega
  .go_wp2
   have⟨L0,L1,L2,L3,L4,L5,LT⟩:=lc7 c0 c1 Q c3 c4 c5 ct;have i1:=aU i j;refine jf (ab8 M.heap.size ((c:Int)+(i:Int))) 11 rfl aF aF aF aF aF rfl ?_;refine mLw ?_;refine lwA ZI (fun nq=> ?_) (fun y d=> ?_)
   .exact ae0
   obtain⟨_,_,z,rfl⟩:=d;simp[Act.put];refine mLw ?_;refine lwA (ZG ((c:Int)+(i:Int))) (fun nq=> ?_) (fun y d=> ?_)
   .go_simp
    refine aX (ZG ((c:Int)+(i:Int))) ((sX z ((c:Int)+(i:Int)) nq.1).mono ?_);rintro e w5 ⟨rfl,hb⟩;exact⟨_,rfl,⟨z,rfl⟩,hb⟩
   obtain⟨_,_,u,rfl⟩:=d;simp[Act.put];refine lwA (ZB M.heap.size) (fun nq=> ?_) (fun y d=> ?_)
   .go_simp
    exact Dh nq _
   obtain⟨_,_,g,rfl,r,_⟩:=d;simp[Act.put];intro n hE;have q:Bx n.1 g #[ae aj 0,ae aj 0,ae aj 0,ae aj 0,ae aj 0,ae aj 0,ae aj 0,ae aj 0,ae aj 0,ae aj 0]:=ZB.zb hE.2;obtain⟨x,D⟩:=q.heap;refine wp_store_row 120 (.tmp 12) (.tmp 32) rfl g _ rfl rfl x _ D aF rfl dJ ?_;have v:=sH (q.row (ds:=#[ae aj u,ae aj ((c:Int)+(i:Int)),ae aj 0,ae aj 0,ae aj 0,ae aj (-1),ae aj (-1),ae aj 0,ae aj 0,ae aj 0]));have⟨C,l⟩:=eX (n.1.setRow g #[ae aj u,ae aj ((c:Int)+(i:Int)),ae aj 0,ae aj 0,ae aj 0,ae aj (-1),ae aj (-1),ae aj 0,ae aj 0,ae aj 0]);have I:aq (az M C):=⟨by rw[l];exact below_setRow n.2 r _⟩;rw[<-l]at v;rw[<-l];clear l;have T:=sH (S.o.ar I.o);have k:=B2.t I.o;have Z:=k.o.size;have ij:=B2.o.size;by_cases G:i<t
   .have i2:=aU i t
    obtain⟨adm,rfl,cm⟩:=(MS.o.Z k.o).fP G;have⟨e0,e1,U,X,e4,V,e6,e7,W,e9⟩:=v.o.zP;have f9:=v.o.fz 9;have F:aq (fR (C.setCell ⟨g,9,none⟩ (ae aj (nth B i))) m.heap.size _ N i P):=⟨S.o.ar (Below.setCell I.o (p:=⟨g,9,none⟩) r _)⟩;have H:aq (az m (C.setCell ⟨g,9,none⟩ (ae aj (nth B i)))):=⟨Below.setCell k.o (p:=⟨g,9,none⟩) (by show m.heap.size<=g;omega) _⟩;go_wp2_with (at_builtin;refine bK (L':=fun xs=>YG c (c+j) (c+(i:Nat)) (aL xs)) my rfl (.tmp 42) (.tmp 44) rfl rfl (F.o.alloc _) rfl [u,(c:Int)+(i:Int),0,0,0,-1,-1,0,0,nth B i] rfl (cg _ _ _ _ _ aQ rfl) (fun xs _ _ h=>Xj) ak cw ?_;intro J c8 L s o _ _;have A:=sH s;have E:aq (az m L):=⟨(H.o.alloc Xl _).trans o⟩;clear s o);go_roundg(j-i)
    .exact⟨i+1,i,J,c8,ak,ak,ak,rfl,jy,aT,A,E⟩
    omega
   .have i2:=cv i t
    have⟨e0,e1,U,X,e4,V,e6,e7,W,e9⟩:=v.o.zP;have F:=T;have H:=k;go_wp2_with (at_builtin;refine bK (L':=fun xs=>YG c (c+j) (c+(i:Nat)) (aL xs)) my rfl (.tmp 42) (.tmp 44) rfl rfl (F.o.alloc _) rfl [u,(c:Int)+(i:Int),0,0,0,-1,-1,0,0,0] rfl (cg _ _ _ _ _ aQ rfl) (fun xs _ _ h=>Xj) ak cw ?_;intro J c8 L s o _ _;have A:=sH s;have E:aq (az m L):=⟨(H.o.alloc Xl _).trans o⟩;clear s o);go_roundg(j-i)
    .exact⟨i+1,i,J,c8,ak,ak,ak,rfl,jy,aT,A,E⟩
    omega
 .obtain rfl:i=j:=by omega
  go_wp2;go_ret;exact⟨_,_,rfl,(O2.o.imp fun _ _ _ h=>h.1).cJ K.o.size,K.o.trans (BE.o.mono K.o.size)⟩
section
variable{P:aho}{ops:Array Oper}{md:Region.Mode}{C:ahh -> Prop}{T:Option Tmp -> Option Sat}
def ki(ops:Array Oper)(a b:Nat):Bool:=((ops[a]?).map (·.after.any fun e=>Region.binds .any e&&e.on==b)).getD false
def gU(ops:Array Oper)(L:Nat):Bool:=(List.range L).all fun i=>ki ops L i||(List.range L).any fun j=>ki ops L j&&ki ops j i
def Cl(ops:Array Oper)(listed:Array Bool):Prop:=∀j o,ops[j]? =some o->listed.getD j false=true->∀e∈o.after,Region.binds .any e=true->listed.getD e.on false=true
theorem fb{a:Nat}(g:ops[a]? =some o)(c:∀e∈o.after,Region.binds .any e=true->listed.getD e.on false=true)(h:ki ops a b=true):listed.getD b false=true:=by
 unfold ki at h;rw[g]at h;simp only[Option.map_some,Option.getD_some,Array.any_eq_true]at h;obtain⟨k,i,d⟩:=h;rw[Bool.and_eq_true]at d;have f:=c _ (Array.getElem_mem i) d.1;rwa [show(o.after[k]).on=b by simpa using d.2]at f
theorem sV{L:Nat}(l:gU ops L=true)(e:Cl ops listed)(m:L∈Region.ready .any ops listed):∀i,i<L->listed.getD i false=true:=fun i f=>by
 obtain⟨_,o,h,a⟩:=mem_ready.1 m;have c:=(List.all_eq_true.1 l) i (List.mem_range.2 f);rw[Bool.or_eq_true]at c;rcases c with c|c
 .exact fb h a c
 .obtain⟨j,n,g⟩:=List.any_eq_true.1 c
  rw[Bool.and_eq_true]at g;have k:=fb h a g.1;have d:=g.2;cases b:ops[j]? with
  |none=>unfold ki at d;rw[b]at d;simp at d
  |some oj=>exact fb b (e j oj b k) d
theorem DU{i:Nat}(d:Cl ops listed)(l:i∈Region.ready .any ops listed)(m:listed.size=ops.size):Cl ops (listed.setIfInBounds i true):=fun j o f h e g k=>by
 by_cases a:i=j
 .subst a
  obtain⟨_,n,c,b⟩:=mem_ready.1 l;rw[f]at c;obtain rfl:=Option.some.inj c;exact getD_set_true (b e g k)
 .rw[getD_set_ne false a]at h
  exact getD_set_true (d j o f h e g k)
theorem xZ{Q:(ahh->Prop)->Act->Prop}{Q':Exit->Act->ahh->Prop}{L:Nat}(D:backward ops=true)(S:L+1=ops.size)(M:gU ops L=true)
 (I:∀E a w,C w->E w->Q E a->wpOp P ops Q' L (fun a w=>Q' .normal a w) a w):∀(fuel:Nat) (listed:Array Bool) (E:ahh->Prop) (a:Act) (w:ahh),C w->E w->nD E->listed.size=ops.size->listed.getD L true=false->Cl ops listed->
 fI P .any ops T C Q fuel (listed.setIfInBounds L true) E a->wpAny P .any ops Q' (fuel+1) listed a w:=by
 have fin:∀(fuel:Nat) (listed:Array Bool) (a:Act) (w:ahh),listed.size=ops.size->listed.getD L true=false->Region.ready .any ops (listed.setIfInBounds L true)=[]->wpOp P ops Q' L (fun a w=>Q' .normal a w) a w->wpAny P .any ops Q' (fuel+1) listed a w:=by
  intro fuel listed a w hs hl d O;have all:=dX D oP d;refine⟨fun A=> ?_,fun i g=> ?_⟩
  .exfalso
   have:=dX D hs A L ak;rw[Array.getD_eq_getD_getElem?,Array.getElem?_eq_getElem ak]at this hl;simp at this hl;rw[this]at hl;cases hl
  .obtain⟨r,o,R,_⟩:=mem_ready.1 g
   have y:=(Array.getElem?_eq_some_iff.1 R).1;obtain rfl:i=L:=by
    rcases Nat.decEq i L with h|h
    .exfalso
     have s:=all i y;rw[getD_set_ne false (Ne.symm h)]at s;rw[Array.getD_eq_getD_getElem?,Array.getElem?_eq_getElem ak]at s r;simp at s r;rw[s]at r;cases r
    .exact h
   refine wpOp_mono (fun J G t=> ?_) O;cases fuel with
   |zero=>exact⟨d,t⟩
   |succ f=>exact⟨fun _=>t,fun j H=>by rw[d]at H;cases H⟩
 intro fuel
 induction fuel with
 |zero=>intro listed E a w q u p hs hl c h;exact fin 0 listed a w hs hl h.1 (I _ _ _ q u h.2)
 |succ fuel ih=>
  intro listed E a w q u p hs hl c h;cases d:Region.ready .any ops (listed.setIfInBounds L true)with
  |nil=>exact fin (fuel+1) listed a w hs hl d (I _ _ _ q u (h.1 d))
  |cons i0 rest=>
   have A:i0∈Region.ready .any ops (listed.setIfInBounds L true):=by rw[d];simp
   obtain⟨l,U,z,_⟩:=mem_ready.1 A;have k:=(Array.getElem?_eq_some_iff.1 z).1;have m:i0≠L:=fun e=>by
    subst e;simp[hs,k]at l
   have b:listed.getD i0 true=false:=(by rwa [getD_set_ne true (Ne.symm m)]at l);have x:∀i∈Region.ready .any ops listed,i≠L:=fun i g e=>by
    subst e;have B:=sV M c g i0 ak;rw[Array.getD_eq_getD_getElem?,Array.getElem?_eq_getElem ak]at B b;simp at B b;rw[B]at b;cases b
   refine⟨fun N=> ?_,fun i g=> ?_⟩
   .exfalso
    have:=dX D hs N i0 k;rw[Array.getD_eq_getD_getElem?,Array.getElem?_eq_getElem ak]at this b;simp at this b;rw[this]at b;cases b
   .have dY:=x i g
    refine dU q u p (fun K J G v F n t=>ih _ K J G v F n oP WW (DU c g hs) ?_) (h.2 i (ready_mono g dY));rw[Array.setIfInBounds_comm _ _ dY];exact t
theorem sD{t:Nat}{a:Act}{l:List Oper}(T:Option Tmp->Option Sat)(L:Nat)(c:lo=l++[o])(hlen:l.length=L)(u:P.follows .mixedOrders=true)
 (q:Region.noSelect lo.toArray=true) (z:backward lo.toArray=true) (r:gU lo.toArray L=true) (y:Region.lexFrom .any lo.toArray L 0 ((Array.replicate lo.length false).setIfInBounds L true)=true) (hg:o.guard=none)
 (h:dA P lo.toArray T (fun d=>∃n:aG w,d=n.1) (fun E p=>∀n:aG w,E n.1->o.wp P p n.1 (fun i f=>Q .normal i f) Q) l (fun _=>True) a):(Code.region t lo.toArray true).wp P Q a w:=by
 have k:(fun d=>∃n:aG w,d=n.1) {w with drawn:=w.drawn+1}:=⟨⟨{w with drawn:=w.drawn+1},⟨rfl,rfl,rfl,Nat.le_refl _,fun _ _=>rfl⟩⟩,rfl⟩;have b:lo.length=L+1:=by rw[c];simp[hlen]
 have g:lo.toArray[L]? =some o:=by rw[c,<-hlen];simp
 refine wp_region_any u ?_;have m:=iQ (md:=.any) ⟨_,k⟩ q l 0 ((Array.replicate lo.length false).setIfInBounds L true) (fun _=>True) a (fun j s=>by
  rw[c];simp[List.getElem?_append_left s]) (by rw[hlen];exact y) h
 rw[hlen]at m;have v:=xZ (C:=fun d=>∃n:aG w,d=n.1) (Q':=Q) (L:=L) z (by simp[b]) r (fun E p d e A x=>by
  obtain⟨n,rfl⟩:=e;unfold wpOp;simp only[g];rw[if_pos Ig];exact .inl (x n A)) L (Array.replicate lo.length false) (fun _=>True) a {w with drawn:=w.drawn+1} k trivial (fun _ _ _ _=>trivial) aQ (by simp[b]) (fun j o B h=>by exfalso;rw[Array.getD_eq_getD_getElem?,Array.getElem?_replicate]at h;split at h<;>simp at h) m
 simpa[b]using v
theorem aS{r:Nat}{a:Act}(T:Option Tmp->Option Sat)(L:Nat)(hlen:lo.length=L+1)(t:P.follows .mixedOrders=true)
 (k:Region.noSelect lo.toArray=true) (p:backward lo.toArray=true) (q:gU lo.toArray L=true) (m:Region.lexFrom .any lo.toArray L 0 ((Array.replicate lo.length false).setIfInBounds L true)=true) (f:(lo[L]?).map (·.guard)=some none)
 (h:dA P lo.toArray T (fun j=>∃n:aG w,j=n.1) (fun E g=>∀n:aG w,E n.1->∀o,lo[L]? =some o->o.wp P g n.1 (fun b c=>Q .normal b c) Q) (lo.take L) (fun _=>True) a):(Code.region r lo.toArray true).wp P Q a w:=by
 have d:L<lo.length:=ak;have e:lo[L]? =some lo[L]:=List.getElem?_eq_getElem d;refine sD (l:=lo.take L) (o:=lo[L]) T L ?_ cw t k p q m ?_ ?_
 .rw[List.take_append_getElem d,List.take_of_length_le ak]
 .rw[e]at f;simpa using f
 .exact nf (fun E g i=>fun n s=>i n s _ e) _ _ _ h
end
abbrev Sb.row(x:Sb):Array ahj:=#[.slice x.C x.cn x.cc,.slice x.T x.tn x.tc,.slice x.L x.ln x.lc,.slice x.B x.bn x.bc,.slice x.J x.jn x.jc,.slice x.A x.an x.ac,.slice x.N x.nn x.nc,.slice x.V x.vn x.vc,.slice x.P x.pn x.pc,.slice x.U x.un x.uc,.slice x.M x.mn x.mc,.slice x.H x.hn x.hc]
def PTo(w:ahh)(e:ahn)(a:ahh):Prop:=∃(A:aA) (m c:Nat) (b:Bool),e=.returned (.tuple #[.slice A m c,.bool b])/\(b=true->m<=16/\cK a a.heap.size dR A m c)/\az w a
theorem Tg{j:Nat}(h:cK w B dR A n c)(i:j<n):∃(b:Addr) (a:Int),A=some b/\w.cell? (b.add j)=some (ae aj a)/\(Lit.int .i64 a).wf=true:=by
 obtain⟨b,e,_,k⟩:=h.2.2.2 ak;obtain⟨m,l,f⟩:=k j i;obtain⟨a,rfl,g⟩:=l;have d:=f 0 _ rfl;rw[ew]at d;rw[show dR.n=1 from rfl,Nat.mul_one]at d;exact⟨b,a,e,d,g⟩
theorem Bx.ns{x:Sb}(h:Bx w b x.row):w.cell? ⟨b,0,none⟩=some (.slice x.C x.cn x.cc)/\w.cell? ⟨b,1,none⟩=some (.slice x.T x.tn x.tc)/\w.cell? ⟨b,2,none⟩=some (.slice x.L x.ln x.lc)/\w.cell? ⟨b,3,none⟩=some (.slice x.B x.bn x.bc)/\w.cell? ⟨b,4,none⟩=some (.slice x.J x.jn x.jc)/\w.cell? ⟨b,5,none⟩=some (.slice x.A x.an x.ac)/\w.cell? ⟨b,6,none⟩=some (.slice x.N x.nn x.nc)/\w.cell? ⟨b,7,none⟩=some (.slice x.V x.vn x.vc)/\w.cell? ⟨b,8,none⟩=some (.slice x.P x.pn x.pc)/\w.cell? ⟨b,9,none⟩=some (.slice x.U x.un x.uc)/\w.cell? ⟨b,10,none⟩=some (.slice x.M x.mn x.mc)/\w.cell? ⟨b,11,none⟩=some (.slice x.H x.hn x.hc):=
 ⟨h.cell 0,h.cell 1,h.cell 2,h.cell 3,h.cell 4,h.cell 5,h.cell 6,h.cell 7,h.cell 8,h.cell 9,h.cell 10,h.cell 11⟩
theorem sW{x:Sb}(c:nQ w w.heap.size x)(h:a=w.alloc (.cells x.row 170)):az w a/\Bx a w.heap.size x.row/\nQ a a.heap.size x:=by
 have b:az w a:=Ke;exact⟨b,by rw[h];exact Bx.new _ _ _,c.Z b b.size⟩
theorem aeL(s:G:=by
 obtain⟨ad,x,ea,hx,e0,e1,e2,e3,e4,e5,e6,e7,e8,e9,sr,su⟩:=jk RR.rS aK
 have HT:aq (x.tn=x.cn):=⟨(RCC.at hkt aK ea e0 e1).1⟩;have HC0:aq (As wr wr.heap.size _ x.T x.tn):=⟨(RCC.at hkt aK ea e0 e1).2⟩;have⟨W2,bU⟩:=eX (wr.alloc (.cells x.row 170));obtain⟨b2,x2,r2⟩:=sW hx bU;have HC:aq (As W2 W2.heap.size _ x.T x.tn):=⟨HC0.o.Z b2 b2.size⟩;have B2:aq (az W1 W2):=⟨BE.o.trans (b2.mono BE.o.size)⟩;have X2:aq _:=⟨x2⟩;have R2:aq _:=⟨r2⟩;have RQ:=r2.rC.bd;clear HC0 b2 x2 r2 hx;rw[ea]at d3;clear ea;go_wp2;rw[<-bU];clear bU e0 e1 e2 e3 e4 e5 e6 e7 e8 e9 sr su d0 d1 d2 d3;go_loopg[8,9,10](x.cn+1)(fun gg v8 _ _ wr=>∃j:Nat,x.cn-j<gg/\j<=x.cn/\v8=ae aj (j:Int)/\aq (az W2 wr))
 .exact⟨0,ak,ak,rfl,cA⟩
 obtain⟨j,hgj,hj,rfl,BS⟩:=hrel;have⟨c0,c1,c2,c3,c4,c5,c6,c7,c8,c9,zP,c11⟩:=(X2.o.ar BS.o X2.o.lt).ns;have B3:aq (az W1 wr):=⟨B2.o.trans (BS.o.mono B2.o.size)⟩;by_cases TD:j<x.cn
 .obtain⟨ady,y,ey,dy⟩:=gT (R2.o.rC.Z BS.o BS.o.size) TD
  obtain⟨adT,A3,n3,wV,eT,hA3,dT⟩:=fi (R2.o.rT.Z BS.o BS.o.size) (j:=j) (by rw[HT.o];exact TD);have hn3:=((HC.o.Z BS.o BS.o.size).at (by rw[HT.o];exact TD) eT dT).1;have RA:aq _:=⟨hA3⟩;rw[HT.o,eT]at c1;rw[ey]at c0;clear hA3 ey eT;by_cases hy:y=g
  .go_wp2
   clear c0 c2 c3 c4 c5 c6 c7 c8 c9 zP c11 dy;have⟨w3,dZ⟩:=eX wr;rw[<-dZ]at BS B3 RA c1 dT;rw[<-dZ];clear dZ;go_loopg[9,10](n3+1)(fun gg v9 v10 wr=>∃(q:Nat) (A4:aA) (c4:Nat) (xs:aC),n3-q<gg/\q<=n3/\v9=.slice A4 q c4/\v10=ae aj (q:Int)/\aq (Own wr w3.heap.size 3 .i64 A4 q c4 xs)/\aq (∀x∈xs,(Lit.int .i64 x).wf=true)/\aq (az w3 wr))
   .exact⟨0,none,0,[],ak,ak,rfl,rfl,⟨Own.nil _ _ _ _⟩,⟨aQ⟩,cA⟩
   obtain⟨q,A4,c4,xs,JV,hq,rfl,rfl,O4,F4,B4⟩:=hrel;have d1:=au c1 B4.o;have d2:=au dT B4.o;have BQ:aq (az W1 wr):=⟨B3.o.trans (B4.o.mono B3.o.size)⟩;have IC:=B4.o.size;by_cases Wu:q<n3
   .obtain⟨adz,z,ez,dz,wz⟩:=Tg (RA.o.Z B4.o B4.o.size) Wu
    have WZ:aq _:=⟨wz⟩;clear wz;rw[ez]at d2;clear ez;go_wp2_with (at_builtin;refine bE YQ rfl (.tmp 62) (.tmp 71) rfl rfl (O4.o.alloc _) rfl (nh _ _ _ _ rfl) ak cw ?_;intro A5 c5 w5 o5 b5 _ _;have O5:aq _:=⟨o5⟩;have B5:aq (az w3 w5):=⟨(B4.o.alloc ak _).trans b5⟩;clear o5 b5);go_roundg(n3-q)
    case measure=>omega
    case rel=>exact⟨q+1,A5,c5,_,ak,ak,rfl,aT,O5,⟨fun x hx=>by
     rcases List.mem_append.1 hx with hx|hx
     .exact F4.o x hx
     .simp at hx;subst hx;exact WZ.o⟩,B5⟩
   .obtain rfl:q=n3:=by omega
    go_wp2;go_ret2;exact⟨_,_,_,_,rfl,fun _=>⟨hn3,(aba O4.o F4.o ak)⟩,B1.o.trans (BQ.o.mono B1.o.size)⟩
  .have hy':(y==g)=false:=by simp[hy]
   go_wp2;go_roundg(x.cn-j)
   .exact⟨j+1,ak,ak,aT,BS⟩
   omega
 .go_wp2
  go_roundg(sn-i)
  .exact⟨i+1,ak,ak,aT,B3⟩
  omega):G:=s
theorem ae9(k:Lk)(g:Int)(w:ahh)(h:mA w w.heap.size k)(n:Bz w w.heap.size k):ahk prog 321 #[k.v,ae aj g] w (PTo w):=by
 have⟨W1,aP⟩:=eX (w.alloc (.cells k.row 161));have B1:aq (az w W1):=⟨qS⟩;have f:aq (Bx W1 w.heap.size k.row):=⟨vz⟩;have R:aq (mA W1 W1.heap.size k):=⟨h.Z B1.o B1.o.size⟩;have p:aq (Bz W1 W1.heap.size k):=⟨n.Z B1.o B1.o.size⟩;have r:=h.rS.bd;clear h n;have⟨d0,d1,d2,d3⟩:=f.o.k4;by_cases B:k.kind=1∨k.kind=2;rotate_left
 .have c:(k.kind !=1)=true:=by simp;omega
  have o:(k.kind !=2)=true:=cw;go_enter func321,ntmps321;go_wp2;go_ret2;rw[<-aP];exact⟨_,_,_,_,rfl,aQ,B1.o⟩
 have hkt:KU k.kind:=by rcases B with h|h<;>simp[KU,h]
 have C:aq (az w W1):=⟨B1.o⟩;have m:∀(wr:ahh),az W1 wr->mA wr wr.heap.size k/\Bz wr wr.heap.size k/\Bx wr w.heap.size k.row/\az w wr:=fun wr a=>⟨R.o.Z a a.size,p.o.Z a a.size,f.o.ar a f.o.lt,B1.o.trans (a.mono B1.o.size)⟩
 have b:=Lib.hid m;clear m;have main:(k.kind=1∨((k.kind !=1)=true/\k.kind=2)):=by by_cases h:k.kind=1;exact .inl h;exact .inr ⟨by simp;omega,by omega⟩
 rcases main with c|⟨c,o⟩
 all_goals clear d0 d1 d2 d3
 .obtain⟨t,v,st,S,sn,A⟩:=k
  dsimp only at*;subst c;go_enter func321,ntmps321;go_wp2;rw[<-aP];clear aP;go_loopg[6,7,8,9,10](sn+1)(fun gg l _ _ _ _ wr=>∃i:Nat,sn-i<gg/\i<=sn/\l=ae aj (i:Int)/\aq (az W1 wr))
  .exact⟨0,ak,ak,rfl,cA⟩
  obtain⟨i,s,u,rfl,BE⟩:=hrel;obtain⟨RR,RCC,d,e⟩:=b.out wr BE.o;have⟨d0,d1,d2,d3⟩:=d.k4;by_cases aK:i<sn
  .exact aeL
  .go_wp2
   go_ret2;exact⟨_,_,_,_,rfl,aQ,e⟩
 .obtain⟨t,v,st,S,sn,A⟩:=k
  dsimp only at*;subst o;go_enter func321,ntmps321;go_wp2;rw[<-aP];clear aP;go_loopg[6,7,8,9,10](sn+1)(fun gg l _ _ _ _ wr=>∃i:Nat,sn-i<gg/\i<=sn/\l=ae aj (i:Int)/\aq (az W1 wr))
  .exact⟨0,ak,ak,rfl,cA⟩
  obtain⟨i,s,u,rfl,BE⟩:=hrel;obtain⟨RR,RCC,d,e⟩:=b.out wr BE.o;have⟨d0,d1,d2,d3⟩:=d.k4;by_cases aK:i<sn
  .exact aeL
  .go_wp2
   go_ret2;exact⟨_,_,_,_,rfl,aQ,e⟩
def ZTo:Sat:=⟨fun v w=>∃(A:aA) (m c:Nat) (b:Bool),v=.tuple #[.slice A m c,.bool b]/\(b=true->m<=16/\cK w w.heap.size dR A m c),fun v w g ⟨A,m,c,b,f,d⟩ a=>⟨A,m,c,b,f,fun e=>⟨(d e).1,(d e).2.Z a a.size⟩⟩⟩
theorem ZTo.get{b:Bool}(h:ZTo.p (.tuple #[.slice A m c,.bool b]) w):b=true->m<=16/\cK w w.heap.size dR A m c:=by
 obtain⟨f,d,c',a,e,h⟩:=h;simp at e;obtain⟨⟨rfl,rfl,rfl⟩,rfl⟩:=e;exact h
def iZ(t:Nat)(S:Sat)(d:Option Tmp):Option Sat:=if d=some t then some S else none
def PAp(w:ahh)(B:Nat)(Q:List aC->Prop)(N:Nat)(e:ahn)(a:ahh):Prop:=∃(A:aA) (m c x:Nat) (b:Bool),e=.returned (.tuple #[.slice A m c,ae aj (x:Int),.bool b])/\(b=true->m<=N/\x<=1000000/\fR a B Q A m c)/\az w a
theorem OL.iS{j q:Nat}{e:ahm}{lo a:Int}(h:OL w B e 10 (bk lo a) (some ⟨g,0,none⟩) n c)(i:j<n)(b:q<10)(d:q≠1)(v:Int):OL (w.setCell ⟨g,j*10+q,none⟩ (ae aj v)) B e 10 (bk lo a) (some ⟨g,0,none⟩) n c:=
 h.set i b v fun gs l k f=>by
  show CS _ _ _;rw[qA gs ak d];exact f
theorem He(f:cY)(k:Lk)(lo l:Int)(A:aA)(n c at_:Nat)(w:ahh)(h:bZ w w.heap.size f)(Y:mA w w.heap.size k)(P:Bz w w.heap.size k)(N:kT w (bk lo l) A n)(hn:n<=50000)(C:at_<n)(u:n<=c):
 ahk prog 301 #[f.v,k.v,.slice A n c,ae aj (at_:Int)] w (PAp w w.heap.size (bk lo l) (n+16)):=by
 have⟨W1,j,a,X1,S⟩:=box2 w f.row 96 k.row 161;have R:=sH (Y.Z a.o a.o.size);have H:=sH (P.Z a.o a.o.size);have F:=sH (N.Z a.o a.o.size);have i1:¬((n:Int)<=(at_:Int)):=ak;have i3:=aU at_ n;have⟨Q,G,X,T⟩:=S.o.k4;obtain⟨B,L,x1,x2,x3,x4,Z,x6,x7,x8,x9,rfl,hQ,M,_⟩:=F.o.iX.bD C;go_enter func301,ntmps301;go_wp2;rw[<-j];clear j;have⟨M0,M1,M2,M3,E0⟩:=lc5 Q G X T M;refine ba (iZ 31 ZTo) aF aF ?_;refine mLw ?_;refine lwA ZTo (fun b=> ?_) (fun v9 r=> ?_)
 .go_simp
  refine aX ZTo ((ae9 k L b.1 (R.o.Z b.2 b.2.size) (H.o.Z b.2 b.2.size)).mono ?_);rintro e w5 ⟨t,m,c5,o,rfl,U,W⟩;exact⟨_,rfl,⟨t,m,c5,o,rfl,U⟩,W⟩
 obtain⟨_,_,t,m,c5,o,rfl,_⟩:=r;simp[Act.put];refine mLw ?_;intro b J;have d:=ZTo.get J;have i:=sH b.2;have s:=sH (F.o.Z b.2 b.2.size);have⟨z,g⟩:=eX b.1;rw[<-g]at i s d;rw[<-g];clear g;cases o
 .clear d
  go_wp2_with fail;refine(EJ (bk lo l) (some B) n c z s.o ak).mono ?_;rintro e E ⟨p,y,rfl,D,x⟩;have v:=sH (a.o.trans ((i.o.trans (x.mono i.o.size)).mono a.o.size));go_wp2;go_ret3;exact⟨_,_,_,at_,_,rfl,aQ,v.o⟩
 .have I:=sH ((d rfl).2)
  have hm:=(d rfl).1;go_wp2_with fail;refine(I' lo l (some B) n c at_ t m c5 z s.o I.o ak ak C u).mono ?_;rintro e E ⟨q,hq,p,y,rfl,D,x⟩;have O:=i.o.size;have V:=a.o.size;have v:=sH (a.o.trans ((i.o.trans (x.mono i.o.size)).mono a.o.size));have K:aq (fR E w.heap.size (bk lo l) p q y):=⟨D.cJ ak⟩;go_wp2;go_ret3;exact⟨p,q,y,at_+m,true,rfl,fun _=>⟨ak,ak,K.o⟩,v.o⟩
section
open Ty
theorem Yv{k:Nat}:∀(l:List (List ahj)) (h:∀g∈l,g.length=k) (q i:Nat) (g:List ahj),l[q]? =some g->i<k->l.flatten[q*k+i]? =g[i]?
 |[],_,q,i,g,h,_=>by simp at h
 |y::l,hl,0,i,g,h,hi=>by
  simp at h;subst h;have:=hl y aQ;rw[List.flatten_cons,List.getElem?_append_left ak];simp
 |y::l,hl,q+1,i,g,h,hi=>by
  simp at h;have a:=hl y aQ;rw[List.flatten_cons,List.getElem?_append_right (by rw[a,Nat.add_mul];omega),a,show(q+1)*k+i-k=q*k+i by rw[Nat.add_mul];omega];exact Yv l (fun g b=>hl g (by simp[b])) q i g h hi
theorem wT{k:Nat}(l:List (List ahj))(h:∀g∈l,g.length=k):l.flatten.length=l.length*k:=by
 induction l with
 |nil=>simp
 |cons y l ih=>
  rw[List.flatten_cons,List.length_append,ih fun g a=>h g (by simp[a]),List.length_cons,Nat.add_mul,h y aQ];omega
theorem Rd.one{w:ahh}{B:Nat}:∀{t:Ty} {vs:List ahj},Rd w B t vs->∀u∈vs,u.oneCell'=true
 | .num _,_,⟨_,e,_⟩=>by rw[e];simp[Value.oneCell']
 | .Ji,_,⟨_,e⟩=>by rw[e];simp[Value.oneCell']
 | .str,_,⟨_,e,_⟩=>by rw[e];simp[Value.oneCell']
 | .arr _,_,⟨_,_,_,e,_⟩=>by rw[e];simp[Value.oneCell']
 | .two a b,_,⟨us,ws,e,h1,h2⟩=>fun u c=>by
   rw[e]at c;rcases List.mem_append.1 c with c|c
   .exact Rd.one h1 u c
   .exact Rd.one h2 u c
theorem cK.less{e:Ty}(h:cK w B e A n c)(a:m<=n):cK w B e A m c:=
 ⟨Nat.le_trans a h.1,h.2.1,Nat.le_trans (Nat.mul_le_mul_right _ a) h.2.2.1,fun i=>by
  obtain⟨d,e,b,f⟩:=h.2.2.2 ak;exact⟨d,e,b,fun j g=>f j ak⟩⟩
theorem cK.rows{w:ahh}{B:Nat}{e:Ty}{A:aA}{c:Nat}:∀{n:Nat},cK w B e A n c->∃a:List (List ahj),a.length=n/\(∀r∈a,Rd w B e r)/\nm w A n a.flatten
 |0,_=>⟨[],rfl,aQ,fun h=>absurd h ak⟩
 |n+1,h=>by
  obtain⟨a,h1,l,s⟩:=cK.rows (h.less (Nat.le_succ n));obtain⟨o,p,_,v⟩:=h.2.2.2 ak;obtain⟨r,g2,q⟩:=v n ak;have y:∀r∈a,r.length=e.n:=fun r t=>(l r t).len
  refine⟨a++[r],nd,fun x b=> ?_,fun _=>⟨o,p,fun j u d=> ?_⟩⟩
  .rcases List.mem_append.1 b with b|b
   .exact l x b
   .simp at b;subst b;exact g2
  .have hlen:=wT a y
   rw[List.flatten_append]at d;rcases Nat.lt_or_ge j a.flatten.length with f|f
   .rw[List.getElem?_append_left f]at d
    obtain⟨i,m,k⟩:=s (by
     rcases Nat.eq_zero_or_pos n with g|g
     .subst g;rw[hlen,h1]at f;omega
     .exact g)
    obtain rfl:o=i:=by rw[p]at m;exact Option.some.inj m
    exact k j u d
   .rw[List.getElem?_append_right f]at d
    simp only[List.flatten_cons,List.flatten_nil,List.append_nil]at d;have:=q _ u d;rw[aY,hlen,h1]at this;rwa [show n*e.n+(j-n*e.n)=j by rw[hlen,h1]at f;omega]at this
theorem Vp{e:Ty}{a:List (List ahj)}(h:aw w B t e.n A n c a.flatten)(v:a.length=n)(o:∀r∈a,Rd w w.heap.size e r)(x:0<e.n)(i:n*e.lb<=140737488351232):cK w w.heap.size e A n c:=
 ⟨aw.le h,aw.uD h,i,fun s=>by
  obtain⟨g,rfl,_,f⟩:=aw.form h s;refine⟨_,rfl,f,fun j y=> ?_⟩;have m:∀r∈a,r.length=e.n:=fun r i=>(o r i).len
  have d:a[j]? =some a[j]:=List.getElem?_eq_getElem ak;have l:a[j]∈a:=List.getElem_mem _;refine⟨a[j],o _ l,fun q u k=> ?_⟩;have b:=(List.getElem?_eq_some_iff.1 k).1;rw[m _ l]at b;have p:j*e.n+q<n*e.n:=by
   have:=Nat.mul_le_mul_right e.n (show j+1<=n by omega);rw[Nat.add_mul]at this;omega
  rw[aY,bj,aw.cellAt h (j*e.n+q) p,Yv a m j q _ d b,k]⟩
theorem TLg:aR prog 321 323 2 32:=bu underlying321 (z:=.agg #[.slice none 0 0,ae aj 0]) aF rfl ak ak
theorem WL(k:Lk)(g:Int)(w:ahh)(h:mA w w.heap.size k):ahk prog 342 #[k.v,ae aj g] w (PRd w yk):=by
 have⟨V,y,q,J⟩:=box1 w k.row 161;have R:=sH (h.Z q.o q.o.size);have ox:=h.rS.bd;go_enter func342,ntmps342;go_wp2;rw[<-y];go_loopg[5,6,7,8](k.sn+1)(fun gg v5 _ _ _ wr=>∃i:Nat,k.sn-i<gg/\i<=k.sn/\v5=ae aj (i:Int)/\aq (az V wr))
 .exact⟨0,ak,ak,rfl,cA⟩
 obtain⟨i,hg,hi,rfl,f⟩:=hrel;have⟨d0,d1,d2,O⟩:=(J.o.ar f.o J.o.lt).k4;have Y:=q.t f.o;by_cases v:i<k.sn
 .obtain⟨ad,x,W,H,e0,_,S,_⟩:=jk (R.o.rS.Z f.o f.o.size) v
  have M:=sH H;rw[W]at O;have T:=H.rC.bd;go_wp2_with fail;refine(TQ x.C x.cn x.cc g wr M.o.rC).mono ?_;rintro e I ⟨z,b,rfl,ur,X,p⟩;have L:=f.t p;have E:=q.t L.o;have m:=sH (M.o.Z p p.size);have D3:=au O p;have Z:=au S p;cases b
  .go_wp2
   go_roundg(k.sn-i)
   .exact⟨i+1,ak,ak,aT,L⟩
   omega
  .obtain⟨a,rfl⟩:∃a:Nat,z=(a:Int):=⟨z.toNat,ak⟩
   have vX:=m.o.rL.bd;by_cases D:a<x.ln
   .obtain⟨adL,A2,n2,c2,U,c,dL⟩:=fi m.o.rL D
    have HL:=sH c;obtain⟨N,s,n,F⟩:=c.rows;have A:∀r∈N,r.length=2:=fun r l=>(n r l).len
    have j:=sH s;have o:=sH n;have C:=sH F;have HK:=sH A;have d:=c.rb;rw[U]at Z;have i1:¬((x.ln:Int)<=(a:Int)):=ak;go_wp2_with (at_builtin;refine wpList_plain rfl fun _ hK=>oM TLg (.tmp 38) (.tmp 47) rfl rfl (aw.nil I I.heap.size _ _) rfl C.o (by rw[wT N HK.o,j.o]) (fun u t=>by obtain⟨r,l,t⟩:=List.mem_flatten.1 t;exact Rd.one (o.o r l) u t) (by simp[Ty.lb]at d;omega) bW ?_;intro A8 c8 w8 P G;have Q:=sH P;have B:=sH G;clear P G);go_ret;have K:=Q.o;simp only[Nat.zero_add,List.nil_append]at K;exact⟨A8,n2,c8,rfl,Vp (e:=yk) K j.o (fun r l=>(o.o r l).Z B.o B.o.size) (by simp[Ty.n]) d,E.o.trans (B.o.mono E.o.size)⟩
   .have i1:((x.ln:Int)<=(a:Int)):=by omega
    go_wp2;go_ret;exact⟨_,_,_,rfl,cK.nil _ _ _,E.o⟩
 .go_wp2
  go_ret;exact⟨_,_,_,rfl,cK.nil _ _ _,Y.o⟩
end
abbrev Lg.row(x:Lg):Array ahj:=#[.slice x.P x.pn x.pc,ae aj x.gl]
theorem Bx.g2{x:Lg}(h:Bx w b x.row):w.cell? ⟨b,0,none⟩=some (.slice x.P x.pn x.pc)/\w.cell? ⟨b,1,none⟩=some (ae aj x.gl):=⟨h.cell 0,h.cell 1⟩
def IF(w:ahh)(B:Nat)(at_ n:Nat)(A:aA)(m c:Nat):Prop:=∃xs:aC,1<=m/\m<=n/\Own w B 3 .i64 A m c xs/\nth xs 0=at_/\∀x∈xs,(at_:Int)<=x/\x<n
def PFo(w:ahh)(at_ n:Nat)(e:ahn)(a:ahh):Prop:=∃(A:aA) (m c:Nat) (b:Bool),e=.returned (.tuple #[.slice A m c,.bool b])/\(b=true->IF a w.heap.size at_ n A m c)/\az w a
theorem FV(w:ahh)(x:Int):Own (w.alloc (.cells #[ae aj x] 3)) w.heap.size 3 .i64 (some ⟨w.heap.size,0,none⟩) 1 1 [x]:=
 ⟨aQ,.inr ⟨w.heap.size,1,#[ae aj x],rfl,Nat.le_refl _,heap_alloc_new w _,ak,qT,aQ,aQ⟩⟩
theorem Ng{a:aC}{k:Nat}(h:k<xs.length):nth (xs++a) k=nth xs k:=by simp[nth,List.getElem?_append_left h]
theorem J9(f:cY)(k:Lk)(Q:aC->Prop)(A:aA)(n c at_:Nat)(x:Lg)(w:ahh)(h:bZ w w.heap.size f)(hl:uU w Q A n)(j:LgR w w.heap.size x)(hn:n<=50000)(ha:at_<n):
 ahk prog 343 #[f.v,k.v,.slice A n c,ae aj (at_:Int),x.v] w (PFo w at_ n):=by
 have⟨o,aP⟩:=eX ((w.alloc (.cells f.row 96)).alloc (.cells k.row 161));have r:=iu aP;have K:aq (az w o):=⟨r.1⟩;have H:aq (Bx o w.heap.size f.row):=⟨r.2.1⟩;have J:aq (Bx o (w.heap.size+1) k.row):=⟨r.2.2⟩;clear r;have⟨d,bU⟩:=eX (o.alloc (.cells x.row 323));have q:az o d:=jx;have hN:o.heap.size=w.heap.size+2:=oO;have g:aq (az w d):=⟨K.o.trans (q.mono K.o.size)⟩;have p:aq (Bx d (w.heap.size+2) x.row):=⟨Q3⟩;have N:aq (Bx d w.heap.size f.row):=⟨H.o.ar q H.o.lt⟩;have T:aq (Bx d (w.heap.size+1) k.row):=⟨J.o.ar q J.o.lt⟩;have F:d.heap.size=w.heap.size+3:=Bo;rw[aP]at bU;clear q hN aP H J K;have R:aq (bZ d d.heap.size f):=⟨h.Z g.o g.o.size⟩;have GL:aq (uU d Q A n):=⟨hl.Z g.o g.o.size⟩;have RX:aq (LgR d d.heap.size x):=⟨j.Z g.o g.o.size⟩;have UM:=j.rP.bd;clear h hl j;go_enter func343,ntmps343;go_wp2;rw[<-bU];clear bU;go_loopg[3,12,13](x.pn+1)(fun gg v3 M E wr=>∃(i a:Nat) (v:aA) (B:Nat) (xs:aC),x.pn-i<gg/\i<=x.pn/\at_+i<=a/\a<n/\v3=ae aj (a:Int)/\M=.slice v (i+1) B/\E=ae aj (i:Int)/\aq (Own wr d.heap.size 3 .i64 v (i+1) B xs)/\aq (nth xs 0=at_)/\aq (∀x∈xs,(at_:Int)<=x/\x<n)/\aq (az d wr))
 .exact⟨0,at_,some ⟨d.heap.size,0,none⟩,1,[(at_:Int)],ak,ak,ak,ha,rfl,by simp[F],rfl,⟨FV d at_⟩,⟨rfl⟩,⟨fun x j=>by simp at j;omega⟩,⟨av _ _⟩⟩
 obtain⟨i,a,v,B,xs,hg,hi,hia,D,rfl,rfl,rfl,C,P,V,l⟩:=hrel;have⟨c0,c1,I,c3,c4,c5⟩:=(N.o.ar l.o N.o.lt).f6;have⟨d0,d1,d2,d3⟩:=(T.o.ar l.o T.o.lt).k4;have⟨s,g1⟩:=(p.o.ar l.o p.o.lt).g2;have BW:aq (az w wr):=⟨g.o.trans (l.o.mono g.o.size)⟩;by_cases u:i<x.pn
 .have NX:aq _:=⟨xq f k Q A n c a wr (R.o.Z l.o l.o.size) (GL.o.Z l.o l.o.size) ak D⟩
  go_wp2_with fail;refine NX.o.mono ?_;rintro e U ⟨z,rfl,hz,L⟩;have m:aq (az d U):=⟨l.o.trans (L.mono l.o.size)⟩;have O5:aq _:=⟨C.o.ar L⟩;have BV:aq (az w U):=⟨g.o.trans (m.o.mono g.o.size)⟩;clear NX c0 c1 I c3 c4 c5 d0 d1 d2 d3 s g1 C;have⟨s,g1⟩:=(p.o.ar m.o p.o.lt).g2;obtain⟨adp,y,Y,dp⟩:=gT (RX.o.rP.Z m.o m.o.size) u;rw[Y]at s;clear L Y;rcases hz with rfl|⟨gJ,eQ⟩
  .go_wp2
   go_quiet (fail);go_wp2;go_ret2;exact⟨_,_,_,_,rfl,aQ,aN BV.o _⟩
  .obtain⟨b,rfl⟩:∃b:Nat,z=(b:Int):=⟨z.toNat,ak⟩
   obtain⟨ad,G,x1,x2,x3,x4,x5,x6,x7,x8,x9,rfl,hQ,e0,_⟩:=(GL.o.Z m.o m.o.size).bD (show b<n by omega);clear hQ;have Z:¬((b:Int)<0):=ak;have W:((b:Int)<(n:Int)):=ak;by_cases S:G=y
   .have t:(G !=y)=false:=by simp[S]
    go_wp2;go_quiet (fail);have rZ:=m.o.size;go_wp2_with (at_builtin;refine bE YQ rfl (.tmp 43) (.tmp 45) rfl rfl ((Own.drewN O5.o _).alloc _) rfl (nh _ _ _ _ rfl) ak cw ?_;intro A5 c5 w5 X O _ _;have O6:aq _:=⟨X⟩;have B6:aq (az d w5):=⟨((aN m.o _).alloc cw _).trans O⟩;clear X O);go_roundg(x.pn-i)
    case measure=>omega
    case rel=>exact⟨i+1,b,A5,c5,xs++[(b:Int)],ak,ak,ak,ak,rfl,rfl,aT,O6,⟨by rw[Ng (by have:=O5.o.len;omega)];exact P.o⟩,⟨fun x j=>by
     rcases List.mem_append.1 j with j|j
     .exact V.o x j
     .simp at j;omega⟩,B6⟩
   .have t:(G !=y)=true:=by simp[S]
    go_wp2;go_quiet (fail);go_wp2;go_ret2;exact⟨_,_,_,_,rfl,aQ,aN BV.o _⟩
 .obtain rfl:i=x.pn:=by omega
  go_wp2;go_ret2;exact⟨_,_,_,_,rfl,fun _=>⟨xs,ak,ak,C.o.gF g.o.size,P.o,V.o⟩,BW.o⟩
def Se(e:Ty):Sat:=⟨fun v w=>∃(A:aA) (n c:Nat),v=.slice A n c/\cK w w.heap.size e A n c,fun v w f ⟨A,n,c,b,d⟩ a=>⟨A,n,c,b,d.Z a a.size⟩⟩
theorem Se.get{e:Ty}(h:(Se e).p (.slice A n c) w):cK w w.heap.size e A n c:=by
 obtain⟨b,a,c',e,h⟩:=h;simp at e;obtain⟨rfl,rfl,rfl⟩:=e;exact h
theorem IF.ar(h:IF w B at_ n A m c)(b:az w a):IF a B at_ n A m c:=by
 obtain⟨xs,e,g,f,d⟩:=h;exact⟨xs,e,g,f.ar b,d⟩
theorem IF.cJ{a:Nat}(h:IF w B at_ n A m c)(b:a<=B):IF w a at_ n A m c:=by
 obtain⟨xs,e,g,f,d⟩:=h;exact⟨xs,e,g,f.gF b,d⟩
theorem aw.afa{size:Nat}{e:ahm}{vs:List ahj}(h:aw w B e size A n c vs)(k:g<B)(cs:Array ahj):aw (w.setRow g cs) B e size A n c vs:=by
 obtain⟨f,b⟩:=h;refine⟨f, ?_⟩;rcases b with b|⟨j,cap,cur,i,a,d,r⟩
 .exact .inl b
 .exact .inr ⟨j,cap,cur,i,a,by rw[setRow_other _ _ _ _ (by omega)];exact d,r⟩
theorem IF.row(h:IF w B at_ n A m c)(d:g<B)(cs:Array ahj):IF (w.setRow g cs) B at_ n A m c:=by
 obtain⟨xs,a,e,b,f⟩:=h;exact⟨xs,a,e,aw.afa b d cs,f⟩
def ZPl(N at_ n:Nat):Sat:=⟨fun v w=>∃(A:aA) (m c:Nat) (b:Bool),v=.tuple #[.slice A m c,.bool b]/\(b=true->IF w N at_ n A m c),fun v w g ⟨A,m,c,b,d,f⟩ a=>⟨A,m,c,b,d,fun e=>(f e).ar a⟩⟩
theorem ZPl.get{b:Bool}(h:(ZPl N at_ n).p (.tuple #[.slice A m c,.bool b]) w):b=true->IF w N at_ n A m c:=by
 obtain⟨f,d,c',a,e,h⟩:=h;simp at e;obtain⟨⟨rfl,rfl,rfl⟩,rfl⟩:=e;exact h
theorem aed(s:G:=by
 have hp':tmps[p]?.getD undef=.pointer (some ⟨g,0,none⟩):=QV;simp[results,h,hp',asAddr,run_loadVar_row w g t ty cs fr d hg hu hd hi]):G:=s
theorem nR{c:Func}{p a b:Tmp}{ty:ahm}(h:c.results=#[.cell p ty,.tmp a,.tmp b])(tmps:Array ahj)(w:ahh)(g:Nat)(t:ahm)(cs:Array ahj)(fr:Nat×Nat)(d:TypeDesc)
 (hp:tmps.getD p undef=.pointer (some ⟨g,0,none⟩)) (hg:w.heap[g]? =some (.cells cs t fr))
 (hu:P.underlying ty=some d) (hd:(match d with| .struct _| .array _ _=>true|_=>false)=true) (hi:(P.info? ty).map (·.size)=some cs.size):
 (results c tmps).run P w=.ok (.tuple #[.agg cs,tmps.getD a undef,tmps.getD b undef]) w:=by
 exact aed
theorem bR{b:Func}{p a:Tmp}{ty:ahm}(h:b.results=#[.cell p ty,.tmp a])(tmps:Array ahj)(w:ahh)(g:Nat)(t:ahm)(cs:Array ahj)(fr:Nat×Nat)(d:TypeDesc)
 (hp:tmps.getD p undef=.pointer (some ⟨g,0,none⟩)) (hg:w.heap[g]? =some (.cells cs t fr))
 (hu:P.underlying ty=some d) (hd:(match d with| .struct _| .array _ _=>true|_=>false)=true) (hi:(P.info? ty).map (·.size)=some cs.size):
 (results b tmps).run P w=.ok (.tuple #[.agg cs,tmps.getD a undef]) w:=by
 exact aed
def PFi(w:ahh)(at_ n:Nat)(e:ahn)(a:ahh):Prop:=∃(x:Lg) (A:aA) (m c:Nat) (b:Bool),e=.returned (.tuple #[x.v,.slice A m c,.bool b])/\(b=true->IF a w.heap.size at_ n A m c)/\az w a
theorem aak(f:cY)(k:Lk)(Q:aC->Prop)(A:aA)(n c at_:Nat)(w:ahh)(h:bZ w w.heap.size f)(hk:mA w w.heap.size k)(hl:uU w Q A n)(hn:n<=50000)(ha:at_<n):
 ahk prog 323 #[f.v,k.v,.slice A n c,ae aj (at_:Int)] w (PFi w at_ n):=by
 have⟨P,aP,B1,T,X⟩:=box2 w f.row 96 k.row 161;have⟨W2,bU⟩:=eX (P.alloc (.cells #[.slice none 0 0,ae aj 0] 323));have F:az P W2:=jx;have hN:P.heap.size=w.heap.size+2:=oO;have o:=B1.t F;have E:aq (Bx W2 (w.heap.size+2) #[.slice none 0 0,ae aj 0]):=⟨Q3⟩;have K:=sH (T.o.ar F T.o.lt);have L:=sH (X.o.ar F X.o.lt);have Fj:W2.heap.size=w.heap.size+3:=Bo;rw[aP]at bU;clear F hN aP T X B1;have R:=sH (h.Z o.o o.o.size);have RK:=sH (hk.Z o.o o.o.size);have GL:=sH (hl.Z o.o o.o.size);clear h hl hk;have i1:¬((n:Int)<=(at_:Int)):=ak;have i3:=aU at_ n;have⟨c0,D,d,J,c4,c5⟩:=K.o.f6;have⟨y,s,B,z⟩:=L.o.k4;obtain⟨ad,x0,x1,x2,x3,x4,x5,x6,x7,x8,x9,rfl,hQ,e0,_⟩:=GL.o.bD ha;clear hQ;go_enter func323,ntmps323;go_wp2;rw[<-bU];clear bU;have⟨S,W,Y,V,E0⟩:=lc5 y s B z e0;clear c0 D d J c4 c5 y s B z e0;refine ba (iZ 30 (Se yk)) aF aF ?_;refine mLw ?_;refine lwA (Se yk) (fun a=> ?_) (fun v9 m=> ?_)
 .go_simp
  refine aX (Se yk) ((WL k x0 a.1 (RK.o.Z a.2 a.2.size)).mono ?_);rintro e w5 ⟨A5,j,c5,rfl,h5,Z⟩;exact⟨_,rfl,⟨A5,j,c5,rfl,h5⟩,Z⟩
 obtain⟨_,_,A5,j,c5,rfl,u⟩:=m;have hm5:=u.bd;clear u;simp[Act.put];refine mLw ?_;intro a v;have RL:=sH (Se.get v);have BN:=sH a.2;have⟨w2,r⟩:=eX a.1;rw[<-r]at BN RL;rw[<-r];clear r v E0 S W Y V;go_wp2;go_loopg[12,13,14](j+1)(fun gg mN _ _ wr=>∃(i:Nat),j-i<gg/\i<=j/\mN=ae aj (i:Int)/\aq (az w2 wr))
 .exact⟨0,ak,ak,rfl,cA⟩
 obtain⟨i,hg,hi,rfl,H⟩:=hrel;have g:=BN.t H.o;have⟨c0,D,d,J,c4,c5⟩:=(K.o.ar g.o K.o.lt).f6;have⟨y,s,B,z⟩:=(L.o.ar g.o L.o.lt).k4;have U:=o.t g.o;by_cases M:i<j
 .obtain⟨adp,x,rfl,hx,C,I⟩:=YJ (RL.o.Z H.o H.o.size) M
  have HX:=sH hx;clear hx;have i4:=aU i j;go_wp2;have⟨L0,L1,L2,L3,L4,L5,S,W⟩:=lc8 c0 D d J c4 c5 y s;have⟨Y,V,G0,G1⟩:=lc4 B z C I;clear c0 D d J c4 c5 y s B z C I;refine ba (iZ 46 (ZPl wr.heap.size at_ n)) aF aF ?_;refine mLw ?_;refine lwA (ZPl wr.heap.size at_ n) (fun a=> ?_) (fun v9 m=> ?_)
  .go_simp
   have G:=g.o.trans (a.2.mono g.o.size);refine aX (ZPl wr.heap.size at_ n) ((J9 f k Q (some ad) n c at_ x a.1 (R.o.Z G G.size) (GL.o.Z G G.size) (HX.o.Z a.2 a.2.size) hn ha).mono ?_);rintro e w5 ⟨A6,m6,c6,O,rfl,h6,Z⟩;exact⟨_,rfl,⟨A6,m6,c6,O,rfl,fun e=>(h6 e).cJ a.2.size⟩,Z⟩
  obtain⟨_,_,A6,m6,c6,O,rfl,_⟩:=m;simp[Act.put];refine mLw ?_;intro a v;have PL:=sH (ZPl.get v);have BM:=H.t a.2;have BV:=U.t a.2;have XN:=sH (E.o.ar (g.o.trans (a.2.mono g.o.size)) E.o.lt);have C:=G0 a;have I:=G1 a;have gH:=U.o.size;have agX:=g.o.size;have⟨w3,l⟩:=eX a.1;rw[<-l]at BM BV PL XN C I;rw[<-l];clear l v L0 L1 L2 L3 L4 L5 S W Y V G0 G1;cases O
  .go_wp2
   go_roundg(j-i)
   .exact⟨i+1,ak,ak,aT,BM⟩
   omega
  .obtain⟨b,t⟩:=XN.o.heap
   go_wp2_with (refine wpList_store_row rfl 323 (.tmp 8) (.tmp 53) rfl (w.heap.size+2) x.row rfl rfl b _ t aF aB dJ ?_;have N:Bx (w3.setRow (w.heap.size+2) x.row) (w.heap.size+2) x.row:=⟨b,setRow_heap _ _ _ _ _ _ t⟩);obtain⟨q,p⟩:=N.heap;refine bodyPost_ret (nR results323 _ _ (w.heap.size+2) q x.row (0,0) _ aB p underlying323 rfl aF) rfl ?_;exact⟨x,_,_,_,_,rfl,fun _=>((PL.o aQ).row ak _).cJ ak,below_setRow BV.o ak _⟩
 .obtain⟨b,t⟩:=(E.o.ar g.o E.o.lt).heap
  go_wp2_with (refine wpList_store_row rfl 323 (.tmp 8) (.tmp 55) rfl (w.heap.size+2) #[.slice none 0 0,ae aj 0] rfl aB b _ t aF aB dJ ?_;have N:Bx (wr.setRow (w.heap.size+2) #[.slice none 0 0,ae aj 0]) (w.heap.size+2) #[.slice none 0 0,ae aj 0]:=⟨b,setRow_heap _ _ _ _ _ _ t⟩);obtain⟨q,p⟩:=N.heap;refine bodyPost_ret (nR results323 _ _ (w.heap.size+2) q _ (0,0) _ aB p underlying323 rfl aF) rfl ?_;exact⟨⟨none,0,0,0⟩,_,_,_,_,rfl,aQ,below_setRow U.o ak _⟩
section
variable{w w':ahh}{B k n c g:Nat}{e:ahm}{Q:aC -> Prop}{A:aA}
theorem Oq.mu(h:Oq w B e k Q A n c)(a:bM A (some ⟨g,0,none⟩))(j:Nat)(u:ahj):Oq (w.setCell ⟨g,j,none⟩ u) B e k Q A n c:=by
 obtain⟨gs,b,f,d⟩:=h;exact⟨gs,b,f,aw.mu d a u⟩
theorem aw.Oz{vs:List ahj}(h:aw w B e k A n c vs)(f:bM A (some ⟨g,0,none⟩))(cs:Array ahj):aw (w.setRow g cs) B e k A n c vs:=by
 refine⟨h.1, ?_⟩;rcases h.2 with j|⟨b,cap,cur,d,a,i,r⟩
 .exact .inl j
 .refine .inr ⟨b,cap,cur,d,a, ?_,r⟩
  rw[setRow_other _ _ _ _ (fun e=> ?_)]
  .exact i
  .injection d with h1
   exact f b h1 (by rw[e])
theorem Oq.fH(h:Oq w B e k Q A n c)(a:bM A (some ⟨g,0,none⟩))(cs:Array ahj):Oq (w.setRow g cs) B e k Q A n c:=by
 obtain⟨gs,b,f,d⟩:=h;exact⟨gs,b,f,aw.Oz d a cs⟩
theorem Oq.gA(h:Oq w B e k Q A n c)(a:w.heap.size<=g):bM A (some ⟨g,0,none⟩):=by
 obtain⟨gs,d,f,b⟩:=h;exact aw.gA b a
theorem Bx.kept(h:Bx w b cs)(d:w.grownBy w' (Value.slice A n c).ownBlock)(f:bM A (some ⟨b,0,none⟩))(i:A=none∨∃g,A=some ⟨g,0,none⟩):Bx w' b cs:=by
 have a:=h.lt;obtain⟨t,h⟩:=h;refine⟨t,(d.block b a fun e=> ?_).trans h⟩;rcases i with rfl|⟨g,rfl⟩
 .simp[Value.ownBlock]at e
 .simp[Value.ownBlock]at e
  subst e;exact f _ rfl rfl
theorem Oq.head(h:Oq w B e k Q A n c):A=none∨∃g,A=some ⟨g,0,none⟩:=by
 obtain⟨gs,b,d,a⟩:=h;exact aw.dK a
theorem OL.mu(h:OL w B e k L A n c)(a:bM A (some ⟨g,0,none⟩))(j:Nat)(u:ahj):OL (w.setCell ⟨g,j,none⟩ u) B e k L A n c:=by
 obtain⟨gs,d,i,f,b⟩:=h;exact⟨gs,d,i,f,aw.mu b a u⟩
theorem OL.fH(h:OL w B e k L A n c)(a:bM A (some ⟨g,0,none⟩))(cs:Array ahj):OL (w.setRow g cs) B e k L A n c:=by
 obtain⟨gs,d,i,f,b⟩:=h;exact⟨gs,d,i,f,aw.Oz b a cs⟩
theorem OL.gA(h:OL w B e k L A n c)(a:w.heap.size<=g):bM A (some ⟨g,0,none⟩):=h.o.gA a
theorem OL.head(h:OL w B e k L A n c):A=none∨∃g,A=some ⟨g,0,none⟩:=h.o.head
theorem Bx.jR(h:Bx w b cs)(o:Nat)(v:ahj):Bx (w.setCell ⟨b,o,none⟩ v) b (cs.setIfInBounds o v):=by
 obtain⟨t,h⟩:=h;refine⟨t, ?_⟩;have aK:=(Array.getElem?_eq_some_iff.1 h).1;have a:w.heap[b]=.cells cs t (0,0):=(Array.getElem?_eq_some_iff.1 h).2;unfold World.setCell;rw[Array.getElem?_eq_getElem Fe,Array.getElem_modify];simp[a]
end
theorem nH{w:ahh}{ops:Array Oper}{rest:List Oper}{a:Act}{K:Exit->Act->ahh->Prop}{e:ahm}{k bytes:Nat}(T:aR P t e k bytes)(i:o.guard=none)(s x:Operand)
 (D:o.op=.call {callee:=.builtin .append,args:=#[s,x],argTypes:=#[t,t]}) {B:Nat} {Q:aC->Prop} {A:aA} {n c:Nat} (q:a.eval s=.slice A n c) (d:Oq w B e k Q A n c)
 {b:Nat} (v:a.eval x=.slice (some ⟨b,0,none⟩) 1 1) (g:aC) (l:g.length=k) (r:∀j u,(dk g)[j]? =some u->w.cell? ⟨b,j,none⟩=some u) (C:Q g)
 (H:(n+1)*bytes<=140737488355328) (G:B<=w.heap.size)
 (h:∀f c' w',Oq w' B e k Q f (n+1) c'->ahi B w w'->w.grownBy w' (Value.slice A n c).ownBlock->(∀g,f=some ⟨g,0,none⟩->A=some ⟨g,0,none⟩∨w.heap.size<=g)->wpList P ops K rest (a.put o.dst (.slice f (n+1) c')) w'):wpList P ops K (o::rest) a w:=by
 obtain⟨gs,E,z,p⟩:=d;exact br T i s x D q p v (by simp[dk,l]) r (fun u hu=>abH) H G fun f c' w' o b F m=>h f c' w' (Oq.more E z l C o) b F m
theorem aai(Q:aC->Prop)(A:aA)(n c:Nat)(w:ahh)(h:uU w Q A n)(D:n<=100000):ahk prog 325 #[.slice A n c] w (ab0 w):=by
 have R:=sH h;go_enter func325,ntmps325;go_wp2;go_loopg[3,4](n+1)(fun gg v3 v4 wr=>∃(i:Nat) (z:Int),n-i<gg/\i<=n/\v3=ae aj z/\v4=ae aj (i:Int)/\wr=w)
 .exact⟨0,0,ak,ak,rfl,rfl,rfl⟩
 obtain⟨i,z,m,s,rfl,rfl,rfl⟩:=hrel;by_cases a:i<n
 .obtain⟨y,j,q,p,u,d,C,r,b,x,f,rfl,t,_,_,_,_,_,_,_,l,_⟩:=R.o.bD a
  have v:=aU i n;by_cases o:b>z
  .go_wp2
   go_roundg(n-i)
   .exact⟨i+1,_,ak,ak,rfl,aT,rfl⟩
   omega
  .go_wp2
   go_roundg(n-i)
   .exact⟨i+1,_,ak,ak,rfl,aT,rfl⟩
   omega
 .go_wp2
  go_ret;exact⟨_,rfl,rfl⟩
def Gx(w:ahh)(g:Nat):Prop:=∃cs:Array ahj,cs.size=10/\Bx w g cs
theorem Gr{o:Obj}(h:Gx w g)(d:(w.alloc o).grownBy a (Value.slice A n c).ownBlock)(e:bM A (some ⟨g,0,none⟩))(i:A=none∨∃g,A=some ⟨g,0,none⟩):Gx a g:=by
 obtain⟨cs,f,b⟩:=h;exact⟨cs,f,(b.ar (av _ _) b.lt).kept d e i⟩
theorem GD{c:aA}(d:bM A (some ⟨g,0,none⟩))(h:∀g,c=some ⟨g,0,none⟩->A=some ⟨g,0,none⟩∨N<=g)(a:Gx w g)(i:w.heap.size<=N):bM c (some ⟨g,0,none⟩):=fun b f e=>by
 injection e with e
 injection e with e
 subst e;obtain⟨cs,_,a⟩:=a;have:=a.lt;rcases h _ f with h|h
 .exact d _ h rfl
 .omega
def apT(N:Nat)(a:Int)(d:Option Tmp):Option Sat:=if d=some 57 then some (ZG a)else if d=some 17 then some (ZB N)else none
theorem Wa(f:cY)(k:Lk)(lo j:Int)(A:aA)(n c at_:Nat)(w:ahh)(h:bZ w w.heap.size f)(hk:mA w w.heap.size k)(hl:kT w (bk lo j) A n)(hn:n<=50000)(ha:at_<n)(Hg:n<=c):
 ahk prog 303 #[f.v,k.v,.slice A n c,ae aj (at_:Int)] w (PAp w w.heap.size (bk lo j) n):=by
 have⟨u,aP,F,X1,X2⟩:=box2 w f.row 96 k.row 161;have R:aq (bZ u u.heap.size f):=⟨h.Z F.o F.o.size⟩;have RK:aq (mA u u.heap.size k):=⟨hk.Z F.o F.o.size⟩;have GL:aq (kT u (bk lo j) A n):=⟨hl.Z F.o F.o.size⟩;clear h hk hl;have⟨c0,c1,aW,c3,c4,c5⟩:=X1.o.f6;have⟨d0,d1,d2,d3⟩:=X2.o.k4;go_enter func303,ntmps303;go_wp2_with fail;rw[<-aP];clear aP;refine(aak f k (Fq lo j) A n c at_ u R.o RK.o GL.o.iX hn ha).mono ?_;rintro e w1 ⟨x,P,m,pc,b,rfl,hp,hb⟩;have BF:aq (az u w1):=⟨hb⟩;have G1:aq (kT w1 (bk lo j) A n):=⟨GL.o.Z hb hb.size⟩;clear c0 c1 aW c3 c4 c5 d0 d1 d2 d3 hb R RK GL;have⟨W3,H,B3,X3⟩:=box1 w1 x.row 323;have BV:aq (az w W3):=⟨F.o.trans ((BF.o.trans (B3.o.mono BF.o.size)).mono F.o.size)⟩;have G3:aq (kT W3 (bk lo j) A n):=⟨G1.o.Z B3.o B3.o.size⟩;cases b
 .clear hp
  go_wp2;go_ret3;rw[<-H];exact⟨_,_,_,0,_,rfl,aQ,BV.o⟩
 obtain⟨xs,Hx,XO,hO,hx0,hx⟩:=hp rfl;clear hp;have Ul:=hO.len;obtain⟨L,hL⟩:∃L:Nat,nth xs (m-1)=L:=⟨(nth xs (m-1)).toNat,by
  have:=hx (nth xs (m-1)) Bk;omega⟩
 have hL2:at_<=L/\L<n:=by
  have:=hx (nth xs (m-1)) Bk;omega
 obtain⟨gp,rfl,agk,agm⟩:=aw.form hO ak;have p0:=bT hO (show m-1<m by omega);rw[hL]at p0;have p1:=fun o=>aI p0 o
 have OP:aq (Own W3 u.heap.size 3 .i64 (some ⟨gp,0,none⟩) m pc xs):=⟨hO.ar B3.o⟩;have F0:=sH hx0;have FX:=sH hx;have FL:=sH hL;have uV:=B3.o.size;have hsf:=BF.o.size;have MG:=sH (Wg lo j A n c at_ L W3 G3.o ak ak ak Hg);clear hO hx hx0 hL p0;have em:(((m:Int)-1)=((m-1:Nat):Int)):=ak;have i4:((m-1:Nat):Int)<(m:Int):=ak;go_wp2_with fail;rw[<-H];clear H p1;refine MG.o.mono ?_;rintro e Q ⟨A3,c3,rfl,o3,b3⟩;have B4:aq (az W3 Q):=⟨b3⟩;have Zx:=o3.le;have hrl:=o3.rl ak;obtain⟨gs,hS,M⟩:=hrl;have HS:aq (CS lo j (aL gs)):=⟨hS⟩;have HX:aq (Rx Q Q.heap.size 10 gs A3 n):=⟨M⟩;have Z:aq (gs.length=n):=⟨M.1⟩;have X4:aq (Bx Q w1.heap.size x.row):=⟨X3.o.ar b3 X3.o.lt⟩;have OP4:aq (Own Q u.heap.size 3 .i64 (some ⟨gp,0,none⟩) m pc xs):=⟨OP.o.ar b3⟩;have BV4:=BV.t b3;have G4:aq (uU Q (Fq lo j) A3 n):=⟨o3.iX.rq ak⟩;have IC:=b3.size;clear MG OP o3 b3 G3 G1 hS M;go_wp2_with fail;refine(aai (Fq lo j) A3 n c3 Q G4.o ak).mono ?_;rintro e a ⟨z,rfl,rfl⟩;obtain⟨A6,c6,S⟩:=EW my A3 n c3 at_ ak Zx (at_:Int) rfl;have r6:=S.run;have G6:aq (RL a a.heap.size 10 (fun xs=>aL xs=(aL gs).take at_) A6 at_):=⟨_,(kV _ _ _).trans aQ,S.rx HX.o⟩;clear S;go_wp2_with (at_builtin;refine cd (L':=fun xs=>aL xs=(aL gs).take at_) my rfl (.tmp 45) (.tmp 48) rfl rfl (OL.nil (L:=fun xs=>xs=[]) a a.heap.size _ _ rfl) rfl G6.o (fun xs ys _ _ _ _ h1 h2=>Kj) ak bW ?_;intro A7 c7 V o7 b7;have O7:=sH o7;have O:aq (az a V):=⟨b7⟩;clear o7 b7);rw[Nat.zero_add]at O7;have X7:aq (Bx V w1.heap.size x.row):=⟨X4.o.ar O.o X4.o.lt⟩;have⟨g0,g1⟩:=X7.o.g2;have G7:aq (uU V (Fq lo j) A3 n):=⟨G4.o.Z O.o O.o.size⟩;obtain⟨ad,y0,D,y2,y3,y4,y5,y6,y7,y8,y9,rfl,hQ,_,e1,_,_,_,_,_,_,_,C⟩:=(HX.o.Z O.o O.o.size).bD ha;have QY:aq (∀xs:List aC,aL xs=(aL gs).take at_->(aL xs++[D]).Sublist ((aL gs).take (at_+1))):=⟨fun xs h=>by
  have e:D=nth (aL gs) at_:=by rw[fS (by rw[Z.o];exact ha),<-hQ];rfl
  rw[h,e,List.take_succ_eq_append_getElem (by rw[dM,Z.o];exact ha),cB];exact List.Sublist.refl _⟩
 have i3:=aU at_ n;have⟨LG0,LG1,LE1,LE9⟩:=lc4 g0 g1 e1 C;clear r6 G6 g0 g1 e1 C hQ;refine jf (apT V.heap.size D) 9 rfl aF aF aF aF aF rfl ?_;refine mLw ?_;refine lwA (ZG D) (fun E=> ?_) (fun v9 K=> ?_)
 .go_simp
  refine aX (ZG D) ((sX x.gl D E.1).mono ?_);rintro e a ⟨rfl,hb⟩;exact⟨_,rfl,⟨x.gl,rfl⟩,hb⟩
 obtain⟨_,_,G,rfl⟩:=K;simp[Act.put];refine lwA (ZB V.heap.size) (fun E=> ?_) (fun v9 K=> ?_)
 .go_simp
  exact Dh E _
 obtain⟨_,_,g,rfl,dW,_⟩:=K;simp[Act.put];intro E hE;have J:Bx E.1 g #[ae aj 0,ae aj 0,ae aj 0,ae aj 0,ae aj 0,ae aj 0,ae aj 0,ae aj 0,ae aj 0,ae aj 0]:=ZB.zb hE.2;obtain⟨eD,zt⟩:=J.heap;have C:=LE9 E;clear hE LG0 LG1 LE1 LE9;refine wp_store_row 120 (.tmp 17) (.tmp 57) rfl g _ rfl rfl eD _ zt aF rfl dJ ?_;have X:=sH (J.row (ds:=#[ae aj G,ae aj D,ae aj 0,ae aj 0,ae aj 0,ae aj (-1),ae aj (-1),ae aj 0,ae aj 0,ae aj 0]));have⟨T,v⟩:=eX (E.1.setRow g #[ae aj G,ae aj D,ae aj 0,ae aj 0,ae aj 0,ae aj (-1),ae aj (-1),ae aj 0,ae aj 0,ae aj 0]);have B8:aq (az V T):=⟨by rw[v];exact below_setRow E.2 dW _⟩;rw[<-v]at X;rw[<-v];clear v J zt C;have O8:=sH (O7.o.ar B8.o);have d:aq (bM A7 (some ⟨g,0,none⟩)):=⟨O7.o.gA dW⟩;have Sl:=O.o.size;have s:aq (az a T):=⟨O.o.trans (B8.o.mono Sl)⟩;have XV:=s.o.size;have C:=(G4.o.Z s.o s.o.size).bD ha;obtain⟨I,_,_,_,_,_,_,_,_,_,y9,e2,_,_,_,_,_,_,_,_,_,_,C⟩:=C;obtain rfl:ad=I:=Option.some.inj e2;clear e2;have⟨q0,q1,q2,q3,q4,q5,q6,q7,q8,q9⟩:=X.o.zP;have f9:=X.o.fz 9;have f7:=X.o.fz 7;have l:a.heap.size<=g:=ak;have Y:aq (fR ((T.setCell ⟨g,9,none⟩ (ae aj y9)).setCell ⟨g,7,none⟩ (ae aj z)) a.heap.size (fun xs=>aL xs=(aL gs).take at_) A7 at_ c7):=⟨(O8.o.mu d.o 9 _).mu d.o 7 _⟩;have BS:aq (az a ((T.setCell ⟨g,9,none⟩ (ae aj y9)).setCell ⟨g,7,none⟩ (ae aj z))):=⟨Below.setCell (Below.setCell s.o (p:=⟨g,9,none⟩) l _) (p:=⟨g,7,none⟩) l _⟩;have W:aq (Gx ((T.setCell ⟨g,9,none⟩ (ae aj y9)).setCell ⟨g,7,none⟩ (ae aj z)) g):=⟨⟨_,aQ,(X.o.jR 9 _).jR 7 _⟩⟩;go_wp2_with (at_builtin;refine bK (L':=fun xs=>(aL xs).Sublist ((aL gs).take (at_+1))) my rfl (.tmp 66) (.tmp 68) rfl rfl (Y.o.alloc _) rfl [G,D,0,0,0,-1,-1,z,0,y9] rfl (cg _ _ _ _ _ aQ rfl) (fun xs _ _ h=>by rw[fM];exact QY.o xs h) ak cw ?_;intro A9 c9 w9 o9 b9 r9 a9;have O9:=sH o9;have B9:aq (az a w9):=⟨(BS.o.alloc cw _).trans b9⟩;have X9:aq (Gx w9 g):=⟨Gr W.o r9 d.o Y.o.head⟩;have t:aq (bM A9 (some ⟨g,0,none⟩)):=⟨GD d.o a9 W.o aQ⟩;clear o9 b9 r9 a9);have NA:aq (nth xs 0<((at_+1:Nat):Int)):=⟨by rw[F0.o];omega⟩;clear Y BS W s X q0 q1 q2 q3 q4 q5 q6 q7 q8 q9 f7 f9 C X7 O8 B8 d O7 G7;go_loopg[16,18,19](L+2)(fun gg nE v18 v19 wr=>∃(i p q:Nat) (A:aA) (c:Nat),L+1-i<gg/\at_<i/\i<=L+1/\q+p=i/\p<m/\nE=.slice A q c/\v18=ae aj (p:Int)/\v19=ae aj (i:Int)/\aq (nth xs p<(i:Int))/\aq (fR wr a.heap.size (fun xs=>(aL xs).Sublist ((aL gs).take i)) A q c)/\aq (bM A (some ⟨g,0,none⟩))/\aq (Gx wr g)/\aq (az a wr))
 .exact⟨at_+1,0,at_+1,A9,c9,ak,ak,ak,ak,ak,rfl,rfl,aT,NA,O9,t,X9,B9⟩
 obtain⟨i,p,q,A,cc,hg,hai,hiL,hqp,hpm,rfl,rfl,rfl,NP,OG,d,XG,B⟩:=hrel;clear O9 t X9 B9 NA;have hse:=B.o.size;have TK:aq (((aL gs).take i).Sublist ((aL gs).take (i+1))):=⟨(List.take_prefix_take_left ak).sublist⟩;by_cases aK:i<=L
 .have vU:p+1<m:=by
   rcases Nat.lt_or_ge (p+1) m with h|h
   .exact h
   .exfalso
    have e:p=m-1:=ak;have h1:=NP.o;rw[e,FL.o]at h1;omega
  have cp:=au (bT OP4.o vU) B.o;have i5:(i:Int)<=(L:Int):=ak;have i6:(p:Int)+1<(m:Int):=ak;by_cases hy:(i:Int)=nth xs (p+1)
  .have U:aq (nth xs (p+1)<((i+1:Nat):Int)):=⟨ak⟩
   rw[<-hy]at cp;go_wp2;go_roundg(L+1-i)
   .exact⟨i+1,p+1,q,A,cc,ak,ak,ak,ak,ak,rfl,aT,aT,U,⟨OG.o.imp fun _ _ _ h=>h.trans TK.o⟩,d,XG,B⟩
   omega
  .have U:aq (nth xs p<((i+1:Nat):Int)):=⟨by have:=NP.o;omega⟩
   have Fp:((i:Int)==nth xs (p+1))=false:=(by simp[hy]);generalize nth xs (p+1)=y at*;obtain⟨I,z0,z1,G,z3,z4,z5,z6,z7,z8,z9,e2,hQ,e0,e1,e2',e3,e4,e5,e6,e7,e8,C⟩:=(HX.o.Z B.o B.o.size).bD (show i<n by omega);obtain rfl:ad=I:=Option.some.inj e2;have QZ:aq (∀xs:List aC,(aL xs).Sublist ((aL gs).take i)->(aL xs++[z1]).Sublist ((aL gs).take (i+1))):=⟨fun xs h=>by
    have e:z1=nth (aL gs) i:=by rw[fS (by rw[Z.o];omega),<-hQ];rfl
    rw[e,List.take_succ_eq_append_getElem (by rw[dM,Z.o];omega),cB (by rw[dM,Z.o];omega)];exact h.append (List.Sublist.refl _)⟩
   clear e2 hQ;obtain⟨cs,Ba,hB⟩:=XG.o;obtain⟨fJ,hB2⟩:=hB.heap;have ti:=aU i n;have⟨w6,r⟩:=eX (wr.setRow g #[ae aj z0,ae aj z1,ae aj G,ae aj z3,ae aj z4,ae aj z5,ae aj z6,ae aj z7,ae aj z8,ae aj z9]);have X6:=hB.row (ds:=#[ae aj z0,ae aj z1,ae aj G,ae aj z3,ae aj z4,ae aj z5,ae aj z6,ae aj z7,ae aj z8,ae aj z9]);rw[<-r]at X6;have O6:aq (fR w6 a.heap.size (fun xs=>(aL xs).Sublist ((aL gs).take i)) A q cc):=⟨by rw[r];exact OG.o.fH d.o _⟩;have B6:aq (az a w6):=⟨by rw[r];exact below_setRow B.o l _⟩;have⟨q0,q1,q2,q3,q4,q5,q6,q7,q8,q9⟩:=X6.zP;have f8:=X6.fz 8;have f7:=X6.fz 7;have Y:aq (fR ((w6.setCell ⟨g,7,none⟩ (ae aj z)).setCell ⟨g,8,none⟩ (ae aj (p:Int))) a.heap.size (fun xs=>(aL xs).Sublist ((aL gs).take i)) A q cc):=⟨(O6.o.mu d.o 7 _).mu d.o 8 _⟩;have BS:aq (az a ((w6.setCell ⟨g,7,none⟩ (ae aj z)).setCell ⟨g,8,none⟩ (ae aj (p:Int)))):=⟨Below.setCell (Below.setCell B6.o (p:=⟨g,7,none⟩) l _) (p:=⟨g,8,none⟩) l _⟩;have W:aq (Gx ((w6.setCell ⟨g,7,none⟩ (ae aj z)).setCell ⟨g,8,none⟩ (ae aj (p:Int))) g):=⟨⟨_,aQ,(X6.jR 7 _).jR 8 _⟩⟩;have Si:=B6.o.size;clear hB X6 B6 O6;go_wp2_with (first
    |(refine wpList_store_row rfl 120 (.tmp 17) (.tmp 89) rfl g _ rfl rfl fJ _ hB2 aF (by simpa using Ba) dJ ?_;rw[<-r];clear r)
    |(at_builtin;refine bK (L':=fun xs=>(aL xs).Sublist ((aL gs).take (i+1))) my rfl (.tmp 94) (.tmp 96) rfl rfl (Y.o.alloc _) rfl [z0,z1,G,z3,z4,z5,z6,z,(p:Int),z9] rfl (cg _ _ _ _ _ aQ rfl) (fun xs _ _ h=>by rw[fM];exact QZ.o xs h) ak cw ?_;intro A9 c9 w9 o9 b9 r9 a9;have O9:=sH o9;have B9:aq (az a w9):=⟨(BS.o.alloc cw _).trans b9⟩;have X9:aq (Gx w9 g):=⟨Gr W.o r9 d.o Y.o.head⟩;have t:aq (bM A9 (some ⟨g,0,none⟩)):=⟨GD d.o a9 W.o aQ⟩;clear o9 b9 r9 a9))
   go_roundg(L+1-i)
   .exact⟨i+1,p,q+1,A9,c9,ak,ak,ak,ak,ak,rfl,rfl,aT,U,O9,t,X9,B9⟩
   omega
 .obtain rfl:i=L+1:=by omega
  have i5:¬((L+1:Nat):Int)<=(L:Int):=ak;obtain⟨A6,c6,S⟩:=ND my (some ad) n c3 (L+1) ak Zx ((L:Int)+1) aQ;have r6:=S.run;have G6:aq (kT wr (fun xs=>aL xs=(aL gs).drop (L+1)) A6 (n-(L+1))):=⟨_,(kV _ _ _).trans (List.take_of_length_le (by rw[List.length_drop,dM,Z.o];exact Nat.le_refl _)),S.rx (HX.o.Z B.o B.o.size)⟩;clear S;have⟨N,hN⟩:=eX (q+(n-(L+1)));have Fj:N<=n:=ak;have hsv:=BV4.o.size;go_wp2_with (at_builtin;refine cd (L':=bk lo j) my rfl (.tmp 100) (.tmp 104) rfl rfl OG.o rfl G6.o (fun xs ys _ _ _ _ h1 h2=>CS.sub HS.o (by rw[fM,h2];conv=>{rhs;rw[<-List.take_append_drop (L+1) (aL gs)]};exact h1.append (List.Sublist.refl _))) ak ak ?_;intro A8 c8 T o8 b8;rw[<-hN]at o8;rw[<-hN];have O8:=sH (o8.cJ hsv);have B8:aq (az w T):=⟨BV4.o.trans ((B.o.trans b8).mono hsv)⟩;clear o8 b8 hN);go_ret3;exact⟨A8,N,c8,q,true,rfl,fun _=>⟨Fj,ak,O8.o⟩,B8.o⟩
theorem Vv(A:aA)(n c:Nat)(xs:aC)(at_ a now:Nat)(w:ahh)(h:bH w w.heap.size .i64 A n xs)(E:n<=100000)(D:at_<=100000)(u:a<=100000)(o:now<=100000):
 ahk prog 344 #[.slice A n c,ae aj (at_:Int),ae aj (a:Int),ae aj (now:Int)] w (aat w n):=by
 have R:=sH h;go_enter func344,ntmps344;go_wp2;go_loopg[10,11,12](n+1)(fun gg v10 f _ wr=>∃(i:Nat) (e:aA) (g:Nat) (k:aC),n-i<gg/\i<=n/\v10=.slice e i g/\f=ae aj (i:Int)/\aq (Own wr w.heap.size 3 .i64 e i g k)/\aq (az w wr))
 .exact⟨0,none,0,[],ak,ak,rfl,rfl,⟨Own.nil _ _ _ _⟩,cA⟩
 obtain⟨i,e,g,k,x,y,rfl,rfl,l,b⟩:=hrel;by_cases d:i<n
 .obtain⟨C,rfl,z⟩:=(R.o.Z b.o).fP d
  have v:=b.o.size;have B:=aU i n;generalize nth xs i=p at*;go_wp2_with (at_builtin;refine bE YQ rfl (.tmp 47) (.tmp 49) rfl rfl (l.o.alloc _) rfl (nh _ _ _ _ rfl) ak cw ?_;intro t c5 q m j _ _;have r:=sH m;have s:aq (az w q):=⟨(b.o.alloc ak _).trans j⟩;clear m j)
  all_goals(go_roundg(n-i)<;>first|omega|exact⟨i+1,t,c5,_,ak,ak,rfl,aT,r,s⟩)
 .obtain rfl:i=n:=by omega
  go_wp2;go_ret;exact⟨_,_,_,rfl,l.o,b.o⟩
def xP(n:Nat):Sat:=⟨fun v w=>∃(A:aA) (m c:Nat) (b:Bool),v=.tuple #[.slice A m c,.bool b]/\(b=true->m<=n/\∃xs,bH w w.heap.size .i64 A m xs/\∀x∈xs,0<=x/\x<n),fun v w g ⟨A,m,c,b,f,a⟩ d=>⟨A,m,c,b,f,fun e=>⟨(a e).1,(a e).2.choose,(a e).2.choose_spec.1.Z d,(a e).2.choose_spec.2⟩⟩⟩
theorem xP.get{b:Bool}(h:(xP n).p (.tuple #[.slice A m c,.bool b]) w):b=true->m<=n/\∃xs,bH w w.heap.size .i64 A m xs/\∀x∈xs,0<=x/\x<n:=by
 obtain⟨f,d,c',a,e,h⟩:=h;simp at e;obtain⟨⟨rfl,rfl,rfl⟩,rfl⟩:=e;exact h
theorem Hz{n:aG w0}{f:FuncId}{args:Array ahj}(h:ahk P f args n.1 (Up n.1 N)):ahk P f args n.1 fun e d=>∃v,e=.returned v/\(xP N).p v d/\(∃m:aG w0,d=m.1)/\ahi n.1.heap.size n.1 d:=
 aX (xP N) (h.mono fun e d ⟨A,m,c,b,g,a,i⟩=>⟨_,g,⟨A,m,c,b,rfl,fun e=>⟨(a e).1,(a e).2.choose,(a e).2.choose_spec.1.ints,(a e).2.choose_spec.2⟩⟩,i⟩)
def Fv(w:ahh)(B n:Nat)(A:aA)(m c:Nat):Prop:=∃xs:aC,1<=m/\m<=n+1/\Own w B 3 .i64 A m c xs/\∀x∈xs,0<=x/\x<n
theorem Fv.ar(h:Fv w B n A m c)(b:az w a):Fv a B n A m c:=by
 obtain⟨xs,e,g,f,d⟩:=h;exact⟨xs,e,g,f.ar b,d⟩
theorem Fv.cJ{a:Nat}(h:Fv w B n A m c)(b:a<=B):Fv w a n A m c:=by
 obtain⟨xs,e,g,f,d⟩:=h;exact⟨xs,e,g,f.gF b,d⟩
def PSt(w:ahh)(n:Nat)(e:ahn)(a:ahh):Prop:=∃(A:aA) (m c:Nat) (b:Bool),e=.returned (.tuple #[.slice A m c,.bool b])/\(b=true->Fv a w.heap.size n A m c)/\az w a
theorem zA{f:cY}{k:Lk}{x:Sb}{b:ahh}(h:b=((w.alloc (.cells f.row 96)).alloc (.cells k.row 161)).alloc (.cells x.row 170)):az w b/\Bx b w.heap.size f.row/\Bx b (w.heap.size+1) k.row/\Bx b (w.heap.size+2) x.row:=by
 have⟨i,a⟩:=eX ((w.alloc (.cells f.row 96)).alloc (.cells k.row 161));obtain⟨d,e,g⟩:=iu a;rw[<-a]at h;have c:az i b:=Ke;exact⟨d.trans (c.mono d.size),e.ar c e.lt,g.ar c g.lt,by rw[h];exact Bx.gY _ _ _ (by rw[a];simp)⟩
theorem TLi:aR prog 94 39 1 24:=bu underlying94 (z:=.slice none 0 0) aF rfl ak ak
theorem Zj{s:ahm}{bytes:Nat}{e:Ty}(T:aR P t s e.n bytes){w:ahh}{B:Nat}{A:aA}{n c:Nat}(h:cK w B e A n c)(i:Nat)(C:i<=n)(l:Int)(f:l=i):
 ∃b d,(∀w:ahh,(Instr.slice t (.slice A n c) (some (ae aj l)) none none).run P w=.ok (.slice b (n-i) d) w)/\cK w B e b (n-i) d:=by
 subst f;have y:=h.1;have p:=h.2.1;refine⟨if c=i then A else A.map (·.add (i*e.n)),c-i,fun w=> ?_,ak,ak,Nat.le_trans (Nat.mul_le_mul_right _ ak) h.2.2.1,fun z=> ?_⟩
 .rw[run_slice_l w t A n c (cQ T) .i64 i ak ak,cO T]
  simp[Result.andThen,sliced]
 .obtain⟨r,rfl,hb,a⟩:=h.2.2.2 ak
  rw[if_neg ak];refine⟨r.add (i*e.n),rfl,Kg,fun j v=> ?_⟩;obtain⟨o,m,g⟩:=a (i+j) ak;refine⟨o,m,fun q x k=> ?_⟩;have u:=g q x k;rw[aY]at u;rw[aY,aY];rwa [show i*e.n+(j*e.n+q)=(i+j)*e.n+q by rw[Nat.add_mul];omega]
theorem Mu(f:cY)(k:Lk)(x:Sb)(Q:aC->Prop)(A:aA)(n c at_:Nat)(w:ahh)(h:bZ w w.heap.size f)(r:nQ w w.heap.size x)(hl:uU w Q A n)(hn:n<=50000)(ha:at_<n):
 ahk prog 310 #[f.v,k.v,x.v,.slice A n c,ae aj (at_:Int)] w (PSt w n):=by
 have⟨q,o⟩:=eX (((w.alloc (.cells f.row 96)).alloc (.cells k.row 161)).alloc (.cells x.row 170));obtain⟨bb,xx1,Z,W⟩:=zA o;have j:aq _:=⟨bb⟩;have N:aq _:=⟨xx1⟩;have O:aq _:=⟨Z⟩;have G:aq _:=⟨W⟩;have R:aq (bZ q q.heap.size f):=⟨h.Z j.o j.o.size⟩;have T:aq (nQ q q.heap.size x):=⟨r.Z j.o j.o.size⟩;have GL:aq (uU q Q A n):=⟨hl.Z j.o j.o.size⟩;clear h r hl bb xx1 Z W;have i3:=aU at_ n;have hjn:=T.o.rJ.bd;have⟨e0,e1,e2,e3,M,e5,e6,e7,e8,e9,sr,su⟩:=G.o.ns;by_cases hj:x.jn=0
 .have nG:((x.jn:Int)==0)=true:=by simp[hj]
  clear hj;go_enter func310,ntmps310;go_wp2;rw[<-o];clear o;go_quiet (fail);go_wp2;go_ret2;exact⟨_,_,_,_,rfl,aQ,aN j.o _⟩
 have nG:((x.jn:Int)==0)=false:=by simp[hj]
 obtain⟨adj,J,jn0,jc0,ej,hJ,dj⟩:=fi T.o.rJ (show 0<x.jn by omega);have RJ:aq _:=⟨hJ⟩;rw[ew]at dj;rw[ej]at M;obtain⟨ad,x0,x1,x2,x3,x4,x5,x6,x7,x8,x9,rfl,hQ,q0,_⟩:=GL.o.bD ha;clear hQ hJ ej;have⟨LJ,LQ,S⟩:=lc3 dj q0 M;clear e0 e1 e2 e3 e5 e6 e7 e8 e9 sr su;go_enter func310,ntmps310;go_wp2;rw[<-o];clear o dj q0 M;refine aD (kF 33 SB) aF aF ?_
 repeat(refine cF aB aB aB ?_;intro Y l;go_big_quiet_op;go_big_quiet_on)
 refine kH SB aB aB (fun w9 p=> ?_) (fun v9 m=> ?_)
 .obtain⟨d,rfl⟩:=p
  go_simp;exact bg (aaj J jn0 jc0 x0 d.1 (RJ.o.Z d.2 d.2.size))
 obtain⟨b,rfl⟩:=m;simp[Act.put]
 repeat(refine cF aB aB aB ?_;intro Y l;go_big_quiet_op;go_big_quiet_on)
 intro d;obtain⟨w2,g⟩:=d;have P:aq (az q w2):=⟨g⟩;have BM:aq (az w w2):=⟨j.o.trans (g.mono j.o.size)⟩
 try dsimp only
 clear g LJ LQ S;cases b
 .go_wp2
  go_ret2;exact⟨_,_,_,_,rfl,aQ,BM.o⟩
 have a:=P.o;have⟨c0,F,i,K,c4,c5⟩:=(N.o.ar a N.o.lt).f6;have⟨H,u,D,C⟩:=(O.o.ar a O.o.lt).k4;have⟨_,_,_,_,M,_⟩:=(G.o.ar a G.o.lt).ns;have⟨L0,L1,L2,L3,S,L5,M0,M1⟩:=lc8 c0 F i K c4 c5 H u;have⟨M2,M3,E4⟩:=lc3 D C M;clear c0 F i K c4 c5 H u D C M a;obtain⟨J2,jc2,rJ,sJ⟩:=Zj TLi T.o.rJ 1 ak 1 rfl;have SJ:aq _:=⟨sJ⟩;clear sJ;go_wp2;refine ba (iZ 44 (xP n)) aF aF ?_
 repeat(refine fU aB aB aB ?_;intro Y l;go_big_quiet_op;go_big_quiet_on)
 refine kD (xP n) aB aB (fun w9 p=> ?_) (fun v9 m=> ?_)
 .obtain⟨d,rfl⟩:=p
  go_simp;have g:=P.o.trans (d.2.mono P.o.size);exact Hz (MF f k Q (some ad) n c at_ J2 (x.jn-1) jc2 d.1 (R.o.Z g g.size) (GL.o.Z g g.size) (SJ.o.Z g g.size) ak ha)
 obtain⟨_,_,A5,s,c5,b5,rfl,_⟩:=m;simp[Act.put]
 repeat(refine fU aB aB aB ?_;intro Y l;go_big_quiet_op;go_big_quiet_on)
 intro d hE;have PR:aq _:=⟨xP.get hE⟩;have I:aq (az q d.1):=⟨P.o.trans (d.2.mono P.o.size)⟩;have U:aq (az w d.1):=⟨BM.o.trans (d.2.mono BM.o.size)⟩;have⟨V,v⟩:=eX d.1;rw[<-v]at I U PR
 try dsimp only
 rw[<-v];clear v hE L0 L1 L2 L3 S L5 M0 M1 M2 M3 E4 rJ;cases b5
 .go_wp2
  go_ret2;exact⟨_,_,_,_,rfl,aQ,U.o⟩
 obtain⟨hm5,xs,X,r⟩:=PR.o rfl;have XS:aq (bH V V.heap.size .i64 A5 s xs):=⟨X⟩;have HX:aq _:=⟨r⟩;clear X r PR;have AX:aq (∀x∈(at_:Int)::xs,0<=x/\x<n):=⟨fun x r=>by
  rcases List.mem_cons.1 r with rfl|r
  .omega
  .exact HX.o x r⟩
 have O3:=FV V (at_:Int);have OS:aq _:=⟨O3⟩;clear O3;have uV:=I.o.size;go_wp2_with (at_builtin;refine tu YQ rfl (.tmp 51) (.tmp 52) rfl rfl OS.o rfl (XS.o.Z (av _ _)) (s+1) ak ak aQ ?_;intro A7 c7 w7 o7 b7;have O7:aq (Own w7 V.heap.size 3 .i64 A7 (s+1) c7 ((at_:Int)::xs)):=⟨o7⟩;have B7:aq (az q w7):=⟨I.o.trans (((av V _).trans b7).mono uV)⟩;have a:=B7.o;have⟨c0,F,i,K,c4,t⟩:=(N.o.ar a N.o.lt).f6;have⟨H,u,D,C⟩:=(O.o.ar a O.o.lt).k4;have⟨_,_,_,e3,_⟩:=(G.o.ar a G.o.lt).ns;clear o7 b7 a);have a:=B7.o;refine(MY f k Q (some ad) n c at_ x.B x.bn x.bc w7 (R.o.Z a a.size) (GL.o.Z a a.size) (T.o.rB.Z a a.size) ak ha).mono ?_;rintro e w8 ⟨A8,m8,c8,b8,rfl,_,E⟩;have B8:aq (az q w8):=⟨a.trans (E.mono a.size)⟩;have z:aq (az w w8):=⟨j.o.trans (B8.o.mono j.o.size)⟩;have O8:aq _:=⟨O7.o.ar E⟩;clear a E c0 F i K c4 t H u D C e3 O7 B7;cases b8
 .go_wp2
  go_ret2;exact⟨_,_,_,_,rfl,aQ,z.o⟩
 obtain⟨g7,rfl,hg7,Pa⟩:=aw.form O8.o ak;have p0:=bT O8.o (show s<s+1 by omega);obtain⟨L,hL,hLn⟩:∃L:Nat,nth ((at_:Int)::xs) s=L/\L<n:=by
  have hl:=O8.o.len;have:=AX.o (nth ((at_:Int)::xs) s) Bk;exact⟨(nth ((at_:Int)::xs) s).toNat,ak,ak⟩
 rw[hL]at p0;have a:=B8.o;have⟨c0,F,i,K,c4,t⟩:=(N.o.ar a N.o.lt).f6;have⟨H,u,D,C⟩:=(O.o.ar a O.o.lt).k4;have⟨_,_,_,_,_,e5,_⟩:=(G.o.ar a G.o.lt).ns;have⟨L0,L1,L2,L3,S,L5,M0,M1⟩:=lc8 c0 F i K c4 t H u;have⟨M2,M3,E5,P0⟩:=lc4 D C e5 p0;clear c0 F i K c4 t H u D C e5 a p0 hL;go_wp2;refine ba (iZ 78 (xP n)) aF aF ?_
 repeat(refine fU aB aB aB ?_;intro Y l;go_big_quiet_op;go_big_quiet_on)
 refine kD (xP n) aB aB (fun w9 p=> ?_) (fun v9 m=> ?_)
 .obtain⟨d,rfl⟩:=p
  go_simp;have g:=B8.o.trans (d.2.mono B8.o.size);exact Hz (MF f k Q (some ad) n c L x.A x.an x.ac d.1 (R.o.Z g g.size) (GL.o.Z g g.size) (T.o.rA.Z g g.size) ak hLn)
 obtain⟨_,_,A9,m9,c9,b9,rfl,_⟩:=m;simp[Act.put]
 repeat(refine fU aB aB aB ?_;intro Y l;go_big_quiet_op;go_big_quiet_on)
 intro d hE;have B:aq (az w d.1):=⟨z.o.trans (d.2.mono z.o.size)⟩;have kU:=j.o.size;have O9:aq (Own d.1 w.heap.size 3 .i64 (some ⟨g7,0,none⟩) (s+1) c7 ((at_:Int)::xs)):=⟨(O8.o.ar d.2).gF ak⟩;have⟨w4,y⟩:=eX d.1;rw[<-y]at B O9
 try dsimp only
 rw[<-y];clear y hE L0 L1 L2 L3 S L5 M0 M1 M2 M3 E5 P0;cases b9
 .go_wp2
  go_ret2;exact⟨_,_,_,_,rfl,aQ,B.o⟩
 .go_wp2
  go_ret2;exact⟨_,_,_,_,rfl,fun _=>⟨_,ak,ak,O9.o,AX.o⟩,B.o⟩
def ZPs(N n:Nat):Sat:=⟨fun v w=>∃(A:aA) (m c:Nat) (b:Bool),v=.tuple #[.slice A m c,.bool b]/\(b=true->Fv w N n A m c),fun v w g ⟨A,m,c,b,d,f⟩ a=>⟨A,m,c,b,d,fun e=>(f e).ar a⟩⟩
theorem ZPs.get{b:Bool}(h:(ZPs N n).p (.tuple #[.slice A m c,.bool b]) w):b=true->Fv w N n A m c:=by
 obtain⟨f,d,c',a,e,h⟩:=h;simp at e;obtain⟨⟨rfl,rfl,rfl⟩,rfl⟩:=e;exact h
def PMa(w:ahh)(n d:Nat)(e:ahn)(a:ahh):Prop:=∃(i:Nat) (A:aA) (m c:Nat) (b:Bool),e=.returned (.tuple #[ae aj (i:Int),.slice A m c,.bool b])/\(b=true->i<d/\Fv a w.heap.size n A m c)/\az w a
theorem Hp(f:cY)(k:Lk)(Q:aC->Prop)(A:aA)(n c at_:Nat)(w:ahh)(h:bZ w w.heap.size f)(H:mA w w.heap.size k)(Y:uU w Q A n)(hn:n<=50000)(ha:at_<n):
 ahk prog 291 #[f.v,k.v,.slice A n c,ae aj (at_:Int)] w (PMa w n k.sn):=by
 have⟨W1,o,j,V,X2⟩:=box2 w f.row 96 k.row 161;have R:=sH (h.Z j.o j.o.size);have RK:=sH (H.Z j.o j.o.size);have GL:=sH (Y.Z j.o j.o.size);have B:=H.rS.bd;obtain⟨kk,fl,st,S,b,sc⟩:=k;dsimp only at B⊢;clear h Y H;have i1:¬((n:Int)<=(at_:Int)):=ak;go_enter func291,ntmps291;go_wp2;rw[<-o];clear o;go_loopg[11,12,13](b+1)(fun gg v _ _ wr=>∃(i:Nat),b-i<gg/\i<=b/\v=ae aj (i:Int)/\aq (az W1 wr))
 .exact⟨0,ak,ak,rfl,cA⟩
 obtain⟨i,hg,hi,rfl,d⟩:=hrel;have⟨c0,M,q,c3,c4,c5⟩:=(V.o.ar d.o V.o.lt).f6;have⟨C,s,G,F⟩:=(X2.o.ar d.o X2.o.lt).k4;dsimp only at C s G F;have z:=j.t d.o;by_cases m:i<b
 .obtain⟨ad,x,rfl,N,X,e1,I,O,Z,K,e6,e7,L,P,l,p⟩:=jk (A:=S) (n:=b) (c:=sc) (RK.o.rS.Z d.o d.o.size) m
  have HX:=sH N;clear N;have i4:=aU i b;go_wp2;have⟨L0,L1,L2,L3,L4,L5,M0,M1⟩:=lc8 c0 M q c3 c4 c5 C s;have⟨M2,M3,E0,E1,E2,E3,E4,E5⟩:=lc8 G F X e1 I O Z K;have⟨E6,E7,E8,E9,D,u⟩:=lc6 e6 e7 L P l p;clear c0 M q c3 c4 c5 C s G F X e1 I O Z K e6 e7 L P l p;refine ba (iZ 39 (ZPs wr.heap.size n)) aF aF ?_;refine mLw ?_;refine lwA (ZPs wr.heap.size n) (fun a=> ?_) (fun v9 t=> ?_)
  .go_simp
   have r:=d.o.trans (a.2.mono d.o.size);refine aX (ZPs wr.heap.size n) ((Mu f ⟨kk,fl,st,some ad,b,sc⟩ x Q A n c at_ a.1 (R.o.Z r r.size) (HX.o.Z a.2 a.2.size) (GL.o.Z r r.size) hn ha).mono ?_);rintro e w5 ⟨A6,J,c6,y,rfl,h6,hb⟩;exact⟨_,rfl,⟨A6,J,c6,y,rfl,fun e=>(h6 e).cJ a.2.size⟩,hb⟩
  obtain⟨_,_,A6,J,c6,y,rfl,_⟩:=t;simp[Act.put];refine mLw ?_;intro a T;have U:=sH (ZPs.get T);have W:=d.t a.2;have BV:=z.t a.2;have E:=z.o.size;have⟨w3,g⟩:=eX a.1;rw[<-g]at W BV U
  try dsimp only
  rw[<-g];clear g T L0 L1 L2 L3 L4 L5 M0 M1 M2 M3 E0 E1 E2 E3 E4 E5 E6 E7 E8 E9 D u;cases y
  .go_wp2
   go_roundg(b-i)
   .exact⟨i+1,ak,ak,aT,W⟩
   omega
  .go_wp2
   go_ret3;exact⟨i,_,_,_,true,rfl,fun _=>⟨m,(U.o aQ).cJ E⟩,BV.o⟩
 .go_wp2
  go_ret3;exact⟨0,_,_,_,false,rfl,aQ,z.o⟩
def RU(w:ahh)(B:Nat)(C:aA)(n:Nat)(g:Int):Prop:=∃(j:Nat) (a:Addr),j<n/\C=some a/\a.block<B/\w.cell? (a.add j)=some (ae aj g)
theorem RU.Z{b:ahh}{a:Nat}{C:aA}{g:Int}(h:RU w B C n g)(f:ahi B w b)(l:B<=a):RU b a C n g:=by
 obtain⟨j,e,c,i,d,k⟩:=h;exact⟨j,e,c,i,ak,(f.cell (by rw[aO];exact d)).trans k⟩
def PPl(w:ahh)(C:aA)(n:Nat)(g:Int)(e:ahn)(a:ahh):Prop:=∃z:Int,e=.returned (ae aj z)/\-1<=z/\z<n/\(0<=z->RU w w.heap.size C n g)/\(z<0->¬RU w w.heap.size C n g)/\a=w
theorem Gl(A:aA)(n c:Nat)(g:Int)(w:ahh)(h:cK w w.heap.size dR A n c):ahk prog 328 #[.slice A n c,ae aj g] w (PPl w A n g):=by
 have I:=h.bd;have R:aq _:=⟨h⟩;clear h;go_enter func328,ntmps328;go_wp2;go_loopg[5](n+1)(fun gg u wr=>∃i:Nat,n-i<gg/\i<=n/\u=ae aj (i:Int)/\aq (∀(j:Nat) (a:Addr),j<i->A=some a->w.cell? (a.add j)≠some (ae aj g))/\wr=w)
 .exact⟨0,ak,ak,rfl,⟨fun j a z=>by omega⟩,rfl⟩
 obtain⟨i,G,H,rfl,r,rfl⟩:=hrel;by_cases d:i<n
 .obtain⟨a,e,s,b⟩:=R.o.2.2.2 ak
  have D:aq _:=⟨s⟩;obtain⟨m,y,l,q⟩:=gT R.o d;obtain rfl:a=m:=by rw[e]at l;exact Option.some.inj l
  have t:aq _:=⟨e⟩;clear l s b;by_cases k:y=g
  .subst k
   have x:aq (RU wr wr.heap.size A n y):=⟨⟨i,a,d,t.o,D.o,q⟩⟩;rw[e]at*;clear e;go_wp2;go_ret;exact⟨_,rfl,ak,ak,fun _=>x.o,fun h=>by omega,rfl⟩
  .have v:(y==g)=false:=by simp[k]
   have p:aq (∀(j:Nat) (a:Addr),j<i+1->A=some a->wr.cell? (a.add j)≠some (ae aj g)):=⟨fun j o z f=>by
    rcases Nat.lt_or_ge j i with h|h
    .exact r.o j o h f
    .obtain rfl:j=i:=by omega
     rw[t.o]at f;obtain rfl:=Option.some.inj f;rw[q];intro h;injection h with h
     injection h with _ h
     exact k h⟩
   obtain rfl:=e;go_wp2;go_roundg(n-i)
   .exact⟨i+1,ak,ak,aT,p,rfl⟩
   omega
 .obtain rfl:i=n:=by omega
  go_wp2;go_ret;exact⟨_,rfl,ak,ak,fun h=>by omega,fun _ ⟨j,a,C,B,F,E⟩=>r.o j a C B E,rfl⟩
def ZHt(C:aA)(n:Nat)(g:Int):Sat:=⟨fun v w=>∃z:Int,v=ae aj z/\-1<=z/\z<n/\(0<=z->RU w w.heap.size C n g),fun v w f ⟨z,c,e,d,b⟩ a=>⟨z,c,e,d,fun h=>(b h).Z a a.size⟩⟩
theorem ZHt.get{C:aA}{g:Int}(h:(ZHt C n g).p (ae aj z) w): -1<=z/\z<n/\(0<=z->RU w w.heap.size C n g):=by
 obtain⟨a,e,h⟩:=h;injection e with _ e
 subst e;exact h
def Ps(w:ahh)(S:aA)(i:Nat)(g:Int):Prop:=∃(a:Addr) (C:aA) (b c:Nat),S=some a/\w.cell? (a.add (i*12))=some (.slice C b c)/\RU w w.heap.size C b g
def PHo(w:ahh)(k:Lk)(g:Int)(e:ahn)(a:ahh):Prop:=∃(i:Nat) (b:Bool),e=.returned (.tuple #[ae aj (i:Int),.bool b])/\(b=true->k.kind=5/\i<k.sn/\Ps a k.S i g)/\az w a
theorem aeF(s:G:=by
 simp[Act.put]
 repeat first
  |(refine fU aB aB aB ?_;intro K9 di;go_big_quiet_op;go_big_quiet_on)
  |(refine xA aB ?_;simp[Act.put])
 intro nq hE;have BM:=B71.t nq.2;have⟨w3,dZ⟩:=eX nq.1;rw[<-dZ]at BM
 try dsimp only
 rw[<-dZ];clear dZ hE LQ LE;go_wp2;go_roundg(sn-i)
 .exact⟨i+1,ak,ak,aT,BM⟩
 omega):G:=s
theorem VD(f:cY)(k:Lk)(Q:aC->Prop)(A:aA)(n c at_:Nat)(g:Int)(w:ahh)(h:bZ w w.heap.size f)(hk:mA w w.heap.size k)(hl:uU w Q A n)(hg:∃r,A=some r/\w.cell? (r.add (at_*10))=some (ae aj g))(hn:n<=50000)(ha:at_<n):
 ahk prog 327 #[f.v,k.v,.slice A n c,ae aj (at_:Int)] w (PHo w k g):=by
 have⟨W1,v,b,O,J⟩:=box2 w f.row 96 k.row 161;have R:=sH (h.Z b.o b.o.size);have RK:=sH (hk.Z b.o b.o.size);have GL:=sH (hl.Z b.o b.o.size);have ox:=hk.rS.bd;obtain⟨kk,fl,st,S,sn,sc⟩:=k;obtain⟨D,rfl,p⟩:=hg;have B:=au p b.o;dsimp only at ox⊢;clear h hl hk p;have i1:¬((n:Int)<=(at_:Int)):=ak;have i2:((at_:Int)<(n:Int)):=ak;have⟨q,j,m,l⟩:=J.o.k4;by_cases F:kk=5;rotate_left
 .have h5:(kk !=5)=true:=by simp[F]
  go_enter func327,ntmps327;go_wp2;go_ret2;rw[<-v];exact⟨0,false,rfl,aQ,b.o⟩
 subst F;go_enter func327,ntmps327;go_wp2;rw[<-v];clear v q j m l;have HG:=sH B;clear B;go_loopg[10,11,12,13,14,15](sn+1)(fun gg v10 _ _ _ _ _ wr=>∃(i:Nat),sn-i<gg/\i<=sn/\v10=ae aj (i:Int)/\aq (az W1 wr))
 .exact⟨0,ak,ak,rfl,cA⟩
 obtain⟨i,hg,hi,rfl,y⟩:=hrel;have⟨c0,L,d,P,c4,c5⟩:=(O.o.ar y.o O.o.lt).f6;have⟨q,j,m,l⟩:=(J.o.ar y.o J.o.lt).k4;dsimp only at q j m l;have BW:=b.t y.o;by_cases E:i<sn
 .obtain⟨r,x,rfl,hx,H,e1,e2,e3,e4,V,e6,e7,e8,e9,X,Z⟩:=jk (A:=S) (n:=sn) (c:=sc) (RK.o.rS.Z y.o y.o.size) E
  have E0:=sH H;have⟨W2,s⟩:=eX (wr.alloc (.cells x.row 170));obtain⟨b2,x2,r2⟩:=sW hx s;have W:=y.t b2;have C:=sH b2;have M:=sH x2;have T:=sH r2;have i4:=aU i sn;clear hx x2 r2;have C0:=fun o=>aI c0 o;have C1:=fun o=>aI L o;have C2:=fun o=>aI d o;have C3:=fun o=>aI P o;have C4:=fun o=>aI c4 o;have C5:=fun o=>aI c5 o
  have D0:=fun o=>aI q o;have D1:=fun o=>aI j o;have D2:=fun o=>aI m o;have D3:=fun o=>aI l o
  have a:=W.o;have BK:=sH (MY f ⟨5,fl,st,some r,sn,sc⟩ Q (some D) n c at_ x.B x.bn x.bc W2 (R.o.Z a a.size) (GL.o.Z a a.size) T.o.rB ak ha);clear a b2;go_wp2_with fail;rw[<-s];clear s C0 C1 C2 C3 C4 C5 D0 D1 D2 D3 c0 L d P c4 c5 q j m l H e1 e2 e3 e4 V e6 e7 e8 e9 X Z;refine BK.o.mono ?_;rintro e w8 ⟨A8,m8,c8,b8,rfl,_,u⟩;have N:=sH u;have Y:=W.t u;clear u BK;have a:=Y.o;have RW:=sH (MF f ⟨5,fl,st,some r,sn,sc⟩ Q (some D) n c at_ x.A x.an x.ac w8 (R.o.Z a a.size) (GL.o.Z a a.size) (T.o.rA.Z N.o N.o.size) ak ha);have⟨c0,L,d,P,c4,c5⟩:=(O.o.ar a O.o.lt).f6;have⟨q,j,m,l⟩:=(J.o.ar a J.o.lt).k4;dsimp only at q j m l;have⟨_,_,_,_,_,V,_⟩:=(M.o.ar N.o M.o.lt).ns;clear a;go_wp2_with fail;refine RW.o.mono ?_;rintro e w7 ⟨A7,m7,c7,b7,rfl,_,I⟩;have G:=N.t I;have B71:=W.t G.o;clear I RW c0 L d P c4 c5 q j m l V;have⟨H,_⟩:=(M.o.ar G.o M.o.lt).ns;have q0:=au HG.o B71.o;have EC:=au E0.o (C.o.trans (G.o.mono C.o.size));have ECS:=sH EC;clear EC;go_wp2;have⟨LQ,LE⟩:=lc2 q0 H;clear q0 H;refine ba (iZ 68 (ZHt x.C x.cn g)) aF aF ?_;refine mLw ?_;refine lwA (ZHt x.C x.cn g) (fun nq=> ?_) (fun v9 U=> ?_)
  .go_simp
   have bq:=G.o.trans (nq.2.mono G.o.size);refine aX (ZHt x.C x.cn g) ((Gl x.C x.cn x.cc g nq.1 (T.o.rC.Z bq bq.size)).mono ?_);rintro e w5 ⟨z,rfl,h1,h2,h3,_,rfl⟩;exact⟨_,rfl,⟨z,rfl,h1,h2,h3⟩,Below.refl _ _⟩
  obtain⟨_,_,z,rfl,_,_,_⟩:=U;have K:z<0∨0<=z:=ak;rcases K with K|K
  .have eQ:¬0<=z:=by omega
   simp[Act.put]
   repeat first
    |(refine fU aB aB aB ?_;intro K9 di;go_big_quiet_op;go_big_quiet_on)
    |(refine xA aB ?_;simp[Act.put])
   intro nq hE;have BM:=B71.t nq.2;have⟨w3,dZ⟩:=eX nq.1;rw[<-dZ]at BM
   try dsimp only
   rw[<-dZ];clear dZ hE LQ LE;go_wp2;go_roundg(sn-i)
   .exact⟨i+1,ak,ak,aT,BM⟩
   omega
  .cases b8
   .exact aeF
   .cases b7
    .exact aeF
    .simp[Act.put]
     repeat first
      |(refine fU aB aB aB ?_;intro K9 di;go_big_quiet_op;go_big_quiet_on)
      |(refine xA aB ?_;simp[Act.put])
     intro nq hE;have HH:aq (Ps nq.1 (some r) i g):=⟨⟨r,x.C,x.cn,x.cc,rfl,au ECS.o nq.2,(ZHt.get hE).2.2 K⟩⟩;have BV:=sH (b.o.trans ((B71.o.trans (nq.2.mono B71.o.size)).mono b.o.size));have⟨w3,dZ⟩:=eX nq.1;rw[<-dZ]at BV HH
     try dsimp only
     rw[<-dZ];clear dZ hE LQ LE;go_wp2;go_ret2;exact⟨i,true,rfl,fun _=>⟨rfl,E,HH.o⟩,BV.o⟩
 .go_wp2
  go_ret2;exact⟨0,false,rfl,aQ,BW.o⟩
def ZIn(n:Nat):Sat:=⟨fun v _=>∃q:Nat,v=ae aj (q:Int)/\q<n,fun _ _ _ h _=>h⟩
def PRp(w:ahh)(B:Nat)(Q:List aC->Prop)(n:Nat)(e:ahn)(a:ahh):Prop:=∃(A:aA) (c:Nat) (b:Bool),e=.returned (.tuple #[.slice A n c,.bool b])/\fR a B Q A n c/\az w a
theorem Vm(f:cY)(k:Lk)(lo F:Int)(A:aA)(n c at_:Nat)(w:ahh)(h:bZ w w.heap.size f)(hk:mA w w.heap.size k)(hc:Bz w w.heap.size k)(hl:kT w (bk lo F) A n)(hn:n<=50000)(U:at_<n):
 ahk prog 305 #[f.v,k.v,.slice A n c,ae aj (at_:Int)] w (PRp w w.heap.size (bk lo F) n):=by
 have⟨W1,K,l,X1,W⟩:=box2 w f.row 96 k.row 161;have R:=sH (h.Z l.o l.o.size);have RK:=sH (hk.Z l.o l.o.size);have RC:=sH (hc.Z l.o l.o.size);have GL:=sH (hl.Z l.o l.o.size);have ox:=hk.rS.bd;clear h hl hk hc;go_enter func305,ntmps305;go_wp2_with fail;rw[<-K];clear K;refine(EJ (bk lo F) A n c W1 GL.o ak).mono ?_;rintro e w2 ⟨A2,c2,rfl,o2,g⟩;have B2:=sH g;have O2:=sH o2;have I:=sH (GL.o.Z g g.size);clear o2;obtain⟨ad,x0,x1,x2,x3,x4,x5,x6,x7,x8,x9,rfl,hQ,B,_⟩:=I.o.iX.bD U;have HO:=sH (VD f k (Fq lo F) (some ad) n c at_ x0 w2 (R.o.Z g g.size) (RK.o.Z g g.size) I.o.iX ⟨ad,rfl,B⟩ hn U);have Q0:=sH B;have⟨c0,c1,aW,c3,c4,c5⟩:=(X1.o.ar g X1.o.lt).f6;have⟨V,P,S,H⟩:=(W.o.ar g W.o.lt).k4;clear hQ g B;go_wp2_with fail;refine HO.o.mono ?_;rintro e w3 ⟨i,b,rfl,hb,Z⟩;have B3:=B2.t Z;have BV:=l.t B3.o;have O3:=sH ((O2.o.ar Z).cJ l.o.size);have B:=au Q0.o Z;clear HO c0 c1 aW c3 c4 c5 V P S H Z;cases b
 .go_wp2
  go_ret2;exact⟨A2,c2,false,rfl,O3.o,BV.o⟩
 obtain⟨r,M,vm,C,cn,cc,X,eC,hH⟩:=hb rfl;have a:=B3.o;obtain⟨N,x,u,T,d,Y,_⟩:=jk (RK.o.rS.Z a a.size) M;obtain rfl:vm=N:=by rw[X]at u;exact Option.some.inj u
 obtain⟨s,L⟩:=(RC.o.Z a a.size).at (by simp[KU,r]) M X d Y;have m:x.C=C/\x.cn=cn/\x.cc=cc:=by rw[eC]at d;simp at d;exact⟨d.1.symm,d.2.1.symm,d.2.2.symm⟩
 have⟨V,P,S,H⟩:=(W.o.ar a W.o.lt).k4;have HT:=sH s;have HC:=sH L;have K5:=sH r;have HX:=sH T;have HI:aq (RU w3 w3.heap.size x.C x.cn x0):=⟨by rw[m.1,m.2.1];exact hH⟩;have E:0<x.cn:=by obtain⟨j,_,hj,_⟩:=hH;rw[m.2.1];omega
 obtain⟨adT,eT,_,_⟩:=T.rT.2.2.2 (by rw[s];exact E);have ET:=sH eT;have Ay:=T.rT.bd;rw[X]at H;rw[eT]at Y;obtain⟨g2,rfl,dw,si⟩:=O3.o.form ak;have i3:=aU at_ n;have i4:(i:Int)<(k.sn:Int):=ak;have⟨LQ,LE0,LE1,M0,M1,M2,M3⟩:=lc7 B d Y V P S H;clear hb r X eC hH T u s L m E eT B d Y V P S H;go_wp2;refine aS (iZ 45 (ZIn x.cn)) 26 rfl aF aF aF aF aF rfl ?_;refine mLw ?_;refine lwA (ZIn x.cn) (fun o=> ?_) (fun v9 aV=> ?_)
 .go_simp
  refine aX (ZIn x.cn) ((Gl x.C x.cn x.cc x0 o.1 (HX.o.rC.Z o.2 o.2.size)).mono ?_);rintro e w5 ⟨z,rfl,h1,h2,h3,h4,rfl⟩;have hz:0<=z:=by
   rcases Int.lt_or_le z 0 with h|h
   .exact absurd (HI.o.Z o.2 o.2.size) (h4 h)
   .exact h
  exact⟨_,rfl,⟨z.toNat,by rw[Int.toNat_of_nonneg hz],ak⟩,Below.refl _ _⟩
 obtain⟨_,_,z,rfl,G⟩:=aV;obtain⟨D,A5,m5,c5,v,O,dT⟩:=fi HX.o.rT (j:=z) (by rw[HT.o];exact G);have J:=HC.o.at (by rw[HT.o];exact G) v dT;obtain rfl:adT=D:=by have:=ET.o;rw[v]at this;exact(Option.some.inj this).symm
 have Hx:1<=m5:=by have:=K5.o;rcases J.2 with h|h;omega;exact h
 have Ch:=aU 0 m5;obtain⟨ady,y,rfl,dy⟩:=gT O (show 0<m5 by omega);rw[ew]at dy;have hzt:(z:Int)<(x.tn:Int):=Ic;have⟨LT,LY⟩:=lc2 dT dy;clear v O dT J dy;simp[Act.put];refine mLw ?_;intro o hE;have Q:=sH (O3.o.ar o.2);have BN:=BV.t o.2;obtain⟨y0,y1,y2,y3,y4,y5,y6,y7,y8,y9,_,d,_⟩:=Q.o.iX.bD U;have f0:=Q.o.fz (at_*10);have⟨w4,t⟩:=eX o.1;rw[<-t]at BN Q d f0
 try dsimp only
 rw[<-t];clear t hE LQ LE0 LE1 M0 M1 M2 M3 LT LY;have O5:aq (fR (w4.setCell ⟨g2,at_*10,none⟩ (ae aj y)) w.heap.size (bk lo F) (some ⟨g2,0,none⟩) n c2):=⟨by
  have:=Q.o.iS U (q:=0) ak ak y;simpa using this⟩
 have B5:aq (az w (w4.setCell ⟨g2,at_*10,none⟩ (ae aj y))):=⟨Below.setCell BN.o (p:=⟨g2,at_*10,none⟩) dw _⟩;go_simp;go_wp2;go_ret2;exact⟨some ⟨g2,0,none⟩,c2,true,rfl,O5.o,B5.o⟩
abbrev afx(f:cY)(u:Nat):Array ahj:=#[ae aj f.em,.slice f.G f.gn f.gc,.slice f.M f.mn f.mc,.slice f.L f.ln f.lc,.slice f.F f.fn f.fc,.slice f.S f.sn f.sc,ae aj (u:Int)]
structure Mc(w:ahh)(g:Nat)(f:cY)(u:Nat):Prop where
 bx:Bx w g (afx f u)
 fr:bZ w g f
 ls:KO w g f
 hu:u<=65536
section
variable{w w':ahh}{g:Nat}{f:cY}{u:Nat}
theorem Mc.Z(h:Mc w g f u)(a:az w w'):Mc w' g f u:=
 have:=h.bx.lt
 ⟨h.bx.ar a h.bx.lt,h.fr.Z (a.mono ak) bW,h.ls.Z (a.mono ak) bW,h.hu⟩
theorem Mc.fnt(h:Mc w g f u):bZ w w.heap.size f:=h.fr.Z (Below.refl _ _) (Nat.le_of_lt h.bx.lt)
theorem Mc.set(h:Mc w g f u)(a:u<65536):Mc (w.setCell ⟨g,6,none⟩ (ae aj ((u:Int)+1))) g f (u+1):=
 have b:ahi g w (w.setCell ⟨g,6,none⟩ (ae aj ((u:Int)+1))):=Below.setCell (Below.refl _ _) (p:=⟨g,6,none⟩) (Nat.le_refl g) _
 ⟨h.bx.jR 6 _,h.fr.Z b bW,h.ls.Z b bW,ak⟩
theorem Mc.m7(h:Mc w g f u):w.cell? ⟨g,0,none⟩=some (ae aj f.em)/\w.cell? ⟨g,1,none⟩=some (.slice f.G f.gn f.gc)/\w.cell? ⟨g,2,none⟩=some (.slice f.M f.mn f.mc)/\w.cell? ⟨g,3,none⟩=some (.slice f.L f.ln f.lc)/\w.cell? ⟨g,4,none⟩=some (.slice f.F f.fn f.fc)/\w.cell? ⟨g,5,none⟩=some (.slice f.S f.sn f.sc)/\w.cell? ⟨g,6,none⟩=some (ae aj (u:Int)):=
 ⟨h.bx.cell 0,h.bx.cell 1,h.bx.cell 2,h.bx.cell 3,h.bx.cell 4,h.bx.cell 5,h.bx.cell 6⟩
theorem Bx.kS(h:Bx w b cs)(d:b≠g)(c:cW g w w'):Bx w' b cs:=by
 have a:=h.lt;obtain⟨t,h⟩:=h;exact⟨t,(c.block b a d).trans h⟩
theorem bH.kS(h:bH w w.heap.size k A n xs)(i:nL g A n)(a:cW g w w'):bH w' w'.heap.size k A n xs:=⟨h.1,fun c=>by
 obtain⟨b,d,m,l⟩:=h.2 c;have:=a.size;exact⟨b,d,ak,fun j e=>a.cell (l j e) (by rw[aO];exact i c b d)⟩⟩
theorem Own.zK{e:ahm}(h:Own w B e k A n c xs)(m:g<B):nL g A n:=fun j l a=>by
 obtain⟨b,d,o,_⟩:=aw.form h j;rw[d]at a;have i:=Option.some.inj a;rw[<-i];show b≠g;omega
end
theorem RL.kS{w w':ahh}{g k:Nat}(h:RL w w.heap.size k L A n)(p:nL g A n)(c:cW g w w'):RL w' w'.heap.size k L A n:=by
 obtain⟨gs,i,l,v,m⟩:=h;refine⟨gs,i,l,v,fun d=> ?_⟩;obtain⟨b,e,a,s⟩:=m d;exact⟨b,e,Nat.lt_of_lt_of_le a c.size,fun j r o q x t=>c.cell (s j r o q x t) (by rw[aO,aO];exact p d b e)⟩
structure Bu(w:ahh)(g:Nat)(Q:List aC->Prop)(A:aA)(n c:Nat):Prop where
 gl:kT w Q A n
 ni:nL g A n
 nc:n<=c
 nn:n<=16384
theorem Bu.kS{w w':ahh}{g:Nat}{Q:List aC->Prop}(h:Bu w g Q A n c)(a:cW g w w'):Bu w' g Q A n c:=⟨h.gl.kS h.ni a,h.ni,h.nc,h.nn⟩
theorem Bu.own{w:ahh}{g:Nat}{Q:List aC->Prop}(h:fR w B Q A n c)(a:g<B)(b:n<=16384):Bu w g Q A n c:=⟨h.rl ak,h.o.zK a,h.le,b⟩
def PCo(w:ahh)(g:Nat)(u:Nat)(A:aA)(n c:Nat)(x:Int)(b:Bool)(e:ahn)(w':ahh):Prop:=
 (b=true/\n<=16384/\e=.returned (.tuple #[.slice A n c,ae aj x,.bool true])/\w'=w.setCell ⟨g,6,none⟩ (ae aj ((u:Int)+1)))∨(e=.returned (.tuple #[.slice none 0 0,ae aj 0,.bool false])/\w'=w)
theorem nk(g:Nat)(f:cY)(u:Nat)(A:aA)(n c:Nat)(x:Int)(b:Bool)(w:ahh)(h:Mc w g f u):ahk prog 302 #[.pointer (some ⟨g,0,none⟩),.slice A n c,ae aj x,.bool b] w (PCo w g u A n c x b):=by
 obtain⟨l,p,k,i,e,j,m⟩:=h.m7;have o:=h.hu;have f6:=h.bx.fz 6;cases b
 .go_enter func302,ntmps302
  go_wp2;go_ret3;exact .inr ⟨rfl,rfl⟩
 .by_cases d:n<=16384
  .have a:¬((16384:Int)<(n:Int)):=by omega
   go_enter func302,ntmps302;go_wp2;go_ret3;exact .inl ⟨rfl,d,rfl,rfl⟩
  .have a:((16384:Int)<(n:Int)):=by omega
   go_enter func302,ntmps302;go_wp2;go_ret3;exact .inr ⟨rfl,rfl⟩
def RB(w:ahh)(g:Nat)(f:cY)(u:Nat)(Q:List aC->Prop)(n:Nat)(at_:Int)(d:Prop)(e:ahn)(w':ahh):Prop:=∃(A:aA) (m c x:Nat) (b:Bool) (a:Nat),e=.returned (.tuple #[.slice A m c,ae aj (x:Int),.bool b])/\u<=a/\Mc w' g f a/\cW g w w'/\
 (b=true->u<a/\Bu w' g Q A m c/\(d->m=n)/\x<=1000000/\0<=at_/\at_<n)
def Rev(w:ahh)(f:cY)(c:Int):Prop:=∀(j:Nat) (b:Addr) (a:Int),c=j->j<f.ln->f.L=some b->w.cell? (b.add (j*4))=some (ae aj a)->a=5
def tC(d:Nat):Prop:=∀(g:Nat) (f:cY) (u:Nat) (lo e:Int) (a at_:Int) (A:aA) (n c:Nat) (b:Prop) (w:ahh),Mc w g f u->Bu w g (bk lo e) A n c->(b->Rev w f a)->
 ahk prog 289 #[.pointer (some ⟨g,0,none⟩),ae aj a,.slice A n c,ae aj at_,ae aj (d:Int)] w (RB w g f u (bk lo e) n at_ b)
def PNe(w:ahh)(g:Nat)(f:cY)(u:Nat)(Q:List aC->Prop)(e:ahn)(w':ahh):Prop:=∃(A:aA) (m c a:Nat),e=.returned (.slice A m c)/\u<=a/\Mc w' g f a/\cW g w w'/\Bu w' g Q A m c
theorem Su(d:Nat)(H:tC (d+1))(g:Nat)(f:cY)(u:Nat)(lo D:Int)(A:aA)(n c:Nat)(V:aA)(j W:Nat)(P:aA)(m k:Nat)(xs:aC)(w:ahh)(h:Mc w g f u)(hl:Bu w g (bk lo D) A n c)(X:cK w g zF V j W)(hP:bH w w.heap.size .i64 P m xs)(S:nL g P m)(hm:m<=60000)(hd:d<=8):
 ahk prog 326 #[.pointer (some ⟨g,0,none⟩),.slice A n c,.slice V j W,.slice P m k,ae aj (d:Int)] w (PNe w g f u (bk lo D)):=by
 have HO:=sH H;have M:=sH h;have l:=sH hl;have RN:=sH X;have t:=sH hP;have s:=sH S;have Z9:=X.bd;have YT:=h.bx.lt;go_enter func326,ntmps326;go_wp2;go_loopg[1,3,11,12,13,14,15](j+1)(fun gg v1 v3 J _ _ _ _ wr=>∃(i:Nat) (A:aA) (n c r:Nat) (P:aA) (k:Nat) (xs:aC),j-i<gg/\i<=j/\v1=.slice A n c/\v3=.slice P m k/\J=ae aj (i:Int)/\u<=r/\aq (Mc wr g f r)/\aq (cW g w wr)/\aq (Bu wr g (bk lo D) A n c)/\aq (bH wr wr.heap.size .i64 P m xs)/\aq (nL g P m))
 .exact⟨0,A,n,c,u,P,k,xs,ak,ak,rfl,rfl,rfl,ak,M,⟨cW.refl _ _⟩,l,t,s⟩
 obtain⟨i,A,n,c,r,P,k,xs,hg,Sk,rfl,rfl,rfl,o,M,B,l,t,s⟩:=hrel;by_cases I:i<j
 .obtain⟨ad,y,z,rfl,e0,e1⟩:=xB (RN.o.Z (B.o.below bW ak) bW) I
  have i4:=aU i j;by_cases hy0:y<0
  .go_wp2
   go_roundg(j-i)
   .exact⟨i+1,A,n,c,r,P,k,xs,ak,ak,rfl,rfl,aT,o,M,B,l,t,s⟩
   omega
  obtain⟨a,rfl⟩:∃a:Nat,y=(a:Int):=⟨y.toNat,ak⟩;by_cases F:a<m;rotate_left
  .have h1:((m:Int)<=(a:Int)):=by omega
   go_wp2;go_roundg(j-i)
   .exact⟨i+1,A,n,c,r,P,k,xs,ak,ak,rfl,rfl,aT,o,M,B,l,t,s⟩
   omega
  have h1:¬((m:Int)<=(a:Int)):=ak;have h2:((a:Int)<(m:Int)):=ak;obtain⟨v,rfl,p0⟩:=t.o.fP F;generalize nth xs a=p at*;go_wp2_with fail;refine(HO.o g f r lo D z p A n c False wr M.o l.o (fun h=>h.elim)).mono ?_;rintro e w1 ⟨A1,Y,c1,x1,b,u1,rfl,hu1,hM,E,hb⟩;have Q:=sH hM;have Z:=sH (B.o.trans E);have O:=sH (l.o.kS E);have C:=sH (t.o.kS s.o E);cases b
  .clear hb E
   go_wp2;go_roundg(j-i)
   .exact⟨i+1,A,n,c,u1,some v,k,xs,ak,ak,rfl,rfl,aT,ak,Q,Z,O,C,s⟩
   omega
  .obtain⟨hu2,x,_,_,Cd,UM⟩:=hb rfl
   have L:=sH x;obtain⟨q,rfl⟩:∃q:Nat,p=(q:Int):=⟨p.toNat,ak⟩;have U:=l.o.nn;have Hx:=x.nn;go_wp2_with fail;refine(Vv (some v) m k xs q n Y w1 C.o ak ak ak ak).mono ?_;rintro e w2 ⟨A2,c2,ys,rfl,T,N⟩;have M2:=sH (Q.o.Z N);have B2:=sH (Z.o.trans (cW.of N));have G:=sH (L.o.kS (cW.of N));have K:=sH T.ints;have R:=sH (T.zK Q.o.bx.lt);go_wp2;go_roundg(j-i)
   .exact⟨i+1,A1,Y,c1,u1,A2,c2,ys,ak,ak,rfl,rfl,aT,ak,M2,B2,G,K,R⟩
   omega
 .go_wp2
  go_ret;exact⟨_,_,_,r,rfl,o,M.o,B.o,l.o⟩
def ZMa(N n g:Nat):Sat:=⟨fun v w=>∃(i:Nat) (A:aA) (m c:Nat) (b:Bool),v=.tuple #[ae aj (i:Int),.slice A m c,.bool b]/\(b=true->i<g/\Fv w N n A m c),fun v w h ⟨i,A,m,c,b,f,a⟩ d=>⟨i,A,m,c,b,f,fun e=>⟨(a e).1,(a e).2.ar d⟩⟩⟩
theorem ZMa.get{d i:Nat}{b:Bool}(h:(ZMa N n d).p (.tuple #[ae aj (i:Int),.slice A m c,.bool b]) w):b=true->i<d/\Fv w N n A m c:=by
 obtain⟨k,r,o,c',p,e,h⟩:=h;simp at e;obtain⟨q,⟨g,l,f⟩,j⟩:=e;have a:i=k:=ak;subst a;subst g;subst l;subst f;subst j
 exact h
theorem mA.more{a:Nat}{k:Lk}(h:mA w B k)(b:B<=a):mA w a k:=h.Z (Below.refl _ _) b
theorem Jq(d:Nat)(H:tC (d+1))(g:Nat)(f:cY)(u:Nat)(k:Lk)(lo z:Int)(A:aA)(n c at_:Nat)(w:ahh)(h:Mc w g f u)(hk:mA w g k)(T:Bu w g (bk lo z) A n c)(ha:at_<n)(hd:d<=8)(hu:u<65536):
 ahk prog 304 #[.pointer (some ⟨g,0,none⟩),k.v,.slice A n c,ae aj (at_:Int),ae aj (d:Int)] w (RB w g f u (bk lo z) n (at_:Int) False):=by
 have⟨r,aP,S,U⟩:=box1 w k.row 161;have HO:=sH H;have M:aq (Mc r g f u):=⟨h.Z S.o⟩;have RK:aq (mA r g k):=⟨hk.Z (S.o.mono (Nat.le_of_lt h.bx.lt)) bW⟩;have Z:aq (Bu r g (bk lo z) A n c):=⟨T.kS (cW.of S.o)⟩;have YT:=h.bx.lt;have kU:=S.o.size;have hn:=T.nn;have I:w.heap.size+1=r.heap.size:=oO;obtain⟨m0,m1,m2,m3,m4,m5,b⟩:=M.o.m7;have⟨d0,W,d2,D⟩:=U.o.k4;clear H h hk T;go_enter func304,ntmps304;go_wp2;rw[<-aP];clear aP;have⟨L0,L1,L2,L3,L4,L5,M0,M1⟩:=lc8 m0 m1 m2 m3 m4 m5 d0 W;have⟨M2,M3⟩:=lc2 d2 D;clear m0 m1 m2 m3 m4 m5 b d0 W d2 D;refine ba (iZ 26 (ZMa r.heap.size n k.sn)) aF aF ?_;refine mLw ?_;refine lwA (ZMa r.heap.size n k.sn) (fun a=> ?_) (fun v9 aV=> ?_)
 .go_simp
  have bq:=cW.of (g:=g) a.2;refine aX (ZMa r.heap.size n k.sn) ((Hp f k (Fq lo z) A n c at_ a.1 (M.o.Z a.2).fnt ((RK.o.more ak).Z a.2 a.2.size) (Z.o.kS bq).gl.iX ak ha).mono ?_);rintro e w5 ⟨i,A6,b,c6,b6,rfl,h6,hb⟩;exact⟨_,rfl,⟨i,A6,b,c6,b6,rfl,fun e=>⟨(h6 e).1,(h6 e).2.cJ a.2.size⟩⟩,hb⟩
 obtain⟨_,_,i,A6,b,c6,b6,rfl,_⟩:=aV;simp[Act.put];refine mLw ?_;intro a hE;have q:=ZMa.get hE;have J:aq (Mc a.1 g f u):=⟨M.o.Z a.2⟩;have X:aq (cW g w a.1):=⟨(cW.of S.o).trans (cW.of a.2)⟩;have K:=sH (Z.o.kS (cW.of (g:=g) a.2));have P:aq (mA a.1 g k):=⟨RK.o.Z (a.2.mono ak) bW⟩;have XN:aq (Bx a.1 w.heap.size k.row):=⟨U.o.ar a.2 U.o.lt⟩;have ox:r.heap.size<=a.1.heap.size:=a.2.size;have⟨w2,B⟩:=eX a.1;rw[<-B]at J X K q P XN ox
 try dsimp only
 rw[<-B];clear B hE L0 L1 L2 L3 L4 L5 M0 M1 M2 M3 M Z U RK;cases b6
 .clear q
  go_wp2;go_ret3;exact⟨none,0,0,0,false,u,rfl,Nat.le_refl _,J.o,X.o,aQ⟩
 obtain⟨tJ,xs,Hx,Rs,v,C⟩:=q rfl;obtain⟨E,rfl,agk,agm⟩:=aw.form v ak;obtain⟨L,hL,hLn⟩:∃L:Nat,nth xs (b-1)=L/\L<n:=by
  have T:=v.len;have:=C (nth xs (b-1)) Bk;exact⟨(nth xs (b-1)).toNat,ak,ak⟩
 have R:=bT v (show b-1<b by omega);rw[hL]at R;have em:(((b:Int)-1)=((b-1:Nat):Int)):=ak;have i4:((b-1:Nat):Int)<(b:Int):=ak;obtain⟨q0,q1,q2,q3,q4,q5,q6⟩:=J.o.m7;have f6:=J.o.bx.fz 6;have⟨p,y⟩:=eX (w2.setCell ⟨g,6,none⟩ (ae aj ((u:Int)+1)));have t:cW g w2 p:=by rw[y];exact(cW.refl _ _).set 6 _
 have M3:aq (Mc p g f (u+1)):=⟨by rw[y];exact J.o.set hu⟩;have B3:aq (cW g w p):=⟨X.o.trans t⟩;have Y:=sH (K.o.kS t);have IP:aq (bH p p.heap.size .i64 (some ⟨E,0,none⟩) b xs):=⟨v.ints.kS (v.zK ak) t⟩;have NP:aq (nL g (some ⟨E,0,none⟩) b):=⟨v.zK ak⟩;have Ku:aq (mA p g k):=⟨P.o.Z (t.below bW ak) bW⟩;have X3:aq (Bx p w.heap.size k.row):=⟨XN.o.kS ak t⟩;have p3:=t.cell R (by show E≠g;omega);have uV:=t.size;have p00:=sH R;clear q v C hL t q0 q1 q2 q3 q4 q5 R p3;have hsl:(0:Int)<=(L:Int)/\(L:Int)<n/\(n:Int)<=16384:=ak;have KX:aq (∀j,az p j->∃(l:Addr) (x:Sb),nQ j g x/\j.cell? ⟨w.heap.size,3,none⟩=some (.slice (some l) k.sn k.sc)/\j.cell? (bP (l.add (i*12)) 6)=some (.slice x.N x.nn x.nc)):=⟨fun j F=>by
  have⟨d0,W,d2,D⟩:=(X3.o.ar F X3.o.lt).k4;have YH:mA j g k:=Ku.o.Z (F.mono ak) bW;obtain⟨l,x,eS,C,_,_,_,_,_,_,e6,_⟩:=jk YH.rS tJ;rw[eS]at D;exact⟨l,x,C,D,e6⟩⟩
 have i5:(i:Int)<(k.sn:Int):=ak;have dY:¬E=g:=ak;have G:¬g=E:=ak;have R:=p00.o;clear I hsl G;go_wp2_with (at_builtin;rw[<-y];refine cd (L':=bk lo z) my rfl (.tmp 50) (.tmp 51) rfl rfl (OL.nil (L:=fun xs=>xs=[]) p p.heap.size _ _ rfl) rfl Y.o.gl (fun xs ys _ _ _ _ h1 h2=>Kj) ak bW ?_;intro A7 c7 j o7 F;have O7:=sH o7;have B7:aq (az p j):=⟨F⟩;obtain⟨l,x,C,D,e6⟩:=KX.o j F;have HX:=sH C;clear o7 F C);have M7:aq (Mc j g f (u+1)):=⟨M3.o.Z B7.o⟩;have V:aq (Bu j g (bk lo z) A7 n c7):=⟨by
  have o:=O7.o;rw[Nat.zero_add]at o;exact Bu.own o ak hn⟩
 have B7g:aq (cW g w j):=⟨B3.o.trans (cW.of B7.o)⟩;have IP7:=sH (IP.o.Z B7.o);refine(Su d HO.o g f (u+1) lo z A7 n c7 x.N x.nn x.nc (some ⟨E,0,none⟩) b c6 xs j M7.o V.o HX.o.rN IP7.o NP.o ak hd).mono ?_;rintro e w8 ⟨A8,s,c8,u8,rfl,hu8,Q,O,m⟩;have M8:=sH Q;have B8:aq (cW g w w8):=⟨B7g.o.trans O⟩;have N:=sH m;have hn8:=m.nn;clear Q O m;by_cases hmx:(at_:Int)<(s:Int)-((n:Int)-(L:Int)-1)
 .go_wp2
  go_ret3;exact⟨A8,s,c8,s-(n-L-1),true,u8,by show Ending.returned (.tuple #[.slice A8 s c8,ae aj ((s:Int)-((n:Int)-(L:Int)-1)),.bool true])=_;rw[show((s-(n-L-1):Nat):Int)=(s:Int)-((n:Int)-(L:Int)-1) by omega],ak,M8.o,B8.o,fun _=>⟨ak,N.o,fun h=>h.elim,ak,ak,ak⟩⟩
 .go_wp2
  go_ret3;exact⟨A8,s,c8,at_,true,u8,rfl,ak,M8.o,B8.o,fun _=>⟨ak,N.o,fun h=>h.elim,ak,ak,ak⟩⟩
end Go.Proofs.YtklncadpkniojaaGreatDoor
