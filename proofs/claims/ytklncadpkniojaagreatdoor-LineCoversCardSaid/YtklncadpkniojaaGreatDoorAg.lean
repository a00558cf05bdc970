/- Part of LineCovers. -/
import Derived.Test.YtklncadpkniojaaGreatDoorAd
import Derived.RegionTactic
namespace Go.Proofs.YtklncadpkniojaaGreatDoor
open Go.ChangeShapes Go.WideShapes Go.ChangeAt Go.RowKit
open Go renaming World->ahh,Value->ahj,Calls->ahk,Program->aho
set_option linter.all false
set_option maxRecDepth 100000
set_option maxHeartbeats 16000000
variable{listed:Array Bool}{i:Nat}{o:Oper}{E:ahh->Prop}{a:Act}{K Q:(ahh->Prop)->Act->Prop}{Q':Exit->Act->ahh->Prop}{w:ahh}{V:ahj->Prop}{G:ahj->(ahh->Prop)->ahh->Prop}{rest:List Oper}
theorem count_set:∀(l:List Bool) (i:Nat),l[i]? =some false->(l.set i true).count false+1=l.count false
 |[],i,h=>by simp at h
 |b::l,0,h=>by
  simp at h;subst h;simp
 |b::l,i+1,h=>by
  have:=count_set l i uM;simp only[List.set_cons_succ,List.count_cons];omega
section
variable{P:aho}{ops:Array Oper}{Q:Exit -> Act -> ahh -> Prop}
def backward(ops:Array Oper):Bool:=(List.range ops.size).all fun i=>((ops[i]?).map (·.after.all fun e=>decide (e.on<i))).getD true
theorem dX(f:backward ops=true)(l:listed.size=ops.size)(g:Region.ready .any ops listed=[]):∀i,i<ops.size->listed.getD i false=true:=by
 intro i
 induction i using Nat.strongRecOn with
 |_ i ih=>
  intro c;cases d:listed.getD i false with
  |true=>rfl
  |false=>
   exfalso;have e:i∈Region.ready .any ops listed:=by
    unfold Region.ready;rw[List.mem_filter];refine⟨List.mem_range.2 c, ?_⟩;have k:listed.getD i true=false:=by
     rw[Array.getD_eq_getD_getElem?]at d⊢;rw[Array.getElem?_eq_getElem ak]at d⊢;exact d
    rw[k,Array.getElem?_eq_getElem c];simp only[Bool.not_false,Bool.true_and,Option.map_some,Option.getD_some];rw[Array.all_eq_true];intro j h;have a:=(List.all_eq_true.1 f) i (List.mem_range.2 c);rw[Array.getElem?_eq_getElem c]at a;simp only[Option.map_some,Option.getD_some]at a;rw[Array.all_eq_true]at a;have aK:=a j h;have b:((ops[i].after)[j]).on<i:=Fe;rw[ih _ b ak];simp
   rw[g]at e;cases e
theorem JA(b:i<listed.size):(fun k=>(listed.setIfInBounds i true).getD k false)=fun k=>k==i||listed.getD k false:=by
 funext k;rw[Array.getD_eq_getD_getElem?,Array.getD_eq_getD_getElem?,Array.getElem?_setIfInBounds];by_cases h:i=k
 .subst h
  simp[b]
 .have a:(k==i)=false:=by simpa using Ne.symm h
  rw[if_neg h,a,Bool.false_or]
end
structure Sat where
 p:ahj->ahh->Prop
 st:∀v w w',p v w->az w w'->p v w'
section
variable{P:aho}{ops:Array Oper}{md:Region.Mode}{C:ahh -> Prop}{T:Option Tmp -> Option Sat}
def iy(P:aho)(C:ahh->Prop)(w:ahh)(S:Sat):Result Next->Prop
 | .ok (.value u) w'=>S.p u w'/\C w'/\az w w'
 | .ok (.enter f args) w'=>w'=w/\ahk P f args w (fun e a=>∃v,e=.returned v/\S.p v a/\C a/\az w a)
 |_=>False
attribute [go_sem] iy
@[go_sem] def mE(P : aho)(o : Oper)(a : Act)(C : ahh -> Prop)(w : ahh)(S : Sat) : Prop := iy P C w S ((execOp a.eval o).run P w)
def Has(C:ahh->Prop)(S:Sat)(v:ahj):Prop:=∃w,C w/\S.p v w
def fN(P:aho)(T:Option Tmp->Option Sat)(C:ahh->Prop)(o:Oper)(E:ahh->Prop)(a:Act)(K:(ahh->Prop)->Act->Prop):Prop:=
 match T o.dst with
 |some S=>(∀w,C w->mE P o a C w S)/\∀v,Has C S v->K (fun w=>E w/\S.p v w) (a.put o.dst v)
 |none=>eU o=true/\o.quiet P a C (K E)
def dA(P:aho)(ops:Array Oper)(T:Option Tmp->Option Sat)(C:ahh->Prop)(Q:(ahh->Prop)->Act->Prop):List Oper->(ahh->Prop)->Act->Prop
 |[],E,a=>Q E a
 |o::rest,E,a=>if Region.wanted o (yielded ops a.tmps)then fN P T C o E a (dA P ops T C Q rest)else dA P ops T C Q rest E (a.put o.dst undef)
def fL(P:aho)(ops:Array Oper)(T:Option Tmp->Option Sat)(C:ahh->Prop)(i:Nat)(K:(ahh->Prop)->Act->Prop)(E:ahh->Prop)(a:Act):Prop:=
 match ops[i]? with
 |none=>K E a
 |some o=>if Region.wanted o (yielded ops a.tmps)then fN P T C o E a K else K E (a.put o.dst undef)
theorem nr{c:(ahh->Prop)->Act->Prop}(h:∀E a,K E a->c E a)(b:fN P T C o E a K):fN P T C o E a c:=by
 unfold fN at*;split
 .rename_i S e
  rw[e]at b;exact⟨b.1,fun v d=>h _ _ (b.2 v d)⟩
 .rename_i e
  rw[e]at b;exact⟨b.1,Oper.quiet_mono (h E) b.2⟩
theorem qL{d:(ahh->Prop)->Act->Prop}(h:∀E a,K E a->d E a)(b:fL P ops T C i K E a):fL P ops T C i d E a:=by
 unfold fL at*;split
 .exact h _ _ (by simpa[*]using b)
 .rename_i o e
  simp only[e]at b;split
  .rename_i c;simp only[c,if_true]at b;exact nr h b
  .rename_i c;simp only[c]at b;exact h _ _ b
def fI(P:aho)(md:Region.Mode)(ops:Array Oper)(T:Option Tmp->Option Sat)(C:ahh->Prop)(Q:(ahh->Prop)->Act->Prop):Nat->Array Bool->(ahh->Prop)->Act->Prop
 |0,listed,E,a=>Region.ready md ops listed=[]/\Q E a
 |fuel+1,listed,E,a=>
  (Region.ready md ops listed=[]->Q E a)/\
  ∀i∈Region.ready md ops listed,fL P ops T C i (fI P md ops T C Q fuel (listed.setIfInBounds i true)) E a
def nD(E:ahh->Prop):Prop:=∀w a,E w->az w a->E a
theorem nV{t:Act->ahh->Prop}(m:C w)(p:E w)(i:nD E)(h:∀E a d,C d->E d->nD E->K E a->t a d)(l:fN P T C o E a K):o.wp P a w t Q':=by
 unfold fN at l;split at l
 .obtain⟨q,k⟩:=l
  have b:=q w m;unfold mE at b;unfold Oper.wp;generalize(execOp a.eval o).run P w=r at*;cases r with
  |ok n d=>
   cases n<;>simp only[iy]at b<;>simp only[Oper.upon]
   case value u=>
    rename_i S e;exact h (fun w=>E w/\S.p u w) _ _ b.2.1 ⟨i _ _ p b.2.2,b.1⟩ (fun u D j g=>⟨i _ _ j.1 g,S.st _ _ _ j.2 g⟩) (k _ ⟨_,b.2.1,b.1⟩)
   case enter f args=>
    rename_i S e;rw[b.1];refine b.2.mono fun e A ⟨v,z,y,c,g⟩=> ?_;subst z;exact h (fun w=>E w/\S.p v w) _ _ c ⟨i _ _ p g,y⟩ (fun u D j g=>⟨i _ _ j.1 g,S.st _ _ _ j.2 g⟩) (k _ ⟨_,c,y⟩)
  |halt x d=>simp only[iy]at b
 .obtain⟨B,v,q,k⟩:=l
  have b:=q w m;unfold Oper.quietAt at b;unfold Oper.wp;have s:=kx (P:=P) B a.eval w;generalize(execOp a.eval o).run P w=r at*;cases r with
  |ok n d=>
   cases n<;>simp only[Oper.quietUpon]at b<;>simp only[Oper.upon]
   case value u=>rw[b.1,b.2];exact h _ _ _ m p i k
   case skip=>rw[b.1,<-b.2];exact h _ _ _ m p i k
   case enter f args=>exact absurd rfl (s f args d)
  |halt x d=>simp only[Oper.quietUpon]at b
theorem dU{k:Act->ahh->Prop}(g:C w)(j:E w)(f:nD E)(h:∀E a d,C d->E d->nD E->K E a->k a d)(b:fL P ops T C i K E a):wpOp P ops Q' i k a w:=by
 unfold fL at b;unfold wpOp;split
 .rename_i c;simp only[c]at b;exact h _ _ _ g j f b
 .rename_i o c
  simp only[c]at b;split
  .rename_i e;simp only[e,if_true]at b;exact .inl (nV g j f h b)
  .rename_i e;simp only[e]at b;exact h _ _ _ g j f b
theorem gz{Q:(ahh->Prop)->Act->Prop}{Q':Exit->Act->ahh->Prop}(d:∀E a w,C w->E w->Q E a->Q' .normal a w):∀(fuel:Nat) (listed:Array Bool) (E:ahh->Prop) (a:Act) (w:ahh),C w->E w->nD E->
 fI P md ops T C Q fuel listed E a->wpAny P md ops Q' fuel listed a w
 |0,_,_,_,_,hw,hE,_,h=>⟨h.1,d _ _ _ hw hE h.2⟩
 |fuel+1,_,_,_,_,hw,hE,hs,h=>⟨fun k=>d _ _ _ hw hE (h.1 k),fun i l=>dU hw hE hs (fun f j g b e c=>gz d fuel _ f j g b e c) (h.2 i l)⟩
def eZ(P:aho)(ops:Array Oper)(T:Option Tmp->Option Sat)(C:ahh->Prop)(o:Oper)(V:ahj->Prop)(G:ahj->(ahh->Prop)->ahh->Prop)(a:Act):Prop:=
 (Region.wanted o (yielded ops a.tmps)=true/\∃S,T o.dst=some S/\V=Has C S/\G=(fun v E w=>E w/\S.p v w)/\∀w,C w->mE P o a C w S)∨
 (Region.wanted o (yielded ops a.tmps)=true/\T o.dst=none/\eU o=true/\(G=fun _ E=>E)/\∃v,(V=fun u=>u=v)/\∀w,C w->o.quietAt P a C w v)∨
 (Region.wanted o (yielded ops a.tmps)=false/\(G=fun _ E=>E)/\V=fun v=>v=undef)
theorem eZ.has(h:eZ P ops T C o V G a)(g:∃w,C w):∃v,V v:=by
 rcases h with⟨_,S,_,rfl,_,h⟩|⟨_,_,_,_,v,rfl,_⟩|⟨_,_,rfl⟩
 .obtain⟨w,d⟩:=g
  have:=h w d;unfold mE at this;generalize(execOp a.eval o).run P w=r at*;cases r with
  |ok n b=>
   cases n<;>simp only[iy]at this
   case value u=>exact⟨u,b,this.2.1,this.1⟩
   case enter f args=>
    obtain⟨e,b,j,⟨v,_,c,i,_⟩,_⟩:=this.2 [];exact⟨v,b,i,c⟩
  |halt x b=>simp only[iy]at this
 .exact⟨v,rfl⟩
 .exact⟨_,rfl⟩
theorem eZ.comm(h:eZ P ops T C o V G a)(v:ahj)(E X:ahh->Prop):G v (fun w=>E w/\X w)=fun w=>G v E w/\X w:=by
 rcases h with⟨_,S,_,_,rfl,_⟩|⟨_,_,_,rfl,_⟩|⟨_,rfl,_⟩
 .funext w
  exact propext ⟨fun⟨⟨b,d⟩,c⟩=>⟨⟨b,c⟩,d⟩,fun⟨⟨b,c⟩,d⟩=>⟨⟨b,d⟩,c⟩⟩
 .rfl
 .rfl
theorem eZ.of_same{b:Act}(d:eZ P ops T C o V G a)(c:execOp b.eval o=execOp a.eval o)
 (e:Region.wanted o (yielded ops b.tmps)=Region.wanted o (yielded ops a.tmps)):eZ P ops T C o V G b:=by
 unfold eZ mE Oper.quietAt at*;rw[c,e];exact d
theorem eZ.lv(g:ops[i]? =some o)(e:eZ P ops T C o V G a){K:(ahh->Prop)->Act->Prop}(h:∀v,V v->K (G v E) (a.put o.dst v)):fL P ops T C i K E a:=by
 unfold fL;simp only[g];rcases e with⟨b,S,d,rfl,rfl,c⟩|⟨b,d,f,rfl,v,rfl,c⟩|⟨b,rfl,rfl⟩
 .simp only[b,if_true]
  unfold fN;simp only[d];exact⟨c,h⟩
 .simp only[b,if_true]
  unfold fN;simp only[d];exact⟨f,v,c,h v rfl⟩
 .simp only[b,Bool.false_eq_true,if_false]
  exact h _ rfl
theorem js(j:ops[i]? =some o)(h:fL P ops T C i K E a):∃V G,eZ P ops T C o V G a/\∀v,V v->K (G v E) (a.put o.dst v):=by
 unfold fL at h;simp only[j]at h;by_cases b:Region.wanted o (yielded ops a.tmps)=true
 .simp only[b,if_true]at h
  unfold fN at h;split at h
  .rename_i S e
   exact⟨_,_,.inl ⟨b,S,e,rfl,rfl,h.1⟩,h.2⟩
  .rename_i e
   obtain⟨f,v,d,g⟩:=h;exact⟨fun u=>u=v,fun _ E=>E,.inr (.inl ⟨b,e,f,rfl,v,rfl,d⟩),fun u c=>by rw[c];exact g⟩
 .simp only[b]at h
  exact⟨fun v=>v=undef,fun _ E=>E,.inr (.inr ⟨by simpa using b,rfl,rfl⟩),fun u c=>by rw[c];exact h⟩
theorem tA{j:Nat}{c d:Oper}(D:∃w,C w)(M:ops[j]? =some d)(r:c.apart ops d=true)
 (y:∀cs b,c.op≠ .select cs b) (k:∀cs b,d.op≠ .select cs b) {K:(ahh->Prop)->Act->Prop} {E:ahh->Prop} {a:Act}
 (l:eZ P ops T C c V G a) (h:∀v,V v->fL P ops T C j K (G v E) (a.put c.dst v)):
 fL P ops T C j (fun J I=>eZ P ops T C c V G I/\∀v,V v->K (G v J) (I.put c.dst v)) E a:=by
 obtain⟨p,z,B⟩:=Oper.apart_spec r;have jS:∀(a:Act),eZ P ops T C c V G a->∀u,eZ P ops T C c V G (a.put d.dst u):=fun a l u=>
  l.of_same (execOp_put c y a d.dst u B) (wanted_put c a d.dst u B)
 obtain⟨q,o⟩:=l.has D;obtain⟨w0,n⟩:=D;unfold fL at*;simp only[M]at*;have f:∀v,V v->if Region.wanted d (yielded ops a.tmps)=true then fN P T C d (G v E) (a.put c.dst v) K else K (G v E) ((a.put c.dst v).put d.dst undef):=fun v m=>by
  have:=h v m;rwa [wanted_put d a c.dst v p]at this
 split
 .rename_i s
  simp only[s,if_true]at f;unfold fN at*;cases F:T d.dst with
  |some S'=>
   simp only[F]at f⊢;refine⟨fun w i=> ?_,fun u x=>⟨jS a l u,fun v m=> ?_⟩⟩
   .have:=(f q o).1 w i
    unfold mE at*;rwa [execOp_put d k a c.dst q p]at this
   .rw[<-Act.put_comm a v u z,l.comm]
    exact(f v m).2 u x
  |none=>
   simp only[F]at f⊢;obtain⟨H,u0,t,L⟩:=f q o;have g:∀w,C w->d.quietAt P a C w u0:=fun w i=>by
    have:=t w i;unfold Oper.quietAt at*;rwa [execOp_put d k a c.dst q p]at this
   refine⟨H,u0,g,jS a l u0,fun v m=> ?_⟩;obtain⟨_,u,x,N⟩:=f v m;have A:d.quietAt P a C w0 u:=by
    have:=x w0 n;unfold Oper.quietAt at*;rwa [execOp_put d k a c.dst v p]at this
   have e:=mH H (g w0 n) A;subst e;rw[<-Act.put_comm a v u0 z];exact N
 .rename_i s
  simp only[s]at f;exact⟨jS a l _,fun v m=>by rw[<-Act.put_comm a v undef z];exact f v m⟩
theorem jw{q:Oper}(K:∃w,C w)(D:ops[i]? =some q)(l:∀(j:Nat) (o:Oper) cs b,ops[j]? =some o->o.op≠ .select cs b):
 ∀(fuel:Nat) (listed:Array Bool) (E:ahh->Prop) (a:Act),
  (∀j p,ops[j]? =some p->j≠i->listed.getD j true=false->(∀e∈p.after,Region.binds md e=true->e.on≠i)->q.apart ops p=true)->
  i∈Region.ready md ops listed->eZ P ops T C q V G a->
  (∀v,V v->fI P md ops T C Q fuel (listed.setIfInBounds i true) (G v E) (a.put q.dst v))->fI P md ops T C Q (fuel+1) listed E a:=by
 intro fuel
 induction fuel with
 |zero=>
  intro listed E a _ hr t H;refine⟨fun h=>Ki,fun j z=> ?_⟩;by_cases c:j=i
  .subst c;exact t.lv D H
  .have:=ready_mono z c
   obtain⟨v,F⟩:=t.has K;rw[(H v F).1]at this;cases this
 |succ fuel ih=>
  intro listed E a d hr t H;refine⟨fun h=>Ki,fun j z=> ?_⟩;by_cases c:j=i
  .subst c;exact t.lv D H
  .have n:=fun v F=>(H v F).2 j (ready_mono z c)
   obtain⟨g,p,m,s⟩:=mem_ready.1 z;have r:∀e∈p.after,Region.binds md e=true->e.on≠i:=fun e M R heq=>by
    have n:=s e M R;have L:=(mem_ready.1 hr).1;rw[heq]at n;rcases Nat.lt_or_ge i listed.size with I|I
    .simp[I]at L n;rw[L]at n;cases n
    .simp[Array.getElem?_eq_none I]at n
   have O:=tA K m (d j p m c g r) (fun cs b=>l i q cs b D) (fun cs b=>l j p cs b m) t n;have f:∀k u,ops[k]? =some u->k≠i->(listed.setIfInBounds j true).getD k true=false->
    (∀e∈u.after,Region.binds md e=true->e.on≠i)->q.apart ops u=true:=fun k u U A y B=>by
    refine d k u U A ?_ B;by_cases x:j=k
    .subst x;exact g
    .rw[getD_set_ne true x]at y;exact y
   refine qL (fun N S J=>ih (listed.setIfInBounds j true) N S f (ready_mono hr (Ne.symm c)) J.1 ?_) O;rw[Array.setIfInBounds_comm _ _ c];exact J.2
theorem iA{Q:(ahh->Prop)->Act->Prop}(e:∃w,C w)(d:Region.noSelect ops=true):∀(l:List Oper) (k:Nat) (listed:Array Bool) (E:ahh->Prop) (a:Act),(∀j,l[j]? =ops[k+j]?)->
 Region.lexFrom md ops l.length k listed=true->dA P ops T C Q l E a->fI P md ops T C Q l.length listed E a
 |[],_,_,_,_,_,hB,h=>⟨Xo,h⟩
 |o::l,k,listed,E,a,hl,hB,h=>by
  have h0:ops[k]? =some o:=by simpa using (hl 0).symm
  simp only[List.length_cons,Region.lexFrom,Bool.and_eq_true]at hB;obtain⟨⟨i,f⟩,b⟩:=hB;have c:fL P ops T C k (dA P ops T C Q l) E a:=abv;obtain⟨V,G,m,hK⟩:=js h0 c;exact jw e h0 (Region.noSelect_spec d) l.length listed E a (Region.free_spec h0 f) (by simpa using i) m
   (fun v g=>iA e d l (k+1) _ _ _ (fun j=>abu) b (hK v g))
theorem ba{f:Nat}{Q:Exit->Act->ahh->Prop}{l:List Oper}(T:Option Tmp->Option Sat)(g:P.follows .mixedOrders=true)(d:Region.lexB .any l.toArray=true)
 (h:dA P l.toArray T (fun b=>∃n:aG w,b=n.1) (fun E c=>∀n:aG w,E n.1->Q .normal c n.1) l (fun _=>True) a):(Code.region f l.toArray true).wp P Q a w:=by
 simp only[Region.lexB,Bool.and_eq_true]at d;have e:(fun b=>∃n:aG w,b=n.1) {w with drawn:=w.drawn+1}:=⟨⟨{w with drawn:=w.drawn+1},⟨rfl,rfl,rfl,Nat.le_refl _,fun _ _=>rfl⟩⟩,rfl⟩;refine wp_region_any g (gz (T:=T) (C:=fun b=>∃n:aG w,b=n.1) (Q:=fun E c=>∀n:aG w,E n.1->Q .normal c n.1) (fun E c b jV hE h=>QE) _ _ (fun _=>True) _ _ e trivial (fun _ _ _ _=>trivial) ?_);have:=iA (md:=.any) ⟨_,e⟩ d.1 l 0 (Array.replicate l.toArray.size false) (fun _=>True) a aQ (by simpa using d.2) h;simpa using this
theorem xA(b:Region.wanted o (yielded ops a.tmps)=false)(h:dA P ops T C Q rest E (a.put o.dst undef)):dA P ops T C Q (o::rest) E a:=by
 unfold dA;rw[if_neg (by rw[b];exact Bool.false_ne_true)];exact h
theorem fU(d:Region.wanted o (yielded ops a.tmps)=true)(b:T o.dst=none)(c:eU o=true)
 (h:∀K:Act->Prop,(∀a,dA P ops T C Q rest E a->K a)->o.quiet P a C K):dA P ops T C Q (o::rest) E a:=by
 unfold dA;rw[if_pos d];unfold fN;rw[b];exact⟨c,h _ fun _ h=>h⟩
theorem mLw{R G:Prop}(h:R)(s:R->G:=by
 intro a
 repeat(refine fU aB aB aB ?_;intro c b;go_big_quiet_op;go_big_quiet_on)
 exact a):G:=s h
theorem kD(S:Sat)(e:Region.wanted o (yielded ops a.tmps)=true)(b:T o.dst=some S)
 (c:∀w,C w->mE P o a C w S) (d:∀v,Has C S v->dA P ops T C Q rest (fun w=>E w/\S.p v w) (a.put o.dst v)):dA P ops T C Q (o::rest) E a:=by
 unfold dA;rw[if_pos e];unfold fN;rw[b];exact⟨c,d⟩
theorem lwA{P:aho}{ops:Array Oper}{w0:ahh}{T:Option Tmp->Option Sat}(S:Sat)
 (c:∀f:aG w0,mE P o a (fun b=>∃n:aG w0,b=n.1) f.1 S) (g:∀v,Has (fun b=>∃n:aG w0,b=n.1) S v->dA P ops T (fun b=>∃n:aG w0,b=n.1) Q rest (fun w=>E w/\S.p v w) (a.put o.dst v)) (d:Region.wanted o (yielded ops a.tmps)=true:=by rfl) (h:T o.dst=some S:=by rfl):dA P ops T (fun b=>∃n:aG w0,b=n.1) Q (o::rest) E a:=
 kD S d h (fun _ ⟨n,e⟩=>e▸c n) g
def Qh(ops:Array Oper)(L:Nat):Bool:=(List.range L).all fun i=>((ops[L]?).map (·.after.any fun e=>Region.binds .any e&&e.on==i)).getD false
theorem xO{L:Nat}(H:backward ops=true)(X:L+1=ops.size)(S:Qh ops L=true)
 (N:∀E a w,C w->E w->Q E a->wpOp P ops Q' L (fun a w=>Q' .normal a w) a w):∀(fuel:Nat) (listed:Array Bool) (E:ahh->Prop) (a:Act) (w:ahh),C w->E w->nD E->listed.size=ops.size->listed.getD L true=false->
 fI P .any ops T C Q fuel (listed.setIfInBounds L true) E a->wpAny P .any ops Q' (fuel+1) listed a w:=by
 have fin:∀(fuel:Nat) (listed:Array Bool) (a:Act) (w:ahh),listed.size=ops.size->listed.getD L true=false->Region.ready .any ops (listed.setIfInBounds L true)=[]->wpOp P ops Q' L (fun a w=>Q' .normal a w) a w->wpAny P .any ops Q' (fuel+1) listed a w:=by
  intro fuel listed a w hs hl c V;have all:=dX H oP c;refine⟨fun F=> ?_,fun i d=> ?_⟩
  .exfalso
   have:=dX H hs F L ak;rw[Array.getD_eq_getD_getElem?,Array.getElem?_eq_getElem ak]at this hl;simp at this hl;rw[this]at hl;cases hl
  .obtain⟨s,o,G,_⟩:=mem_ready.1 d
   have B:=(Array.getElem?_eq_some_iff.1 G).1;obtain rfl:i=L:=by
    rcases Nat.decEq i L with h|h
    .exfalso
     have t:=all i B;rw[getD_set_ne false (Ne.symm h)]at t;rw[Array.getD_eq_getD_getElem?,Array.getElem?_eq_getElem ak]at t s;simp at t s;rw[t]at s;cases s
    .exact h
   refine wpOp_mono (fun O K v=> ?_) V;cases fuel with
   |zero=>exact⟨c,v⟩
   |succ f=>exact⟨fun _=>v,fun j M=>by rw[c]at M;cases M⟩
 intro fuel
 induction fuel with
 |zero=>intro listed E a w r x q hs hl h;exact fin 0 listed a w hs hl h.1 (N _ _ _ r x h.2)
 |succ fuel ih=>
  intro listed E a w r x q hs hl h;cases c:Region.ready .any ops (listed.setIfInBounds L true)with
  |nil=>exact fin (fuel+1) listed a w hs hl c (N _ _ _ r x (h.1 c))
  |cons i0 rest=>
   have F:i0∈Region.ready .any ops (listed.setIfInBounds L true):=by rw[c];simp
   obtain⟨m,Y,D,_⟩:=mem_ready.1 F;have l:=(Array.getElem?_eq_some_iff.1 D).1;have n:i0≠L:=fun e=>by
    subst e;simp[hs,l]at m
   have b:listed.getD i0 true=false:=(by rwa [getD_set_ne true (Ne.symm n)]at m);have A:∀i∈Region.ready .any ops listed,i≠L:=fun i d e=>by
    subst e;obtain⟨_,o,G,g⟩:=mem_ready.1 d;have z:=(List.all_eq_true.1 S) i0 (List.mem_range.2 ak);rw[G]at z;simp only[Option.map_some,Option.getD_some,Array.any_eq_true]at z;obtain⟨k,W,I⟩:=z;rw[Bool.and_eq_true]at I;have u:=g _ (Array.getElem_mem W) I.1;rw[show(o.after[k]).on=i0 by simpa using I.2]at u;rw[Array.getD_eq_getD_getElem?,Array.getElem?_eq_getElem ak]at u b;simp at u b;rw[u]at b;cases b
   refine⟨fun U=> ?_,fun i d=> ?_⟩
   .exfalso
    have:=dX H hs U i0 l;rw[Array.getD_eq_getD_getElem?,Array.getElem?_eq_getElem ak]at this b;simp at this b;rw[this]at b;cases b
   .have dY:=A i d
    refine dU r x q (fun R O K y J p v=>ih _ R O K y J p oP WW ?_) (h.2 i (ready_mono d dY));rw[Array.setIfInBounds_comm _ _ dY];exact v
theorem iQ{Q:(ahh->Prop)->Act->Prop}(e:∃w,C w)(d:Region.noSelect ops=true):∀(l:List Oper) (k:Nat) (listed:Array Bool) (E:ahh->Prop) (a:Act),(∀j,j<l.length->l[j]? =ops[k+j]?)->
 Region.lexFrom md ops l.length k listed=true->dA P ops T C Q l E a->fI P md ops T C Q l.length listed E a
 |[],_,_,_,_,_,hB,h=>⟨Xo,h⟩
 |o::l,k,listed,E,a,hl,hB,h=>by
  have h0:ops[k]? =some o:=by simpa using (hl 0 (by simp)).symm
  simp only[List.length_cons,Region.lexFrom,Bool.and_eq_true]at hB;obtain⟨⟨i,f⟩,b⟩:=hB;have c:fL P ops T C k (dA P ops T C Q l) E a:=abv;obtain⟨V,G,m,hK⟩:=js h0 c;exact jw e h0 (Region.noSelect_spec d) l.length listed E a (Region.free_spec h0 f) (by simpa using i) m
   (fun v g=>iQ e d l (k+1) _ _ _ (fun j n=>by have:=hl (j+1) (by simp;omega);simpa[Nat.add_assoc,Nat.add_comm 1 j]using this) b (hK v g))
theorem uB{t:Nat}{Q:Exit->Act->ahh->Prop}{l:List Oper}{lo:List Oper}(T:Option Tmp->Option Sat)(L:Nat)(c:lo=l++[o])(hlen:l.length=L)(u:P.follows .mixedOrders=true)
 (q:Region.noSelect lo.toArray=true) (z:backward lo.toArray=true) (r:Qh lo.toArray L=true) (y:Region.lexFrom .any lo.toArray L 0 ((Array.replicate lo.length false).setIfInBounds L true)=true) (hg:o.guard=none)
 (h:dA P lo.toArray T (fun d=>∃n:aG w,d=n.1) (fun E p=>∀n:aG w,E n.1->o.wp P p n.1 (fun i f=>Q .normal i f) Q) l (fun _=>True) a):(Code.region t lo.toArray true).wp P Q a w:=by
 have k:(fun d=>∃n:aG w,d=n.1) {w with drawn:=w.drawn+1}:=⟨⟨{w with drawn:=w.drawn+1},⟨rfl,rfl,rfl,Nat.le_refl _,fun _ _=>rfl⟩⟩,rfl⟩;have b:lo.length=L+1:=by rw[c];simp[hlen]
 have g:lo.toArray[L]? =some o:=by rw[c,<-hlen];simp
 refine wp_region_any u ?_;have m:=iQ (md:=.any) ⟨_,k⟩ q l 0 ((Array.replicate lo.length false).setIfInBounds L true) (fun _=>True) a (fun j s=>by
  rw[c];simp[List.getElem?_append_left s]) (by rw[hlen];exact y) h
 rw[hlen]at m;have v:=xO (C:=fun d=>∃n:aG w,d=n.1) (Q':=Q) (L:=L) z (by simp[b]) r (fun E p d e A x=>by
  obtain⟨n,rfl⟩:=e;unfold wpOp;simp only[g];rw[if_pos Ig];exact .inl (x n A)) L (Array.replicate lo.length false) (fun _=>True) a {w with drawn:=w.drawn+1} k trivial (fun _ _ _ _=>trivial) aQ (by simp[b]) m
 simpa[b]using v
end
section
variable{P:aho}{ops:Array Oper}{Q:Exit -> Act -> ahh -> Prop}
def fB(ops:Array Oper):Bool:=(List.range ops.size).all fun i=>((ops[i]?).map (·.after.all fun e=> !Region.binds .any e||decide (e.on<i))).getD true
theorem gi(g:fB ops=true)(m:listed.size=ops.size)(h:Region.ready .any ops listed=[]):∀i,i<ops.size->listed.getD i false=true:=by
 intro i
 induction i using Nat.strongRecOn with
 |_ i ih=>
  intro c;cases d:listed.getD i false with
  |true=>rfl
  |false=>
   exfalso;have f:i∈Region.ready .any ops listed:=by
    unfold Region.ready;rw[List.mem_filter];refine⟨List.mem_range.2 c, ?_⟩;have l:listed.getD i true=false:=by
     rw[Array.getD_eq_getD_getElem?]at d⊢;rw[Array.getElem?_eq_getElem ak]at d⊢;exact d
    rw[l,Array.getElem?_eq_getElem c];simp only[Bool.not_false,Bool.true_and,Option.map_some,Option.getD_some];rw[Array.all_eq_true];intro j k;have a:=(List.all_eq_true.1 g) i (List.mem_range.2 c);rw[Array.getElem?_eq_getElem c]at a;simp only[Option.map_some,Option.getD_some]at a;rw[Array.all_eq_true]at a;have aK:=a j k;cases e:Region.binds .any ((ops[i].after)[j])with
    |false=>simp
    |true=>
     rw[e]at aK;have b:((ops[i].after)[j]).on<i:=Fe;rw[ih _ b ak];simp
   rw[h]at f;cases f
theorem M9(A:fB ops=true)(I:(Nat->Bool)->Act->ahh->Prop)
 (f:∀i o L a w,ops[i]? =some o->L i=false->o.after.all (fun e=> !Region.binds .any e||L e.on)=true->I L a w->wpOp P ops Q i (I (fun k=>k==i||L k)) a w)
 (d:∀L a w,(∀i,i<ops.size->L i=true)->I L a w->Q .normal a w):
 ∀(fuel:Nat) (listed:Array Bool) (a:Act) (w:ahh),listed.size=ops.size->listed.toList.count false<=fuel->I (fun k=>listed.getD k false) a w->wpAny P .any ops Q fuel listed a w:=by
 intro fuel
 induction fuel with
 |zero=>
  intro listed a w hs v n;have c:∀i,i<ops.size->listed.getD i false=true:=fun i m=>by
   rw[Array.getD_eq_getD_getElem?,Array.getElem?_eq_getElem ak];cases t:listed[i]with
   |true=>rfl
   |false=>
    exfalso;have:false∈listed.toList:=by rw[<-t];simp
    have:=List.count_pos_iff.2 this;omega
  refine⟨?_,d _ a w c n⟩;unfold Region.ready;rw[List.filter_eq_nil_iff];intro i m;have r:=c i (List.mem_range.1 m);have x:listed.getD i true=true:=by
   have y:=List.mem_range.1 m;rw[Array.getD_eq_getD_getElem?,Array.getElem?_eq_getElem ak]at r⊢;exact r
  rw[x];simp
 |succ fuel ih=>
  intro listed a w hs v n;refine⟨fun l=>d _ a w (gi A hs l) n,fun i m=> ?_⟩;have l:=m;unfold Region.ready at l;rw[List.mem_filter]at l;obtain⟨p,b⟩:=l;have j:=List.mem_range.1 p;rw[Bool.and_eq_true]at b;obtain⟨b,g⟩:=b;have h:listed[i]' ak=false:=by
   rw[Array.getD_eq_getD_getElem?,Array.getElem?_eq_getElem ak]at b;simpa using b
  have s:listed.getD i false=false:=by
   rw[Array.getD_eq_getD_getElem?,Array.getElem?_eq_getElem ak,h];rfl
  rw[Array.getElem?_eq_getElem j]at g;simp only[Option.map_some,Option.getD_some]at g;have q:=f i ops[i] (fun k=>listed.getD k false) a w (Array.getElem?_eq_getElem j) s g n;refine wpOp_mono (fun B u z=>ih _ B u oP ?_ ?_) q
  .have:=count_set listed.toList i (by rw[Array.getElem?_toList,Array.getElem?_eq_getElem ak,h])
   rw[Array.toList_setIfInBounds];omega
  .rw[JA ak]
   exact z
theorem jO{f:Nat}(g:P.follows .mixedOrders=true)(d:fB ops=true)(I:(Nat->Bool)->Act->ahh->Prop)(h:I (fun _=>false) a w.drew)
 (b:∀i o L a w,ops[i]? =some o->L i=false->o.after.all (fun e=> !Region.binds .any e||L e.on)=true->I L a w->wpOp P ops Q i (I (fun k=>k==i||L k)) a w)
 (c:∀L a w,(∀i,i<ops.size->L i=true)->I L a w->Q .normal a w):(Code.region f ops true).wp P Q a w:=by
 refine wp_region_any g ?_;refine M9 d I b c ops.size _ a _ aQ ?_ ?_
 .rw[Array.toList_replicate,List.count_replicate]
  simp
 .have:(fun k=>(Array.replicate ops.size false).getD k false)=fun _=>false:=by
   funext k;rw[Array.getD_eq_getD_getElem?,Array.getElem?_replicate];split<;>rfl
  rw[this];exact h
end
end Go.Proofs.YtklncadpkniojaaGreatDoor
