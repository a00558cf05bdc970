/- Part of LineBoxes. -/
import Derived.Test.YtpidckelbgbbkaaGreatDoorAd
import Derived.RegionTactic
namespace Go.Proofs.YtpidckelbgbbkaaGreatDoor
open Go.ChangeShapes Go.WideShapes Go.ChangeAt Go.RowKit
set_option linter.all false
set_option maxRecDepth 100000
set_option maxHeartbeats 16000000
variable{a:Act}{i:Nat}{o:Oper}{E:World->Prop}{K Q:(World->Prop)->Act->Prop}{Q':Exit->Act->World->Prop}{w:World}{V:Value->Prop}{G:Value->(World->Prop)->World->Prop}{rest:List Oper}
theorem count_set:∀(l:List Bool) (i:Nat),l[i]? =some false->(l.set i true).count false+1=l.count false
 |[],i,h=>by simp at h
 |b::l,0,h=>by
  simp at h;subst h;simp
 |b::l,i+1,h=>by
  have:=count_set l i wT;simp only[List.set_cons_succ,List.count_cons];omega
section
variable {P : Program} {ops : Array Oper} {Q : Exit -> Act -> World -> Prop}
def backward(ops:Array Oper):Bool:=(List.range ops.size).all fun i=>((ops[i]?).map (·.after.all fun e=>decide (e.on<i))).getD true
theorem ed{a:Array Bool}(h:backward ops=true)(m:a.size=ops.size)(g:Region.ready .any ops a=[]):∀i,i<ops.size->a.getD i false=true:=by
 intro i
 induction i using Nat.strongRecOn with
 |_ i ih=>
  intro d;cases e:a.getD i false with
  |true=>rfl
  |false=>
   exfalso;have f:i∈Region.ready .any ops a:=by
    unfold Region.ready;rw[List.mem_filter];refine⟨List.mem_range.2 d, ?_⟩;have l:a.getD i true=false:=by
     rw[Array.getD_eq_getD_getElem?]at e⊢;rw[Array.getElem?_eq_getElem aq]at e⊢;exact e
    rw[l,Array.getElem?_eq_getElem d];simp only[Bool.not_false,Bool.true_and,Option.map_some,Option.getD_some];rw[Array.all_eq_true];intro j k;have b:=(List.all_eq_true.1 h) i (List.mem_range.2 d);rw[Array.getElem?_eq_getElem d]at b;simp only[Option.map_some,Option.getD_some]at b;rw[Array.all_eq_true]at b;have aH:=b j k;have c:((ops[i].after)[j]).on<i:=Ew;rw[ih _ c aq];simp
   rw[g]at f;cases f
theorem JC{a:Array Bool}(b:i<a.size):(fun k=>(a.setIfInBounds i true).getD k false)=fun k=>k==i||a.getD k false:=by
 funext k;rw[Array.getD_eq_getD_getElem?,Array.getD_eq_getD_getElem?,Array.getElem?_setIfInBounds];by_cases h:i=k
 ·subst h
  simp[b]
 ·have c:(k==i)=false:=by simpa using Ne.symm h
  rw[if_neg h,c,Bool.false_or]
end
structure Sat where
 p:Value->World->Prop
 st:∀v w w',p v w->aA w w'->p v w'
section
variable {P : Program} {ops : Array Oper} {md : Region.Mode} {C : World -> Prop} {T : Option Tmp -> Option Sat}
def iB(P:Program)(C:World->Prop)(w:World)(S:Sat):Result Next->Prop
 | .ok (.value u) w'=>S.p u w'/\C w'/\aA w w'
 | .ok (.enter f args) w'=>w'=w/\Calls P f args w (fun e a=>∃v,e= .returned v/\S.p v a/\C a/\aA w a)
 |_=>False
attribute [go_sem] iB
@[go_sem] def mh(P : Program)(o : Oper)(a : Act)(C : World -> Prop)(w : World)(S : Sat) : Prop := iB P C w S ((execOp a.eval o).run P w)
def Has(C:World->Prop)(S:Sat)(v:Value):Prop:=∃w,C w/\S.p v w
def fU(P:Program)(T:Option Tmp->Option Sat)(C:World->Prop)(o:Oper)(E:World->Prop)(a:Act)(K:(World->Prop)->Act->Prop):Prop:=
 match T o.dst with
 |some S=>(∀w,C w->mh P o a C w S)/\∀v,Has C S v->K (fun w=>E w/\S.p v w) (a.put o.dst v)
 |none=>eW o=true/\o.quiet P a C (K E)
def dh(P:Program)(ops:Array Oper)(T:Option Tmp->Option Sat)(C:World->Prop)(Q:(World->Prop)->Act->Prop):List Oper->(World->Prop)->Act->Prop
 |[],E,a=>Q E a
 |o::rest,E,a=>if Region.wanted o (yielded ops a.tmps)then fU P T C o E a (dh P ops T C Q rest)else dh P ops T C Q rest E (a.put o.dst undef)
def fX(P:Program)(ops:Array Oper)(T:Option Tmp->Option Sat)(C:World->Prop)(i:Nat)(K:(World->Prop)->Act->Prop)(E:World->Prop)(a:Act):Prop:=
 match ops[i]? with
 |none=>K E a
 |some o=>if Region.wanted o (yielded ops a.tmps)then fU P T C o E a K else K E (a.put o.dst undef)
theorem nh{c:(World->Prop)->Act->Prop}(h:∀E a,K E a->c E a)(b:fU P T C o E a K):fU P T C o E a c:=by
 unfold fU at*;split
 ·rename_i S e
  rw[e]at b;exact⟨b.1,fun v d=>h _ _ (b.2 v d)⟩
 ·rename_i e
  rw[e]at b;exact⟨b.1,Oper.quiet_mono (h E) b.2⟩
theorem pV{d:(World->Prop)->Act->Prop}(h:∀E a,K E a->d E a)(b:fX P ops T C i K E a):fX P ops T C i d E a:=by
 unfold fX at*;split
 ·exact h _ _ (by simpa[*]using b)
 ·rename_i o e
  simp only[e]at b;split
  ·rename_i c;simp only[c,if_true]at b;exact nh h b
  ·rename_i c;simp only[c]at b;exact h _ _ b
def fQ(P:Program)(md:Region.Mode)(ops:Array Oper)(T:Option Tmp->Option Sat)(C:World->Prop)(Q:(World->Prop)->Act->Prop):Nat->Array Bool->(World->Prop)->Act->Prop
 |0,az,E,a=>Region.ready md ops az=[]/\Q E a
 |fuel+1,az,E,a=>
  (Region.ready md ops az=[]->Q E a)/\
  ∀i∈Region.ready md ops az,fX P ops T C i (fQ P md ops T C Q fuel (az.setIfInBounds i true)) E a
def nx(E:World->Prop):Prop:=∀w a,E w->aA w a->E a
theorem oH{y:Act->World->Prop}(m:C w)(l:E w)(i:nx E)(h:∀E a d,C d->E d->nx E->K E a->y a d)(p:fU P T C o E a K):o.wp P a w y Q':=by
 unfold fU at p;split at p
 ·obtain⟨s,k⟩:=p
  have b:=s w m;unfold mh at b;unfold Oper.wp;generalize(execOp a.eval o).run P w=r at*;cases r with
  |ok n d=>
   cases n<;>simp only[iB]at b<;>simp only[Oper.upon]
   case value u=>
    rename_i S e;exact h (fun w=>E w/\S.p u w) _ _ b.2.1 ⟨i _ _ l b.2.2,b.1⟩ (fun u B j g=>⟨i _ _ j.1 g,S.st _ _ _ j.2 g⟩) (k _ ⟨_,b.2.1,b.1⟩)
   case enter f args=>
    rename_i S e;rw[b.1];refine b.2.mono fun e D ⟨v,A,t,c,g⟩=> ?_;subst A;exact h (fun w=>E w/\S.p v w) _ _ c ⟨i _ _ l g,t⟩ (fun u B j g=>⟨i _ _ j.1 g,S.st _ _ _ j.2 g⟩) (k _ ⟨_,c,t⟩)
  |halt x d=>simp only[iB]at b
 ·obtain⟨z,v,s,k⟩:=p
  have b:=s w m;unfold Oper.quietAt at b;unfold Oper.wp;have q:=ki (P:=P) z a.eval w;generalize(execOp a.eval o).run P w=r at*;cases r with
  |ok n d=>
   cases n<;>simp only[Oper.quietUpon]at b<;>simp only[Oper.upon]
   case value u=>rw[b.1,b.2];exact h _ _ _ m l i k
   case skip=>rw[b.1,<-b.2];exact h _ _ _ m l i k
   case enter f args=>exact absurd rfl (q f args d)
  |halt x d=>simp only[Oper.quietUpon]at b
theorem dV{k:Act->World->Prop}(d:C w)(c:E w)(e:nx E)(h:∀E a g,C g->E g->nx E->K E a->k a g)(b:fX P ops T C i K E a):wpOp P ops Q' i k a w:=by
 unfold fX at b;unfold wpOp;split
 ·rename_i j;simp only[j]at b;exact h _ _ _ d c e b
 ·rename_i o j
  simp only[j]at b;split
  ·rename_i f;simp only[f,if_true]at b;exact .inl (oH d c e h b)
  ·rename_i f;simp only[f]at b;exact h _ _ _ d c e b
theorem gJ{Q:(World->Prop)->Act->Prop}{Q':Exit->Act->World->Prop}(f:∀E a w,C w->E w->Q E a->Q' .normal a w):∀(fuel:Nat) (b:Array Bool) (E:World->Prop) (a:Act) (w:World),C w->E w->nx E->
 fQ P md ops T C Q fuel b E a->wpAny P md ops Q' fuel b a w
 |0,_,_,_,_,hw,hE,_,h=>⟨h.1,f _ _ _ hw hE h.2⟩
 |fuel+1,_,_,_,_,hw,hE,hs,h=>⟨fun j=>f _ _ _ hw hE (h.1 j),fun i l=>dV hw hE hs (fun g m k d c e=>gJ f fuel _ g m k d c e) (h.2 i l)⟩
def fb(P:Program)(ops:Array Oper)(T:Option Tmp->Option Sat)(C:World->Prop)(o:Oper)(V:Value->Prop)(G:Value->(World->Prop)->World->Prop)(a:Act):Prop:=
 (Region.wanted o (yielded ops a.tmps)=true/\∃S,T o.dst=some S/\V=Has C S/\G=(fun v E w=>E w/\S.p v w)/\∀w,C w->mh P o a C w S)∨
 (Region.wanted o (yielded ops a.tmps)=true/\T o.dst=none/\eW o=true/\(G=fun _ E=>E)/\∃v,(V=fun u=>u=v)/\∀w,C w->o.quietAt P a C w v)∨
 (Region.wanted o (yielded ops a.tmps)=false/\(G=fun _ E=>E)/\V=fun v=>v=undef)
theorem fb.has(h:fb P ops T C o V G a)(c:∃w,C w):∃v,V v:=by
 rcases h with⟨_,S,_,rfl,_,h⟩|⟨_,_,_,_,v,rfl,_⟩|⟨_,_,rfl⟩
 ·obtain⟨w,i⟩:=c
  have:=h w i;unfold mh at this;generalize(execOp a.eval o).run P w=r at*;cases r with
  |ok n b=>
   cases n<;>simp only[iB]at this
   case value u=>exact⟨u,b,this.2.1,this.1⟩
   case enter f args=>
    obtain⟨e,b,j,⟨v,_,g,d,_⟩,_⟩:=this.2 [];exact⟨v,b,d,g⟩
  |halt x b=>simp only[iB]at this
 ·exact⟨v,rfl⟩
 ·exact⟨_,rfl⟩
theorem fb.comm(h:fb P ops T C o V G a)(v:Value)(E X:World->Prop):G v (fun w=>E w/\X w)=fun w=>G v E w/\X w:=by
 rcases h with⟨_,S,_,_,rfl,_⟩|⟨_,_,_,rfl,_⟩|⟨_,rfl,_⟩
 ·funext w
  exact propext ⟨fun⟨⟨c,d⟩,b⟩=>⟨⟨c,b⟩,d⟩,fun⟨⟨c,b⟩,d⟩=>⟨⟨c,d⟩,b⟩⟩
 ·rfl
 ·rfl
theorem fb.of_same{b:Act}(c:fb P ops T C o V G a)(d:execOp b.eval o=execOp a.eval o)
 (e:Region.wanted o (yielded ops b.tmps)=Region.wanted o (yielded ops a.tmps)):fb P ops T C o V G b:=by
 unfold fb mh Oper.quietAt at*;rw[d,e];exact c
theorem fb.lv(f:ops[i]? =some o)(g:fb P ops T C o V G a){K:(World->Prop)->Act->Prop}(h:∀v,V v->K (G v E) (a.put o.dst v)):fX P ops T C i K E a:=by
 unfold fX;simp only[f];rcases g with⟨b,S,d,rfl,rfl,c⟩|⟨b,d,e,rfl,v,rfl,c⟩|⟨b,rfl,rfl⟩
 ·simp only[b,if_true]
  unfold fU;simp only[d];exact⟨c,h⟩
 ·simp only[b,if_true]
  unfold fU;simp only[d];exact⟨e,v,c,h v rfl⟩
 ·simp only[b,Bool.false_eq_true,if_false]
  exact h _ rfl
theorem js(f:ops[i]? =some o)(h:fX P ops T C i K E a):∃V G,fb P ops T C o V G a/\∀v,V v->K (G v E) (a.put o.dst v):=by
 unfold fX at h;simp only[f]at h;by_cases b:Region.wanted o (yielded ops a.tmps)=true
 ·simp only[b,if_true]at h
  unfold fU at h;split at h
  ·rename_i S e
   exact⟨_,_, .inl ⟨b,S,e,rfl,rfl,h.1⟩,h.2⟩
  ·rename_i e
   obtain⟨d,v,g,j⟩:=h;exact⟨fun u=>u=v,fun _ E=>E, .inr (.inl ⟨b,e,d,rfl,v,rfl,g⟩),fun u c=>by rw[c];exact j⟩
 ·simp only[b]at h
  exact⟨fun v=>v=undef,fun _ E=>E, .inr (.inr ⟨by simpa using b,rfl,rfl⟩),fun u c=>by rw[c];exact h⟩
theorem tj{j:Nat}{c d:Oper}(B:∃w,C w)(N:ops[j]? =some d)(z:c.apart ops d=true)
 (r:∀cs b,c.op≠ .select cs b) (k:∀cs b,d.op≠ .select cs b) {K:(World->Prop)->Act->Prop} {E:World->Prop} {a:Act}
 (i:fb P ops T C c V G a) (h:∀v,V v->fX P ops T C j K (G v E) (a.put c.dst v)):
 fX P ops T C j (fun J I=>fb P ops T C c V G I/\∀v,V v->K (G v J) (I.put c.dst v)) E a:=by
 obtain⟨q,x,H⟩:=Oper.apart_spec z;have mC:∀(a:Act),fb P ops T C c V G a->∀u,fb P ops T C c V G (a.put d.dst u):=fun a i u=>
  i.of_same (execOp_put c r a d.dst u H) (wanted_put c a d.dst u H)
 obtain⟨p,o⟩:=i.has B;obtain⟨w0,n⟩:=B;unfold fX at*;simp only[N]at*;have f:∀v,V v->if Region.wanted d (yielded ops a.tmps)=true then fU P T C d (G v E) (a.put c.dst v) K else K (G v E) ((a.put c.dst v).put d.dst undef):=fun v l=>by
  have:=h v l;rwa [wanted_put d a c.dst v q]at this
 split
 ·rename_i A
  simp only[A,if_true]at f;unfold fU at*;cases F:T d.dst with
  |some S'=>
   simp only[F]at f⊢;refine⟨fun w m=> ?_,fun u t=>⟨mC a i u,fun v l=> ?_⟩⟩
   ·have:=(f p o).1 w m
    unfold mh at*;rwa [execOp_put d k a c.dst p q]at this
   ·rw[<-Act.put_comm a v u x,i.comm]
    exact(f v l).2 u t
  |none=>
   simp only[F]at f⊢;obtain⟨D,u0,s,L⟩:=f p o;have g:∀w,C w->d.quietAt P a C w u0:=fun w m=>by
    have:=s w m;unfold Oper.quietAt at*;rwa [execOp_put d k a c.dst p q]at this
   refine⟨D,u0,g,mC a i u0,fun v l=> ?_⟩;obtain⟨_,u,t,M⟩:=f v l;have y:d.quietAt P a C w0 u:=by
    have:=t w0 n;unfold Oper.quietAt at*;rwa [execOp_put d k a c.dst v q]at this
   have e:=mG D (g w0 n) y;subst e;rw[<-Act.put_comm a v u0 x];exact M
 ·rename_i A
  simp only[A]at f;exact⟨mC a i _,fun v l=>by rw[<-Act.put_comm a v undef x];exact f v l⟩
theorem jk{r:Oper}(K:∃w,C w)(J:ops[i]? =some r)(l:∀(j:Nat) (o:Oper) cs b,ops[j]? =some o->o.op≠ .select cs b):
 ∀(fuel:Nat) (c:Array Bool) (E:World->Prop) (a:Act),
  (∀j p,ops[j]? =some p->j≠i->c.getD j true=false->(∀e∈p.after,Region.binds md e=true->e.on≠i)->r.apart ops p=true)->
  i∈Region.ready md ops c->fb P ops T C r V G a->
  (∀v,V v->fQ P md ops T C Q fuel (c.setIfInBounds i true) (G v E) (a.put r.dst v))->fQ P md ops T C Q (fuel+1) c E a:=by
 intro fuel
 induction fuel with
 |zero=>
  intro c E a _ hr y H;refine⟨fun h=>JG,fun j A=> ?_⟩;by_cases d:j=i
  ·subst d;exact y.lv J H
  ·have:=ready_mono A d
   obtain⟨v,D⟩:=y.has K;rw[(H v D).1]at this;cases this
 |succ fuel ih=>
  intro c E a f hr y H;refine⟨fun h=>JG,fun j A=> ?_⟩;by_cases d:j=i
  ·subst d;exact y.lv J H
  ·have q:=fun v D=>(H v D).2 j (ready_mono A d)
   obtain⟨m,p,n,z⟩:=mem_ready.1 A;have t:∀e∈p.after,Region.binds md e=true->e.on≠i:=fun e O U heq=>by
    have q:=z e O U;have L:=(mem_ready.1 hr).1;rw[heq]at q;rcases Nat.lt_or_ge i c.size with I|I
    ·simp[I]at L q;rw[L]at q;cases q
    ·simp[Array.getElem?_eq_none I]at q
   have R:=tj K n (f j p n d m t) (fun cs b=>l i r cs b J) (fun cs b=>l j p cs b n) y q;have g:∀k x,ops[k]? =some x->k≠i->(c.setIfInBounds j true).getD k true=false->
    (∀e∈x.after,Region.binds md e=true->e.on≠i)->r.apart ops x=true:=fun k x S B s F=>by
    refine f k x S B ?_ F;by_cases u:j=k
    ·subst u;exact m
    ·rw[getD_set_ne true u]at s;exact s
   refine pV (fun N W M=>ih (c.setIfInBounds j true) N W g (ready_mono hr (Ne.symm d)) M.1 ?_) R;rw[Array.setIfInBounds_comm _ _ d];exact M.2
theorem iC{Q:(World->Prop)->Act->Prop}(e:∃w,C w)(f:Region.noSelect ops=true):∀(l:List Oper) (k:Nat) (b:Array Bool) (E:World->Prop) (a:Act),(∀j,l[j]? =ops[k+j]?)->
 Region.lexFrom md ops l.length k b=true->dh P ops T C Q l E a->fQ P md ops T C Q l.length b E a
 |[],_,_,_,_,_,hB,h=>⟨VF,h⟩
 |o::l,k,b,E,a,hl,hB,h=>by
  have h0:ops[k]? =some o:=by simpa using (hl 0).symm
  simp only[List.length_cons,Region.lexFrom,Bool.and_eq_true]at hB;obtain⟨⟨m,i⟩,d⟩:=hB;have c:fX P ops T C k (dh P ops T C Q l) E a:=Qa;obtain⟨V,G,n,hK⟩:=js h0 c;exact jk e h0 (Region.noSelect_spec f) l.length b E a (Region.free_spec h0 i) (by simpa using m) n
   (fun v g=>iC e f l (k+1) _ _ _ (fun j=>aaD) d (hK v g))
theorem aY{f:Nat}{Q:Exit->Act->World->Prop}{l:List Oper}(T:Option Tmp->Option Sat)(g:P.follows .mixedOrders=true)(d:Region.lexB .any l.toArray=true)
 (h:dh P l.toArray T (fun b=>∃n:aI w,b=n.1) (fun E c=>∀n:aI w,E n.1->Q .normal c n.1) l (fun _=>True) a):(Code.region f l.toArray true).wp P Q a w:=by
 simp only[Region.lexB,Bool.and_eq_true]at d;have e:(fun b=>∃n:aI w,b=n.1) {w with drawn:=w.drawn+1}:=⟨⟨{w with drawn:=w.drawn+1},⟨rfl,rfl,rfl,Nat.le_refl _,fun _ _=>rfl⟩⟩,rfl⟩;refine wp_region_any g (gJ (T:=T) (C:=fun b=>∃n:aI w,b=n.1) (Q:=fun E c=>∀n:aI w,E n.1->Q .normal c n.1) (fun E c b jj hE h=>Py) _ _ (fun _=>True) _ _ e trivial (fun _ _ _ _=>trivial) ?_);have:=iC (md:= .any) ⟨_,e⟩ d.1 l 0 (Array.replicate l.toArray.size false) (fun _=>True) a aD (by simpa using d.2) h;simpa using this
theorem sO(hw:Region.wanted o (yielded ops a.tmps)=false)(h:dh P ops T C Q rest E (a.put o.dst undef)):dh P ops T C Q (o::rest) E a:=by
 unfold dh;rw[if_neg Pn];exact h
theorem bR(c:Region.wanted o (yielded ops a.tmps)=true)(d:T o.dst=none)(b:eW o=true)
 (h:∀K:Act->Prop,(∀a,dh P ops T C Q rest E a->K a)->o.quiet P a C K):dh P ops T C Q (o::rest) E a:=by
 unfold dh;rw[if_pos c];unfold fU;rw[d];exact⟨b,h _ fun _ h=>h⟩
theorem mLw{R G:Prop}(h:R)(s:R->G:=by
 intro b
 repeat(refine bR aK aK aK ?_;intro c a;go_big_quiet_op;go_big_quiet_on)
 exact b):G:=s h
theorem cG(S:Sat)(d:Region.wanted o (yielded ops a.tmps)=true)(e:T o.dst=some S)
 (b:∀w,C w->mh P o a C w S) (c:∀v,Has C S v->dh P ops T C Q rest (fun w=>E w/\S.p v w) (a.put o.dst v)):dh P ops T C Q (o::rest) E a:=by
 unfold dh;rw[if_pos d];unfold fU;rw[e];exact⟨b,c⟩
theorem lwA{P:Program}{ops:Array Oper}{w0:World}{T:Option Tmp->Option Sat}(S:Sat)
 (g:∀c:aI w0,mh P o a (fun b=>∃n:aI w0,b=n.1) c.1 S) (h:∀v,Has (fun b=>∃n:aI w0,b=n.1) S v->dh P ops T (fun b=>∃n:aI w0,b=n.1) Q rest (fun w=>E w/\S.p v w) (a.put o.dst v)) (d:Region.wanted o (yielded ops a.tmps)=true:=by rfl) (f:T o.dst=some S:=by rfl):dh P ops T (fun b=>∃n:aI w0,b=n.1) Q (o::rest) E a:=
 cG S d f (fun _ ⟨n,e⟩=>e▸g n) h
def Ny(ops:Array Oper)(L:Nat):Bool:=(List.range L).all fun i=>((ops[L]?).map (·.after.any fun e=>Region.binds .any e&&e.on==i)).getD false
theorem xZ{L:Nat}(A:backward ops=true)(Z:L+1=ops.size)(W:Ny ops L=true)
 (N:∀E a w,C w->E w->Q E a->wpOp P ops Q' L (fun a w=>Q' .normal a w) a w):∀(fuel:Nat) (b:Array Bool) (E:World->Prop) (a:Act) (w:World),C w->E w->nx E->b.size=ops.size->b.getD L true=false->
 fQ P .any ops T C Q fuel (b.setIfInBounds L true) E a->wpAny P .any ops Q' (fuel+1) b a w:=by
 have fin:∀(fuel:Nat) (b:Array Bool) (a:Act) (w:World),b.size=ops.size->b.getD L true=false->Region.ready .any ops (b.setIfInBounds L true)=[]->wpOp P ops Q' L (fun a w=>Q' .normal a w) a w->wpAny P .any ops Q' (fuel+1) b a w:=by
  intro fuel b a w hs hl d X;have all:=ed A oM d;refine⟨fun F=> ?_,fun i g=> ?_⟩
  ·exfalso
   have:=ed A hs F L aq;rw[Array.getD_eq_getD_getElem?,Array.getElem?_eq_getElem aq]at this hl;simp at this hl;rw[this]at hl;cases hl
  ·obtain⟨u,o,H,_⟩:=mem_ready.1 g
   have z:=(Array.getElem?_eq_some_iff.1 H).1;obtain rfl:i=L:=by
    rcases Nat.decEq i L with h|h
    ·exfalso
     have v:=all i z;rw[getD_set_ne false (Ne.symm h)]at v;rw[Array.getD_eq_getD_getElem?,Array.getElem?_eq_getElem aq]at v u;simp at v u;rw[v]at u;cases u
    ·exact h
   refine wpOp_mono (fun R M y=> ?_) X;cases fuel with
   |zero=>exact⟨d,y⟩
   |succ f=>exact⟨fun _=>y,fun j O=>by rw[d]at O;cases O⟩
 intro fuel
 induction fuel with
 |zero=>intro b E a w x s q hs hl h;exact fin 0 b a w hs hl h.1 (N _ _ _ x s h.2)
 |succ fuel ih=>
  intro b E a w x s q hs hl h;cases d:Region.ready .any ops (b.setIfInBounds L true)with
  |nil=>exact fin (fuel+1) b a w hs hl d (N _ _ _ x s (h.1 d))
  |cons i0 rest=>
   have F:i0∈Region.ready .any ops (b.setIfInBounds L true):=by rw[d];simp
   obtain⟨m,Y,J,_⟩:=mem_ready.1 F;have n:=(Array.getElem?_eq_some_iff.1 J).1;have r:i0≠L:=fun e=>by
    subst e;simp[hs,n]at m
   have c:b.getD i0 true=false:=(by rwa [getD_set_ne true (Ne.symm r)]at m);have D:∀i∈Region.ready .any ops b,i≠L:=fun i g e=>by
    subst e;obtain⟨_,o,H,p⟩:=mem_ready.1 g;have I:=(List.all_eq_true.1 W) i0 (List.mem_range.2 aq);rw[H]at I;simp only[Option.map_some,Option.getD_some,Array.any_eq_true]at I;obtain⟨k,V,K⟩:=I;rw[Bool.and_eq_true]at K;have t:=p _ (Array.getElem_mem V) K.1;rw[show(o.after[k]).on=i0 by simpa using K.2]at t;rw[Array.getD_eq_getD_getElem?,Array.getElem?_eq_getElem aq]at t c;simp at t c;rw[t]at c;cases c
   refine⟨fun U=> ?_,fun i g=> ?_⟩
   ·exfalso
    have:=ed A hs U i0 n;rw[Array.getD_eq_getD_getElem?,Array.getElem?_eq_getElem aq]at this c;simp at this c;rw[this]at c;cases c
   ·have dX:=D i g
    refine dV x s q (fun S R M G B l y=>ih _ S R M G B l oM VO ?_) (h.2 i (ready_mono g dX));rw[Array.setIfInBounds_comm _ _ dX];exact y
theorem iR{Q:(World->Prop)->Act->Prop}(e:∃w,C w)(f:Region.noSelect ops=true):∀(l:List Oper) (k:Nat) (b:Array Bool) (E:World->Prop) (a:Act),(∀j,j<l.length->l[j]? =ops[k+j]?)->
 Region.lexFrom md ops l.length k b=true->dh P ops T C Q l E a->fQ P md ops T C Q l.length b E a
 |[],_,_,_,_,_,hB,h=>⟨VF,h⟩
 |o::l,k,b,E,a,hl,hB,h=>by
  have h0:ops[k]? =some o:=by simpa using (hl 0 (by simp)).symm
  simp only[List.length_cons,Region.lexFrom,Bool.and_eq_true]at hB;obtain⟨⟨m,i⟩,d⟩:=hB;have c:fX P ops T C k (dh P ops T C Q l) E a:=Qa;obtain⟨V,G,n,hK⟩:=js h0 c;exact jk e h0 (Region.noSelect_spec f) l.length b E a (Region.free_spec h0 i) (by simpa using m) n
   (fun v g=>iR e f l (k+1) _ _ _ (fun j p=>by have:=hl (j+1) (by simp;omega);simpa[Nat.add_assoc,Nat.add_comm 1 j]using this) d (hK v g))
theorem uk{s:Nat}{Q:Exit->Act->World->Prop}{l:List Oper}{lo:List Oper}(T:Option Tmp->Option Sat)(L:Nat)(b:lo=l++[o])(hlen:l.length=L)(A:P.follows .mixedOrders=true)
 (r:Region.noSelect lo.toArray=true) (v:backward lo.toArray=true) (u:Ny lo.toArray L=true) (z:Region.lexFrom .any lo.toArray L 0 ((Array.replicate lo.length false).setIfInBounds L true)=true) (hg:o.guard=none)
 (h:dh P lo.toArray T (fun d=>∃n:aI w,d=n.1) (fun E p=>∀n:aI w,E n.1->o.wp P p n.1 (fun e i=>Q .normal e i) Q) l (fun _=>True) a):(Code.region s lo.toArray true).wp P Q a w:=by
 have k:(fun d=>∃n:aI w,d=n.1) {w with drawn:=w.drawn+1}:=⟨⟨{w with drawn:=w.drawn+1},⟨rfl,rfl,rfl,Nat.le_refl _,fun _ _=>rfl⟩⟩,rfl⟩;have c:lo.length=L+1:=by rw[b];simp[hlen]
 have f:lo.toArray[L]? =some o:=by rw[b,<-hlen];simp
 refine wp_region_any A ?_;have m:=iR (md:= .any) ⟨_,k⟩ r l 0 ((Array.replicate lo.length false).setIfInBounds L true) (fun _=>True) a (fun j x=>by
  rw[b];simp[List.getElem?_append_left x]) (by rw[hlen];exact z) h
 rw[hlen]at m;have t:=xZ (C:=fun d=>∃n:aI w,d=n.1) (Q':=Q) (L:=L) v (by simp[c]) u (fun E p d g q y=>by
  obtain⟨n,rfl⟩:=g;unfold wpOp;simp only[f];rw[if_pos Hp];exact .inl (y n q)) L (Array.replicate lo.length false) (fun _=>True) a {w with drawn:=w.drawn+1} k trivial (fun _ _ _ _=>trivial) aD (by simp[c]) m
 simpa[c]using t
end
section
variable {P : Program} {ops : Array Oper} {Q : Exit -> Act -> World -> Prop}
def fG(ops:Array Oper):Bool:=(List.range ops.size).all fun i=>((ops[i]?).map (·.after.all fun e=> !Region.binds .any e||decide (e.on<i))).getD true
theorem gK{a:Array Bool}(k:fG ops=true)(n:a.size=ops.size)(h:Region.ready .any ops a=[]):∀i,i<ops.size->a.getD i false=true:=by
 intro i
 induction i using Nat.strongRecOn with
 |_ i ih=>
  intro d;cases e:a.getD i false with
  |true=>rfl
  |false=>
   exfalso;have g:i∈Region.ready .any ops a:=by
    unfold Region.ready;rw[List.mem_filter];refine⟨List.mem_range.2 d, ?_⟩;have m:a.getD i true=false:=by
     rw[Array.getD_eq_getD_getElem?]at e⊢;rw[Array.getElem?_eq_getElem aq]at e⊢;exact e
    rw[m,Array.getElem?_eq_getElem d];simp only[Bool.not_false,Bool.true_and,Option.map_some,Option.getD_some];rw[Array.all_eq_true];intro j l;have b:=(List.all_eq_true.1 k) i (List.mem_range.2 d);rw[Array.getElem?_eq_getElem d]at b;simp only[Option.map_some,Option.getD_some]at b;rw[Array.all_eq_true]at b;have aH:=b j l;cases f:Region.binds .any ((ops[i].after)[j])with
    |false=>simp
    |true=>
     rw[f]at aH;have c:((ops[i].after)[j]).on<i:=Ew;rw[ih _ c aq];simp
   rw[h]at g;cases g
theorem Mn(y:fG ops=true)(I:(Nat->Bool)->Act->World->Prop)
 (g:∀i o L a w,ops[i]? =some o->L i=false->o.after.all (fun e=> !Region.binds .any e||L e.on)=true->I L a w->wpOp P ops Q i (I (fun k=>k==i||L k)) a w)
 (f:∀L a w,(∀i,i<ops.size->L i=true)->I L a w->Q .normal a w):
 ∀(fuel:Nat) (b:Array Bool) (a:Act) (w:World),b.size=ops.size->b.toList.count false<=fuel->I (fun k=>b.getD k false) a w->wpAny P .any ops Q fuel b a w:=by
 intro fuel
 induction fuel with
 |zero=>
  intro b a w hs t p;have d:∀i,i<ops.size->b.getD i false=true:=fun i n=>by
   rw[Array.getD_eq_getD_getElem?,Array.getElem?_eq_getElem aq];cases z:b[i]with
   |true=>rfl
   |false=>
    exfalso;have:false∈b.toList:=by rw[<-z];simp
    have:=List.count_pos_iff.2 this;omega
  refine⟨?_,f _ a w d p⟩;unfold Region.ready;rw[List.filter_eq_nil_iff];intro i n;have s:=d i (List.mem_range.1 n);have v:b.getD i true=true:=by
   have x:=List.mem_range.1 n;rw[Array.getD_eq_getD_getElem?,Array.getElem?_eq_getElem aq]at s⊢;exact s
  rw[v];simp
 |succ fuel ih=>
  intro b a w hs t p;refine⟨fun j=>f _ a w (gK y hs j) p,fun i n=> ?_⟩;have j:=n;unfold Region.ready at j;rw[List.mem_filter]at j;obtain⟨q,c⟩:=j;have l:=List.mem_range.1 q;rw[Bool.and_eq_true]at c;obtain⟨c,h⟩:=c;have m:b[i]' aq=false:=by
   rw[Array.getD_eq_getD_getElem?,Array.getElem?_eq_getElem aq]at c;simpa using c
  have B:b.getD i false=false:=by
   rw[Array.getD_eq_getD_getElem?,Array.getElem?_eq_getElem aq,m];rfl
  rw[Array.getElem?_eq_getElem l]at h;simp only[Option.map_some,Option.getD_some]at h;have r:=g i ops[i] (fun k=>b.getD k false) a w (Array.getElem?_eq_getElem l) B h p;refine wpOp_mono (fun C u A=>ih _ C u oM ?_ ?_) r
  ·have:=count_set b.toList i (by rw[Array.getElem?_toList,Array.getElem?_eq_getElem aq,m])
   rw[Array.toList_setIfInBounds];omega
  ·rw[JC aq]
   exact A
theorem my{f:Nat}(g:P.follows .mixedOrders=true)(d:fG ops=true)(I:(Nat->Bool)->Act->World->Prop)(h:I (fun _=>false) a w.drew)
 (b:∀i o L a w,ops[i]? =some o->L i=false->o.after.all (fun e=> !Region.binds .any e||L e.on)=true->I L a w->wpOp P ops Q i (I (fun k=>k==i||L k)) a w)
 (c:∀L a w,(∀i,i<ops.size->L i=true)->I L a w->Q .normal a w):(Code.region f ops true).wp P Q a w:=by
 refine wp_region_any g ?_;refine Mn d I b c ops.size _ a _ aD ?_ ?_
 ·rw[Array.toList_replicate,List.count_replicate]
  simp
 ·have:(fun k=>(Array.replicate ops.size false).getD k false)=fun _=>false:=by
   funext k;rw[Array.getD_eq_getD_getElem?,Array.getElem?_replicate];split<;>rfl
  rw[this];exact h
end
end Go.Proofs.YtpidckelbgbbkaaGreatDoor
