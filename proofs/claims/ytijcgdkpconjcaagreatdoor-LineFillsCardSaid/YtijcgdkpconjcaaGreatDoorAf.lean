/- Part of LineFills. -/
import Derived.Test.YtijcgdkpconjcaaGreatDoorAb
import Derived.Test.YtijcgdkpconjcaaGreatDoorAe
import Derived.Deep.RegionLaw
import Derived.IntWalk
namespace Go.Proofs.YtijcgdkpconjcaaGreatDoor
open Go.ChangeShapes Go.WideShapes Go.ChangeAt Go.RowKit Go.Proofs.Tryz
open Go renaming World->EE,Value->EN,Calls->GK,TypeId->IQ,Ending->IS
open Go.RowKit renaming Below->EI
open Option renaming some->OH,none->OJ
open Bool renaming true->OX,false->OZ
open Go.Value renaming slice->Pl,bool->PF,tuple->P8,agg->Q4
open Go.Ending renaming returned->RE
open Go.Obj renaming cells->RM
open Go.Value renaming int->ae
open Go.IntKind renaming i64->aj
set_option linter.all false
set_option maxRecDepth 100000
set_option maxHeartbeats 16000000
variable{r:Int}{w:EE}{k:IntKind}{A:aB}{B c n:Nat}{l xs:aC}{e:IQ}
theorem mb{p:Prop}(h:p:=by simp[results,results63,Pr.cells,go_sem,kF,qd,sM,Fh,Ez,Dv]):p:=h
def L0:List (Int×Int×Pr):=fs0.flatMap iy
def L1:List (Int×Int×Pr):=fs1.flatMap iy
def qv:iX=L0++L1:=by kernel_rfl
def IF{M:Int}:∀(l:List (Int×Int×Pr)) (r:Int) (p:Pr),l.all (λx=>decide (x.2.1<=M))=OX->look l r=OH p->r<=M
 |[],r,p,_,h=>by simp[look]at h
 |(lo,hi,q)::l,r,p,ha,h=>by
  simp only[List.all_cons,Bool.and_eq_true,decide_eq_true_eq]at ha;simp only[look]at h;split at h
  .omega
  .exact IF l r p ha.2 h
def ZH(r:Int)(p:Pr)(h:look L0 r=OH p):r<44032:=by
 have:=IF (M:=44031) L0 r p cw h;omega
def Wa{p:Pr}(h:look L0 r=OH p):aN r=p:=by
 have:=ZH r p h;unfold aN;rw[qv,js,h];simp only[Option.some_or];rw[if_neg aq]
def VA{p:Pr}(a:look L0 r=OJ)(h:look L1 r=OH p):aN r=if 44032<=r/\r<=55203/\(r-44032)%28=0 then{p with bT:=12,xc:=33}else p:=by
 unfold aN;rw[qv,js,a,h];rfl
def WO(a:look L0 r=OJ)(h:look L1 r=OJ):aN r=Pr.rest:=by
 unfold aN;rw[qv,js,a,h];rfl
def Eg(r:Int)(p:Pr)(h:look L0 r=OH p)(w:EE):
 GK prog 139 #[.int .i32 r] w λe a=>e=RE (P8 #[Q4 #[ae aj p.jv,ae aj p.bT,ae aj p.xc,ae aj p.script,ae aj p.join,ae aj p.word,.int .i32 p.fM,.int .i32 p.pair,PF p.opens],PF OX])/\EI w.heap.size w a:=by
 have:=wg r w;rw[show fs0.flatMap iy=L0 from rfl,h]at this;exact this
def tJ(r:Int)(h:look L0 r=OJ)(w:EE):
 GK prog 139 #[.int .i32 r] w λe a=>e=RE (P8 #[Q4 #[ae aj 1,ae aj 0,ae aj 0,ae aj 0,ae aj 0,ae aj 0,.int .i32 0,.int .i32 0,PF OZ],PF OZ])/\EI w.heap.size w a:=by
 have:=wg r w;rw[show fs0.flatMap iy=L0 from rfl,h]at this;exact this
def DT(r:Int)(p:Pr)(h:look L1 r=OH p)(w:EE):
 GK prog 140 #[.int .i32 r] w λe a=>e=RE (P8 #[Q4 #[ae aj p.jv,ae aj p.bT,ae aj p.xc,ae aj p.script,ae aj p.join,ae aj p.word,.int .i32 p.fM,.int .i32 p.pair,PF p.opens],PF OX])/\EI w.heap.size w a:=by
 have:=vR r w;rw[show fs1.flatMap iy=L1 from rfl,h]at this;exact this
def Ge(r:Int)(h:look L1 r=OJ)(w:EE):
 GK prog 140 #[.int .i32 r] w λe a=>e=RE (P8 #[Q4 #[ae aj 1,ae aj 0,ae aj 0,ae aj 0,ae aj 0,ae aj 0,.int .i32 0,.int .i32 0,PF OZ],PF OZ])/\EI w.heap.size w a:=by
 have:=vR r w;rw[show fs1.flatMap iy=L1 from rfl,h]at this;exact this
def Kr(w:EE):GK prog 141 #[] w λb a=>b=RE (Q4 #[ae aj 1,ae aj 0,ae aj 0,ae aj 0,ae aj 0,ae aj 0,.int .i32 0,.int .i32 0,PF OZ])/\EI w.heap.size w a:=wV w
def adZ(r:Int)(p:Pr)(h:look L0 r=OH p)(w:EE):
 GK prog 63 #[.int .i32 r] w λe i=>e=RE (Q4 p.cells)/\EI w.heap.size w i:=by
 have k:=ZH r p h;have j:¬(44032<=r):=aq;have f:=Lib.hid (Eg r p h);go_enter func63,ntmps63;go_wp2_with (go_at_call 139;refine(f.out _).mono ?_;rintro e g ⟨rfl,a⟩;obtain⟨b,c⟩:=kt a;have d:w.heap.size<g.heap.size:=by{have:=a.size;simp only[World.size_alloc]at this;omega};simp only[World.size_alloc]at b c);refine bodyPost_ret (v:=Q4 p.cells) (by simp[results,results63,Pr.cells,go_sem,b,d]) rfl ⟨rfl, ?_⟩
 (repeat(first|(with_reducible refine Below.setCell ?_ ?_ _)|(with_reducible refine Below.alloc ?_ ?_ _)|(with_reducible exact Below.refl _ _)|(with_reducible refine Below.trans ?_ (Below.mono a ?_))|(with_reducible exact Nat.le_refl _)|omega|(simp;omega)|simp))
def aeg(r:Int)(p:Pr)(s:look L0 r=OJ)(h:look L1 r=OH p)(z: -2147483648<=r)(x:r<=2147483647)(w:EE):
 GK prog 63 #[.int .i32 r] w λe u=>e=RE (Q4 (aN r).cells)/\EI w.heap.size w u:=by
 have PR:=Lib.hid (VA s h);have o:=Lib.hid (tJ r s);have n:=Lib.hid (DT r p h);by_cases q:44032<=r/\r<=55203
 .obtain⟨l,f⟩:=q
  by_cases j:(r-44032)%28=0
  .have k:=Lib.hid (PR.out.trans (if_pos ⟨l,f,j⟩))
   have t:(((r-44032)%28:Int)==0)=OX:=(by simp[j]);have y:=Lib.hid j;go_enter func63,ntmps63;go_wp2_with (first|(go_at_call 139;refine(o.out _).mono ?_;rintro e g ⟨rfl,b⟩;obtain⟨kF,d⟩:=kt b;have qd:w.heap.size<g.heap.size:=by{have:=b.size;simp only[World.size_alloc]at this;omega};simp only[World.size_alloc]at kF d)|(go_at_call 140;refine(n.out _).mono ?_;rintro e i ⟨rfl,a⟩;obtain⟨sM,c⟩:=kt a;have Fh:g.heap.size<i.heap.size:=by{have:=a.size;simp only[World.size_alloc]at this;omega};have Ez:w.heap.size<i.heap.size:=aq;have Dv:w.heap.size<g.heap.size+1:=aq;simp only[World.size_alloc]at sM c));rw[k.out];refine bodyPost_ret (v:=Q4 (Pr.cells {p with bT:=12,xc:=33})) mb rfl ⟨rfl, ?_⟩
   (repeat(first|(with_reducible refine Below.setCell ?_ ?_ _)|(with_reducible refine Below.alloc ?_ ?_ _)|(with_reducible exact Below.refl _ _)|(with_reducible refine Below.trans ?_ (Below.mono a ?_))|(with_reducible refine Below.trans ?_ (Below.mono b ?_))|(with_reducible exact Nat.le_refl _)|omega|(simp;omega)|simp))
  .have k:=Lib.hid (PR.out.trans (if_neg (λm=>j m.2.2)))
   have t:(((r-44032)%28:Int)==0)=OZ:=(by simp[j]);have y:=Lib.hid j;go_enter func63,ntmps63;go_wp2_with (first|(go_at_call 139;refine(o.out _).mono ?_;rintro e g ⟨rfl,b⟩;obtain⟨kF,d⟩:=kt b;have qd:w.heap.size<g.heap.size:=by{have:=b.size;simp only[World.size_alloc]at this;omega};simp only[World.size_alloc]at kF d)|(go_at_call 140;refine(n.out _).mono ?_;rintro e i ⟨rfl,a⟩;obtain⟨sM,c⟩:=kt a;have Fh:g.heap.size<i.heap.size:=by{have:=a.size;simp only[World.size_alloc]at this;omega};have Ez:w.heap.size<i.heap.size:=aq;have Dv:w.heap.size<g.heap.size+1:=aq;simp only[World.size_alloc]at sM c));rw[k.out];refine bodyPost_ret (v:=Q4 p.cells) mb rfl ⟨rfl, ?_⟩
   (repeat(first|(with_reducible refine Below.setCell ?_ ?_ _)|(with_reducible refine Below.alloc ?_ ?_ _)|(with_reducible exact Below.refl _ _)|(with_reducible refine Below.trans ?_ (Below.mono a ?_))|(with_reducible refine Below.trans ?_ (Below.mono b ?_))|(with_reducible exact Nat.le_refl _)|omega|(simp;omega)|simp))
 .have k:=Lib.hid (PR.out.trans (if_neg (λm=>q ⟨m.1,m.2.1⟩)))
  by_cases l:44032<=r
  all_goals
   have f:r<44032∨55203<r:=aq;rcases f with f|f
   all_goals first
    |(exfalso;omega)
    |(go_enter func63,ntmps63
      go_wp2_with (first|(go_at_call 139;refine(o.out _).mono ?_;rintro e g ⟨rfl,b⟩;obtain⟨kF,d⟩:=kt b;have qd:w.heap.size<g.heap.size:=by{have:=b.size;simp only[World.size_alloc]at this;omega};simp only[World.size_alloc]at kF d)|(go_at_call 140;refine(n.out _).mono ?_;rintro e i ⟨rfl,a⟩;obtain⟨sM,c⟩:=kt a;have Fh:g.heap.size<i.heap.size:=by{have:=a.size;simp only[World.size_alloc]at this;omega};have Ez:w.heap.size<i.heap.size:=aq;have Dv:w.heap.size<g.heap.size+1:=aq;simp only[World.size_alloc]at sM c));rw[k.out];refine bodyPost_ret (v:=Q4 p.cells) mb rfl ⟨rfl, ?_⟩
      (repeat(first|(with_reducible refine Below.setCell ?_ ?_ _)|(with_reducible refine Below.alloc ?_ ?_ _)|(with_reducible exact Below.refl _ _)|(with_reducible refine Below.trans ?_ (Below.mono a ?_))|(with_reducible refine Below.trans ?_ (Below.mono b ?_))|(with_reducible exact Nat.le_refl _)|omega|(simp;omega)|simp)))
def adx(r:Int)(x:look L0 r=OJ)(h:look L1 r=OJ)(w:EE):
 GK prog 63 #[.int .i32 r] w λe B=>e=RE (Q4 (aN r).cells)/\EI w.heap.size w B:=by
 rw[WO x h];have z:=Lib.hid (tJ r x);have A:=Lib.hid (Ge r h);go_enter func63,ntmps63;go_wp2_with (first|(go_at_call 139;refine(z.out _).mono ?_;rintro e u ⟨rfl,b⟩;obtain⟨d,j⟩:=kt b;have k:w.heap.size<u.heap.size:=by{have:=b.size;simp only[World.size_alloc]at this;omega};simp only[World.size_alloc]at d j)|(go_at_call 140;refine(A.out _).mono ?_;rintro e t ⟨rfl,a⟩;obtain⟨g,o⟩:=kt a;have p:u.heap.size<t.heap.size:=by{have:=a.size;simp only[World.size_alloc]at this;omega};have m:w.heap.size<t.heap.size:=aq;have i:w.heap.size<u.heap.size+1:=aq;simp only[World.size_alloc]at g o)|(go_at_call 141;refine(Kr _).mono ?_;rintro e y ⟨rfl,c⟩;obtain⟨f,l⟩:=kt c;have s:t.heap.size<y.heap.size:=by{have:=c.size;simp only[World.size_alloc]at this;omega};have q:w.heap.size<y.heap.size:=aq;have n:w.heap.size<t.heap.size+1:=aq;simp only[World.size_alloc]at f l));refine bodyPost_ret (v:=Q4 (Pr.cells Pr.rest)) (by simp[results,results63,Pr.cells,Pr.rest,go_sem,d,k,g,p,m,i,f,s,q,n]) rfl ⟨rfl, ?_⟩
 (repeat(first|(with_reducible refine Below.setCell ?_ ?_ _)|(with_reducible refine Below.alloc ?_ ?_ _)|(with_reducible exact Below.refl _ _)|(with_reducible refine Below.trans ?_ (Below.mono c ?_))|(with_reducible refine Below.trans ?_ (Below.mono a ?_))|(with_reducible refine Below.trans ?_ (Below.mono b ?_))|(with_reducible exact Nat.le_refl _)|omega|(simp;omega)|simp))
def XJ(r:Int)(b: -2147483648<=r)(c:r<=2147483647)(w:EE):
 GK prog 63 #[.int .i32 r] w λe f=>e=RE (Q4 (aN r).cells)/\EI w.heap.size w f:=by
 cases a:look L0 r with
 |some p=>rw[Wa a];exact adZ r p a w
 |none=>
  cases d:look L1 r with
  |some p=>exact aeg r p a d b c w
  |none=>exact adx r a d w
theorem YR{p:Prop}(h:p:=by have:=dQ.size;simp only[World.size_alloc]at this;omega):p:=h
theorem qn{p:Prop}(h:p:=by simp[results,results84,Pr.cells,go_sem,kF,qd]):p:=h
def pL:∀(l:List (Int×Int×Pr)) (r:Int) (p:Pr),look l r=OH p->∃lo hi,(lo,hi,p)∈l/\lo<=r/\r<=hi
 |[],_,_,h=>by simp[look]at h
 |(a,b,q)::l,r,p,h=>by
  simp only[look]at h;split at h
  .injection h with h
   subst h;exact⟨a,b,List.mem_cons_self ..,aq,aq⟩
  .obtain⟨lo,hi,d,e,c⟩:=pL l r p h
   exact⟨lo,hi,List.mem_cons_of_mem _ d,e,c⟩
def IX{p:Pr}(h:look iX r=OH p):p.bT=13↔44032<=r/\r<=55203:=by
 obtain⟨lo,hi,c,e,d⟩:=pL _ _ _ h;have a:iX.all (λx=>decide ((x.2.2.bT=13->x.1=44032/\x.2.1=55203)/\(x.2.2.bT≠13->x.2.1<44032∨55203<x.1)))=OX:=zm;have:=of_decide_eq_true (List.all_eq_true.1 a _ c);simp only at this;by_cases b:p.bT=13
 .have:=this.1 b;simp only[b,true_iff];omega
 .have:=this.2 b;simp only[b,false_iff];omega
def ng{p:Pr}(h:look iX r=OH p):aN r=if p.bT=13/\(r-44032)%28=0 then{p with bT:=12,xc:=33}else p:=by
 have hi:=IX h;unfold aN;rw[h];simp only;by_cases a:p.bT=13
 .have:=hi.1 a
  by_cases b:(r-44032)%28=0
  .rw[if_pos ⟨this.1,this.2,b⟩,if_pos ⟨a,b⟩]
  .rw[if_neg (λh=>b h.2.2),if_neg (λh=>b h.2)]
 .rw[if_neg (λh=>a (hi.2 ⟨h.1,h.2.1⟩)),if_neg (λh=>a h.1)]
def mN(h:look iX r=OJ):aN r=Pr.rest:=by unfold aN;rw[h]
def Kp(w:EE):GK prog 161 #[] w λb a=>b=RE (Q4 #[ae aj 1,ae aj 0,ae aj 0,ae aj 0,ae aj 0,ae aj 0,.int .i32 0,.int .i32 0,PF OZ])/\EI w.heap.size w a:=by
 go_enter func161,ntmps161;go_wp2;refine bodyPost_ret (v:=Q4 #[ae aj 1,ae aj 0,ae aj 0,ae aj 0,ae aj 0,ae aj 0,.int .i32 0,.int .i32 0,PF OZ]) (by simp[results,results161,go_sem]) rfl ⟨rfl,(Below.refl _ _).alloc cr _⟩
def Kl{p:Pr}(h:look iX r=OH p)(w:EE)(i:Laid w):
 GK prog 160 #[.int .i32 r] w λe d=>∃f t:Int,e=RE (P8 #[Q4 #[.int .i32 f,.int .i32 t,ae aj p.jv,ae aj p.bT,ae aj p.xc,ae aj p.script,ae aj p.join,ae aj p.word,.int .i32 p.fM,.int .i32 p.pair,PF p.opens],PF OX])/\(p.bT=13->f=44032)/\EI w.heap.size w d:=by
 refine(Bt r w i).mono ?_;rintro e d ⟨⟨f,t,q⟩,b,rfl,hi,g⟩;unfold qC at hi;rw[h]at hi;obtain⟨rfl,a,c⟩:=hi;simp only at a c;subst a;exact⟨f,t,rfl,c,g⟩
def KE(h:look iX r=OJ)(w:EE)(d:Laid w):
 GK prog 160 #[.int .i32 r] w λe a=>∃(f t:Int) (p:Pr),e=RE (P8 #[Q4 #[.int .i32 f,.int .i32 t,ae aj p.jv,ae aj p.bT,ae aj p.xc,ae aj p.script,ae aj p.join,ae aj p.word,.int .i32 p.fM,.int .i32 p.pair,PF p.opens],PF OZ])/\EI w.heap.size w a:=by
 refine(Bt r w d).mono ?_;rintro e a ⟨⟨f,t,q⟩,b,rfl,hi,c⟩;unfold qC at hi;rw[h]at hi;obtain rfl:=hi;exact⟨f,t,q,rfl,c⟩
def Laid.alloc(h:Laid w)(o:Obj):Laid (w.alloc o):=h.below ((Below.refl w.heap.size w).alloc cr o) h.1
def PD(r:Int)(h:look iX r=OJ)(w:EE)(q:Laid w):
 GK prog 84 #[.int .i32 r] w λe s=>e=RE (Q4 (aN r).cells)/\EI w.heap.size w s:=by
 rw[mN h];have F:=Lib.hid (KE h);have o:=Lib.hid q;go_enter func84,ntmps84;go_wp2_with (first
  |(go_at_call 160;refine(F.out _ (o.out.alloc _)).mono ?_;rintro e m ⟨f,t,p,rfl,dQ⟩;obtain⟨b,g⟩:=kt dQ;have i:w.heap.size<m.heap.size:=YR;simp only[World.size_alloc]at b g)
  |(go_at_call 161;refine(Kp _).mono ?_;rintro e n ⟨rfl,a⟩;obtain⟨c,k⟩:=kt a;have l:m.heap.size<n.heap.size:=(by have:=a.size;simp only[World.size_alloc]at this;omega);have j:w.heap.size<n.heap.size:=aq;have d:w.heap.size<m.heap.size+1:=aq;simp only[World.size_alloc]at c k))
 refine bodyPost_ret (v:=Q4 (Pr.cells Pr.rest)) (by simp[results,results84,Pr.cells,Pr.rest,go_sem,b,i,c,l,j,d]) rfl ⟨rfl, ?_⟩
 (repeat(first|(with_reducible refine Below.setCell ?_ ?_ _)|(with_reducible refine Below.alloc ?_ ?_ _)|(with_reducible refine Below.drew ?_)|(with_reducible exact Below.refl _ _)|(with_reducible refine Below.trans ?_ (Below.mono a ?_))|(with_reducible refine Below.trans ?_ (Below.mono dQ ?_))|(with_reducible exact Nat.le_refl _)|omega|(simp;omega)|simp))
def Sg(r:Int)(p:Pr)(h:look iX r=OH p)(y: -2147483648<=r)(u:r<=2147483647)(w:EE)(n:Laid w):
 GK prog 84 #[.int .i32 r] w λe s=>e=RE (Q4 (aN r).cells)/\EI w.heap.size w s:=by
 have PR:=Lib.hid (ng h);have o:=Lib.hid (IX h);have F:=Lib.hid (Kl h);have k:=Lib.hid n;clear h n;by_cases c:p.bT=13
 .have B:=o.out.1 c
  obtain⟨z,A⟩:=B;have l:((p.bT:Int)==13)=OX:=by simp[c]
  by_cases d:(r-44032)%28=0
  .have g:=Lib.hid (PR.out.trans (if_pos ⟨c,d⟩))
   have q:(((r-44032)%28:Int)==0)=OX:=(by simp[d]);have x:=Lib.hid d;have j:=Lib.hid c;clear d PR c;go_enter func84,ntmps84;go_wp2_with (go_at_call 160;refine(F.out _ (k.out.alloc _)).mono ?_;rintro e i ⟨f,t,rfl,a,dQ⟩;obtain rfl:=a j.out;clear a;obtain⟨kF,b⟩:=kt dQ;have qd:w.heap.size<i.heap.size:=YR;simp only[World.size_alloc]at kF b);rw[g.out];refine bodyPost_ret (v:=Q4 (Pr.cells {p with bT:=12,xc:=33})) qn rfl ⟨rfl, ?_⟩
   (repeat(first|(with_reducible refine Below.setCell ?_ ?_ _)|(with_reducible refine Below.alloc ?_ ?_ _)|(with_reducible refine Below.drew ?_)|(with_reducible exact Below.refl _ _)|(with_reducible refine Below.trans ?_ (Below.mono dQ ?_))|(with_reducible exact Nat.le_refl _)|omega|(simp;omega)|simp))
  .have g:=Lib.hid (PR.out.trans (if_neg (λm=>d m.2)))
   have q:(((r-44032)%28:Int)==0)=OZ:=(by simp[d]);have x:=Lib.hid d;have j:=Lib.hid c;clear d PR c;go_enter func84,ntmps84;go_wp2_with (go_at_call 160;refine(F.out _ (k.out.alloc _)).mono ?_;rintro e i ⟨f,t,rfl,a,dQ⟩;obtain rfl:=a j.out;clear a;obtain⟨kF,b⟩:=kt dQ;have qd:w.heap.size<i.heap.size:=YR;simp only[World.size_alloc]at kF b);rw[g.out];refine bodyPost_ret (v:=Q4 p.cells) qn rfl ⟨rfl, ?_⟩
   (repeat(first|(with_reducible refine Below.setCell ?_ ?_ _)|(with_reducible refine Below.alloc ?_ ?_ _)|(with_reducible refine Below.drew ?_)|(with_reducible exact Below.refl _ _)|(with_reducible refine Below.trans ?_ (Below.mono dQ ?_))|(with_reducible exact Nat.le_refl _)|omega|(simp;omega)|simp))
 .have g:=Lib.hid (PR.out.trans (if_neg (λm=>c m.1)))
  have l:((p.bT:Int)==13)=OZ:=by simp[c]
  have j:=Lib.hid c;clear PR c;go_enter func84,ntmps84;go_wp2_with (go_at_call 160;refine(F.out _ (k.out.alloc _)).mono ?_;rintro e i ⟨f,t,rfl,a,dQ⟩;clear a;obtain⟨kF,b⟩:=kt dQ;have qd:w.heap.size<i.heap.size:=YR;simp only[World.size_alloc]at kF b);rw[g.out];refine bodyPost_ret (v:=Q4 p.cells) qn rfl ⟨rfl, ?_⟩
  (repeat(first|(with_reducible refine Below.setCell ?_ ?_ _)|(with_reducible refine Below.alloc ?_ ?_ _)|(with_reducible refine Below.drew ?_)|(with_reducible exact Below.refl _ _)|(with_reducible refine Below.trans ?_ (Below.mono dQ ?_))|(with_reducible exact Nat.le_refl _)|omega|(simp;omega)|simp))
def W8(r:Int)(a: -2147483648<=r)(b:r<=2147483647)(w:EE)(c:Laid w):
 GK prog 84 #[.int .i32 r] w λe d=>e=RE (Q4 (aN r).cells)/\EI w.heap.size w d:=by
 cases h:look iX r with
 |some p=>exact Sg r p h a b w c
 |none=>exact PD r h w c
def lS(r:Int)(a: -2147483648<=r)(b:r<=2147483647)(w:EE)(c:Laid w):
 GK prog 84 #[.int .i32 r] w λe d=>e=RE (Q4 #[ae aj (aN r).jv,ae aj (aN r).bT,ae aj (aN r).xc,ae aj (aN r).script,ae aj (aN r).join,ae aj (aN r).word,.int .i32 (aN r).fM,.int .i32 (aN r).pair,PF (aN r).opens])/\az w d:=
 W8 r a b w c
def dX(r:Int)(a: -2147483648<=r)(b:r<=2147483647)(w:EE):
 GK prog 63 #[.int .i32 r] w λe c=>e=RE (Q4 #[ae aj (aN r).jv,ae aj (aN r).bT,ae aj (aN r).xc,ae aj (aN r).script,ae aj (aN r).join,ae aj (aN r).word,.int .i32 (aN r).fM,.int .i32 (aN r).pair,PF (aN r).opens])/\az w c:=
 XJ r a b w
def Uz(r:Int):(aN r).jv<=23:=by
 have h:iX.all (λx=>decide (x.2.2.jv<=23))=OX:=zm;cases a:look iX r with
 |none=>rw[mN a];decide
 |some p=>
  obtain⟨lo,hi,b,_,_⟩:=pL _ _ _ a;have:=of_decide_eq_true (List.all_eq_true.1 h _ b);rw[ng a];split<;>exact this
@[go_sem] theorem aeM(a b c d e f g h : Int)(o : Bool)(w : EE) : (Instr.field 129 (Q4 #[ae aj a,ae aj b,ae aj c,ae aj d,ae aj e,ae aj f, .int .i32 g, .int .i32 h, PF o]) 0).run prog w = .ok (ae aj a) w := by kernel_rfl
@[go_sem] theorem aaf(a b c d e f g h : Int)(o : Bool)(w : EE) : (Instr.field 129 (Q4 #[ae aj a,ae aj b,ae aj c,ae aj d,ae aj e,ae aj f, .int .i32 g, .int .i32 h, PF o]) 1).run prog w = .ok (ae aj b) w := by kernel_rfl
@[go_sem] theorem afZ(a b c d e f g h : Int)(o : Bool)(w : EE) : (Instr.field 129 (Q4 #[ae aj a,ae aj b,ae aj c,ae aj d,ae aj e,ae aj f, .int .i32 g, .int .i32 h, PF o]) 2).run prog w = .ok (ae aj c) w := by kernel_rfl
@[go_sem] theorem ab8(a b c d e f g h : Int)(o : Bool)(w : EE) : (Instr.field 129 (Q4 #[ae aj a,ae aj b,ae aj c,ae aj d,ae aj e,ae aj f, .int .i32 g, .int .i32 h, PF o]) 3).run prog w = .ok (ae aj d) w := by kernel_rfl
@[go_sem] theorem aez(a b c d e f g h : Int)(o : Bool)(w : EE) : (Instr.field 129 (Q4 #[ae aj a,ae aj b,ae aj c,ae aj d,ae aj e,ae aj f, .int .i32 g, .int .i32 h, PF o]) 4).run prog w = .ok (ae aj e) w := by kernel_rfl
@[go_sem] theorem ad7(a b c d e f g h : Int)(o : Bool)(w : EE) : (Instr.field 129 (Q4 #[ae aj a,ae aj b,ae aj c,ae aj d,ae aj e,ae aj f, .int .i32 g, .int .i32 h, PF o]) 5).run prog w = .ok (ae aj f) w := by kernel_rfl
@[go_sem] theorem aaQ(a b c d e f g h : Int)(o : Bool)(w : EE) : (Instr.field 129 (Q4 #[ae aj a,ae aj b,ae aj c,ae aj d,ae aj e,ae aj f, .int .i32 g, .int .i32 h, PF o]) 6).run prog w = .ok (.int .i32 g) w := by kernel_rfl
@[go_sem] theorem aey(a b c d e f g h : Int)(o : Bool)(w : EE) : (Instr.field 129 (Q4 #[ae aj a,ae aj b,ae aj c,ae aj d,ae aj e,ae aj f, .int .i32 g, .int .i32 h, PF o]) 7).run prog w = .ok (.int .i32 h) w := by kernel_rfl
@[go_sem] theorem acN(a b c d e f g h : Int)(o : Bool)(w : EE) : (Instr.field 129 (Q4 #[ae aj a,ae aj b,ae aj c,ae aj d,ae aj e,ae aj f, .int .i32 g, .int .i32 h, PF o]) 8).run prog w = .ok (PF o) w := by kernel_rfl
def Laid.ar{a:EE}(h:Laid w)(b:az w a):Laid a:=h.below b h.1
def aJ.ar{a:EE}(h:aJ k w A n c xs)(b:az w a):aJ k a A n c xs:=
 ⟨h.at_.Z b,h.le,h.cap,h.wf⟩
def uz(p:Pr):Bool:= !(p.bT==1||p.bT==2||p.bT==3||p.bT==5)&&(p.jv !=10&&decide (p.jv<15))
def oI(r:Int):Bool:=uz (aN r)
def Fi(r:Int)(b: -2147483648<=r)(c:r<=2147483647)(w:EE)(d:Laid w):
 GK prog 244 #[.int .i32 r] w λe g=>e=RE (PF (oI r))/\az w g:=by
 have O:=Lib.hid (lS r b c w d);have h:=Uz r;have f:oI r=uz (aN r):=rfl;rw[f];generalize aN r=p at*;go_enter func244,ntmps244;go_wp2_with (go_at_call 84;refine O.out.mono ?_;rintro e i ⟨rfl,a⟩)
 all_goals go_ret
 all_goals refine⟨mr ?_,a.alloc a.size _⟩
 all_goals clear O a
 all_goals rw[Bool.eq_iff_iff]
 all_goals simp only[beq_iff_eq,beq_eq_false_iff_ne]at*
 all_goals simp[uz]
 all_goals omega
def tG(r:Int)(b: -2147483648<=r)(c:r<=2147483647)(w:EE):
 GK prog 207 #[.int .i32 r] w λe f=>e=RE (PF (oI r))/\az w f:=by
 have O:=Lib.hid (dX r b c w);have d:oI r=uz (aN r):=rfl;rw[d];generalize aN r=p at*;go_enter func207,ntmps207;go_wp2_with (go_at_call 63;refine O.out.mono ?_;rintro e g ⟨rfl,a⟩)
 all_goals go_ret
 all_goals refine⟨mr ?_,a.alloc a.size _⟩
 all_goals clear O a
 all_goals rw[Bool.eq_iff_iff]
 all_goals simp only[beq_iff_eq,beq_eq_false_iff_ne]at*
 all_goals simp[uz]
 all_goals omega
def ur(r:Int):Int:=(aN r).jv
def TI:aS prog 39 3 1 8:=bD underlying39 (z:=ae aj 0) aF rfl aq aq
def wX(A:aB)(n c:Nat)(xs:aC)(w:EE)(s:aJ .i32 w A n c xs)(H:n*8<=140737488355328):
 GK prog 25 #[Pl A n c] w (lE w 3 .i64 n (xs.map ur)):=by
 have q:=Lib.hid s;have hlen:=s.at_.len;have b:=Lib.hid hlen;go_enter func25,ntmps25;go_wp2;go_loopw [3,4] (λv i wr=>∃(k:Nat) (l:aB) (c':Nat),k<=n/\i=ae aj k/\v=Pl l k c'/\Own wr w.heap.size 3 .i64 l k c' ((xs.take k).map ur)/\az w wr) (λ_ i _=>n-(intOf i).toNat)
 case atStart=>exact⟨0,OJ,0,Nat.zero_le _,rfl,rfl,Own.nil _ _ _ _,Below.refl _ _⟩
 case round=>
  obtain⟨k,l,c',G,rfl,rfl,a,j⟩:=hrel;by_cases f:k<n
  .obtain⟨u,C⟩:=bounds_i32 (q.out.cZ f)
   obtain⟨E,rfl,z,r⟩:=(q.out.at_.below j).2 aq;have r:=r k f;have O:=Lib.hid (dX (nth xs k) u C wr);have m:=j.size;go_wp2_with (first
    |(go_at_call 63;refine O.out.mono ?_;rintro e F ⟨rfl,g⟩;have h:=a.ar g;have t:=g.size)
    |(at_builtin;refine ju TI rfl (.tmp 11) (.tmp 18) rfl rfl (h.alloc _) rfl (y:=ur (nth xs k)) (bk _ _ _) aq br ?_;intro x B D d p))
   have o:az w D:=((j.trans (g.mono m)).alloc aq _).trans p;go_roundw
   case rel=>exact⟨k+1,x,B,aq,ns,rfl,by rw[vF _ (by rw[b.out];exact f)];exact d,o⟩
   case measure=>simp[intOf];omega
  .obtain rfl:k=n:=by omega
   go_wp2;go_ret;rw[List.take_of_length_le (by rw[b.out];exact Nat.le_refl _)]at a;exact⟨l,c',rfl,a,j⟩
def jB(r:Int):Int:=(aN r).bT
def ks(xs:aC):aC:=xs.map jB
def oH(xs:aC):(ks xs).length=xs.length:=by simp[ks]
def sa{i:Nat}(h:i<xs.length):nth (ks xs) i=jB (nth xs i):=by
 unfold nth ks;simp[h]
def kg(r:Int)(b: -2147483648<=r)(c:r<=2147483647)(w:EE)(d:Laid w):
 GK prog 306 #[.int .i32 r] w λe f=>e=RE (ae aj (jB r))/\az w f:=by
 have O:=Lib.hid (lS r b c w d);go_enter func306,ntmps306;go_wp2_with fail;refine O.out.mono ?_;rintro e g ⟨rfl,a⟩;go_wp2;go_ret;exact⟨rfl,a⟩
def JN(c:Int)(w:EE):GK prog 307 #[ae aj c] w λe a=>e=RE (PF (kp c))/\az w a:=by
 go_enter func307,ntmps307;go_wp2
 all_goals go_ret
 all_goals refine⟨mr ?_,Below.refl _ _⟩
 all_goals try simp only[beq_iff_eq,beq_eq_false_iff_ne]at*
 all_goals simp_all[kp]
def NJ(a b:Int)(w:EE):GK prog 308 #[ae aj a,ae aj b] w λe c=>e=RE (PF (uM a b))/\az w c:=by
 go_enter func308,ntmps308;go_wp2
 all_goals go_ret
 all_goals refine⟨mr ?_,Below.refl _ _⟩
 all_goals try simp only[beq_iff_eq,beq_eq_false_iff_ne]at*
 all_goals simp_all[uM]
def Om(A:aB)(n c:Nat)(xs:aC)(m:Nat)(O:m<n)(w:EE)(t:aJ .i32 w A n c xs)(D:Laid w)(hn:n<=140737488355328):
 GK prog 309 #[Pl A n c,ae aj ((m:Int)+1)] w λe x=>e=RE (PF (jB (nth xs m)==5&&iL (ks xs) m))/\az w x:=by
 have K:=Lib.hid t;have X:=Lib.hid D;have s:=Lib.hid t.at_.len;obtain⟨T,rfl,I,g⟩:=t.at_.2 aq;have C:=g m O;obtain⟨L,g2⟩:=bounds_i32 (t.cZ O);have y:=Lib.hid (kg (nth xs m) L g2 w D);clear t D g L g2;by_cases u:jB (nth xs m)=5
 .rw[u]at y⊢
  clear u;go_enter func309,ntmps309;go_wp2_with fail;refine y.out.mono ?_;rintro e V ⟨rfl,z⟩;have Q:=Lib.hid z;clear z y C;go_wp2;go_loopw [5] (λv wr=>∃j:Nat,j<=m/\((j=0/\v=ae aj (-1))∨(0<j/\v=ae aj ((j-1:Nat):Int)))/\iL (ks xs) j=iL (ks xs) m/\az w wr) (λv _=>(intOf v+1).toNat)
  case atStart=>
   refine⟨m,Nat.le_refl _, ?_,rfl,Q.out⟩;rcases Nat.eq_zero_or_pos m with o|o
   .subst o;exact .inl ⟨rfl,ns⟩
   .exact .inr ⟨o,Jt⟩
  case round=>
   obtain⟨j,hj,a,f,r⟩:=hrel;have d:=Lib.hid f;have h:=Lib.hid r;clear f;rcases a with⟨rfl,rfl⟩|⟨W,rfl⟩
   .go_wp2
    go_ret;refine⟨mr ?_,h.out⟩;rw[<-d.out];simp[iL]
   .obtain⟨q,rfl⟩:∃q,j=q+1:=⟨j-1,aq⟩
    simp only[Nat.add_sub_cancel];have l:q<n:=aq;obtain⟨J,P⟩:=bounds_i32 (K.out.cZ l);obtain⟨E,H,Y,p⟩:=(K.out.at_.below r).2 aq;have Z:=p q l;have G:=Lib.hid (λx (r:az w x)=>kg (nth xs q) J P x (X.out.ar r));have N:=sa (xs:=xs) (i:=q) (by rw[s.out];exact l);have k:iL (ks xs) (q+1)=if nth (ks xs) q==4 then iL (ks xs) q else nth (ks xs) q==14:=rfl
    rw[N]at k;rw[k]at d;generalize jB (nth xs q)=M at*;generalize nth xs q=rq at*;clear p J P N k r;obtain rfl:T=E:=Option.some.inj H;by_cases B:M=4
    .subst B
     go_wp2_with fail;refine(G.out _ h.out).mono ?_;rintro e w2 ⟨rfl,a⟩;have b:=Lib.hid (h.out.trans (a.mono h.out.size));clear a;go_wp2;go_roundw
     case rel=>
      refine⟨q,aq, ?_,by have:=d.out;simpa using this,b.out⟩;rcases Nat.eq_zero_or_pos q with o|o
      .subst o;exact .inl ⟨rfl,ns⟩
      .exact .inr ⟨o,Jt⟩
     case measure=>simp[intOf]<;>omega
    .have R:((M:Int)==4)=OZ:=by simpa using B
     clear B;go_wp2_with fail;refine(G.out _ h.out).mono ?_;rintro e w2 ⟨rfl,a⟩;have b:=Lib.hid (h.out.trans (a.mono h.out.size));have U:=av Z a;clear a;go_wp2_with fail;refine(G.out _ b.out).mono ?_;rintro e w3 ⟨rfl,a⟩;have F:=Lib.hid (b.out.trans (a.mono b.out.size));clear a;go_wp2;go_ret;refine⟨mr ?_,F.out⟩;rw[<-d.out,R];simp
 .have S:((jB (nth xs m):Int)==5)=OZ:=by simpa using u
  rw[S];clear u;generalize jB (nth xs m)=cm at*;go_enter func309,ntmps309;go_wp2_with fail;refine y.out.mono ?_;rintro e V ⟨rfl,z⟩;go_wp2;go_ret;exact⟨rfl,z⟩
def Na(A:aB)(n c:Nat)(xs:aC)(i:Nat)(hi:i<=n)(w:EE)(s:aJ .i32 w A n c xs)(x:Laid w)(P:n<=140737488355328):
 GK prog 310 #[Pl A n c,ae aj (i:Int)] w λe F=>e=RE (PF (mx (ks xs) i%2==1))/\az w F:=by
 have y:=Lib.hid s;have I:=Lib.hid x;have l:=Lib.hid s.at_.len;clear s x;go_enter func310,ntmps310;go_wp2;go_loopw [5] (λv wr=>∃q:Nat,q<=i/\v=ae aj q/\mx (ks xs) i=q+mx (ks xs) (i-q)/\az w wr) (λv _=>i-(intOf v).toNat)
 case atStart=>exact⟨0,Nat.zero_le _,rfl,aT,Below.refl _ _⟩
 case round=>
  obtain⟨q,H,rfl,a,j⟩:=hrel;by_cases G:q<i
  .obtain⟨r,p⟩:∃r,i-q=r+1:=⟨i-q-1,aq⟩
   rw[p]at a;have f:r<n:=aq;have N:(i:Int)-1-(q:Int)=(r:Int):=aq;have Q:=aU q i;obtain⟨u,C⟩:=bounds_i32 (y.out.cZ f);obtain⟨M,rfl,J,k⟩:=(y.out.at_.below j).2 aq;have O:=k r f;have D:=Lib.hid (kg (nth xs r) u C wr (I.out.ar j));have B:=sa (xs:=xs) (i:=r) (by rw[l.out];exact f);have d:mx (ks xs) (r+1)=if nth (ks xs) r==6 then mx (ks xs) r+1 else 0:=rfl
   rw[B]at d;rw[d]at a;have L:=Lib.hid p;generalize jB (nth xs r)=z at*;generalize nth xs r=rq at*;have h:=Lib.hid j;clear k u C B d j p;by_cases o:z=6
   .subst o
    simp only[beq_self_eq_true,if_true]at a;have b:=Lib.hid a;clear a;go_wp2_with fail;refine D.out.mono ?_;rintro e K ⟨rfl,m⟩;have g:=Lib.hid (h.out.trans (m.mono h.out.size));clear m;go_wp2;go_roundw
    case rel=>exact⟨q+1,aq,ns,by rw[b.out,show i-(q+1)=r by omega];omega,g.out⟩
    case measure=>simp[intOf]<;>omega
   .have E:((z:Int)==6)=OZ:=by simpa using o
    rw[E]at a;simp only[Bool.false_eq_true,if_false]at a;have b:=Lib.hid a;clear o a;go_wp2_with fail;refine D.out.mono ?_;rintro e K ⟨rfl,m⟩;have g:=Lib.hid (h.out.trans (m.mono h.out.size));clear m;go_wp2;go_ret;refine⟨mr ?_,g.out⟩;rw[b.out,Bool.eq_iff_iff];simp;omega
  .obtain rfl:q=i:=by omega
   rw[Nat.sub_self]at a;have t:mx (ks xs) 0=0:=rfl;rw[t]at a;have b:=Lib.hid a;have h:=Lib.hid j
   skip
   clear a t j;go_wp2;go_ret;refine⟨mr ?_,h.out⟩;rw[b.out,Bool.eq_iff_iff];simp;omega
def lV(r:Int)(b: -2147483648<=r)(c:r<=2147483647)(w:EE):
 GK prog 196 #[.int .i32 r] w λe d=>e=RE (ae aj (jB r))/\az w d:=by
 have O:=Lib.hid (dX r b c w);go_enter func196,ntmps196;go_wp2_with fail;refine O.out.mono ?_;rintro e f ⟨rfl,a⟩;go_wp2;go_ret;exact⟨rfl,a⟩
def JC(c:Int)(w:EE):GK prog 198 #[ae aj c] w λe a=>e=RE (PF (kp c))/\az w a:=by
 go_enter func198,ntmps198;go_wp2
 all_goals go_ret
 all_goals refine⟨mr ?_,Below.refl _ _⟩
 all_goals try simp only[beq_iff_eq,beq_eq_false_iff_ne]at*
 all_goals simp_all[kp]
def QC(a b:Int)(w:EE):GK prog 197 #[ae aj a,ae aj b] w λe c=>e=RE (PF (uM a b))/\az w c:=by
 go_enter func197,ntmps197;go_wp2
 all_goals go_ret
 all_goals refine⟨mr ?_,Below.refl _ _⟩
 all_goals try simp only[beq_iff_eq,beq_eq_false_iff_ne]at*
 all_goals simp_all[uM]
def QK(A:aB)(n c:Nat)(xs:aC)(m:Nat)(P:m<=n)(w:EE)(y:aJ .i32 w A n c xs)(Q:n<=140737488355328):
 GK prog 199 #[Pl A n c,ae aj (m:Int)] w λe s=>e=RE (PF (iL (ks xs) m))/\az w s:=by
 have C:=Lib.hid y;have p:=Lib.hid y.at_.len;have G:=Lib.hid (Below.refl w.heap.size w);clear y;go_enter func199,ntmps199;go_wp2;go_loopw [1] (λv wr=>∃j:Nat,j<=m/\((j=0/\v=ae aj (-1))∨(0<j/\v=ae aj ((j-1:Nat):Int)))/\iL (ks xs) j=iL (ks xs) m/\az w wr) (λv _=>(intOf v+1).toNat)
 case atStart=>
  refine⟨m,Nat.le_refl _, ?_,rfl,G.out⟩;rcases Nat.eq_zero_or_pos m with l|l
  .subst l;exact .inl ⟨rfl,ns⟩
  .exact .inr ⟨l,Jt⟩
 case round=>
  obtain⟨j,O,a,f,r⟩:=hrel;have d:=Lib.hid f;have g:=Lib.hid r;clear f;rcases a with⟨rfl,rfl⟩|⟨J,rfl⟩
  .go_wp2
   go_ret;refine⟨mr ?_,g.out⟩;rw[<-d.out];simp[iL]
  .obtain⟨q,rfl⟩:∃q,j=q+1:=⟨j-1,aq⟩
   simp only[Nat.add_sub_cancel];have k:q<n:=aq;obtain⟨B,F⟩:=bounds_i32 (C.out.cZ k);obtain⟨K,z,L,o⟩:=(C.out.at_.below r).2 aq;have M:=o q k;have x:=Lib.hid (λs (r:az w s)=>lV (nth xs q) B F s);have E:=sa (xs:=xs) (i:=q) (by rw[p.out];exact k);have h:iL (ks xs) (q+1)=if nth (ks xs) q==4 then iL (ks xs) q else nth (ks xs) q==14:=rfl
   rw[E]at h;rw[h]at d;generalize jB (nth xs q)=D at*;generalize nth xs q=rq at*;clear o B F E h r;subst z;by_cases t:D=4
   .subst t
    go_wp2_with fail;refine(x.out _ g.out).mono ?_;rintro e N ⟨rfl,a⟩;have b:=Lib.hid (g.out.trans (a.mono g.out.size));clear a;go_wp2;go_roundw
    case rel=>
     refine⟨q,aq, ?_,by have:=d.out;simpa using this,b.out⟩;rcases Nat.eq_zero_or_pos q with l|l
     .subst l;exact .inl ⟨rfl,ns⟩
     .exact .inr ⟨l,Jt⟩
    case measure=>simp[intOf]<;>omega
   .have H:((D:Int)==4)=OZ:=by simpa using t
    clear t;go_wp2_with fail;refine(x.out _ g.out).mono ?_;rintro e N ⟨rfl,a⟩;have b:=Lib.hid (g.out.trans (a.mono g.out.size));have I:=av M a;clear a;go_wp2_with fail;refine(x.out _ b.out).mono ?_;rintro e R ⟨rfl,a⟩;have u:=Lib.hid (b.out.trans (a.mono b.out.size));clear a;go_wp2;go_ret;refine⟨mr ?_,u.out⟩;rw[<-d.out,H];simp
def Ot(A:aB)(n c:Nat)(xs:aC)(i:Nat)(hi:i<=n)(w:EE)(s:aJ .i32 w A n c xs)(O:n<=140737488355328):
 GK prog 200 #[Pl A n c,ae aj (i:Int)] w λe F=>e=RE (ae aj ((mx (ks xs) i:Nat):Int))/\az w F:=by
 have x:=Lib.hid s;have l:=Lib.hid s.at_.len;clear s;go_enter func200,ntmps200;go_wp2;go_loopw [5] (λv wr=>∃q:Nat,q<=i/\v=ae aj q/\mx (ks xs) i=q+mx (ks xs) (i-q)/\az w wr) (λv _=>i-(intOf v).toNat)
 case atStart=>exact⟨0,Nat.zero_le _,rfl,aT,Below.refl _ _⟩
 case round=>
  obtain⟨q,H,rfl,a,k⟩:=hrel;by_cases G:q<i
  .obtain⟨r,p⟩:∃r,i-q=r+1:=⟨i-q-1,aq⟩
   rw[p]at a;have f:r<n:=aq;have M:(i:Int)-(q:Int)=(r:Int)+1:=aq;have P:(0:Int)<(r:Int)+1:=aq;obtain⟨u,B⟩:=bounds_i32 (x.out.cZ f);obtain⟨L,rfl,I,j⟩:=(x.out.at_.below k).2 aq;have N:=j r f;have C:=Lib.hid (lV (nth xs r) u B wr);have z:=sa (xs:=xs) (i:=r) (by rw[l.out];exact f);have d:mx (ks xs) (r+1)=if nth (ks xs) r==6 then mx (ks xs) r+1 else 0:=rfl
   rw[z]at d;rw[d]at a;have K:=Lib.hid p;generalize jB (nth xs r)=y at*;generalize nth xs r=rq at*;have h:=Lib.hid k;clear j u B z d k p;by_cases o:y=6
   .subst o
    simp only[beq_self_eq_true,if_true]at a;have b:=Lib.hid a;clear a;go_wp2_with fail;refine C.out.mono ?_;rintro e J ⟨rfl,m⟩;have g:=Lib.hid (h.out.trans (m.mono h.out.size));clear m;go_wp2;go_roundw
    case rel=>exact⟨q+1,aq,ns,by rw[b.out,show i-(q+1)=r by omega];omega,g.out⟩
    case measure=>simp[intOf]<;>omega
   .have D:((y:Int)==6)=OZ:=by simpa using o
    rw[D]at a;simp only[Bool.false_eq_true,if_false]at a;have b:=Lib.hid a;clear o a;go_wp2_with fail;refine C.out.mono ?_;rintro e J ⟨rfl,m⟩;have g:=Lib.hid (h.out.trans (m.mono h.out.size));clear m;go_wp2;go_ret;refine⟨Ae ?_,g.out⟩;rw[b.out];simp
  .obtain rfl:q=i:=by omega
   rw[Nat.sub_self]at a;have t:mx (ks xs) 0=0:=rfl;rw[t]at a;have b:=Lib.hid a;have h:=Lib.hid k;have E:(q:Int)-(q:Int)=0:=aq;clear a t k;go_wp2;go_ret;refine⟨Ae ?_,h.out⟩;rw[b.out];simp
def FZ(A:aB)(n c:Nat)(xs:aC)(m:Nat)(u:m+1<n)(w:EE)(q:aJ .i32 w A n c xs)(H:Laid w)(E:n<=140737488355328):
 GK prog 283 #[Pl A n c,ae aj ((m:Int)+1)] w λe g=>e=RE (PF (kS (ks xs) (m+1)))/\az w g:=by
 have t:=Lib.hid q;have r:=Lib.hid H;have d:=Lib.hid q.at_.len;obtain⟨B,rfl,O,j⟩:=q.at_.2 aq;have s:=j m aq;have p:=j (m+1) u;rw[add_succ]at p;obtain⟨L,g2⟩:=bounds_i32 (q.cZ (i:=m) aq);obtain⟨M,K⟩:=bounds_i32 (q.cZ u);have D:=Lib.hid (λN:aI w=>kg (nth xs m) L g2 N.1 (r.out.ar N.2));have C:=Lib.hid (λN:aI w=>kg (nth xs (m+1)) M K N.1 (r.out.ar N.2));have k:=Lib.hid (λg (o:az w g)=>Om (OH B) n c xs m aq g (t.out.ar o) (r.out.ar o) E);have h:=Lib.hid (λg (o:az w g)=>Na (OH B) n c xs (m+1) aq g (t.out.ar o) (r.out.ar o) E);have I:((m+1:Nat):Int)=(m:Int)+1:=aq;rw[I]at h;have J:kS (ks xs) (m+1)=qM (jB (nth xs m)) (jB (nth xs (m+1))) (iL (ks xs) m) (mx (ks xs) (m+1)%2==1):=by
  unfold kS;rw[Nat.add_sub_cancel,sa (by rw[d.out];omega),sa (by rw[d.out];exact u)]
 rw[J];have F:=gT m;have y:(m:Int)+1<(n:Int):=aq;generalize jB (nth xs m)=a at*;generalize jB (nth xs (m+1))=b at*;generalize nth xs m=Q at*;generalize nth xs (m+1)=rb at*;generalize iL (ks xs) m=G at*;generalize mx (ks xs) (m+1)=S at*;have⟨k0,R⟩:=lc2 s p;rw[<-Ns];go_enter func283,ntmps283;go_wp2;refine bS aF aF ?_
 repeat(go_big_quiet_step ((first|(go_at_call 306;with_reducible exact dN (D.out _))|(go_at_call 306;with_reducible exact dN (C.out _)))))
 refine wpQuiet_nil ?_;intro _ z;obtain⟨P,l⟩:=z;subst l;have x:=P.2;go_wp2_with (first
  |(go_at_call 307;refine(JN _ _).mono ?_;rintro e v ⟨rfl,f⟩;replace x:=x.trans (f.mono x.size);clear f)
  |(go_at_call 308;refine(NJ _ _ _).mono ?_;rintro e v ⟨rfl,f⟩;replace x:=x.trans (f.mono x.size);clear f)
  |(go_at_call 309;refine(k.out _ x).mono ?_;rintro e v ⟨rfl,f⟩;replace x:=x.trans (f.mono x.size);clear f)
  |(go_at_call 310;refine(h.out _ x).mono ?_;rintro e v ⟨rfl,f⟩;replace x:=x.trans (f.mono x.size);clear f))
 all_goals go_ret
 all_goals refine⟨mr ?_,x⟩
 all_goals clear x D C k h t d F y
 all_goals try simp only[beq_iff_eq,beq_eq_false_iff_ne]at*
 all_goals simp_all[Oh]
def DF(A:aB)(n c:Nat)(xs:aC)(m:Nat)(t:m+1<n)(w:EE)(p:aJ .i32 w A n c xs)(E:n<=140737488355328):
 GK prog 128 #[Pl A n c,ae aj ((m:Int)+1)] w λe g=>e=RE (PF (kS (ks xs) (m+1)))/\az w g:=by
 have s:=Lib.hid p;have d:=Lib.hid p.at_.len;obtain⟨z,rfl,M,j⟩:=p.at_.2 aq;have r:=j m aq;have o:=j (m+1) t;rw[add_succ]at o;obtain⟨K,g2⟩:=bounds_i32 (p.cZ (i:=m) aq);obtain⟨L,J⟩:=bounds_i32 (p.cZ t);have C:=Lib.hid (λN:aI w=>lV (nth xs m) K g2 N.1);have B:=Lib.hid (λN:aI w=>lV (nth xs (m+1)) L J N.1);have k:=Lib.hid (λg (q:az w g)=>QK (OH z) n c xs m aq g (s.out.ar q) E);have h:=Lib.hid (λg (q:az w g)=>Ot (OH z) n c xs (m+1) aq g (s.out.ar q) E);have H:((m+1:Nat):Int)=(m:Int)+1:=aq;rw[H]at h;have I:kS (ks xs) (m+1)=qM (jB (nth xs m)) (jB (nth xs (m+1))) (iL (ks xs) m) (mx (ks xs) (m+1)%2==1):=by
  unfold kS;rw[Nat.add_sub_cancel,sa (by rw[d.out];omega),sa (by rw[d.out];exact t)]
 rw[I];have F:=gT m;have u:(m:Int)+1<(n:Int):=aq;generalize jB (nth xs m)=a at*;generalize jB (nth xs (m+1))=b at*;generalize nth xs m=P at*;generalize nth xs (m+1)=rb at*;generalize iL (ks xs) m=G at*;generalize mx (ks xs) (m+1)=D at*;have⟨k0,Q⟩:=lc2 r o;have R:(((D:Nat):Int)%2==1)=(D%2==1):=by rw[Bool.eq_iff_iff];simp;omega
 go_enter func128,ntmps128;go_wp2;refine bS aF aF ?_
 repeat(go_big_quiet_step ((first|(go_at_call 196;with_reducible exact dN (C.out _))|(go_at_call 196;with_reducible exact dN (B.out _)))))
 refine wpQuiet_nil ?_;intro _ y;obtain⟨O,l⟩:=y;subst l;have x:=O.2;go_wp2_with (first
  |(go_at_call 198;refine(JC _ _).mono ?_;rintro e v ⟨rfl,f⟩;replace x:=x.trans (f.mono x.size);clear f)
  |(go_at_call 197;refine(QC _ _ _).mono ?_;rintro e v ⟨rfl,f⟩;replace x:=x.trans (f.mono x.size);clear f)
  |(go_at_call 199;refine(k.out _ x).mono ?_;rintro e v ⟨rfl,f⟩;replace x:=x.trans (f.mono x.size);clear f)
  |(go_at_call 200;refine(h.out _ x).mono ?_;rintro e v ⟨rfl,f⟩;replace x:=x.trans (f.mono x.size);clear f))
 all_goals go_ret
 all_goals refine⟨mr ?_,x⟩
 all_goals clear x C B k h s d F u
 all_goals try simp only[beq_iff_eq,beq_eq_false_iff_ne]at*
 all_goals simp_all[qM]
def TIb:aS prog 39 3 1 8:=bD underlying39 (z:=ae aj 0) aF rfl aq aq
def oV(c:Int)(w:EE):GK prog 143 #[ae aj c] w λe a=>e=RE (PF (gf c))/\az w a:=by
 go_enter func143,ntmps143;go_wp2
 all_goals go_ret
 all_goals refine⟨mr ?_,Below.refl _ _⟩
 all_goals try simp only[beq_iff_eq,beq_eq_false_iff_ne]at*
 all_goals simp_all[gf]
def Fj(s:List Nat):aC:=s.reverse.map Int.ofNat
def Pt(s:List Nat):(Fj s).length=s.length:=by simp[Fj]
def vQ(k:Nat)(s:List Nat):Fj (k::s)=Fj s++[(k:Int)]:=by simp[Fj]
def uW{g:Nat}(h:Own w B e k (OH ⟨g,0,OJ⟩) n c xs){j:Nat}(hj:j<n):w.cell? ⟨g,j,OJ⟩=OH (.int k (nth xs j)):=by
 rw[aA.cellAt h j aq];have:j<xs.length:=Jf;rw[List.getElem?_map,List.getElem?_eq_getElem this,bZ this];rfl
def qm{b:Nat}{a:aC}(h:Own w B e k A n c xs)(d:xs=a)(f:n=b):Own w B e k A b c a:=by subst d;subst f;exact h
def Vj{o:aC}{k:Nat}(a:o.length=k)(u v:Int):(o++[u]).set k v=o++[v]:=by
 rw[List.set_append_right _ _ aq,a,Nat.sub_self];rfl
def iO{j a f:aB}(h:bR a j)(d:∀g,f=OH ⟨g,0,OJ⟩->j=OH ⟨g,0,OJ⟩∨w.heap.size<=g)(m:Own w B e k a n c xs):bR a f:=by
 intro g i l;rcases d g l with b|b
 .exact h g i b
 .exact aA.gX m b g i rfl
def oM(A:aB)(n c:Nat)(xs:aC)(w:EE)(hx:bO w w.heap.size .i64 A n xs)(hn:n*8<=140737488355328):
 GK prog 65 #[Pl A n c] w (lE w 3 .i64 n (nj xs)):=by
 have HX:=Lib.hid hx;have T:=Lib.hid hx.len;go_enter func65,ntmps65;go_wp2;go_loopw [3,4,5] (λu v i wr=>∃(k:Nat) (A1 A2:aB) (c1 c2:Nat),k<=n/\i=ae aj k/\u=Pl A1 k c1/\v=Pl A2 (lX xs k).2.length c2/\Own wr w.heap.size 3 .i64 A1 k c1 (lX xs k).1/\Own wr w.heap.size 3 .i64 A2 (lX xs k).2.length c2 (Fj (lX xs k).2)/\bR A2 A1/\az w wr) (λ_ _ i _=>n-(intOf i).toNat)
 case atStart=>exact⟨0,OJ,OJ,0,0,Nat.zero_le _,rfl,rfl,rfl,Own.nil _ _ _ _,Own.nil _ _ _ _,uP _,Below.refl _ _⟩
 case round=>
  obtain⟨k,A1,A2,c1,c2,hk,rfl,rfl,rfl,ho,hs,ap,hb⟩:=hrel;by_cases aG:k<n
  .obtain⟨ad,rfl,ja,oo⟩:=(HX.out.below hb).2 aq
   have D:=oo k aG;have hkl:k<=xs.length:=by rw[T.out];exact hk
   have MI:=Lib.hid (et xs k hkl);have⟨x,hxk⟩:=eY (nth xs k);have W:=Lib.hid hxk;rw[hxk]at D;have G:=Lib.hid ap;have H:=Lib.hid ho;have l:=Lib.hid hs;have o:=Lib.hid hb;have U:=Lib.hid (oV x);cases P:gf x
   .rw[P]at U
    by_cases X:x=11
    .subst X
     have E:=Lib.hid (ZZ W.out);go_wp2_with (at_builtin;refine bL TIb rfl (.tmp 13) (.tmp 14) rfl rfl (H.out.alloc _) rfl (y:=(-1:Int)) (bk _ _ _) aq (by have:=o.out.size;simp;omega) ?_;intro Q K O o1 g r d;have I:az w O:=(o.out.alloc (by have:=o.out.size;omega) _).trans g;have q:=(l.out.alloc (RM #[ae aj (-1)] 3)).kept r G.out (aA.dU H.out);have h:=(g.cell (p:=ad.add k) Ct).trans (aH D (RM #[ae aj (-1)] 3));have b:=iO G.out d (l.out.alloc (RM #[ae aj (-1)] 3));have t:=Lib.hid I;have J:=Lib.hid o1;have M:=Lib.hid q;have f:=Lib.hid b;clear D o1 q b d r g);refine(U.out _).mono ?_;rintro e w2 ⟨rfl,a⟩;have N:=av h a;have z:=Lib.hid (J.out.ar a);have F:=Lib.hid (M.out.ar a);have L:=t.out.trans (a.mono t.out.size);have C:=Lib.hid L;go_wp2;go_roundw
     case rel=>
      refine⟨k+1,Q,OJ,K,0,aq,ns,rfl, ?_, ?_, ?_,jV _,C.out⟩
      .rw[E.out];rfl
      .rw[E.out];exact z.out
      .rw[E.out];exact Own.nil _ _ _ _
     case measure=>simp[intOf];omega
    .by_cases V:x=23
     .subst V
      have g:((23:Int)==11)=OZ:=cF;cases B:(lX xs k).2 with
      |nil=>
       have E:=Lib.hid (AV W.out B);rw[B]at l;have d0:¬(0:Int)<((List.length ([]:List Nat):Nat):Int):=aT;simp only[List.length_nil]at l d0⊢;go_wp2_with (at_builtin;refine bL TIb rfl (.tmp 13) (.tmp 14) rfl rfl (H.out.alloc _) rfl (y:=(-1:Int)) (bk _ _ _) aq (by have:=o.out.size;simp;omega) ?_;intro Q K O o1 g r d;have I:az w O:=(o.out.alloc (by have:=o.out.size;omega) _).trans g;have q:=(l.out.alloc (RM #[ae aj (-1)] 3)).kept r G.out (aA.dU H.out);have h:=(g.cell (p:=ad.add k) Ct).trans (aH D (RM #[ae aj (-1)] 3));have b:=iO G.out d (l.out.alloc (RM #[ae aj (-1)] 3));have t:=Lib.hid I;have J:=Lib.hid o1;have M:=Lib.hid q;have f:=Lib.hid b;clear D o1 q b d r g);refine(U.out _).mono ?_;rintro e w2 ⟨rfl,a⟩;have N:=av h a;have z:=Lib.hid (J.out.ar a);have F:=Lib.hid (M.out.ar a);have L:=t.out.trans (a.mono t.out.size);have C:=Lib.hid L;go_wp2;go_roundw
       case rel=>
        refine⟨k+1,Q,A2,K,c2,aq,ns,rfl, ?_, ?_, ?_,f.out,C.out⟩
        .rw[E.out];rfl
        .rw[E.out];exact z.out
        .rw[E.out];exact F.out
       case measure=>simp[intOf];omega
      |cons j s=>
       have E:=Lib.hid (Hb W.out B);have hj:j<k:=(MI.out.st j (by rw[B];exact List.mem_cons_self ..)).1;rw[B]at l;have⟨m,R⟩:=eY s.length;have Z:=Lib.hid R;simp only[List.length_cons,R]at l⊢;have af6:=vQ j s;have mk:m+1<=k:=by have Y:=MI.out.Nh;rw[B]at Y;simp only[List.length_cons,R]at Y;exact Y
       rw[af6]at l;have d0:(0:Int)<(m:Int)+1:=aq;go_wp2_with (at_builtin;refine bL TIb rfl (.tmp 13) (.tmp 14) rfl rfl (H.out.alloc _) rfl (y:=(-1:Int)) (bk _ _ _) aq (by have:=o.out.size;simp;omega) ?_;intro Q K O o1 g r d;have I:az w O:=(o.out.alloc (by have:=o.out.size;omega) _).trans g;have q:=(l.out.alloc (RM #[ae aj (-1)] 3)).kept r G.out (aA.dU H.out);have h:=(g.cell (p:=ad.add k) Ct).trans (aH D (RM #[ae aj (-1)] 3));have b:=iO G.out d (l.out.alloc (RM #[ae aj (-1)] 3));have t:=Lib.hid I;have J:=Lib.hid o1;have M:=Lib.hid q;have f:=Lib.hid b;clear D o1 q b d r g);refine(U.out _).mono ?_;rintro e w2 ⟨rfl,a⟩;have N:=av h a;have z:=Lib.hid (J.out.ar a);have F:=Lib.hid (M.out.ar a);have L:=t.out.trans (a.mono t.out.size);have C:=Lib.hid L;obtain⟨gs,rfl,ahL,ah2⟩:=aA.form F.out aq;obtain⟨gt,rfl,S,ahR⟩:=aA.form z.out aq;have fh:gs≠gt:=λe=>f.out gs rfl (by rw[e])
       have oD:gt≠gs:=λe=>fh e.symm
       have lm:(Fj s).length=m:=by rw[Pt];exact Z.out
       have cj:w2.cell? ⟨gs,m,OJ⟩=OH (ae aj j):=by
        have:=uW F.out (j:=m) aq;rwa [gS lm]at this
       obtain⟨rp,ahp⟩:=VU TIb F.out (m:Int) rfl;have HP:=Lib.hid ahp;have ck:=uW z.out (j:=k) aq;have fk:=aA.frozenAt z.out k;have fj:=aA.frozenAt z.out j;have O4:=Lib.hid (Own.sI z.out k j);have cj2:=uW O4.out (j:=j) aq;go_wp2;go_roundw
       case rel=>
        refine⟨k+1,OH ⟨gt,0,OJ⟩,OH ⟨gs,0,OJ⟩,K,c2,aq,ns,aT, ?_, ?_, ?_,f.out, ?_⟩
        .rw[E.out];simp[Z.out]
        .rw[E.out]
         have h7:=Own.sI O4.out j (k:Int);rw[Vj MI.out.len]at h7;exact h7
        .rw[E.out]
         have h7:=Own.mj (j:=j) (Own.mj (j:=k) HP.out f.out (ae aj j)) f.out (ae aj k);exact qm h7 rfl Z.out.symm
        .exact(C.out.setCell (p:=⟨gt,k,OJ⟩) S _).setCell (p:=⟨gt,j,OJ⟩) S _
       case measure=>simp[intOf];omega
     .have g:((x:Int)==11)=OZ:=by simpa using X
      have b2:((x:Int)==23)=OZ:=(by simpa using V);have E:=Lib.hid (AU (by rw[W.out];exact P) (by rw[W.out];exact X) (by rw[W.out];exact V));go_wp2_with (at_builtin;refine bL TIb rfl (.tmp 13) (.tmp 14) rfl rfl (H.out.alloc _) rfl (y:=(-1:Int)) (bk _ _ _) aq (by have:=o.out.size;simp;omega) ?_;intro Q K O o1 g r d;have I:az w O:=(o.out.alloc (by have:=o.out.size;omega) _).trans g;have q:=(l.out.alloc (RM #[ae aj (-1)] 3)).kept r G.out (aA.dU H.out);have h:=(g.cell (p:=ad.add k) Ct).trans (aH D (RM #[ae aj (-1)] 3));have b:=iO G.out d (l.out.alloc (RM #[ae aj (-1)] 3));have t:=Lib.hid I;have J:=Lib.hid o1;have M:=Lib.hid q;have f:=Lib.hid b;clear D o1 q b d r g);refine(U.out _).mono ?_;rintro e w2 ⟨rfl,a⟩;have N:=av h a;have z:=Lib.hid (J.out.ar a);have F:=Lib.hid (M.out.ar a);have L:=t.out.trans (a.mono t.out.size);have C:=Lib.hid L;go_wp2;go_roundw
      case rel=>
       refine⟨k+1,Q,A2,K,c2,aq,ns,rfl, ?_, ?_, ?_,f.out,C.out⟩
       .rw[E.out]
       .rw[E.out];exact z.out
       .rw[E.out];exact F.out
      case measure=>simp[intOf];omega
   .rw[P]at U
    have E:=Lib.hid (zW (by rw[W.out];exact P));have⟨m,R⟩:=eY ((lX xs k).2.length);have Z:=Lib.hid R;have mk:m<=k:=by have Y:=MI.out.Nh;rw[R]at Y;exact Y
    rw[R]at l;simp only[R];go_wp2_with (at_builtin;refine bL TIb rfl (.tmp 13) (.tmp 14) rfl rfl (H.out.alloc _) rfl (y:=(-1:Int)) (bk _ _ _) aq (by have:=o.out.size;simp;omega) ?_;intro Q K O o1 g r d;have I:az w O:=(o.out.alloc (by have:=o.out.size;omega) _).trans g;have q:=(l.out.alloc (RM #[ae aj (-1)] 3)).kept r G.out (aA.dU H.out);have h:=(g.cell (p:=ad.add k) Ct).trans (aH D (RM #[ae aj (-1)] 3));have b:=iO G.out d (l.out.alloc (RM #[ae aj (-1)] 3));have t:=Lib.hid I;have J:=Lib.hid o1;have M:=Lib.hid q;have f:=Lib.hid b;clear D o1 q b d r g);refine(U.out _).mono ?_;rintro e w2 ⟨rfl,a⟩;have N:=av h a;have z:=Lib.hid (J.out.ar a);have F:=Lib.hid (M.out.ar a);have L:=t.out.trans (a.mono t.out.size);have C:=Lib.hid L;go_wp2_with (at_builtin;refine bL TIb rfl (.tmp 24) (.tmp 26) rfl rfl (F.out.alloc _) rfl (y:=(k:Int)) (bk _ _ _) aq (by have:=C.out.size;simp;omega) ?_;intro A4 c4 w3 o3 b3 g3 at3;have o4:=(z.out.alloc (RM #[ae aj (k:Int)] 3)).kept g3 f.out.symm (aA.dU F.out);have y3:az w w3:=(C.out.alloc (by have:=C.out.size;omega) _).trans b3;have ap3:=iO f.out.symm at3 (z.out.alloc (RM #[ae aj (k:Int)] 3)));go_roundw
    case rel=>
     refine⟨k+1,Q,A4,K,c4,aq,ns,rfl, ?_, ?_, ?_,ap3.symm,y3⟩
     .rw[E.out];simp[Z.out]
     .rw[E.out];exact o4
     .rw[E.out];exact qm o3 (vQ _ _).symm (by simp[Z.out])
    case measure=>simp[intOf];omega
  .obtain rfl:k=n:=by omega
   go_wp2;go_ret;refine⟨_,_,rfl, ?_,hb⟩;refine qm ho ?_ rfl;unfold nj;rw[T.out]
def TIg:aS prog 39 3 1 8:=bD underlying39 (z:=ae aj 0) aF rfl aq aq
def TCg:aS prog 52 57 2 16:=bD underlying52 (z:=Q4 #[ae aj 0,ae aj 0]) aF rfl aq aq
def pv(l:aC)(k:Nat):Ms l (k:Int)=mC l k:=by simp[Ms]
def GV{i:Int}(h:i<0):Ms l i=OZ:=by simp[Ms];omega
def Iy{i:Int}(h:(l.length:Int)<i):Ms l i=OZ:=by
 obtain⟨k,rfl⟩:∃k:Nat,i=k:=⟨i.toNat,aq⟩;rw[pv,We aq]
def Hm(h:l.length=0)(i:Int):Ms l i=OZ:=by
 have:=List.eq_nil_of_length_eq_zero h;subst this;unfold Ms;rw[Xg];simp
def uO(w:EE)(ps:List (Nat×Nat))(r:IS)(a:EE):Prop:=
 ∃(A:aB) (c:Nat),r=RE (Pl A ps.length c)/\aA a w.heap.size 57 2 A ps.length c (dG ps)/\az w a
def gM(w:EE)(a b:EN)(t:IQ):∀j u,[a,b][j]? =OH u->(w.alloc (RM #[a,b] t)).cell? ⟨w.heap.size,j,OJ⟩=OH u:=by
 intro j u h;rw[cell_of_row _ _ _ _ _ _ (heap_alloc_new w _)];simpa using h
def lq(a b:Int):∀u∈[ae aj a,ae aj b],u.oneCell'=OX:=by
 intro u c;simp at c;rcases c with rfl|rfl<;>rfl
def iV{g:Nat}(h:Own w B e k (OH ⟨g,0,OJ⟩) n c xs){j:Nat}(hj:j<n):w.cell? ⟨g,j,OJ⟩=OH (.int k (nth xs j)):=by
 rw[aA.cellAt h j aq];have:j<xs.length:=Jf;rw[List.getElem?_map,List.getElem?_eq_getElem this,bZ this];rfl
def Ex{b:Nat}{a:aC}(h:Own w B e k A n c xs)(d:xs=a)(f:n=b):Own w B e k A b c a:=by subst d;subst f;exact h
def Own.aeX{a size:Nat}{vs:List EN}(h:aA w B e size A n c vs)(f:a<=B):aA w a e size A n c vs:=by
 refine⟨h.1, ?_⟩;rcases h.2 with d|⟨g,cap,cur,b,i,r⟩
 .exact .inl d
 .exact .inr ⟨g,cap,cur,b,aq,r⟩
def Yc(A:aB)(n c:Nat)(xs:aC)(i:Int)(w:EE)(p:aJ .i32 w A n c xs)(q:Laid w)(x:n<=140737488355328):
 GK prog 242 #[Pl A n c,ae aj i] w λe s=>e=RE (PF (Ms (ks xs) i))/\az w s:=by
 have r:=Lib.hid p;have u:=Lib.hid q;have a:=Lib.hid p.at_.len;have g:=Lib.hid (oH xs);by_cases t:n=0
 .subst t
  rw[Hm (by rw[g.out,a.out])]
  skip
  go_enter func242,ntmps242;go_wp2;go_ret;exact⟨rfl,Below.refl _ _⟩
 .have E:((n:Int)==0)=OZ:=pW
  by_cases f:i<0
  .rw[GV f]
   go_enter func242,ntmps242;go_wp2;go_ret;exact⟨rfl,Below.refl _ _⟩
  .by_cases d:(n:Int)<i
   .rw[Iy (by rw[g.out,a.out];exact d)]
    go_enter func242,ntmps242;go_wp2;go_ret;exact⟨rfl,Below.refl _ _⟩
   .obtain⟨k,rfl⟩:∃k:Nat,i=k:=⟨i.toNat,aq⟩
    rw[pv];by_cases l:k=0
    .subst l
     rw[pz (by rw[g.out,a.out];omega)];have D:¬(n:Int)<0:=aq;go_enter func242,ntmps242;go_wp2;go_ret;exact⟨rfl,Below.refl _ _⟩
    .by_cases j:k=n
     .subst j
      have h:=zj (ks:=ks xs) (by rw[g.out,a.out];omega);rw[g.out,a.out]at h;rw[h];go_enter func242,ntmps242;go_wp2;go_ret;exact⟨rfl,Below.refl _ _⟩
     .obtain⟨m,rfl⟩:∃m,k=m+1:=⟨k-1,aq⟩
      have o:m+1<n:=aq;rw[Ii aq (by rw[g.out,a.out];exact o)];have h:((m+1:Nat):Int)=(m:Int)+1:=aq;rw[h]at f d⊢;have z:(((m:Int)+1)==0)=OZ:=iY;have B:(((m:Int)+1)==(n:Int))=OZ:=iY;have v:=Lib.hid (FZ A n c xs m o w r.out u.out x);generalize kS (ks xs) (m+1)=b at*;go_enter func242,ntmps242;go_wp2_with fail;refine v.out.mono ?_;rintro e C ⟨rfl,y⟩;go_wp2;go_ret;exact⟨mr aT,y⟩
def Rz(A:aB)(n c:Nat)(xs:aC)(k:Nat)(w:EE)(f:aJ .i32 w A n c xs)(b:Laid w)(a:n<=140737488355328):
 GK prog 242 #[Pl A n c,ae aj (k:Int)] w λe d=>e=RE (PF (mC (ks xs) k))/\az w d:=by
 have h:=Yc A n c xs k w f b a;rw[pv]at h;exact h
def tA(A:aB)(n c:Nat)(xs:aC)(i:Int)(w:EE)(p:aJ .i32 w A n c xs)(s:n<=140737488355328):
 GK prog 58 #[Pl A n c,ae aj i] w λe u=>e=RE (PF (Ms (ks xs) i))/\az w u:=by
 have t:=Lib.hid p;have a:=Lib.hid p.at_.len;have g:=Lib.hid (oH xs);by_cases q:n=0
 .subst q
  rw[Hm (by rw[g.out,a.out])]
  skip
  go_enter func58,ntmps58;go_wp2;go_ret;exact⟨rfl,Below.refl _ _⟩
 .have y:((n:Int)==0)=OZ:=pW
  by_cases f:i<0
  .rw[GV f]
   go_enter func58,ntmps58;go_wp2;go_ret;exact⟨rfl,Below.refl _ _⟩
  .by_cases d:(n:Int)<i
   .rw[Iy (by rw[g.out,a.out];exact d)]
    go_enter func58,ntmps58;go_wp2;go_ret;exact⟨rfl,Below.refl _ _⟩
   .obtain⟨k,rfl⟩:∃k:Nat,i=k:=⟨i.toNat,aq⟩
    rw[pv];by_cases l:k=0
    .subst l
     rw[pz (by rw[g.out,a.out];omega)];have x:¬(n:Int)<0:=aq;go_enter func58,ntmps58;go_wp2;go_ret;exact⟨rfl,Below.refl _ _⟩
    .by_cases j:k=n
     .subst j
      have h:=zj (ks:=ks xs) (by rw[g.out,a.out];omega);rw[g.out,a.out]at h;rw[h];go_enter func58,ntmps58;go_wp2;go_ret;exact⟨rfl,Below.refl _ _⟩
     .obtain⟨m,rfl⟩:∃m,k=m+1:=⟨k-1,aq⟩
      have o:m+1<n:=aq;rw[Ii aq (by rw[g.out,a.out];exact o)];have h:((m+1:Nat):Int)=(m:Int)+1:=aq;rw[h]at f d⊢;have z:(((m:Int)+1)==0)=OZ:=iY;have B:(((m:Int)+1)==(n:Int))=OZ:=iY;have r:=Lib.hid (DF A n c xs m o w t.out s);generalize kS (ks xs) (m+1)=b at*;go_enter func58,ntmps58;go_wp2_with fail;refine r.out.mono ?_;rintro e C ⟨rfl,v⟩;go_wp2;go_ret;exact⟨mr aT,v⟩
def Nl(A:aB)(n c:Nat)(xs:aC)(k:Nat)(w:EE)(d:aJ .i32 w A n c xs)(a:n<=140737488355328):
 GK prog 58 #[Pl A n c,ae aj (k:Int)] w λe b=>e=RE (PF (mC (ks xs) k))/\az w b:=by
 have h:=tA A n c xs k w d a;rw[pv]at h;exact h
def rz(A:aB)(n c:Nat)(xs:aC)(w:EE)(r:aJ .i32 w A n c xs)(Q:(n+1)*8<=140737488355328):
 GK prog 110 #[Pl A n c] w (lE w 3 .i64 (dC (ks xs)).length (bounds (ks xs))):=by
 have E:=Lib.hid r;have f:=Lib.hid r.at_.len;have z:=Lib.hid (oH xs);have K:=Lib.hid (λk t (m:az w t)=>Nl A n c xs k t (E.out.ar m) aq);clear r;go_enter func110,ntmps110;go_wp2;go_loopw [3,4] (λu v wr=>∃(k:Nat) (l:aB) (c':Nat),k<=n+1/\v=ae aj k/\u=Pl l (gj (ks xs) k).length c'/\Own wr w.heap.size 3 .i64 l (gj (ks xs) k).length c' (Ed (ks xs) k)/\az w wr) (λ_ v _=>n+1-(intOf v).toNat)
 case atStart=>exact⟨0,OJ,0,Nat.zero_le _,rfl,rfl,Own.nil _ _ _ _,Below.refl _ _⟩
 case round=>
  obtain⟨k,l,c',O,rfl,rfl,C,m⟩:=hrel;have q:=Lib.hid C;have i:=Lib.hid m;have J:=kY (ks xs) k;clear C m;by_cases H:k<n+1
  .have L:(k:Int)<(n:Int)+1:=by omega
   have P:(k:Int)<=(n:Int):=aq;have N:k<=n:=aq;have o:=Lib.hid (K.out k);cases hi:mC (ks xs) k
   .rw[hi]at o
    have d:=Lib.hid (yy hi);have a:=xz (ks xs) k;rw[hi]at a;simp only[Bool.false_eq_true,if_false]at a;have g:=Lib.hid a;clear hi a;go_wp2_with fail;refine(o.out _ i.out).mono ?_;rintro e G ⟨rfl,j⟩;have b:=Lib.hid (i.out.trans (j.mono i.out.size));have h:=Lib.hid (q.out.ar j);clear j;go_wp2;go_roundw
    case rel=>exact⟨k+1,l,c',aq,ns,by rw[d.out],by rw[d.out,g.out];exact h.out,b.out⟩
    case measure=>simp[intOf]<;>omega
   .rw[hi]at o
    have d:=Lib.hid (kr hi);have a:=xz (ks xs) k;rw[hi]at a;simp only[if_true]at a;have g:=Lib.hid a;clear hi a;go_wp2_with fail;refine(o.out _ i.out).mono ?_;rintro e G ⟨rfl,j⟩;have b:=Lib.hid (i.out.trans (j.mono i.out.size));have h:=Lib.hid (q.out.ar j);clear j;go_wp2_with (at_builtin;refine ju TIg rfl (.tmp 14) (.tmp 16) rfl rfl (h.out.alloc _) rfl (y:=(k:Int)) (bk _ _ _) aq (by have:=b.out.size;simp;omega) ?_;intro I c4 M D F);have p:az w M:=(b.out.alloc (by have:=b.out.size;omega) _).trans F;go_roundw
    case rel=>exact⟨k+1,I,c4,aq,ns,by rw[d.out];simp,by rw[d.out,g.out];exact Ex D rfl (by simp),p⟩
    case measure=>simp[intOf]<;>omega
  .obtain rfl:k=n+1:=by omega
   have L:¬((n:Int)+1<=(n:Int)):=aq;have s:dC (ks xs)=gj (ks xs) (n+1):=by unfold dC;rw[z.out,f.out]
   have x:bounds (ks xs)=Ed (ks xs) (n+1):=by unfold bounds;rw[z.out,f.out]
   have d:=Lib.hid s;have a:=Lib.hid x;have B:((n+1:Nat):Int)=(n:Int)+1:=aq;rw[B];clear s x B;go_wp2;go_ret;exact⟨l,c',by rw[d.out];rfl,by rw[d.out,a.out];exact q.out,i.out⟩
def wU(A:aB)(n c:Nat)(xs:aC)(w:EE)(B:aJ .i32 w A n c xs)(X:(n+1)*16<=140737488355328):
 GK prog 49 #[Pl A n c] w (uO w (uL (ks xs))):=by
 have N:=Lib.hid (oH xs);have E:(ks xs).length=n:=by rw[N.out];exact B.at_.len
 have PB:=Lib.hid (rz A n c xs w B aq);have eB:gj (ks xs) (n+1)=gj (ks xs) (n+1):=rfl;have⟨bs,b⟩:=eY (dC (ks xs));have V:(gj (ks xs) (n+1)).length<=n+1:=kY _ _;have z:bs.length<=n+1∨True:=.inr trivial;rw[Dr,b]at PB;unfold uL;rw[b];have⟨m,x⟩:=eY bs.length;have J:=Lib.hid x;rw[x]at PB⊢;have M:m<=n+1:=by
  have:=kY (ks xs) ((ks xs).length+1);have G:gj (ks xs) ((ks xs).length+1)=bs:=b;rw[G,x]at this;omega
 go_enter func49,ntmps49;go_wp2_with fail;refine PB.out.mono ?_;rintro e l ⟨T,Z,rfl,r,f⟩;have I:=Lib.hid r;have i:=Lib.hid f;have a:=f.size;go_wp2;go_loopw [3,5] (λu v wr=>∃(k:Nat) (g:aB) (c':Nat),(k+1<=m∨k=0)/\v=ae aj ((k:Int)+1)/\u=Pl g k c'/\aA wr l.heap.size 57 2 g k c' (dG (uf bs k))/\az l wr) (λ_ v _=>m+1-(intOf v).toNat)
 case atStart=>exact⟨0,OJ,0,.inr rfl,rfl,rfl,aA.nil _ _ _ _,Below.refl _ _⟩
 case round=>
  obtain⟨k,g,c',U,rfl,rfl,Q,y⟩:=hrel;have h:=Lib.hid Q;have d:=Lib.hid y;by_cases o:k+1<m
  .have s:=I.out.ar y
   obtain⟨Y,rfl,_⟩:=aA.form s aq;have c0:=iV s (j:=k) aq;have C:=iV s (j:=k+1) o;rw[pt (by rw[J.out];omega)]at c0 C;have O:(k:Int)+1<(m:Int):=aq;have D:=Lib.hid (ik bs k);generalize dw bs k=p at*;generalize dw bs (k+1)=q at*;go_wp2;have wk:IntKind.i64.wrap (k:Int)=(k:Int):=IntWalk.i64_in _ aq;have R:=gT k;have S:=aU k m;have W:(0:Int)<=(k:Int)+1:=aq;go_region_law ((refine DR TCg aD (.tmp 14) (.tmp 25) aD aD ((by first|exact h.out.alloc _|exact aA.drew (h.out.alloc _)|exact aA.alloc (aA.drew h.out) _)) aD (news:=[ae aj (p:Int),ae aj (q:Int)]) rfl (by first|exact gM _ _ _ _|exact gM wr _ _ _) (lq _ _) aq (by have:=d.out.size;simp;omega) ?_;intro L c4 P F H;have t:az l P:=Below.trans (by first|exact(d.out.drew).alloc (by have:=d.out.size;simp;omega) _|exact(d.out.alloc (by have:=d.out.size;omega) _).drew) H))
   all_goals
    go_wp2;go_roundw
    case rel=>
     refine⟨k+1,L,c4,.inl aq,ns,rfl, ?_,t⟩;rw[D.out,nw,xq];exact F
    case measure=>simp[intOf]<;>omega
  .have O:¬((k:Int)+1<(m:Int)):=by omega
   go_wp2;go_ret;have K:k=m-1:=aq;subst K;exact⟨g,c',by rw[jg];rfl,by rw[jg];exact Own.aeX h.out a,i.out.trans (d.out.mono a)⟩
def po(l:aC)(i:Int):Nat:=mQ l (min i.toNat (l.length+1))
def Ir{k:Nat}(h:k<(dC l).length):dw (dC l) k<=l.length:=by
 have a:dw (dC l) k∈dC l:=tw h;have b:=(pV (m:=l.length+1) a).1;omega
def JE(A:aB)(n c:Nat)(xs:aC)(i:Int)(w:EE)(x:aJ .i32 w A n c xs)(z:Laid w)(J:(n+1)*16<=140737488355328):
 GK prog 172 #[Pl A n c,ae aj i] w λe s=>e=RE (ae aj ((po (ks xs) i:Nat):Int))/\az w s:=by
 have D:=Lib.hid x;have I:=Lib.hid z;have j:=Lib.hid x.at_.len;have C:=Lib.hid (oH xs);have B:=Lib.hid (λk s (h:az w s)=>Rz A n c xs k s (D.out.ar h) (I.out.ar h) aq);clear x z;by_cases F:i<=0
 .have E:po (ks xs) i=0:=by unfold po;rw[show min i.toNat ((ks xs).length+1)=0 by omega];rfl
  rw[E];go_enter func172,ntmps172;go_wp2;go_ret;exact⟨rfl,Below.refl _ _⟩
 .by_cases y:(n:Int)+1<i
  .have E:po (ks xs) i=mQ (ks xs) (n+1):=by unfold po;rw[C.out,j.out,show min i.toNat (n+1)=n+1 by omega]
   have q:=Lib.hid E;clear E;go_enter func172,ntmps172;go_wp2;go_loopw [5] (λv wr=>∃k:Nat,k<=n/\v=ae aj k/\mQ (ks xs) (k+1)=mQ (ks xs) (n+1)/\az w wr) (λv _=>(intOf v).toNat)
   case atStart=>exact⟨n,aq,by first|rfl|go_num,rfl,Below.refl _ _⟩
   case round=>
    obtain⟨k,G,rfl,d,h⟩:=hrel;have l:=Lib.hid d;have b:=Lib.hid h;clear d h;rcases Nat.eq_zero_or_pos k with p|p
    .subst p
     have E:=Lib.hid (Il (ks xs));have t:¬(0:Int)<((0:Nat):Int):=aq;go_wp2;go_ret;refine⟨Ae ?_,b.out⟩;rw[q.out,<-l.out,E.out];rfl
    .obtain⟨m,rfl⟩:∃m,k=m+1:=⟨k-1,aq⟩
     have o:((m+1:Nat):Int)=(m:Int)+1:=aq;have f:=Lib.hid (B.out (m+1) _ b.out);rw[o]at f⊢;have t:(0:Int)<(m:Int)+1:=aq;clear o;cases hi:mC (ks xs) (m+1)
     .rw[hi]at f
      have E:=Lib.hid (uj hi);clear hi;go_wp2_with fail;refine f.out.mono ?_;rintro e u ⟨rfl,g⟩;have a:=Lib.hid (b.out.trans (g.mono b.out.size));clear g;go_wp2;go_roundw
      case rel=>exact⟨m,aq,by first|rfl|go_num,by rw[<-E.out];exact l.out,a.out⟩
      case measure=>simp[intOf]<;>omega
     .rw[hi]at f
      have E:=Lib.hid (pk hi);clear hi;go_wp2_with fail;refine f.out.mono ?_;rintro e u ⟨rfl,g⟩;have a:=Lib.hid (b.out.trans (g.mono b.out.size));clear g;go_wp2;go_ret;refine⟨Ae ?_,a.out⟩;rw[q.out,<-l.out,E.out];omega
  .obtain⟨r,rfl⟩:∃r:Nat,i=(r:Int)+1:=⟨(i-1).toNat,aq⟩
   have H:r<=n:=aq;have E:po (ks xs) ((r:Int)+1)=mQ (ks xs) (r+1):=by unfold po;rw[C.out,j.out,show min ((r:Int)+1).toNat (n+1)=r+1 by omega]
   have q:=Lib.hid E;clear E;go_enter func172,ntmps172;go_wp2;go_loopw [5] (λv wr=>∃k:Nat,k<=n/\v=ae aj k/\mQ (ks xs) (k+1)=mQ (ks xs) (r+1)/\az w wr) (λv _=>(intOf v).toNat)
   case atStart=>exact⟨r,aq,by first|rfl|go_num,rfl,Below.refl _ _⟩
   case round=>
    obtain⟨k,G,rfl,d,h⟩:=hrel;have l:=Lib.hid d;have b:=Lib.hid h;clear d h;rcases Nat.eq_zero_or_pos k with p|p
    .subst p
     have E:=Lib.hid (Il (ks xs));have t:¬(0:Int)<((0:Nat):Int):=aq;go_wp2;go_ret;refine⟨Ae ?_,b.out⟩;rw[q.out,<-l.out,E.out];rfl
    .obtain⟨m,rfl⟩:∃m,k=m+1:=⟨k-1,aq⟩
     have o:((m+1:Nat):Int)=(m:Int)+1:=aq;have f:=Lib.hid (B.out (m+1) _ b.out);rw[o]at f⊢;have t:(0:Int)<(m:Int)+1:=aq;clear o;cases hi:mC (ks xs) (m+1)
     .rw[hi]at f
      have E:=Lib.hid (uj hi);clear hi;go_wp2_with fail;refine f.out.mono ?_;rintro e u ⟨rfl,g⟩;have a:=Lib.hid (b.out.trans (g.mono b.out.size));clear g;go_wp2;go_roundw
      case rel=>exact⟨m,aq,by first|rfl|go_num,by rw[<-E.out];exact l.out,a.out⟩
      case measure=>simp[intOf]<;>omega
     .rw[hi]at f
      have E:=Lib.hid (pk hi);clear hi;go_wp2_with fail;refine f.out.mono ?_;rintro e u ⟨rfl,g⟩;have a:=Lib.hid (b.out.trans (g.mono b.out.size));clear g;go_wp2;go_ret;refine⟨Ae ?_,a.out⟩;rw[q.out,<-l.out,E.out];omega
