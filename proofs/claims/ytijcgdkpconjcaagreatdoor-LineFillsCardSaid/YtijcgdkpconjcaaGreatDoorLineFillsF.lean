/- LineFills, proved. -/
import Derived.Test.YtijcgdkpconjcaaGreatDoorAv
import Derived.Test.YtijcgdkpconjcaaGreatDoorAd
namespace Go.Proofs.YtijcgdkpconjcaaGreatDoor
open Go.ChangeShapes Go.WideShapes Go.ChangeAt Go.RowKit
set_option linter.all false
set_option maxRecDepth 100000
set_option maxHeartbeats 16000000
namespace lineFillsDone
open Go.ChangeMaps (open_string shut_string)
theorem own:ownKnob Tryz.prog.godebug=none:=by kernel_rfl
theorem aec:Tryz.prog.globalNamed "typecase/props.lasts"=some 0:=by kernel_rfl
theorem Ql:(Tryz.prog.globals[0]?).map (·.type)=some 274:=by kernel_rfl
theorem aaS:Tryz.prog.cellsOf 274=13:=by kernel_rfl
theorem aaJ:Tryz.prog.cellsOf 21=1:=by kernel_rfl
theorem table{W:World}(h:laidMetH Tryz.prog Rows.lineFillsRow.laid W):Laid W:=by
 have ht:Lib.TabIs Tryz.prog W "typecase/props.lasts" .i32 Et:=Lib.tabIs_of_head (rest:=[]) aec Ql Tryz.underlying274 Tryz.underlying21 aaJ aaS h;have hc:∀i,i<13->W.cell? ⟨0,i,none⟩=some (.int .i32 (kM i)):=λi hi=>ht.cell aec i hi
 exact⟨block_lt_of_cell (hc 0 (by omega)),hc⟩
theorem QW(H:Type)(enc:TypeId×Value->H)(W:World)(base:Nat)(args:Array Value)(ds gs:List (DataW H))(before:List MemPlace)
 (Ft:∀(j:Nat) t v,Tryz.f3.params[j]? =some t->args[j]? =some v->Value.okWide Tryz.prog W .any base t v)
 (hW:DataW.Whole enc Tryz.prog Tryz.f3.params.toList Rows.lineFillsSpec.vars false W args.toList ds gs before) (hR:(DataW.weightsEach Tryz.prog (Tryz.f3.params.toList++(OpenSpec.ofChange Rows.lineFillsSpec).bare.plain.varTypes Tryz.prog) (ds++gs)).all (·<=reachBytes)=true) (hL:laidMetH Tryz.prog Rows.lineFillsRow.laid W):
 Calls Tryz.prog 3 args W λe W'=>∃v,e=.returned v/\Rows.lineFillsSpec.post enc Tryz.prog Tryz.f3 false true false false W args v W':=by
 have hW':=hW;obtain⟨p,q,hA0,hV,rfl,hfz,hnd⟩:=hW;have hA:DataW.TrodAll enc Tryz.prog W 0 (λ_=>true) true Tryz.f3.params.toList args.toList ds p:=hA0;rw[Tryz.params3]at hA Ft;obtain⟨v0,vs0,d0,ds0,p0,q0,aeT,rfl,rfl,h0,r0⟩:=trodAll_cons hA;obtain⟨v1,vs1,d1,ds1,p1,q1,rfl,rfl,rfl,h1,r1⟩:=trodAll_cons r0;obtain⟨v2,vs2,d2,ds2,p2,q2,rfl,rfl,rfl,h2,r2⟩:=trodAll_cons r1;obtain⟨v3,vs3,d3,ds3,p3,q3,rfl,rfl,rfl,h3,r3⟩:=trodAll_cons r2;obtain⟨rfl,rfl,rfl⟩:=trodAll_nil r3;obtain rfl:args=#[v0,v1,v2,v3]:=Array.ext' aeT;obtain⟨rfl,rfl⟩:=trodVars_none hV;obtain⟨cs0,rfl,_⟩:=okWide_struct Tryz.underlying26 (Ft 0 26 v0 (by rfl) (by rfl));have k0:=h0;have Rc:∀x∈p0,x.block<W.heap.size:=by obtain⟨m,hm⟩:=k0;exact DataW.trod_lt m _ _ _ hm
 obtain⟨x0,rfl,w0⟩:∃(x:cM),cs0=x.row/\gA W W.heap.size x:=by
  obtain⟨fuel,hf⟩:=h0;have ED:Fits Tryz.prog 26 d0:=λm hm=>by
   have h9:=List.all_eq_true.1 hR m (DataW.weights_mem_each (j:=0) (by rfl) (by rfl) m hm);have h7:reachBytes=140737488351232:=(by rfl);rw[h7]at h9;simpa using h9
  obtain⟨x,e,hx⟩:=Ww (tz _ _ _ fuel cs0.toList (d0,p0) KH ED hf);exact⟨x,Array.toList_inj.1 e,hx⟩
 obtain⟨cs1,rfl,_⟩:=okWide_struct Tryz.underlying31 (Ft 1 31 v1 (by rfl) (by rfl));have k1:=h1;have lt1:∀x∈p1,x.block<W.heap.size:=by obtain⟨m,hm⟩:=k1;exact DataW.trod_lt m _ _ _ hm
 obtain⟨x1,ts1,rfl,w1⟩:∃(x:jz) (ts:List Int),cs1=x.row/\kf W x ts:=by
  obtain⟨fuel,hf⟩:=h1;have ED:Fits Tryz.prog 31 d1:=λm hm=>by
   have h9:=List.all_eq_true.1 hR m (DataW.weights_mem_each (j:=1) (by rfl) (by rfl) m hm);have h7:reachBytes=140737488351232:=(by rfl);rw[h7]at h9;simpa using h9
  obtain⟨x,ts,e,hx⟩:=Xi (tz _ _ _ fuel cs1.toList (d1,p1) JM ED hf);exact⟨x,ts,Array.toList_inj.1 e,hx⟩
 obtain⟨a2,rfl,rfl,rfl,w2⟩:=open_int Tryz.underlying3 (Ft 2 3 v2 (by rfl) (by rfl)) h2;obtain⟨a3,rfl,rfl,rfl,w3⟩:=open_int Tryz.underlying3 (Ft 3 3 v3 (by rfl) (by rfl)) h3;refine(LineFills_walk x0 x1 ts1 a2 w2 a3 w3 W w0 w1 (table hL)).mono λe W' ⟨he,ky⟩=> ?_;subst he;exact⟨_,rfl,_,_,_,[],_,[],hW',trodAll_mk1 (shut_bool Tryz.underlying4 _),(trodAll_cons_mk (Below.trod laidOut (by kernel_rfl) (of_decide_eq_true (by kernel_rfl)) k0 ky Rc) (trodAll_cons_mk (Below.trod laidOut (by kernel_rfl) (of_decide_eq_true (by kernel_rfl)) k1 ky lt1) (trodAll_cons_mk (shut_int Tryz.underlying3 w2) (trodAll_cons_mk (shut_int Tryz.underlying3 w3) trodAll_mk0)))),rfl,ky.frame _,λh=>by cases h⟩
noncomputable def qJ(os:Go.Os):World:=
 {World.holding Tryz.prog os ⟨#[],#[],[]⟩with heap:=(World.holding Tryz.prog os ⟨#[],#[],[]⟩).heap.modify 0 fun
  | .cells _ t frozen=> .cells (Et.map (Value.int .i32)).toArray t frozen
  |o=>o}
theorem Ny(os:Go.Os):laidMet Tryz.prog Rows.lineFillsRow.laid ((qJ os).forCall (λ_ _=>0) ⟨#[],#[.agg #[.slice none 0 0,.slice none 0 0,.slice none 0 0,.int .i64 0,.int .i64 0],.agg #[.slice none 0 0,.slice none 0 0,.slice none 0 0,.int .i64 0,.int .i64 0,.int .i64 0,.int .i64 0,.bool false],.int .i64 0,.int .i64 0],[]⟩).memory:=
 laidMet_of_run' 8 (by kernel_rfl) (by kernel_rfl)
theorem reads(os:Go.Os){H:Type}(enc:TypeId×Value->H):∃places,DataW.whole enc Tryz.prog ((qJ os).forCall (λ_ _=>0) ⟨#[],#[.agg #[.slice none 0 0,.slice none 0 0,.slice none 0 0,.int .i64 0,.int .i64 0],.agg #[.slice none 0 0,.slice none 0 0,.slice none 0 0,.int .i64 0,.int .i64 0,.int .i64 0,.int .i64 0,.bool false],.int .i64 0,.int .i64 0],[]⟩).memory Tryz.f3.params.toList Rows.lineFillsSpec.vars false #[.agg #[.slice none 0 0,.slice none 0 0,.slice none 0 0,.int .i64 0,.int .i64 0],.agg #[.slice none 0 0,.slice none 0 0,.slice none 0 0,.int .i64 0,.int .i64 0,.int .i64 0,.int .i64 0,.bool false],.int .i64 0,.int .i64 0].toList 8=some ([.agg [.nil,.nil,.nil,.lit (.int .i64 0),.lit (.int .i64 0)],.agg [.nil,.nil,.nil,.lit (.int .i64 0),.lit (.int .i64 0),.lit (.int .i64 0),.lit (.int .i64 0),.lit (.bool false)],.lit (.int .i64 0),.lit (.int .i64 0)],[],places):=
 ⟨[],by kernel_rfl⟩
theorem lifted(os:Go.Os)(started:os.Started)(H:Type)(enc:TypeId×Value->H)(F:Stop.Interp):
 ReturnsInHanded {} Tryz.checked os 3 .any ((OpenSpec.ofChange Rows.lineFillsSpec).preRow enc Tryz.prog Tryz.f3 Rows.lineFillsRow.domain false Rows.lineFillsRow.laid) (((OpenSpec.ofChange Rows.lineFillsSpec).at F).post enc Tryz.prog Tryz.f3 false true false false):=by
 obtain⟨places,hx⟩:=reads os enc;refine returnsInHanded_of_row (C:=Tryz.checked) (s:=OpenSpec.ofChange Rows.lineFillsSpec) own started (by kernel_rfl) Tryz.func3
  (witness_row_at (enc:=enc) (C:=Tryz.checked) false (qJ os) #[.agg #[.slice none 0 0,.slice none 0 0,.slice none 0 0,.int .i64 0,.int .i64 0],.agg #[.slice none 0 0,.slice none 0 0,.slice none 0 0,.int .i64 0,.int .i64 0,.int .i64 0,.int .i64 0,.bool false],.int .i64 0,.int .i64 0] rfl (by kernel_rfl) (by kernel_rfl) (by kernel_rfl)
   (OpenSpec.preRow_of_cond 8 hx (by kernel_rfl) (λk hk=>by cases hk) (by kernel_rfl) (Ny os))) ?_
 intro W base args ds gs before Ft hW _ _ hR hL _ _;exact QW H enc W base args ds gs before Ft hW hR hL
theorem said:Rows.LineFillsSaid:=
 OpenClaim.holds_of_cond 3 Tryz.f3 rfl rfl rfl rfl rfl rfl rfl ⟨rfl,rfl,rfl,rfl,rfl⟩ rfl rfl rfl rfl rfl (by kernel_rfl) Tryz.func3 closed
  (of_decide_eq_true (by kernel_rfl)) (by unfold Func.isWrapper;first|(rw[if_pos (by decide+kernel)];kernel_rfl)|(rw[if_neg (by decide+kernel)];exact⟨rfl,rfl⟩))
  (λos started H enc _ F=>by rw[OpenClaim.pre_eq_preRow];exact lifted os started H enc F)
theorem card:Rows.LineFillsCardSaid:=
 Claim7.holds_tied_plain_at .later [] _ _ _ _ said (λ_ h=>by cases h) k1 (λ_ h=>by cases h) lineFills_row_tie rfl ⟨rfl,rfl⟩ k2 rfl plain k3
end lineFillsDone
end Go.Proofs.YtijcgdkpconjcaaGreatDoor
