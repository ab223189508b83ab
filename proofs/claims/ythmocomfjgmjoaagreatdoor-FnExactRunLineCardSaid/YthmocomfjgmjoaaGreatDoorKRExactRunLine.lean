/- The law FnExactRunLine: for every input the call returns true, and its arguments read as they did. No condition. -/
import Derived.Test.YthmocomfjgmjoaaGreatDoorCards
import Derived.Test.YthmocomfjgmjoaaGreatDoorTie
import Derived.Test.YthmocomfjgmjoaaGreatDoorQ26
import Derived.Test.YthmocomfjgmjoaaGreatDoorQ40
import Derived.Deep.DeepHandedRow
import Derived.Stop.LaidErr
set_option maxRecDepth 100000
namespace Go.Proofs.YthmocomfjgmjoaaGreatDoor.fnExactRunLine
open Go.ChangeShapes Go.WideShapes Go.ChangeAt Go.RowKit
open Go.ChangeMaps (open_string shut_string)
set_option linter.unusedVariables false
theorem own:ownKnob Tryz.prog.godebug=none:=by kernel_rfl
theorem A0p:laidOutB Tryz.prog=true:=by kernel_rfl
theorem A2S:(Tryz.prog.globals[0]?).map (·.type)=some 210:=by kernel_rfl
theorem A4p:Tryz.prog.globalNamed "internal/strconv.uint64pow10"=some 0:=by kernel_rfl
theorem A2v:Tryz.prog.cellsOf 166=1:=by kernel_rfl
theorem ZH:Tryz.prog.cellsOf 210=20:=by kernel_rfl
theorem tabData:(Rows.laid_internal_strconv_uint64pow10:DataW Unit)=Lib.tabData .u64 Lib.pow10Tab:=by kernel_rfl
theorem A3b{W:World}(h:laidMetH Tryz.prog Rows.fnExactRunLineRow.laid W):Tab W:=by
 have ka:laidMet Tryz.prog Rows.fnExactRunLineRow.laid W:=h;have h3:=(laidMet.tail (laidMet.tail ka));rw[tabData]at h3;exact Lib.tabIs_of_head A4p A2S Tryz.underlying210 Tryz.underlying166 A2v ZH h3
theorem erG:Tryz.prog.globalNamed "strconv.ErrRange"=some 3:=by kernel_rfl
theorem esG:Tryz.prog.globalNamed "strconv.ErrSyntax"=some 2:=by kernel_rfl
theorem erT:(Tryz.prog.globals[3]?).map (·.type)=some 108:=by kernel_rfl
theorem esT:(Tryz.prog.globals[2]?).map (·.type)=some 108:=by kernel_rfl
theorem cE:Tryz.prog.cellsOf 231=1:=by kernel_rfl
theorem cS:Tryz.prog.cellsOf 9=1:=by kernel_rfl
theorem XD: "*"++ "errors.errorString"= "*errors.errorString":=by decide
theorem A2x(u:TypeId)(h:Tryz.prog.typeName? 3 u=some "*errors.errorString"):u=229:=
 typeName_ptr_named (nm:= "errors.errorString") (by rw[XD];kernel_rfl) (by kernel_rfl) (by decide) u (by rw[XD];exact h)
theorem A4i{W:World}(h:laidMetH Tryz.prog Rows.fnExactRunLineRow.laid W):A1u W:=by
 have ka:laidMet Tryz.prog Rows.fnExactRunLineRow.laid W:=h;obtain⟨a0,s0,uh,-,-,-⟩:=laid_sentinel ((laidMet.tail (laidMet.tail (laidMet.tail (laidMet.tail ka))))) esG esT Tryz.underlying108 A2x Tryz.underlying229 Tryz.underlying231 rfl rfl Tryz.underlying9 cE cS;obtain⟨a1,s1,ui,-,-,-⟩:=laid_sentinel ((laidMet.tail (laidMet.tail (laidMet.tail ka)))) erG erT Tryz.underlying108 A2x Tryz.underlying229 Tryz.underlying231 rfl rfl Tryz.underlying9 cE cS;exact⟨⟨_,_,by have h0:=World.var?_cell esG uh 0;simpa using h0⟩,⟨_,_,by have h0:=World.var?_cell erG ui 0;simpa using h0⟩⟩
theorem Rt(H:Type)(enc:TypeId×Value→H)(W:World)(base:Nat)(args:Array Value)(ds gs:List (DataW H))(ek:List MemPlace)
  (jM:∀(j:Nat) t v,Tryz.f6.params[j]? =some t→args[j]? =some v→Value.okWide Tryz.prog W .any base t v)
  (hW:DataW.Whole enc Tryz.prog Tryz.f6.params.toList Rows.fnExactRunLineSpec.vars false W args.toList ds gs ek)(hL:laidMetH Tryz.prog Rows.fnExactRunLineRow.laid W):
  Calls Tryz.prog 6 args W fun e W'=>∃v,e=.returned v∧Rows.fnExactRunLineSpec.post enc Tryz.prog Tryz.f6 false true false false W args v W':=by
 have eB:∀(j:Nat) t v,Tryz.f6.params[j]? =some t→args[j]? =some v→Value.okWide Tryz.prog W .any base t v:=jM;have hW':=hW;obtain⟨p,q,hA0,hV,rfl,hfz,gn⟩:=hW;have hA:DataW.TrodAll enc Tryz.prog W 0 (fun _=>true) true Tryz.f6.params.toList args.toList ds p:=hA0;rw[Tryz.params6]at hA eB;obtain⟨v0,vs0,d0,ds0,p0,q0,hargs,rfl,rfl,h0,r0⟩:=trodAll_cons hA;obtain⟨v1,vs1,d1,ds1,p1,q1,rfl,rfl,rfl,h1,r1⟩:=trodAll_cons r0;obtain⟨rfl,rfl,rfl⟩:=trodAll_nil r1;obtain rfl:args=#[v0,v1]:=by cases args;simp_all
 obtain⟨rfl,rfl⟩:=trodVars_none hV;have k0:=h0;have lt0:∀x∈p0,x.block<W.heap.size:=by obtain⟨m,hm⟩:=k0;exact DataW.trod_lt m _ _ _ hm
 obtain⟨x0,w0⟩:=Ve (eB 0 40 v0 rfl rfl) h0;obtain⟨s1,rfl,rfl,rfl,w1⟩:=open_string Tryz.underlying9 (eB 1 9 v1 rfl rfl) h1;clear hA0 jM;refine(Pu w0 w1 ⟨A3b hL,A4i hL⟩).mono fun e W' ⟨he,bel⟩=>?_;subst he;exact⟨_,rfl,_,_,_,[],_,[],hW',trodAll_mk1 (shut_bool Tryz.underlying4 _),(trodAll_cons_mk (Below.trod A0p (by kernel_rfl) (of_decide_eq_true (by kernel_rfl)) k0 bel lt0) (trodAll_cons_mk (shut_string Tryz.underlying9 w1) trodAll_mk0)),rfl,bel.frame _,fun h=>by cases h⟩
noncomputable def low:Nat:=(World.holding Tryz.prog default ⟨#[],#[],[]⟩).heap.size
def lay(cs:Array Value):Obj→Obj
 |.cells _ t frozen=>.cells cs t frozen
 |o=>o
noncomputable def Gz (os:Os):World:={World.holding Tryz.prog os ⟨#[.cells #[.string ⟨#[118,97,108,117,101,32,111,117,116,32,111,102,32,114,97,110,103,101]⟩] 231,.cells #[.string ⟨#[105,110,118,97,108,105,100,32,115,121,110,116,97,120]⟩] 231],#[],[]⟩with heap:=((((((World.holding Tryz.prog os ⟨#[.cells #[.string ⟨#[118,97,108,117,101,32,111,117,116,32,111,102,32,114,97,110,103,101]⟩] 231,.cells #[.string ⟨#[105,110,118,97,108,105,100,32,115,121,110,116,97,120]⟩] 231],#[],[]⟩).heap.modify 4 (lay #[.int .u8 0,.int .u8 1,.int .u8 28,.int .u8 2,.int .u8 29,.int .u8 14,.int .u8 24,.int .u8 3,.int .u8 30,.int .u8 22,.int .u8 20,.int .u8 15,.int .u8 25,.int .u8 17,.int .u8 4,.int .u8 8,.int .u8 31,.int .u8 27,.int .u8 13,.int .u8 23,.int .u8 21,.int .u8 19,.int .u8 16,.int .u8 7,.int .u8 26,.int .u8 12,.int .u8 18,.int .u8 6,.int .u8 11,.int .u8 5,.int .u8 10,.int .u8 9])).modify 5 (lay #[.int .u8 0,.int .u8 1,.int .u8 56,.int .u8 2,.int .u8 57,.int .u8 49,.int .u8 28,.int .u8 3,.int .u8 61,.int .u8 58,.int .u8 42,.int .u8 50,.int .u8 38,.int .u8 29,.int .u8 17,.int .u8 4,.int .u8 62,.int .u8 47,.int .u8 59,.int .u8 36,.int .u8 45,.int .u8 43,.int .u8 51,.int .u8 22,.int .u8 53,.int .u8 39,.int .u8 33,.int .u8 30,.int .u8 24,.int .u8 18,.int .u8 12,.int .u8 5,.int .u8 63,.int .u8 55,.int .u8 48,.int .u8 27,.int .u8 60,.int .u8 41,.int .u8 37,.int .u8 16,.int .u8 46,.int .u8 35,.int .u8 44,.int .u8 21,.int .u8 52,.int .u8 32,.int .u8 23,.int .u8 11,.int .u8 54,.int .u8 26,.int .u8 40,.int .u8 15,.int .u8 34,.int .u8 20,.int .u8 31,.int .u8 10,.int .u8 25,.int .u8 14,.int .u8 19,.int .u8 9,.int .u8 13,.int .u8 8,.int .u8 7,.int .u8 6])).modify 0 (lay #[.int .u64 1,.int .u64 10,.int .u64 100,.int .u64 1000,.int .u64 10000,.int .u64 100000,.int .u64 1000000,.int .u64 10000000,.int .u64 100000000,.int .u64 1000000000,.int .u64 10000000000,.int .u64 100000000000,.int .u64 1000000000000,.int .u64 10000000000000,.int .u64 100000000000000,.int .u64 1000000000000000,.int .u64 10000000000000000,.int .u64 100000000000000000,.int .u64 1000000000000000000,.int .u64 10000000000000000000])).modify 3 (lay #[.iface 229 (.pointer (some ⟨low+0,0,none⟩))])).modify 2 (lay #[.iface 229 (.pointer (some ⟨low+1,0,none⟩))]))}
theorem SN(os:Os):laidMet Tryz.prog Rows.fnExactRunLineRow.laid ((Gz os).forCall (fun _ _=>0) ⟨#[],#[.agg #[.slice none 0 0,.slice none 0 0,.slice none 0 0],.string ByteArray.empty],[]⟩).memory:=
 laidMet_of_run' 8 (by kernel_rfl) (by kernel_rfl)
theorem reads(os:Os){H:Type}(enc:TypeId×Value→H):∃gK,DataW.whole enc Tryz.prog ((Gz os).forCall (fun _ _=>0) ⟨#[],#[.agg #[.slice none 0 0,.slice none 0 0,.slice none 0 0],.string ByteArray.empty],[]⟩).memory Tryz.f6.params.toList Rows.fnExactRunLineSpec.vars false (#[.agg #[.slice none 0 0,.slice none 0 0,.slice none 0 0],.string ByteArray.empty]:Array Value).toList 8=some ([.agg [.nil,.nil,.nil],.lit (.string [])],[],gK):=
 ⟨[],by kernel_rfl⟩
theorem lifted(os:Os)(db:os.Started)(H:Type)(enc:TypeId×Value→H)(F:Stop.Interp):
  ReturnsInHanded {} Tryz.checked os 6 .any ((OpenSpec.ofChange Rows.fnExactRunLineSpec).preRow enc Tryz.prog Tryz.f6 Rows.fnExactRunLineRow.domain false Rows.fnExactRunLineRow.laid) (((OpenSpec.ofChange Rows.fnExactRunLineSpec).at F).post enc Tryz.prog Tryz.f6 false true false false):=by
 obtain⟨gK,hx⟩:=reads os enc;refine returnsInHanded_of_row (C:=Tryz.checked) (s:=OpenSpec.ofChange Rows.fnExactRunLineSpec) own db (by kernel_rfl) Tryz.func6
  (witness_row_at (enc:=enc) (C:=Tryz.checked) false (Gz os) #[.agg #[.slice none 0 0,.slice none 0 0,.slice none 0 0],.string ByteArray.empty] rfl (by kernel_rfl) (by kernel_rfl) (by kernel_rfl)
    (OpenSpec.preRow_of_cond 8 hx (by kernel_rfl) (fun k hk=>by cases hk) (by kernel_rfl) (SN os))) ?_
 intro W base args ds gs ek eB hW _ _ _ hL _ _;exact Rt H enc W base args ds gs ek eB hW hL
theorem j1:Tryz.prog.inPlace 6=Rows.fnExactRunLineRow.inPlace:=by kernel_rfl
theorem j2:Tryz.prog.unfollowed 6=Rows.fnExactRunLineRow.unfollowed:=by kernel_rfl
theorem j3:Tryz.prog.recurses 6=Rows.fnExactRunLineRow.recurses:=by unfold Program.recurses;rw[j2];rfl
theorem j4:Tryz.prog.varsNamed 6=Rows.fnExactRunLineRow.named:=by kernel_rfl
theorem Zg:joinedFacts Tryz.prog 6 Tryz.f6 (OpenSpec.ofChange Rows.fnExactRunLineSpec).bare Rows.fnExactRunLineRow=true:=by
 unfold joinedFacts;rw[j1,j2,j3,j4];kernel_rfl
theorem A4f:Rows.FnExactRunLineSaid:=
 OpenClaim.holds_of_cond 6 Tryz.f6 rfl rfl rfl rfl rfl rfl rfl ⟨rfl,rfl,rfl,rfl,rfl⟩ rfl rfl rfl rfl rfl (by kernel_rfl) Tryz.func6 Zg
  (of_decide_eq_true (by kernel_rfl)) (by unfold Func.isWrapper;first|(rw[if_pos (by decide+kernel)];kernel_rfl)|(rw[if_neg (by decide+kernel)];exact⟨rfl,rfl⟩))
  (fun os db H enc _ F=>by rw[OpenClaim.pre_eq_preRow];exact lifted os db H enc F)
theorem A2i(f:FuncId)(fn:Func)(hf:Tryz.pinned.checked.prog.funcNamed "loop.example/g00860/laws.FnExactRunLine"=some f)(hfn:Tryz.pinned.checked.prog.funcs[f]? =some fn):
  true=Tryz.pinned.checked.prog.looks []∧∀(j:Nat) t,fn.params[j]? =some t→Tryz.pinned.checked.prog.wantsStandIn t=false:=by
 obtain rfl:f=6:=Option.some.inj ((show Tryz.prog.funcNamed "loop.example/g00860/laws.FnExactRunLine"=some 6 by kernel_rfl).symm.trans hf)|>.symm;obtain rfl:fn=Tryz.f6:=(Option.some.inj (Tryz.func6.symm.trans hfn)).symm;refine⟨by kernel_rfl,fun j t ht=>?_⟩;rw[Tryz.params6]at ht;have hm:t=40∨t=9:=by simpa using Array.mem_of_getElem? ht
 rcases hm with rfl|rfl
 ·exact(show Tryz.prog.wantsStandIn 40=false by kernel_rfl)
 ·exact(show Tryz.prog.wantsStandIn 9=false by kernel_rfl)
theorem card:Rows.FnExactRunLineCardSaid:=
 Claim7.holds_tied_plain_at .later [] _ _ _ _ A4f (fun _ h=>by cases h) (by kernel_rfl) (fun _ h=>by cases h) fnExactRunLine_row_tie rfl ⟨rfl,rfl⟩ (by kernel_rfl) rfl A2i (by kernel_rfl)
end Go.Proofs.YthmocomfjgmjoaaGreatDoor.fnExactRunLine
namespace Go.Proofs.YthmocomfjgmjoaaGreatDoor
theorem fnExactRunLine_holds:Rows.FnExactRunLineCardSaid:=fnExactRunLine.card
end Go.Proofs.YthmocomfjgmjoaaGreatDoor
namespace Go.Proofs.YthmocomfjgmjoaaGreatDoor
#print axioms fnExactRunLine_holds
end Go.Proofs.YthmocomfjgmjoaaGreatDoor
