/- The law FnExactRunSession: for every input the call returns true, and its arguments read as they did. No condition. -/
import Derived.Test.YthmocomfjgmjoaaGreatDoorCards
import Derived.Test.YthmocomfjgmjoaaGreatDoorTie
import Derived.Test.YthmocomfjgmjoaaGreatDoorKLExactRunSession
import Derived.OpenShut
import Derived.ShutString
import Derived.Deep.DeepHandedRow
import Derived.Stop.LaidErr
import Derived.Stop.ErrReads
set_option maxRecDepth 100000
namespace Go.Proofs.YthmocomfjgmjoaaGreatDoor.fnExactRunSession
open Go.ChangeShapes Go.WideShapes Go.ChangeAt Go.RowKit
open Go.ChangeMaps (open_string shut_string)
set_option linter.unusedVariables false
theorem own:ownKnob Tryz.prog.godebug=none:=by kernel_rfl
theorem A0p:laidOutB Tryz.prog=true:=by kernel_rfl
theorem A2S:(Tryz.prog.globals[0]?).map (·.type)=some 210:=by kernel_rfl
theorem A4p:Tryz.prog.globalNamed "internal/strconv.uint64pow10"=some 0:=by kernel_rfl
theorem A2v:Tryz.prog.cellsOf 166=1:=by kernel_rfl
theorem ZH:Tryz.prog.cellsOf 210=20:=by kernel_rfl
theorem tabData:(Rows.laid_internal_strconv_uint64pow10:DataW Unit)=Lib.tabData .u64 Lib.pow10Tab:=by kernel_rfl
theorem A3b{W:World}(h:laidMetH Tryz.prog Rows.fnExactRunSessionRow.laid W):Tab W:=by
 have ka:laidMet Tryz.prog Rows.fnExactRunSessionRow.laid W:=h;have h3:=(laidMet.tail (laidMet.tail ka));rw[tabData]at h3;exact Lib.tabIs_of_head A4p A2S Tryz.underlying210 Tryz.underlying166 A2v ZH h3
theorem erG:Tryz.prog.globalNamed "strconv.ErrRange"=some 3:=by kernel_rfl
theorem esG:Tryz.prog.globalNamed "strconv.ErrSyntax"=some 2:=by kernel_rfl
theorem erT:(Tryz.prog.globals[3]?).map (·.type)=some 108:=by kernel_rfl
theorem esT:(Tryz.prog.globals[2]?).map (·.type)=some 108:=by kernel_rfl
theorem cE:Tryz.prog.cellsOf 231=1:=by kernel_rfl
theorem cS:Tryz.prog.cellsOf 9=1:=by kernel_rfl
theorem XD: "*"++ "errors.errorString"= "*errors.errorString":=by decide
theorem A2x(u:TypeId)(h:Tryz.prog.typeName? 3 u=some "*errors.errorString"):u=229:=
 typeName_ptr_named (nm:= "errors.errorString") (by rw[XD];kernel_rfl) (by kernel_rfl) (by decide) u (by rw[XD];exact h)
theorem A4i{W:World}(h:laidMetH Tryz.prog Rows.fnExactRunSessionRow.laid W):A1u W:=by
 have ka:laidMet Tryz.prog Rows.fnExactRunSessionRow.laid W:=h;obtain⟨a0,s0,uh,-,-,-⟩:=laid_sentinel ((laidMet.tail (laidMet.tail (laidMet.tail (laidMet.tail ka))))) esG esT Tryz.underlying108 A2x Tryz.underlying229 Tryz.underlying231 rfl rfl Tryz.underlying9 cE cS;obtain⟨a1,s1,ui,-,-,-⟩:=laid_sentinel ((laidMet.tail (laidMet.tail (laidMet.tail ka)))) erG erT Tryz.underlying108 A2x Tryz.underlying229 Tryz.underlying231 rfl rfl Tryz.underlying9 cE cS;exact⟨⟨_,_,by have h0:=World.var?_cell esG uh 0;simpa using h0⟩,⟨_,_,by have h0:=World.var?_cell erG ui 0;simpa using h0⟩⟩
theorem Rt(H:Type)(enc:TypeId×Value→H)(W:World)(base:Nat)(args:Array Value)(ds gs:List (DataW H))(ek:List MemPlace)
  (jM:∀(j:Nat) t v,Tryz.f5.params[j]? =some t→args[j]? =some v→Value.okWide Tryz.prog W .any base t v)
  (hW:DataW.Whole enc Tryz.prog Tryz.f5.params.toList Rows.fnExactRunSessionSpec.vars false W args.toList ds gs ek)(hL:laidMetH Tryz.prog Rows.fnExactRunSessionRow.laid W):
  Calls Tryz.prog 5 args W fun e W'=>∃v,e=.returned v∧Rows.fnExactRunSessionSpec.post enc Tryz.prog Tryz.f5 false true false false W args v W':=by
 have eB:∀(j:Nat) t v,Tryz.f5.params[j]? =some t→args[j]? =some v→Value.okWide Tryz.prog W .any base t v:=jM;have hW':=hW;obtain⟨p,q,hA0,hV,rfl,hfz,gn⟩:=hW;have hA:DataW.TrodAll enc Tryz.prog W 0 (fun _=>true) true Tryz.f5.params.toList args.toList ds p:=hA0;rw[Tryz.params5]at hA eB;obtain⟨v0,vs0,d0,ds0,p0,q0,hargs,rfl,rfl,h0,r0⟩:=trodAll_cons hA;obtain⟨rfl,rfl,rfl⟩:=trodAll_nil r0;obtain rfl:args=#[v0]:=by cases args;simp_all
 obtain⟨rfl,rfl⟩:=trodVars_none hV;obtain⟨s0,rfl,rfl,rfl,w0⟩:=open_string Tryz.underlying9 (eB 0 9 v0 rfl rfl) h0;clear hA0 jM;refine(MZ w0 ⟨A3b hL,A4i hL⟩).mono fun e W' ⟨he,bel⟩=>?_;subst he;exact⟨_,rfl,_,_,_,[],_,[],hW',trodAll_mk1 (shut_bool Tryz.underlying4 _),(trodAll_cons_mk (shut_string Tryz.underlying9 w0) trodAll_mk0),rfl,bel.frame _,fun h=>by cases h⟩
noncomputable def low:Nat:=(World.holding Tryz.prog default ⟨#[],#[],[]⟩).heap.size
def lay(cs:Array Value):Obj→Obj
 |.cells _ t frozen=>.cells cs t frozen
 |o=>o
noncomputable def Gz (os:Os):World:={World.holding Tryz.prog os ⟨#[.cells #[.string ⟨#[118,97,108,117,101,32,111,117,116,32,111,102,32,114,97,110,103,101]⟩] 231,.cells #[.string ⟨#[105,110,118,97,108,105,100,32,115,121,110,116,97,120]⟩] 231],#[],[]⟩with heap:=((((((World.holding Tryz.prog os ⟨#[.cells #[.string ⟨#[118,97,108,117,101,32,111,117,116,32,111,102,32,114,97,110,103,101]⟩] 231,.cells #[.string ⟨#[105,110,118,97,108,105,100,32,115,121,110,116,97,120]⟩] 231],#[],[]⟩).heap.modify 4 (lay #[.int .u8 0,.int .u8 1,.int .u8 28,.int .u8 2,.int .u8 29,.int .u8 14,.int .u8 24,.int .u8 3,.int .u8 30,.int .u8 22,.int .u8 20,.int .u8 15,.int .u8 25,.int .u8 17,.int .u8 4,.int .u8 8,.int .u8 31,.int .u8 27,.int .u8 13,.int .u8 23,.int .u8 21,.int .u8 19,.int .u8 16,.int .u8 7,.int .u8 26,.int .u8 12,.int .u8 18,.int .u8 6,.int .u8 11,.int .u8 5,.int .u8 10,.int .u8 9])).modify 5 (lay #[.int .u8 0,.int .u8 1,.int .u8 56,.int .u8 2,.int .u8 57,.int .u8 49,.int .u8 28,.int .u8 3,.int .u8 61,.int .u8 58,.int .u8 42,.int .u8 50,.int .u8 38,.int .u8 29,.int .u8 17,.int .u8 4,.int .u8 62,.int .u8 47,.int .u8 59,.int .u8 36,.int .u8 45,.int .u8 43,.int .u8 51,.int .u8 22,.int .u8 53,.int .u8 39,.int .u8 33,.int .u8 30,.int .u8 24,.int .u8 18,.int .u8 12,.int .u8 5,.int .u8 63,.int .u8 55,.int .u8 48,.int .u8 27,.int .u8 60,.int .u8 41,.int .u8 37,.int .u8 16,.int .u8 46,.int .u8 35,.int .u8 44,.int .u8 21,.int .u8 52,.int .u8 32,.int .u8 23,.int .u8 11,.int .u8 54,.int .u8 26,.int .u8 40,.int .u8 15,.int .u8 34,.int .u8 20,.int .u8 31,.int .u8 10,.int .u8 25,.int .u8 14,.int .u8 19,.int .u8 9,.int .u8 13,.int .u8 8,.int .u8 7,.int .u8 6])).modify 0 (lay #[.int .u64 1,.int .u64 10,.int .u64 100,.int .u64 1000,.int .u64 10000,.int .u64 100000,.int .u64 1000000,.int .u64 10000000,.int .u64 100000000,.int .u64 1000000000,.int .u64 10000000000,.int .u64 100000000000,.int .u64 1000000000000,.int .u64 10000000000000,.int .u64 100000000000000,.int .u64 1000000000000000,.int .u64 10000000000000000,.int .u64 100000000000000000,.int .u64 1000000000000000000,.int .u64 10000000000000000000])).modify 3 (lay #[.iface 229 (.pointer (some ⟨low+0,0,none⟩))])).modify 2 (lay #[.iface 229 (.pointer (some ⟨low+1,0,none⟩))]))}
theorem SN(os:Os):laidMet Tryz.prog Rows.fnExactRunSessionRow.laid ((Gz os).forCall (fun _ _=>0) ⟨#[],#[.string ByteArray.empty],[]⟩).memory:=
 laidMet_of_run' 8 (by kernel_rfl) (by kernel_rfl)
theorem reads(os:Os){H:Type}(enc:TypeId×Value→H):∃gK,DataW.whole enc Tryz.prog ((Gz os).forCall (fun _ _=>0) ⟨#[],#[.string ByteArray.empty],[]⟩).memory Tryz.f5.params.toList Rows.fnExactRunSessionSpec.vars false (#[.string ByteArray.empty]:Array Value).toList 8=some ([.lit (.string [])],[],gK):=
 ⟨[],by kernel_rfl⟩
theorem lifted(os:Os)(db:os.Started)(H:Type)(enc:TypeId×Value→H)(F:Stop.Interp):
  ReturnsInHanded {} Tryz.checked os 5 .any ((OpenSpec.ofChange Rows.fnExactRunSessionSpec).preRow enc Tryz.prog Tryz.f5 Rows.fnExactRunSessionRow.domain false Rows.fnExactRunSessionRow.laid) (((OpenSpec.ofChange Rows.fnExactRunSessionSpec).at F).post enc Tryz.prog Tryz.f5 false true false false):=by
 obtain⟨gK,hx⟩:=reads os enc;refine returnsInHanded_of_row (C:=Tryz.checked) (s:=OpenSpec.ofChange Rows.fnExactRunSessionSpec) own db (by kernel_rfl) Tryz.func5
  (witness_row_at (enc:=enc) (C:=Tryz.checked) false (Gz os) #[.string ByteArray.empty] rfl (by kernel_rfl) (by kernel_rfl) (by kernel_rfl)
    (OpenSpec.preRow_of_cond 8 hx (by kernel_rfl) (fun k hk=>by cases hk) (by kernel_rfl) (SN os))) ?_
 intro W base args ds gs ek eB hW _ _ _ hL _ _;exact Rt H enc W base args ds gs ek eB hW hL
theorem j1:Tryz.prog.inPlace 5=Rows.fnExactRunSessionRow.inPlace:=by kernel_rfl
theorem j2:Tryz.prog.unfollowed 5=Rows.fnExactRunSessionRow.unfollowed:=by kernel_rfl
theorem j3:Tryz.prog.recurses 5=Rows.fnExactRunSessionRow.recurses:=by unfold Program.recurses;rw[j2];rfl
theorem j4:Tryz.prog.varsNamed 5=Rows.fnExactRunSessionRow.named:=by kernel_rfl
theorem Zg:joinedFacts Tryz.prog 5 Tryz.f5 (OpenSpec.ofChange Rows.fnExactRunSessionSpec).bare Rows.fnExactRunSessionRow=true:=by
 unfold joinedFacts;rw[j1,j2,j3,j4];kernel_rfl
theorem A4f:Rows.FnExactRunSessionSaid:=
 OpenClaim.holds_of_cond 5 Tryz.f5 rfl rfl rfl rfl rfl rfl rfl ⟨rfl,rfl,rfl,rfl,rfl⟩ rfl rfl rfl rfl rfl (by kernel_rfl) Tryz.func5 Zg
  (of_decide_eq_true (by kernel_rfl)) (by unfold Func.isWrapper;first|(rw[if_pos (by decide+kernel)];kernel_rfl)|(rw[if_neg (by decide+kernel)];exact⟨rfl,rfl⟩))
  (fun os db H enc _ F=>by rw[OpenClaim.pre_eq_preRow];exact lifted os db H enc F)
theorem A2i(f:FuncId)(fn:Func)(hf:Tryz.pinned.checked.prog.funcNamed "loop.example/g00860/laws.FnExactRunSession"=some f)(hfn:Tryz.pinned.checked.prog.funcs[f]? =some fn):
  true=Tryz.pinned.checked.prog.looks []∧∀(j:Nat) t,fn.params[j]? =some t→Tryz.pinned.checked.prog.wantsStandIn t=false:=by
 obtain rfl:f=5:=Option.some.inj ((show Tryz.prog.funcNamed "loop.example/g00860/laws.FnExactRunSession"=some 5 by kernel_rfl).symm.trans hf)|>.symm;obtain rfl:fn=Tryz.f5:=(Option.some.inj (Tryz.func5.symm.trans hfn)).symm;refine⟨by kernel_rfl,fun j t ht=>?_⟩;rw[Tryz.params5]at ht;obtain rfl:t=9:=by simpa using Array.mem_of_getElem? ht
 exact(show Tryz.prog.wantsStandIn 9=false by kernel_rfl)
theorem card:Rows.FnExactRunSessionCardSaid:=
 Claim7.holds_tied_plain_at .later [] _ _ _ _ A4f (fun _ h=>by cases h) (by kernel_rfl) (fun _ h=>by cases h) fnExactRunSession_row_tie rfl ⟨rfl,rfl⟩ (by kernel_rfl) rfl A2i (by kernel_rfl)
end Go.Proofs.YthmocomfjgmjoaaGreatDoor.fnExactRunSession
namespace Go.Proofs.YthmocomfjgmjoaaGreatDoor
theorem fnExactRunSession_holds:Rows.FnExactRunSessionCardSaid:=fnExactRunSession.card
end Go.Proofs.YthmocomfjgmjoaaGreatDoor
namespace Go.Proofs.YthmocomfjgmjoaaGreatDoor
#print axioms fnExactRunSession_holds
end Go.Proofs.YthmocomfjgmjoaaGreatDoor
