/- The law FnConfirms: for every input the call returns true, and its arguments read as they did. No condition. -/
import Derived.Test.YthmocomfjgmjoaaGreatDoorCards
import Derived.Test.YthmocomfjgmjoaaGreatDoorTie
import Derived.Test.YthmocomfjgmjoaaGreatDoorQ26
import Derived.Test.YthmocomfjgmjoaaGreatDoorKLConfirms
import Derived.Deep.DeepHandedRow
import Derived.Stop.LaidErr
set_option maxRecDepth 100000
namespace Go.Proofs.YthmocomfjgmjoaaGreatDoor.fnConfirms
open Go.ChangeShapes Go.WideShapes Go.ChangeAt Go.RowKit
open Go.ChangeMaps (open_string shut_string)
set_option linter.unusedVariables false
theorem own:ownKnob Tryz.prog.godebug=none:=by kernel_rfl
theorem VD:laidOutB Tryz.prog=true:=by kernel_rfl
theorem A4m:(Tryz.prog.globals[0]?).map (·.type)=some 210:=by kernel_rfl
theorem A5Q:Tryz.prog.globalNamed "internal/strconv.uint64pow10"=some 0:=by kernel_rfl
theorem A4h:Tryz.prog.cellsOf 166=1:=by kernel_rfl
theorem Zr:Tryz.prog.cellsOf 210=20:=by kernel_rfl
theorem tabData:(Rows.laid_internal_strconv_uint64pow10:DataW Unit)=Lib.tabData .u64 Lib.pow10Tab:=by kernel_rfl
theorem A31{W:World}(h:laidMetH Tryz.prog Rows.fnConfirmsRow.laid W):Tab W:=by
 have kq:laidMet Tryz.prog Rows.fnConfirmsRow.laid W:=h;have h3:=(laidMet.tail (laidMet.tail kq));rw[tabData] at h3;exact Lib.tabIs_of_head A5Q A4m Tryz.underlying210 Tryz.underlying166 A4h Zr h3
theorem erG:Tryz.prog.globalNamed "strconv.ErrRange"=some 3:=by kernel_rfl
theorem esG:Tryz.prog.globalNamed "strconv.ErrSyntax"=some 2:=by kernel_rfl
theorem erT:(Tryz.prog.globals[3]?).map (·.type)=some 108:=by kernel_rfl
theorem esT:(Tryz.prog.globals[2]?).map (·.type)=some 108:=by kernel_rfl
theorem cE:Tryz.prog.cellsOf 231=1:=by kernel_rfl
theorem cS:Tryz.prog.cellsOf 9=1:=by kernel_rfl
theorem XH: "*"++ "errors.errorString"= "*errors.errorString":=by decide
theorem A4n(u:TypeId)(h:Tryz.prog.typeName? 3 u=some "*errors.errorString"):u=229:=
 typeName_ptr_named (nm:= "errors.errorString") (by rw[XH];kernel_rfl) (by kernel_rfl) (by decide) u (by rw[XH];exact h)
theorem A5F{W:World}(h:laidMetH Tryz.prog Rows.fnConfirmsRow.laid W):A1L W:=by
 have kq:laidMet Tryz.prog Rows.fnConfirmsRow.laid W:=h;obtain⟨a0,s0,ug,-,-,-⟩:=laid_sentinel ((laidMet.tail (laidMet.tail (laidMet.tail (laidMet.tail kq))))) esG esT Tryz.underlying108 A4n Tryz.underlying229 Tryz.underlying231 rfl rfl Tryz.underlying9 cE cS;obtain⟨a1,s1,uh,-,-,-⟩:=laid_sentinel ((laidMet.tail (laidMet.tail (laidMet.tail kq)))) erG erT Tryz.underlying108 A4n Tryz.underlying229 Tryz.underlying231 rfl rfl Tryz.underlying9 cE cS;exact⟨⟨_,_,by have h0:=World.var?_cell esG ug 0;simpa using h0⟩,⟨_,_,by have h0:=World.var?_cell erG uh 0;simpa using h0⟩⟩
theorem Ro(H:Type)(enc:TypeId×Value→H)(W:World)(base:Nat)(args:Array Value)(ds gs:List (DataW H))(fI:List MemPlace)
  (j4:∀(j:Nat) t v,Tryz.f3.params[j]? =some t→args[j]? =some v→Value.okWide Tryz.prog W .any base t v)
  (hW:DataW.Whole enc Tryz.prog Tryz.f3.params.toList Rows.fnConfirmsSpec.vars false W args.toList ds gs fI)(hL:laidMetH Tryz.prog Rows.fnConfirmsRow.laid W):
  Calls Tryz.prog 3 args W fun e W'=>∃v,e=.returned v∧Rows.fnConfirmsSpec.post enc Tryz.prog Tryz.f3 false true false false W args v W':=by
 have eh:∀(j:Nat) t v,Tryz.f3.params[j]? =some t→args[j]? =some v→Value.okWide Tryz.prog W .any base t v:=j4;have hW':=hW;obtain⟨p,q,hA0,hV,rfl,hfz,gT⟩:=hW;have hA:DataW.TrodAll enc Tryz.prog W 0 (fun _=>true) true Tryz.f3.params.toList args.toList ds p:=hA0;rw[Tryz.params3] at hA eh;obtain⟨v0,vs0,d0,ds0,p0,q0,hargs,rfl,rfl,h0,r0⟩:=trodAll_cons hA;obtain⟨rfl,rfl,rfl⟩:=trodAll_nil r0;obtain rfl:args=#[v0]:=by cases args;simp_all
 obtain⟨rfl,rfl⟩:=trodVars_none hV;have k0:=h0;have lt0:∀x∈p0,x.block<W.heap.size:=by obtain⟨m,hm⟩:=k0;exact DataW.trod_lt m _ _ _ hm
 obtain⟨x0,w0⟩:=SA Tryz.underlying22 Tryz.underlying5 (by kernel_rfl) (eh 0 22 v0 rfl rfl) h0;clear hA0 j4;refine(Wv w0 ⟨A31 hL,A5F hL⟩).mono fun e W' ⟨he,bel⟩=>?_;subst he;exact⟨_,rfl,_,_,_,[],_,[],hW',trodAll_mk1 (shut_bool Tryz.underlying4 _),(trodAll_cons_mk (Below.trod VD (by kernel_rfl) (of_decide_eq_true (by kernel_rfl)) k0 bel lt0) trodAll_mk0),rfl,bel.frame _,fun h=>by cases h⟩
noncomputable def low:Nat:=(World.holding Tryz.prog default ⟨#[],#[],[]⟩).heap.size
def lay(cs:Array Value):Obj→Obj
 |.cells _ t frozen=>.cells cs t frozen
 |o=>o
noncomputable def GD (os:Os):World:={World.holding Tryz.prog os ⟨#[.cells #[.string ⟨#[118,97,108,117,101,32,111,117,116,32,111,102,32,114,97,110,103,101]⟩] 231,.cells #[.string ⟨#[105,110,118,97,108,105,100,32,115,121,110,116,97,120]⟩] 231],#[],[]⟩ with heap:=((((((World.holding Tryz.prog os ⟨#[.cells #[.string ⟨#[118,97,108,117,101,32,111,117,116,32,111,102,32,114,97,110,103,101]⟩] 231,.cells #[.string ⟨#[105,110,118,97,108,105,100,32,115,121,110,116,97,120]⟩] 231],#[],[]⟩).heap.modify 4 (lay #[.int .u8 0,.int .u8 1,.int .u8 28,.int .u8 2,.int .u8 29,.int .u8 14,.int .u8 24,.int .u8 3,.int .u8 30,.int .u8 22,.int .u8 20,.int .u8 15,.int .u8 25,.int .u8 17,.int .u8 4,.int .u8 8,.int .u8 31,.int .u8 27,.int .u8 13,.int .u8 23,.int .u8 21,.int .u8 19,.int .u8 16,.int .u8 7,.int .u8 26,.int .u8 12,.int .u8 18,.int .u8 6,.int .u8 11,.int .u8 5,.int .u8 10,.int .u8 9])).modify 5 (lay #[.int .u8 0,.int .u8 1,.int .u8 56,.int .u8 2,.int .u8 57,.int .u8 49,.int .u8 28,.int .u8 3,.int .u8 61,.int .u8 58,.int .u8 42,.int .u8 50,.int .u8 38,.int .u8 29,.int .u8 17,.int .u8 4,.int .u8 62,.int .u8 47,.int .u8 59,.int .u8 36,.int .u8 45,.int .u8 43,.int .u8 51,.int .u8 22,.int .u8 53,.int .u8 39,.int .u8 33,.int .u8 30,.int .u8 24,.int .u8 18,.int .u8 12,.int .u8 5,.int .u8 63,.int .u8 55,.int .u8 48,.int .u8 27,.int .u8 60,.int .u8 41,.int .u8 37,.int .u8 16,.int .u8 46,.int .u8 35,.int .u8 44,.int .u8 21,.int .u8 52,.int .u8 32,.int .u8 23,.int .u8 11,.int .u8 54,.int .u8 26,.int .u8 40,.int .u8 15,.int .u8 34,.int .u8 20,.int .u8 31,.int .u8 10,.int .u8 25,.int .u8 14,.int .u8 19,.int .u8 9,.int .u8 13,.int .u8 8,.int .u8 7,.int .u8 6])).modify 0 (lay #[.int .u64 1,.int .u64 10,.int .u64 100,.int .u64 1000,.int .u64 10000,.int .u64 100000,.int .u64 1000000,.int .u64 10000000,.int .u64 100000000,.int .u64 1000000000,.int .u64 10000000000,.int .u64 100000000000,.int .u64 1000000000000,.int .u64 10000000000000,.int .u64 100000000000000,.int .u64 1000000000000000,.int .u64 10000000000000000,.int .u64 100000000000000000,.int .u64 1000000000000000000,.int .u64 10000000000000000000])).modify 3 (lay #[.iface 229 (.pointer (some ⟨low+0,0,none⟩))])).modify 2 (lay #[.iface 229 (.pointer (some ⟨low+1,0,none⟩))]))}
theorem RG(os:Os):laidMet Tryz.prog Rows.fnConfirmsRow.laid ((GD os).forCall (fun _ _=>0) ⟨#[],#[.slice none 0 0],[]⟩).memory:=
 laidMet_of_run' 8 (by kernel_rfl) (by kernel_rfl)
theorem reads(os:Os){H:Type}(enc:TypeId×Value→H):∃g8,DataW.whole enc Tryz.prog ((GD os).forCall (fun _ _=>0) ⟨#[],#[.slice none 0 0],[]⟩).memory Tryz.f3.params.toList Rows.fnConfirmsSpec.vars false (#[.slice none 0 0]:Array Value).toList 8=some ([.nil],[],g8):=
 ⟨[],by kernel_rfl⟩
theorem lifted(os:Os)(dw:os.Started)(H:Type)(enc:TypeId×Value→H)(F:Stop.Interp):
  ReturnsInHanded {} Tryz.checked os 3 .any ((OpenSpec.ofChange Rows.fnConfirmsSpec).preRow enc Tryz.prog Tryz.f3 Rows.fnConfirmsRow.domain false Rows.fnConfirmsRow.laid) (((OpenSpec.ofChange Rows.fnConfirmsSpec).at F).post enc Tryz.prog Tryz.f3 false true false false):=by
 obtain⟨g8,hx⟩:=reads os enc;refine returnsInHanded_of_row (C:=Tryz.checked) (s:=OpenSpec.ofChange Rows.fnConfirmsSpec) own dw (by kernel_rfl) Tryz.func3
  (witness_row_at (enc:=enc) (C:=Tryz.checked) false (GD os) #[.slice none 0 0] rfl (by kernel_rfl) (by kernel_rfl) (by kernel_rfl)
    (OpenSpec.preRow_of_cond 8 hx (by kernel_rfl) (fun k hk=>by cases hk) (by kernel_rfl) (RG os))) ?_
 intro W base args ds gs fI eh hW _ _ _ hL _ _;exact Ro H enc W base args ds gs fI eh hW hL
theorem A5y:Rows.FnConfirmsSaid:=
 OpenClaim.holds_of_cond 3 Tryz.f3 rfl rfl rfl rfl rfl rfl rfl ⟨rfl,rfl,rfl,rfl,rfl⟩ rfl rfl rfl rfl rfl (by kernel_rfl) Tryz.func3 (by kernel_rfl)
  (of_decide_eq_true (by kernel_rfl)) (by unfold Func.isWrapper;first|(rw[if_pos (by decide+kernel)];kernel_rfl)|(rw[if_neg (by decide+kernel)];exact⟨rfl,rfl⟩))
  (fun os dw H enc _ F=>by rw[OpenClaim.pre_eq_preRow];exact lifted os dw H enc F)
theorem A3h(f:FuncId)(fn:Func)(hf:Tryz.pinned.checked.prog.funcNamed "loop.example/g00860/laws.FnConfirms"=some f)(hfn:Tryz.pinned.checked.prog.funcs[f]? =some fn):
  true=Tryz.pinned.checked.prog.looks []∧∀(j:Nat) t,fn.params[j]? =some t→Tryz.pinned.checked.prog.wantsStandIn t=false:=by
 obtain rfl:f=3:=Option.some.inj ((show Tryz.prog.funcNamed "loop.example/g00860/laws.FnConfirms"=some 3 by kernel_rfl).symm.trans hf)|>.symm;obtain rfl:fn=Tryz.f3:=(Option.some.inj (Tryz.func3.symm.trans hfn)).symm;refine⟨by kernel_rfl,fun j t ht=>?_⟩;rw[Tryz.params3] at ht;obtain rfl:t=22:=by simpa using Array.mem_of_getElem? ht
 exact(show Tryz.prog.wantsStandIn 22=false by kernel_rfl)
theorem card:Rows.FnConfirmsCardSaid:=
 Claim7.holds_tied_plain_at .later [] _ _ _ _ A5y (fun _ h=>by cases h) (by kernel_rfl) (fun _ h=>by cases h) fnConfirms_row_tie rfl ⟨rfl,rfl⟩ (by kernel_rfl) rfl A3h (by kernel_rfl)
end Go.Proofs.YthmocomfjgmjoaaGreatDoor.fnConfirms
namespace Go.Proofs.YthmocomfjgmjoaaGreatDoor
theorem fnConfirms_holds:Rows.FnConfirmsCardSaid:=fnConfirms.card
end Go.Proofs.YthmocomfjgmjoaaGreatDoor
namespace Go.Proofs.YthmocomfjgmjoaaGreatDoor
#print axioms fnConfirms_holds
end Go.Proofs.YthmocomfjgmjoaaGreatDoor
