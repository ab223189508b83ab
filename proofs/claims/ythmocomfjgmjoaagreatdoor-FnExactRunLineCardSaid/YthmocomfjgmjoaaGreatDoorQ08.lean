/- Base. -/
import Derived.Test.YthmocomfjgmjoaaGreatDoorQ03
import Derived.Laws.EntriesVeiled
import Derived.Deep.DeepCutAuto
set_option maxHeartbeats 4000000
set_option maxRecDepth 100000
namespace Go.Proofs.YthmocomfjgmjoaaGreatDoor
open Go.RowKit Go.Proofs.Tryz
variable {Bc Bl Bm Bo Bp Br:Nat}{C:Nat→Nat}{F:Value}{G K L:Nat}{Q:Nat→Nat}{W0:World}{c cap capL g0 g1 l0 l1:Nat}{left:U}{m:I}{n:Nat}{out:List I}{r:Nat}{vc vr:Value}{w:World}{x:Nat}{z:Int}
theorem Fx(v v2:Value)(xs ys:U)(w:World)(hv:Au w v xs)(aS:Au w v2 ys):Calls prog 89 #[v,v2] w fun e w'=>e=.returned (.bool (AT xs ys))∧w=w':=by
 obtain⟨a,cap,rfl,ae,cJ,-,-⟩:=id hv;obtain⟨a2,cap2,rfl,dc,hle2,-,-⟩:=id aS;by_cases aQ:(C1 1 5 xs.length&&C1 1 5 ys.length&&xs.all (C1 0 ys.length)&&ys.all (C1 0 xs.length))=true
 ·have aT:=Z aQ;simp only[Af]at aQ;obtain⟨⟨⟨h1,h2⟩,h3⟩,h4⟩:=aQ;have ly:=h1;have nP:=h2;rw[Bz]at ly nP;have kV:=Iu h3 J J;have qE:=Iu h4 J J;have Hr:=Z (show AT xs ys=decide (AP xs=AP ys)from by unfold AT;rw[aT.o];rfl);by_cases he:AP xs=AP ys
  ·have Hd:=Z (show AT xs ys=true from by rw[Hr.o];simpa using he);have hb:(AP xs==AP ys)=true:=by simpa using he
   go_enter func89,ntmps89;go_wp2_with (first|(go_at_call 95;refine(Bi _ _ _ _).mono ?_;rintro e w' ⟨rfl,rfl⟩)|(go_at_call 157;refine(C8 _ _ _ _ _ (by assumption)).mono ?_;rintro e w' ⟨rfl,rfl⟩)|(go_at_call 87;((with_reducible refine(Gm _ _ _ hv kV).mono ?_);rintro e w' ⟨rfl,rfl⟩))|(go_at_call 87;((with_reducible refine(Gm _ _ _ aS qE).mono ?_);rintro e w' ⟨rfl,rfl⟩)))
   go_ret
   exact⟨AW Hd.o.symm,rfl⟩
  ·have Hd:=Z (show AT xs ys=false from by rw[Hr.o];simpa using he);have hb:(AP xs==AP ys)=false:=by simpa using he
   go_enter func89,ntmps89;go_wp2_with (first|(go_at_call 95;refine(Bi _ _ _ _).mono ?_;rintro e w' ⟨rfl,rfl⟩)|(go_at_call 157;refine(C8 _ _ _ _ _ (by assumption)).mono ?_;rintro e w' ⟨rfl,rfl⟩)|(go_at_call 87;((with_reducible refine(Gm _ _ _ hv kV).mono ?_);rintro e w' ⟨rfl,rfl⟩))|(go_at_call 87;((with_reducible refine(Gm _ _ _ aS qE).mono ?_);rintro e w' ⟨rfl,rfl⟩)))
   go_ret
   exact⟨AW Hd.o.symm,rfl⟩
 ·have Hd:=Z (show AT xs ys=false from by unfold AT;rw[Bool.not_eq_true]at aQ;rw[aQ];rfl);cases h1:C1 1 5 xs.length
  ·go_enter func89,ntmps89;go_wp2_with (first|(go_at_call 95;refine(Bi _ _ _ _).mono ?_;rintro e w' ⟨rfl,rfl⟩))
   go_ret
   exact⟨AW Hd.o.symm,rfl⟩
  cases h2:C1 1 5 ys.length
  ·go_enter func89,ntmps89;go_wp2_with (first|(go_at_call 95;refine(Bi _ _ _ _).mono ?_;rintro e w' ⟨rfl,rfl⟩))
   go_ret
   exact⟨AW Hd.o.symm,rfl⟩
  cases h3:xs.all (C1 0 ys.length)
  ·go_enter func89,ntmps89;go_wp2_with (first|(go_at_call 95;refine(Bi _ _ _ _).mono ?_;rintro e w' ⟨rfl,rfl⟩)|(go_at_call 157;refine(C8 _ _ _ _ _ (by assumption)).mono ?_;rintro e w' ⟨rfl,rfl⟩))
   go_ret
   exact⟨AW Hd.o.symm,rfl⟩
  cases h4:ys.all (C1 0 xs.length)
  ·go_enter func89,ntmps89;go_wp2_with (first|(go_at_call 95;refine(Bi _ _ _ _).mono ?_;rintro e w' ⟨rfl,rfl⟩)|(go_at_call 157;refine(C8 _ _ _ _ _ (by assumption)).mono ?_;rintro e w' ⟨rfl,rfl⟩))
   go_ret
   exact⟨AW Hd.o.symm,rfl⟩
  rw[h1,h2,h3,h4]at aQ;exact absurd rfl aQ
theorem Xi{α:Type}{P:Program}{w0:World}{fM:Array Oper}{o:Oper}{a:Act}{K:Act→World→Prop}{Q:Exit→Act→World→Prop}{Ep:Prop}(iM:o.guard=none)(s xo:Operand)(t:TypeId)
  (ho:o.op=.call {callee:=.builtin .append,args:=#[s,xo],argTypes:=#[t,t]}){R:CP α}(hR:LZ R)
  (E:TypeId){z:Value}{bytes:Nat}(ht:P.underlying t=some (.slice E))(cH:(P.info? E).map (fun i=>(i.zero,i.size,i.bytes))=some (some z,1,bytes))(eM:z.cells.size=1)(dF:bytes≤64)
  (B M:Nat)(sj:B≤M)(hM:M≤w0.heap.size){v u:Value}{xs:List α}{x:α}(hs:a.eval s=v)(hx:a.eval xo=.slice (some ⟨w0.heap.size,0,none⟩) 1 1)(aB:Ag E R (Iv B M) w0 v xs)(hu:R (Iv M w0.heap.size) w0 u x)(aN:xs.length<1099511627776)
  (h:∀v' w',Ag E R (Iv B w'.heap.size) w' v' (xs++[x])→Below B w0 w'→K (a.put o.dst v') w'):
  if Region.wanted o (yielded fM a.tmps)=true then Oper.wp P o a (w0.alloc (.cells #[u] E)) K Q else Ep:=by
 have hw:Region.wanted o (yielded fM a.tmps)=true:=by simp[Region.wanted,iM]
 rw[if_pos hw];obtain⟨i,hi,hz,aV,du⟩:=info_parts cH;obtain⟨v',w',hr,h2,h3⟩:=Mx (P:=P) hR w0 t o.type E i z bytes ht hi hz aV du eM dF (Iv B M) (Iv M w0.heap.size) (fun b=>B≤b) v u xs x aB hu (fun b h1 h2=>by have:=h1.2;have:=h2.1;omega) (fun b h1=>Aa h1.2 hM) (fun b h1=>h1.2)
  (fun b h1=>h1.1) (fun b h1=>Aj sj h1.1) (fun b h1=>by omega) aN
 unfold Oper.wp execOp;simp only[ho,resolve,invoke,builtin,Sem.run_bind,Sem.run_pure,Result.andThen_ok,List.map_toArray,List.map_cons,List.map_nil,hs,hx,hr];exact h v' w' h2 (h3.below (Aj sj hM) fun b hb=>(Ag.qae aB b hb).1)
structure AWf(n Br Bc Bo g0 g1 Bm l0 l1 Bl Bp K:Nat):Prop where
 h1:n≤Br
 h2:Br<Bc
 h3:Bc<Bo
 h4:Bo<g0
 h5:g0≤g1
 h6:g1≤Bm
 h7:Bm<l0
 h8:l0≤l1
 h9:l1≤Bl
 h10:Bl<Bp
 h11:Bp<K
structure WC(n Br Bc Bo g0 g1 Bm l0 l1 Bl Bp K r c G cap L capL:Nat)(F vr vc:Value)(Q C:Nat→Nat)(W0 w:World)(left:U)(m:I)(out:List I):Prop where
 base:Below n W0 w
 br:B9 w Br #[vr] 32
 bc:B9 w Bc #[vc] 32
 bm:B9 w Bm #[.slice (some ⟨G,0,none⟩) r cap] 31
 bl:B9 w Bl #[.slice (some ⟨L,0,none⟩) c capL] 32
 bp:B9 w Bp #[F] 127
 bo:∃vo,B9 w Bo #[vo] 77∧Ag 31 (Ag 32 (Ag 3 Ap)) (Iv K w.heap.size) w vo out
 sh:Ax r c m
 own:Ag 32 (Ag 3 Ap) (Iv g0 g1) w (.slice (some ⟨G,0,none⟩) r cap) m
 lown:Ag 3 Ap (Iv l0 l1) w (.slice (some ⟨L,0,none⟩) c capL) left
 ll:left.length=c
 rows:∀k,k<r→w.cell? ⟨G,k,none⟩=some (.slice (some ⟨Q k,0,none⟩) c (C k))
 hK:K≤w.heap.size
theorem WC.qcd(wf:AWf n Br Bc Bo g0 g1 Bm l0 l1 Bl Bp K)
  (h:WC n Br Bc Bo g0 g1 Bm l0 l1 Bl Bp K r c G cap L capL F vr vc Q C W0 w left m out){y:Nat}(hy:y<r)(hx:x<c)(cT:0≤z)(bL:z≤1):
  (∃o,w.cell? ⟨Q y,x,none⟩=some (.int .i64 o))∧w.frozen? ⟨Q y,x,none⟩=false∧
  WC n Br Bc Bo g0 g1 Bm l0 l1 Bl Bp K r c G cap L capL F vr vc Q C W0 (w.setCell ⟨Q y,x,none⟩ (.int .i64 z)) left (setC m y x z) out:=by
 obtain⟨a1,a2,a3,a4,a5,a6,a7,a8,a9,a10,a11⟩:=wf;obtain⟨aD,aj⟩:=CM h.sh hy;obtain⟨q,cq,aH,hG,hq,hqG,dj,eX,l8,ai⟩:=AV h.own aD J;have hQ:=h.rows y hy;rw[aH]at hQ;have e:=Option.some.inj hQ;have e2:q=Q y:=by injection e with e1 e3 e4;injection e1 with e5;injection e5
 subst e2;obtain⟨⟨o,ho⟩,g8⟩:=eX x J;obtain⟨vo,eY,jV⟩:=h.bo;have q1:=hq.1;have q2:=hq.2;refine⟨⟨o,ho⟩,g8,⟨h.base.setCell (by show n≤Q y;omega) _,h.br.qah J _,h.bc.qah J _,h.bm.qah J _,h.bl.qah J _,h.bp.qah J _,⟨vo,eY.qah J _,?_⟩,EA h.sh hy cT bL,ai w (fun _ _=>rfl) x z J (Cc.small J J),?_,h.ll,fun k hk=>?_,?_⟩⟩
 ·rw[As];exact(Ab (Ab (Ab A8))).same (fun b hb=>Below.heap_setCell w _ _ b (by have:=hb.1;show b≠Q y;omega)) jV
 ·exact(Ab A8).same (fun b hb=>Below.heap_setCell w _ _ b (by have:=hb.1;show b≠Q y;omega)) h.lown
 ·rw[World.cell?_of_block (w:=w) (a:=⟨G,k,none⟩) (Below.heap_setCell w ⟨Q y,x,none⟩ (.int .i64 z) G (by simpa using fun e=>hqG e.symm))];exact h.rows k hk
 ·rw[As];exact h.hK
theorem WC.qbt(wf:AWf n Br Bc Bo g0 g1 Bm l0 l1 Bl Bp K)
  (h:WC n Br Bc Bo g0 g1 Bm l0 l1 Bl Bp K r c G cap L capL F vr vc Q C W0 w left m out)(hx:x<c)(cT:-1≤z)(bL:z≤9):
  w.cell? ⟨L,x,none⟩=some (.int .i64 (left.getD x 0))∧w.frozen? ⟨L,x,none⟩=false∧
  WC n Br Bc Bo g0 g1 Bm l0 l1 Bl Bp K r c G cap L capL F vr vc Q C W0 (w.setCell ⟨L,x,none⟩ (.int .i64 z)) (left.set x z) m out:=by
 obtain⟨a1,a2,a3,a4,a5,a6,a7,a8,a9,a10,a11⟩:=wf;have dN:=h.ll;have bA:left[x]? =some (left.getD x 0):=BO 0 J;obtain⟨hL,-⟩:=h.lown.qal A8 bA;obtain⟨h1,h2,-⟩:=h.lown.qaf bA;obtain⟨vo,eY,jV⟩:=h.bo;have q1:=hL.1;have q2:=hL.2;refine⟨h1,h2,⟨h.base.setCell (by show n≤L;omega) _,h.br.qah J _,h.bc.qah J _,h.bm.qah J _,h.bl.qah J _,h.bp.qah J _,⟨vo,eY.qah J _,?_⟩,h.sh,?_,h.lown.qak J (Cc.small J J),by rw[List.length_set];exact dN,fun k hk=>?_,?_⟩⟩
 ·rw[As];exact(Ab (Ab (Ab A8))).same (fun b hb=>Below.heap_setCell w _ _ b (by have:=hb.1;show b≠L;omega)) jV
 ·exact(Ab (Ab A8)).same (fun b hb=>Below.heap_setCell w _ _ b (by have:=hb.2;show b≠L;omega)) h.own
 ·obtain⟨hG,-⟩:=h.own.qal (Ab A8) (CM h.sh hk).1;rw[World.cell?_of_block (w:=w) (a:=⟨G,k,none⟩) (Below.heap_setCell w ⟨L,x,none⟩ (.int .i64 z) G (by have:=hG.2;show G≠L;omega))];exact h.rows k hk
 ·rw[As];exact h.hK
theorem WC.put{w':World}{out':List I}(wf:AWf n Br Bc Bo g0 g1 Bm l0 l1 Bl Bp K)
  (h:WC n Br Bc Bo g0 g1 Bm l0 l1 Bl Bp K r c G cap L capL F vr vc Q C W0 w left m out){v':Value}(hb:Below K w w')(ho:Ag 31 (Ag 32 (Ag 3 Ap)) (Iv K w'.heap.size) w' v' out'):
  WC n Br Bc Bo g0 g1 Bm l0 l1 Bl Bp K r c G cap L capL F vr vc Q C W0 (w'.setCell ⟨Bo,0,none⟩ v') left m out':=by
 obtain⟨a1,a2,a3,a4,a5,a6,a7,a8,a9,a10,a11⟩:=wf;have hs:=hb.size;obtain⟨vo,eY,jV⟩:=h.bo;have kb:∀{g:Nat}{cs:Array Value}{t:TypeId},B9 w g cs t→g<K→g≠Bo→B9 (w'.setCell ⟨Bo,0,none⟩ v') g cs t:=fun {g cs t} hg hl hn=>B9.qah (show B9 w' g cs t from(hb.block g hl).trans hg) hn v';have ko:∀b,b<K→b≠Bo→(w'.setCell ⟨Bo,0,none⟩ v').heap[b]? =w.heap[b]? :=fun b hl hn=>(Below.heap_setCell w' _ _ b (by show b≠Bo;exact hn)).trans (hb.block b hl);refine⟨?_,kb h.br J J,kb h.bc J J,kb h.bm J J,kb h.bl J J,kb h.bp J J,⟨v',?_,?_⟩,h.sh,?_,?_,h.ll,fun k hk=>?_,?_⟩
 ·exact(h.base.trans (hb.mono J)).setCell (by show n≤Bo;omega) _
 ·have h1:B9 w' Bo #[vo] 77:=(hb.block Bo J).trans eY;have h2:=h1.set (j:=0) v';simpa using h2
 ·rw[As];exact(Ab (Ab (Ab A8))).same (fun b hb=>Below.heap_setCell w' _ _ b (by have:=hb.1;show b≠Bo;omega)) ho
 ·exact(Ab (Ab A8)).same (fun b hb=>ko b (by have:=hb.2;omega) (by have:=hb.1;omega)) h.own
 ·exact(Ab A8).same (fun b hb=>ko b (by have:=hb.2;omega) (by have:=hb.1;omega)) h.lown
 ·obtain⟨hG,-⟩:=h.own.qal (Ab A8) (CM h.sh hk).1;rw[World.cell?_of_block (w:=w) (a:=⟨G,k,none⟩) (ko G (by have:=hG.2;omega) (by have:=hG.1;omega))];exact h.rows k hk
 ·rw[As];have:=h.hK;omega
theorem H7{w2:World}(h:Below w.drew.heap.size w.drew w2):Below w.heap.size w w2:=⟨h.os,h.tape,h.output,h.size,h.block⟩
theorem RI:(Tryz.prog.info? 31).map (fun i=>(i.zero,i.size,i.bytes))=some (some (.slice none 0 0),1,24):=by kernel_rfl
theorem TQ{a b f:Nat}(h:a+2^(f+1)≤b)(hc:c≤2^f):a+c+2^f≤b:=by rw[Nat.pow_succ]at h;omega
theorem WC.drewN
  (h:WC n Br Bc Bo g0 g1 Bm l0 l1 Bl Bp K r c G cap L capL F vr vc Q C W0 w left m out)(k:Nat):WC n Br Bc Bo g0 g1 Bm l0 l1 Bl Bp K r c G cap L capL F vr vc Q C W0 (w.drewN k) left m out:=
 ⟨below_drewN h.base k,h.br,h.bc,h.bm,h.bl,h.bp,h.bo,h.sh,h.own,h.lown,h.ll,h.rows,h.hK⟩
theorem A4T{xs ys:U}(wf:AWf n Br Bc Bo g0 g1 Bm l0 l1 Bl Bp K)
  (hF:F=.func (.func 108) #[] #[.pointer (some ⟨Bc,0,none⟩),.pointer (some ⟨Br,0,none⟩),.pointer (some ⟨Bo,0,none⟩),.pointer (some ⟨Bm,0,none⟩),.pointer (some ⟨Bl,0,none⟩),.pointer (some ⟨Bp,0,none⟩)])
  (hn:W0.heap.size≤n)(f9:n≤W0.heap.size)(sq:Au W0 vr xs)(sA:Au W0 vc ys)(hr5:xs.length≤5)(hc1:1≤ys.length)(hc5:ys.length≤5)(jU:∀i,0≤xs.getD i 0∧xs.getD i 0≤5)(f:Nat):
  ∀(y x:Nat)(BD:Int)(left:U)(m:I)(out:List I)(w:World),WC n Br Bc Bo g0 g1 Bm l0 l1 Bl Bp K xs.length ys.length G cap L capL F vr vc Q C W0 w left m out→Ke xs ys xs.length ys.length y x BD left m→y<xs.length→x≤ys.length→
   xs.length*(ys.length+1)≤f+(y*(ys.length+1)+x)→out.length+2^f≤1099511627775→
   Calls prog 108 #[.int .i64 y,.int .i64 x,.int .i64 BD,.pointer (some ⟨Bc,0,none⟩),.pointer (some ⟨Br,0,none⟩),.pointer (some ⟨Bo,0,none⟩),.pointer (some ⟨Bm,0,none⟩),.pointer (some ⟨Bl,0,none⟩),.pointer (some ⟨Bp,0,none⟩)] w
    fun e w'=>e=.returned (.tuple #[])∧WC n Br Bc Bo g0 g1 Bm l0 l1 Bl Bp K xs.length ys.length G cap L capL F vr vc Q C W0 w' left m (out++QJ xs xs.length ys.length f y x BD left m):=by
 subst hF;have Wf:=Z wf;have xE:=Z sq;have Hvc:=Z sA;obtain⟨ar,capr,rfl,-⟩:=sq;obtain⟨ac,capc,rfl,-⟩:=sA;induction f with
 |zero=>
  intro y x BD left m out w _ _ hy hx hf _;have h1:(y+1)*(ys.length+1)≤xs.length*(ys.length+1):=Nat.mul_le_mul_right _ hy;rw[Nat.succ_mul]at h1;omega
 |succ f ih=>
  intro y x BD left m out w bB kx hy hx hf bR;have IH:=Z ih;have lz:=Z jU;have aG:=Z bB;have ky:=Z kx;have Hf:=Z hf;have dT:=Z bR;have dS:=kx.need0;have sr:=dS.1;have su:=dS.2;have c0:w.cell? ⟨Bc,0,none⟩=some (.slice ac ys.length capc):=bB.bc.cell 0;have c1:w.cell? ⟨Br,0,none⟩=some (.slice ar xs.length capr):=bB.br.cell 0;clear ih bB kx hf bR dS jU;go_enter func108,ntmps108
  go_upto_if 15 with(fail)
  go_cut [0,1,2] (fun s0 s1 s2 wx=>∃(y1 x1:Nat)(n1:Int),s0=.int .i64 y1∧s1=.int .i64 x1∧s2=.int .i64 n1∧w=wx∧y1<xs.length∧x1<ys.length∧Hid (Ke xs ys xs.length ys.length y1 x1 n1 left m)∧Hid (xs.length*(ys.length+1)≤f+(y1*(ys.length+1)+(x1+1)))∧Hid (QJ xs xs.length ys.length (f+1) y x BD left m=OI xs.length ys.length (QJ xs xs.length ys.length f) y1 x1 n1 left m))
  case first=>
   by_cases hxc:x=ys.length
   ·subst hxc;have sv:BD=0:=J;subst sv;by_cases gV:y+1=xs.length
    ·have Hp:=Z (show QJ xs xs.length ys.length (f+1) y ys.length 0 left m=[m]from by rw[QJ,if_pos rfl,if_neg Jq,if_pos gV]);have fj:((y:Int)+1==(xs.length:Int))=true:=by rw[beq_iff_eq];omega
     have nQ:(y+1)*1=xs.length:=J;clear nQ;have HG:=Z aG.o.own.qag;have aN:out.length<1099511627776:=Nat.lt_of_le_of_lt (Aj (Nat.le_add_right _ _) dT.o) Jq;obtain⟨vo,eY,jV⟩:=aG.o.bo;have eZ:=Z jV;have nR:=Z eY;have c2:w.cell? ⟨Bm,0,none⟩=some (.slice (some ⟨G,0,none⟩) xs.length cap):=aG.o.bm.cell 0;have c5:w.cell? ⟨Bo,0,none⟩=some vo:=eY.cell 0;have c6:w.frozen? ⟨Bo,0,none⟩=false:=eY.frozen 0;clear jV eY;go_wp2;have bF:m.length≤1048576:=by have:=aG.o.sh.1;omega
     have HR:=Z (show ∀p∈m,p.length≤1048576 from fun p hp=>by have:=(aG.o.sh.2 p hp).1;omega);have hK:=aG.o.hK;have nS:Bo<K:=by have h4:=Wf.o.h4;have h5:=Wf.o.h5;have h6:=Wf.o.h6;have h7:=Wf.o.h7;have h8:=Wf.o.h8;have h9:=Wf.o.h9;have h10:=Wf.o.h10;have h11:=Wf.o.h11;omega
     have jh:Bo<w.heap.size:=J
     go_region_law (first
      |(refine Xi (w0:=w2) (v:=vo) rfl (.tmp 24) (.tmp 27) 77 rfl (Ab (Ab A8)) 31 underlying77 RI rfl Jq K w.heap.size hK hs2 (by simp[Act.eval]) (by simp[Act.eval]) (by exact sw.o) (by exact dB.o) aN ?_;intro v3 w3 o3 b3;obtain⟨p4,p5,p6,rfl⟩:=o3.shape;have c7:=(b3.cell (p:=⟨Bo,0,none⟩) nS).trans qF;have c8:=(b3.frozen (p:=⟨Bo,0,none⟩) nS).trans sx)
      |(refine Xi (w0:=w2.drew) (v:=vo) rfl (.tmp 24) (.tmp 27) 77 rfl (Ab (Ab A8)) 31 underlying77 RI rfl Jq K w.heap.size hK hs2 (by simp[Act.eval]) (by simp[Act.eval]) (by exact sw.o) (by exact dB.o) aN ?_;intro v3 w3 o3 b3;obtain⟨p4,p5,p6,rfl⟩:=o3.shape;have c7:=(b3.cell (p:=⟨Bo,0,none⟩) nS).trans qF;have c8:=(b3.frozen (p:=⟨Bo,0,none⟩) nS).trans sx)
      |(go_simp;go_at_call 82;refine(F5 _ m _ (by exact HG.o) bF HR.o).mono ?_;rintro e w2 ⟨v2,rfl,o2,b2⟩;obtain⟨p1,p2,p3,rfl⟩:=o2.shape;
        have sy:Below w.heap.size w w2:=by first|exact b2|exact H7 b2|exact H7 (H7 b2);
        have hs2:=sy.size;
        have dB:=Z o2;
        have sw:=Z (Ag.keep (Ab (Ab A8)) eZ.o sy (A2 _));
        have qF:=(sy.cell (p:=⟨Bo,0,none⟩) jh).trans c5;have yK:Bo<w2.heap.size:=Aa jh hs2;have yL:=((Below.qab w2 (.cells #[Value.slice p1 p2 p3] 31)).cell (p:=⟨Bo,0,none⟩) yK).trans qF;
        have sx:=(sy.frozen (p:=⟨Bo,0,none⟩) jh).trans c6;clear o2 b2))
     all_goals go_wp2
     all_goals exact Jz #[] (by simp[results,results108,go_sem]) ⟨rfl,by rw[Hp.o];exact aG.o.put Wf.o (v':=Value.slice p4 p5 p6) ((sy.mono hK).trans (by first|exact b3|exact H7 b3)) o3⟩
    ·have fj:((y:Int)+1==(xs.length:Int))=false:=by rw[Ai];omega
     have dU:y+1<xs.length:=J;have oz:=ky.o.next dU;have cC:=Z oz;have fK:w.cell? ⟨Br,0,none⟩=some (.slice ar xs.length capr):=c1;obtain⟨b,off,cpr,he,hb,-⟩:=xE.o.qac J;obtain⟨rfl,-⟩:ar=some ⟨b,off,none⟩∧capr=cpr:=by simpa using he
     have qA:=Au.at xE.o (BO 0 dU:xs[y+1]? =some (xs.getD (y+1) 0));rw[←aG.o.base.cell (p:=⟨b,off+(y+1),none⟩) (by show b<n;omega)]at qA;obtain⟨n1,ep⟩:∃n1,n1=xs.getD (y+1) 0:=⟨_,rfl⟩;rw[←ep]at qA;have pA:=Z ep;clear oz he ep;go_wp2
     go_meet
     case rel=>
      refine⟨y+1,0,n1,by go_num,rfl,rfl,rfl,dU,J,?_,?_,?_⟩
      ·rw[pA.o];exact cC
      ·have:=Hf.o;show xs.length*(ys.length+1)≤_;rw[Nat.succ_mul];omega
      ·rw[pA.o];show QJ xs xs.length ys.length (f+1) y ys.length 0 left m=_;rw[QJ,if_pos rfl,if_neg Jq,if_neg gV]
   ·have fq:((x:Int)==(ys.length:Int))=false:=by rw[Ai];omega
    go_wp2
    go_meet
    case rel=>
     refine⟨y,x,BD,rfl,rfl,rfl,rfl,hy,J,ky,?_,?_⟩
     ·have:=Hf.o;show xs.length*(ys.length+1)≤_;omega
     ·show QJ xs xs.length ys.length (f+1) y x BD left m=_;rw[QJ,if_neg hxc]
  case rest=>
   obtain⟨y1,x1,n1,rfl,rfl,rfl,rfl,dU,bj,Hinv1,Hf1,Hp⟩:=hcut;clear ky Hf sr su;have dS:=Hinv1.o.need0;have sr:=dS.1;have su:=dS.2;have dN:=aG.o.ll;obtain⟨lx,fJ⟩:∃lx,lx=left.getD x1 0:=⟨_,rfl⟩;have gU:=Hinv1.o.left0 x1 bj;rw[←fJ,if_neg J]at gU;have hl00:=gU.1;have hl01:=gU.2;have e8:=Z fJ;obtain⟨ah,-⟩:=aG.o.qbt Wf.o bj (z:=0) Jq Jq;rw[←fJ]at ah;have c3:w.cell? ⟨Bl,0,none⟩=some (.slice (some ⟨L,0,none⟩) ys.length capL):=aG.o.bl.cell 0;have c4:w.cell? ⟨Bp,0,none⟩=some (.func (.func 108) #[] #[.pointer (some ⟨Bc,0,none⟩),.pointer (some ⟨Br,0,none⟩),.pointer (some ⟨Bo,0,none⟩),.pointer (some ⟨Bm,0,none⟩),.pointer (some ⟨Bl,0,none⟩),.pointer (some ⟨Bp,0,none⟩)]):=aG.o.bp.cell 0;clear dS fJ gU dN;obtain⟨A,hA⟩:∃A,A=(if n1≤(ys.length:Int)-x1-1∧left.getD x1 0≤(xs.length:Int)-y1-1 then QJ xs xs.length ys.length f y1 (x1+1) n1 left m else[]):=⟨_,rfl⟩;obtain⟨B,hB⟩:∃B,B=(if 0<n1∧0<left.getD x1 0 then QJ xs xs.length ys.length f y1 (x1+1) (n1-1) (left.set x1 (left.getD x1 0-1)) (setC m y1 x1 1)else[]):=⟨_,rfl⟩;have HP:=Z (show QJ xs xs.length ys.length (f+1) y x BD left m=A++B from by rw[Hp.o,hA,hB];rfl);have hAl:A.length≤2^f:=by
    rw[hA];split
    ·exact A0g _ _ _ _ _ _ _ _ _
    ·simp
   rw[←e8.o]at hA hB;have HA:=Z hA;have HB:=Z hB;have HAl:=Z hAl;clear hA hB hAl Hp
   go_upto_region 6 with(fail)
   go_cut [51] (fun s51 wx=>s51=.bool (decide (n1≤(ys.length:Int)-x1-1∧lx≤(xs.length:Int)-y1-1))∧∃k,w.drewN k=wx)
   case first=>
    by_cases h1:n1≤(ys.length:Int)-x1-1
    ·by_cases h2:lx≤(xs.length:Int)-y1-1
     ·have Hd:=Z (show decide (n1≤(ys.length:Int)-x1-1∧lx≤(xs.length:Int)-y1-1)=true from by rw[Ah];exact⟨h1,h2⟩);go_quiet (fail);go_wp2
      go_meet
      case rel=>exact⟨by rw[Hd.o],_,rfl⟩
     ·have Hd:=Z (show decide (n1≤(ys.length:Int)-x1-1∧lx≤(xs.length:Int)-y1-1)=false from by rw[decide_eq_false_iff_not];exact fun h=>h2 h.2);go_quiet (fail);go_wp2
      go_meet
      case rel=>exact⟨by rw[Hd.o],_,rfl⟩
    ·have Hd:=Z (show decide (n1≤(ys.length:Int)-x1-1∧lx≤(xs.length:Int)-y1-1)=false from by rw[decide_eq_false_iff_not];exact fun h=>h1 h.1);go_quiet (fail);go_wp2
     go_meet
     case rel=>exact⟨by rw[Hd.o],_,rfl⟩
   case rest=>
    obtain⟨rfl,k,rfl⟩:=hcut;have tA:=Z (aG.o.drewN k)
    go_upto_if 51 with(fail)
    go_cut [] (fun wx=>Hid (WC n Br Bc Bo g0 g1 Bm l0 l1 Bl Bp K xs.length ys.length G cap L capL (.func (.func 108) #[] #[.pointer (some ⟨Bc,0,none⟩),.pointer (some ⟨Br,0,none⟩),.pointer (some ⟨Bo,0,none⟩),.pointer (some ⟨Bm,0,none⟩),.pointer (some ⟨Bl,0,none⟩),.pointer (some ⟨Bp,0,none⟩)]) (.slice ar xs.length capr) (.slice ac ys.length capc) Q C W0 wx left m (out++A)))
    case first=>
     by_cases hg:n1≤(ys.length:Int)-x1-1∧lx≤(xs.length:Int)-y1-1
     ·have hd:decide (n1≤(ys.length:Int)-x1-1∧lx≤(xs.length:Int)-y1-1)=true:=by rw[Ah];exact hg
      rw[hd];have hw:=Hinv1.o.qbp hg.1 (by rw[←e8.o];exact hg.2);have Hw:=Z hw;have yM:=Z (show A=_ from by rw[HA.o,if_pos hg]);have tB:out.length+2^f≤1099511627775:=by have:=dT.o;rw[Nat.pow_succ]at this;omega
      clear hw hd;go_wp2_with fail;refine(IH.o y1 (x1+1) n1 left m out _ tA.o Hw.o dU J Hf1.o tB).mono ?_;rintro e w2 ⟨rfl,st2⟩;have bM:=Z st2;clear st2;go_wp2
      go_meet
      case rel=>rw[yM.o];exact bM
     ·have hd:decide (n1≤(ys.length:Int)-x1-1∧lx≤(xs.length:Int)-y1-1)=false:=by rw[decide_eq_false_iff_not];exact hg
      rw[hd];have yM:=Z (show A=[]from by rw[HA.o,if_neg hg]);clear hd;go_wp2
      go_meet
      case rel=>rw[yM.o,List.append_nil];exact tA
    case rest=>
     have cZ:=hcut;clear hcut;have c3':wc.cell? ⟨Bl,0,none⟩=some (.slice (some ⟨L,0,none⟩) ys.length capL):=cZ.o.bl.cell 0;obtain⟨kt,-⟩:=cZ.o.qbt Wf.o bj (z:=0) Jq Jq;rw[←e8.o]at kt;by_cases hg:0<n1∧0<lx
     ·have yN:=hg.1;have bz:=hg.2;have hb:=Hinv1.o.qbn dU bj hg.1 (by rw[←e8.o];exact hg.2);rw[←e8.o]at hb;have Hb:=Z hb;have fa:=Z (show B=_ from by rw[HB.o,if_pos hg]);have pB:(out++A).length+2^f≤1099511627775:=by rw[Ad];exact TQ dT.o HAl.o
      have iy:=Z pB;have aH:=cZ.o.rows y1 dU;have sf:wc.cell? ⟨Bm,0,none⟩=some (.slice (some ⟨G,0,none⟩) xs.length cap):=cZ.o.bm.cell 0;obtain⟨⟨o,ho⟩,g8,s1⟩:=cZ.o.qcd Wf.o dU bj (z:=1) Jq Jq;obtain⟨e1,e2,s2⟩:=s1.qbt Wf.o bj (z:=lx-1) J J;rw[←e8.o]at e1;have c31:(wc.setCell ⟨Q y1,x1,none⟩ (.int .i64 1)).cell? ⟨Bl,0,none⟩=some (.slice (some ⟨L,0,none⟩) ys.length capL):=s1.bl.cell 0;have c42:((wc.setCell ⟨Q y1,x1,none⟩ (.int .i64 1)).setCell ⟨L,x1,none⟩ (.int .i64 (lx-1))).cell? ⟨Bp,0,none⟩=some (.func (.func 108) #[] #[.pointer (some ⟨Bc,0,none⟩),.pointer (some ⟨Br,0,none⟩),.pointer (some ⟨Bo,0,none⟩),.pointer (some ⟨Bm,0,none⟩),.pointer (some ⟨Bl,0,none⟩),.pointer (some ⟨Bp,0,none⟩)]):=s2.bp.cell 0;have S2:=Z s2;clear hb pB s1 s2 hg;go_wp2_with fail;refine(IH.o y1 (x1+1) (n1-1) (left.set x1 (lx-1)) (setC m y1 x1 1) (out++A) _ S2.o Hb.o dU J Hf1.o iy.o).mono ?_;rintro e w3 ⟨rfl,kW⟩;have tC:=kW.ll;have c33:w3.cell? ⟨Bl,0,none⟩=some (.slice (some ⟨L,0,none⟩) ys.length capL):=kW.bl.cell 0;obtain⟨f1,f2,s4⟩:=kW.qbt Wf.o bj (z:=lx) J J;have l9:x1<left.length:=by rw[List.length_set]at tC;omega
      rw[JL l9]at f1;have tD:(left.set x1 (lx-1)).set x1 lx=left:=by
       rw[List.set_set];apply List.ext_getElem?;intro j;by_cases hj:j=x1
       ·subst hj;rw[List.getElem?_set_self l9,BO 0 l9,←e8.o]
       ·rw[List.getElem?_set_ne J]
      rw[tD]at s4;obtain⟨⟨o5,sB⟩,hf5,s5⟩:=s4.qcd Wf.o dU bj (z:=0) Jq Jq;rw[A0S cZ.o.sh dU bj Jq Jq (Hinv1.o.zero y1 x1 (.inr ⟨rfl,A2 _⟩))]at s5;have c24:(w3.setCell ⟨L,x1,none⟩ (.int .i64 lx)).cell? ⟨Bm,0,none⟩=some (.slice (some ⟨G,0,none⟩) xs.length cap):=s4.bm.cell 0;have hcell4:=s4.rows y1 dU;have S5:=Z s5;clear kW s4 s5 tC tD l9 c31 c42 e1 e2 ho g8 aH sf c3' kt;go_wp2;refine bodyPost_end (results_none rfl _ _ _) rfl ⟨rfl,?_⟩;rw[HP.o,←List.append_assoc,fa.o,e8.o];have h:=S5.o;rw[e8.o]at h;exact h
     ·have fa:=Z (show B=[]from by rw[HB.o,if_neg hg]);by_cases h1:0<n1
      ·have h2:¬0<lx:=fun h=>hg ⟨h1,h⟩;clear hg;go_wp2;refine bodyPost_end (results_none rfl _ _ _) rfl ⟨rfl,?_⟩;rw[HP.o,fa.o,List.append_nil];exact cZ.o
      ·clear hg;go_wp2;refine bodyPost_end (results_none rfl _ _ _) rfl ⟨rfl,?_⟩;rw[HP.o,fa.o,List.append_nil];exact cZ.o
def Bt(xs ys:U):List I:=if AT xs ys then BB xs ys else[]
theorem El(v v2:Value)(xs ys:U)(w:World)(hv:Au w v xs)(aS:Au w v2 ys):Calls prog 48 #[v,v2] w fun e w'=>∃vo,e=.returned (.tuple #[vo,.bool (AT xs ys)])∧Ag 31 (Ag 32 (Ag 3 Ap)) (Iv w.heap.size w'.heap.size) w' vo (Bt xs ys)∧Below w.heap.size w w':=by
 have Hv:=Z hv;have aY:=Z aS;obtain⟨a,cap,rfl,-⟩:=hv;obtain⟨a2,cap2,rfl,-⟩:=aS;obtain⟨W1,hW1⟩:∃W1,W1=(w.alloc (.cells #[.slice a xs.length cap] 32)).alloc (.cells #[.slice a2 ys.length cap2] 32):=⟨_,rfl⟩;have dV:Below w.heap.size w W1:=by rw[hW1];exact((A6 _ _).alloc (A2 _) _).alloc Jj _
 have iz:W1.heap.size=w.heap.size+2:=by rw[hW1];simp
 have kr:B9 W1 w.heap.size #[.slice a xs.length cap] 32:=by rw[hW1];exact(B9.new w _ _).keep (Below.qab _ _)
 have kc:B9 W1 (w.heap.size+1) #[.slice a2 ys.length cap2] 32:=by
  rw[hW1];have:=B9.new (w.alloc (.cells #[.slice a xs.length cap] 32)) #[.slice a2 ys.length cap2] 32;simpa using this
 have cN:=Z dV;have Hkr:=Z kr;have Hkc:=Z kc;have e9:=Z iz;clear dV iz kr kc;cases hok:AT xs ys
 ·have aR:=Z hok;have Hr:=Z (show Bt xs ys=[]from by unfold Bt;rw[hok];rfl);clear hok;go_enter func48,ntmps48;subst hW1;go_wp2_with fail;refine(Fx _ _ _ _ _ (Hv.o.keep cN.o) (aY.o.keep cN.o)).mono ?_;rintro e w' ⟨rfl,rfl⟩;rw[aR.o];go_wp2
  go_ret2
  exact⟨_,rfl,by rw[Hr.o];exact Ag.nil _ _ _ _,cN.o⟩
 ·have Hr:=Z (show Bt xs ys=BB xs ys from by unfold Bt;rw[hok];rfl);obtain⟨hr1,hr5,hc1,hc5,jU,-,-⟩:=BG hok;have kx:=A1Z hok;have ky:=Z kx;have aR:=Z hok;clear hok kx;go_enter func48,ntmps48;subst hW1;go_wp2_with fail;refine(Fx _ _ _ _ _ (Hv.o.keep cN.o) (aY.o.keep cN.o)).mono ?_;rintro e w' ⟨rfl,rfl⟩;rw[aR.o];go_wp2_with fail;refine(Kx xs.length ys.length _ J J).mono ?_;rintro e w3 ⟨v3,rfl,o3,b3⟩;obtain⟨G,cap3,rfl,hG,hcapG,hGs,-⟩:=o3.qac (by simp[BJ];omega);have iA:(BJ xs.length ys.length).length=xs.length:=by simp[BJ]
  rw[iA]at o3 hcapG⊢;have s3:=b3.size;have bN:=Z b3;have cY:=Z o3;have tE:=Z s3;have HG:=Z hG;clear iA o3 b3 s3 hG;have B3:Below w.heap.size w w3:=(cN.o.alloc cN.o.size _).qaa bN.o (A2 _);have ji:=Z B3;have hc3:=(B3.cell (p:=⟨w.heap.size+1,0,none⟩));have z3:w.heap.size+3≤w3.heap.size:=by have:=tE.o;simp at this;omega
  have kc4:(w3.alloc (.cells #[.slice (some ⟨G,0,none⟩) xs.length cap3] 31)).cell? ⟨w.heap.size+1,0,none⟩=some (.slice a2 ys.length cap2):=(((Hkc.o.keep (Below.qab _ _)).keep bN.o).keep (Below.qab _ _)).cell 0;clear B3 hc3;go_wp2_with fail;refine(GF _ ys _ ((aY.o.keep ji.o).keep (Below.qab _ _)) J).mono ?_;rintro e w5 ⟨v5,rfl,o5,b5⟩;obtain⟨L,cap5,rfl,hL,hcapL,iN,-⟩:=o5.qac J;have gd:=Z b5;have ge:=Z o5;have Hs5:=Z b5.size;clear o5 b5;obtain⟨F,hF⟩:∃F:Value,F=(.func (.func 108) #[] #[.pointer (some ⟨w.heap.size+1,0,none⟩),.pointer (some ⟨w.heap.size,0,none⟩),.pointer (some ⟨w.heap.size+1+1,0,none⟩),.pointer (some ⟨w3.heap.size,0,none⟩),.pointer (some ⟨w5.heap.size,0,none⟩),.pointer (some ⟨w5.heap.size+1,0,none⟩)]):=⟨_,rfl⟩;obtain⟨W4,hW4⟩:∃W4,W4=w3.alloc (.cells #[.slice (some ⟨G,0,none⟩) xs.length cap3] 31):=⟨_,rfl⟩;obtain⟨W6,hW6⟩:∃W6,W6=(w5.alloc (.cells #[.slice (some ⟨L,0,none⟩) ys.length cap5] 32)).alloc (.cells #[F] 127):=⟨_,rfl⟩;rw[←hW4]at gd ge Hs5;have z4:W4.heap.size=w3.heap.size+1:=by rw[hW4];simp
  have z6:W6.heap.size=w5.heap.size+2:=by rw[hW6];simp
  have z5:W4.heap.size≤w5.heap.size:=Hs5.o;have tF:Below w3.heap.size w3 W4:=by rw[hW4];exact Below.qab _ _
  have xF:Below w5.heap.size w5 W6:=by rw[hW6];exact((A6 _ _).alloc (A2 _) _).alloc Jj _
  have tG:Below w3.heap.size w3 W6:=(tF.qaa gd.o (A2 _)).qaa xF (A2 _);have yO:Below w.heap.size w W6:=ji.o.qaa tG (A2 _);have k3:∀{g:Nat}{cs:Array Value}{t:TypeId},B9 w3 g cs t→B9 W6 g cs t:=fun h=>h.keep tG;have kbo:B9 w3 (w.heap.size+1+1) #[.slice none 0 0] 77:=by
   have h0:=B9.new ((w.alloc (.cells #[.slice a xs.length cap] 32)).alloc (.cells #[.slice a2 ys.length cap2] 32)) #[.slice none 0 0] 77;have h1:=h0.keep bN.o;rw[e9.o]at h1;exact h1
  have dN:ys.length≤5:=hc5;have bB:WC w.heap.size w.heap.size (w.heap.size+1) (w.heap.size+1+1) (w.heap.size+3) w3.heap.size w3.heap.size (w3.heap.size+1) w5.heap.size w5.heap.size (w5.heap.size+1) (w5.heap.size+2) xs.length ys.length G cap3 L cap5 F (.slice a xs.length cap) (.slice a2 ys.length cap2)
    (fun k=>match w3.cell? ⟨G,k,none⟩with|some (.slice (some p) _ _)=>p.block|_=>0) (fun k=>match w3.cell? ⟨G,k,none⟩with|some (.slice _ _ q)=>q|_=>0) w W6 ys (BJ xs.length ys.length) []:=by
   refine⟨yO,k3 ((Hkr.o.keep (Below.qab _ _)).keep bN.o),k3 ((Hkc.o.keep (Below.qab _ _)).keep bN.o),?_,?_,?_,⟨_,k3 kbo,Ag.nil _ _ _ _⟩,JK _ _,?_,?_,rfl,fun k hk=>?_,J⟩
   ·have h1:B9 W4 w3.heap.size #[.slice (some ⟨G,0,none⟩) xs.length cap3] 31:=by rw[hW4];exact B9.new _ _ _
    exact(h1.keep gd.o).keep xF
   ·rw[hW6];exact(B9.new w5 _ _).keep (Below.qab _ _)
   ·rw[hW6];have:=B9.new (w5.alloc (.cells #[.slice (some ⟨L,0,none⟩) ys.length cap5] 32)) #[F] 127;simpa using this
   ·exact(Ab (Ab A8)).mono (fun b hb=>⟨by have:=hb.1;simp at this;omega,hb.2⟩) (Ag.keep (Ab A8) cY.o tG (A2 _))
   ·exact(Ab A8).mono (fun b hb=>⟨by have:=hb.1;omega,hb.2⟩) (Ag.keep A8 ge.o xF (A2 _))
   ·have aD:=CM (JK xs.length ys.length) hk;obtain⟨q,cq,aH,-⟩:=AV cY.o aD.1 (by rw[aD.2];omega);rw[aD.2]at aH;rw[tG.cell (p:=⟨G,k,none⟩) hGs,aH]
  have wf:AWf w.heap.size w.heap.size (w.heap.size+1) (w.heap.size+1+1) (w.heap.size+3) w3.heap.size w3.heap.size (w3.heap.size+1) w5.heap.size w5.heap.size (w5.heap.size+1) (w5.heap.size+2):=by
   refine⟨?_,?_,?_,?_,?_,?_,?_,?_,?_,?_,?_⟩<;>omega
  obtain⟨Q,hQ⟩:∃Q:Nat→Nat,Q=(fun k=>match w3.cell? ⟨G,k,none⟩with|some (.slice (some p) _ _)=>p.block|_=>0):=⟨_,rfl⟩;obtain⟨C,hC⟩:∃C:Nat→Nat,C=(fun k=>match w3.cell? ⟨G,k,none⟩with|some (.slice _ _ q)=>q|_=>0):=⟨_,rfl⟩;rw[←hQ,←hC]at bB;have lA:∀wx,WC w.heap.size w.heap.size (w.heap.size+1) (w.heap.size+1+1) (w.heap.size+3) w3.heap.size w3.heap.size (w3.heap.size+1) w5.heap.size w5.heap.size (w5.heap.size+1) (w5.heap.size+2) xs.length ys.length G cap3 L cap5 F (.slice a xs.length cap) (.slice a2 ys.length cap2) Q C w wx ys (BJ xs.length ys.length) []→
    Calls prog 108 #[.int .i64 0,.int .i64 0,.int .i64 (xs.getD 0 0),.pointer (some ⟨w.heap.size+1,0,none⟩),.pointer (some ⟨w.heap.size,0,none⟩),.pointer (some ⟨w.heap.size+1+1,0,none⟩),.pointer (some ⟨w3.heap.size,0,none⟩),.pointer (some ⟨w5.heap.size,0,none⟩),.pointer (some ⟨w5.heap.size+1,0,none⟩)] wx
     fun e w'=>e=.returned (.tuple #[])∧WC w.heap.size w.heap.size (w.heap.size+1) (w.heap.size+1+1) (w.heap.size+3) w3.heap.size w3.heap.size (w3.heap.size+1) w5.heap.size w5.heap.size (w5.heap.size+1) (w5.heap.size+2) xs.length ys.length G cap3 L cap5 F (.slice a xs.length cap) (.slice a2 ys.length cap2) Q C w w' ys (BJ xs.length ys.length) (BB xs ys):=by
   intro wx xG;have hpw:xs.length*(ys.length+1)≤30:=Nat.mul_le_mul hr5 (by omega:ys.length+1≤6);have jj:2^(xs.length*(ys.length+1))≤2^30:=Nat.pow_le_pow_right Jq hpw;exact A4T wf hF (A2 _) (A2 _) Hv.o aY.o hr5 hc1 hc5 (fun i=>⟨(jU i).1,by have:=(jU i).2;omega⟩) (xs.length*(ys.length+1)) 0 0 (xs.getD 0 0) ys (BJ xs.length ys.length) [] wx xG ky.o J J J (by simp;omega)
  obtain⟨ba,off,cpr,he,hba,-⟩:=Hv.o.qac J;obtain⟨rfl,-⟩:a=some ⟨ba,off,none⟩∧cap=cpr:=by simpa using he
  have bZ:=Au.at Hv.o (BO 0 J:xs[0]? =some (xs.getD 0 0));rw[←yO.cell (p:=⟨ba,off+0,none⟩) hba]at bZ;obtain⟨n0,dS⟩:∃n0,n0=xs.getD 0 0:=⟨_,rfl⟩;rw[←dS,AF]at bZ;rw[←dS]at lA;have c6r:W6.cell? ⟨w.heap.size,0,none⟩=some (.slice (some ⟨ba,off,none⟩) xs.length cap):=bB.br.cell 0;have c6p:W6.cell? ⟨w5.heap.size+1,0,none⟩=some F:=bB.bp.cell 0;have aG:=Z bB;have qG:=Z lA;have hxp:0<xs.length:=J;have mA:w.heap.size≤w5.heap.size:=J;clear bB lA he k3 kbo tF xF tG yO z4 z5 z6 hQ hC wf dS ky kc4 hba hcapG hcapL hL hGs iN;subst hF;subst hW6;go_wp2_with fail;go_region_with (go_at_call 108;refine(qG.o _ (by first|exact aG.o|exact aG.o.drewN 1|exact aG.o.drewN 2)).mono ?_;rintro e w7 ⟨rfl,st7⟩;obtain⟨vo,eY,jV⟩:=st7.bo;have c7:=eY.cell 0)
  all_goals have eZ:=Z jV
  all_goals have mB:=Z st7.base
  all_goals clear st7 eY jV
  all_goals go_wp2
  all_goals go_ret2
  all_goals
   refine⟨vo,rfl,?_,mB.o⟩;rw[Hr.o];exact(Ab (Ab (Ab A8))).mono (fun b hb=>⟨by have h1:=hb.1;omega,hb.2⟩) eZ.o
