/- Base. -/
import Derived.Test.YthmocomfjgmjoaaGreatDoorQ03
import Derived.Laws.EntriesVeiled
import Derived.Deep.DeepCutAuto
set_option maxHeartbeats 4000000
set_option maxRecDepth 100000
namespace Go.Proofs.YthmocomfjgmjoaaGreatDoor
open Go.RowKit
theorem Fj(v v2:Value)(xs ys:List Int)(w:World)(hv:Ab w v xs)(aW:Ab w v2 ys):Calls Tryz.prog 89 #[v,v2] w fun e w'=>e=.returned (.bool (AF xs ys))∧w=w':=by
 obtain⟨a,cap,rfl,ak,cY,-,-⟩:=id hv;obtain⟨a2,cap2,rfl,de,hle2,-,-⟩:=id aW;by_cases aR:(BR 1 5 xs.length&&BR 1 5 ys.length&&xs.all (BR 0 ys.length)&&ys.all (BR 0 xs.length))=true
 ·have aY:=Z aR;simp only[Bool.and_eq_true] at aR;obtain⟨⟨⟨h1,h2⟩,h3⟩,h4⟩:=aR;have mJ:=h1;have nX:=h2;rw[AT] at mJ nX;have kf:=Ie h3 (by omega) (by omega);have qS:=Ie h4 (by omega) (by omega);have Hr:=Z (show AF xs ys=decide (Ay xs=Ay ys) from by unfold AF;rw[aY.o];rfl);by_cases he:Ay xs=Ay ys
  ·have Hd:=Z (show AF xs ys=true from by rw[Hr.o];simpa using he);have hb:(Ay xs==Ay ys)=true:=by simpa using he
   go_enter Tryz.func89,Tryz.ntmps89;go_wp2_with (first|(go_at_call 95;refine(B6 _ _ _ _).mono ?_;rintro e w' ⟨rfl,rfl⟩)|(go_at_call 157;refine(C6 _ _ _ _ _ (by assumption)).mono ?_;rintro e w' ⟨rfl,rfl⟩)|(go_at_call 87;((with_reducible refine(G7 _ _ _ hv kf).mono ?_);rintro e w' ⟨rfl,rfl⟩))|(go_at_call 87;((with_reducible refine(G7 _ _ _ aW qS).mono ?_);rintro e w' ⟨rfl,rfl⟩)))
   go_ret
   exact⟨AI Hd.o.symm,rfl⟩
  ·have Hd:=Z (show AF xs ys=false from by rw[Hr.o];simpa using he);have hb:(Ay xs==Ay ys)=false:=by simpa using he
   go_enter Tryz.func89,Tryz.ntmps89;go_wp2_with (first|(go_at_call 95;refine(B6 _ _ _ _).mono ?_;rintro e w' ⟨rfl,rfl⟩)|(go_at_call 157;refine(C6 _ _ _ _ _ (by assumption)).mono ?_;rintro e w' ⟨rfl,rfl⟩)|(go_at_call 87;((with_reducible refine(G7 _ _ _ hv kf).mono ?_);rintro e w' ⟨rfl,rfl⟩))|(go_at_call 87;((with_reducible refine(G7 _ _ _ aW qS).mono ?_);rintro e w' ⟨rfl,rfl⟩)))
   go_ret
   exact⟨AI Hd.o.symm,rfl⟩
 ·have Hd:=Z (show AF xs ys=false from by unfold AF;rw[Bool.not_eq_true] at aR;rw[aR];rfl);cases h1:BR 1 5 xs.length
  ·go_enter Tryz.func89,Tryz.ntmps89;go_wp2_with (first|(go_at_call 95;refine(B6 _ _ _ _).mono ?_;rintro e w' ⟨rfl,rfl⟩))
   go_ret
   exact⟨AI Hd.o.symm,rfl⟩
  cases h2:BR 1 5 ys.length
  ·go_enter Tryz.func89,Tryz.ntmps89;go_wp2_with (first|(go_at_call 95;refine(B6 _ _ _ _).mono ?_;rintro e w' ⟨rfl,rfl⟩))
   go_ret
   exact⟨AI Hd.o.symm,rfl⟩
  cases h3:xs.all (BR 0 ys.length)
  ·go_enter Tryz.func89,Tryz.ntmps89;go_wp2_with (first|(go_at_call 95;refine(B6 _ _ _ _).mono ?_;rintro e w' ⟨rfl,rfl⟩)|(go_at_call 157;refine(C6 _ _ _ _ _ (by assumption)).mono ?_;rintro e w' ⟨rfl,rfl⟩))
   go_ret
   exact⟨AI Hd.o.symm,rfl⟩
  cases h4:ys.all (BR 0 xs.length)
  ·go_enter Tryz.func89,Tryz.ntmps89;go_wp2_with (first|(go_at_call 95;refine(B6 _ _ _ _).mono ?_;rintro e w' ⟨rfl,rfl⟩)|(go_at_call 157;refine(C6 _ _ _ _ _ (by assumption)).mono ?_;rintro e w' ⟨rfl,rfl⟩))
   go_ret
   exact⟨AI Hd.o.symm,rfl⟩
  rw[h1,h2,h3,h4] at aR;exact absurd rfl aR
theorem Yv{α:Type}{P:Program}{w0:World}{ei:Array Oper}{o:Oper}{a:Act}{K:Act→World→Prop}{Q:Exit→Act→World→Prop}{Ep:Prop}(ie:o.guard=none)(s xo:Operand)(t:TypeId)
  (ho:o.op=.call {callee:=.builtin .append,args:=#[s,xo],argTypes:=#[t,t]}){R:CG α}(hR:M3 R)
  (E:TypeId){z:Value}{bytes:Nat}(ht:P.underlying t=some (.slice E))(cW:(P.info? E).map (fun i=>(i.zero,i.size,i.bytes))=some (some z,1,bytes))(eZ:z.cells.size=1)(dP:bytes≤64)
  (B M:Nat)(sj:B≤M)(hM:M≤w0.heap.size){v u:Value}{xs:List α}{x:α}(hs:a.eval s=v)(hx:a.eval xo=.slice (some ⟨w0.heap.size,0,none⟩) 1 1)(aB:A4 E R (Iv B M) w0 v xs)(hu:R (Iv M w0.heap.size) w0 u x)(aP:xs.length<1099511627776)
  (h:∀v' w',A4 E R (Iv B w'.heap.size) w' v' (xs++[x])→Below B w0 w'→K (a.put o.dst v') w'):
  if Region.wanted o (yielded ei a.tmps)=true then Oper.wp P o a (w0.alloc (.cells #[u] E)) K Q else Ep:=by
 have hw:Region.wanted o (yielded ei a.tmps)=true:=by simp[Region.wanted,ie]
 rw[if_pos hw];obtain⟨i,hi,hz,af,eM⟩:=info_parts cW;obtain⟨v',w',hr,h2,h3⟩:=LV (P:=P) hR w0 t o.type E i z bytes ht hi hz af eM eZ dP (Iv B M) (Iv M w0.heap.size) (fun b=>B≤b) v u xs x aB hu (fun b h1 h2=>by have:=h1.2;have:=h2.1;omega) (fun b h1=>Nat.lt_of_lt_of_le h1.2 hM) (fun b h1=>h1.2)
  (fun b h1=>h1.1) (fun b h1=>Nat.le_trans sj h1.1) (fun b h1=>by omega) aP
 unfold Oper.wp execOp;simp only[ho,resolve,invoke,builtin,Sem.run_bind,Sem.run_pure,Result.andThen_ok,List.map_toArray,List.map_cons,List.map_nil,hs,hx,hr];exact h v' w' h2 (h3.below (Nat.le_trans sj hM) fun b hb=>(A4.ownBlock' aB b hb).1)
structure AWf(n Br Bc Bo g0 g1 Bm l0 l1 Bl Bp K:Nat):Prop where
 h1:n≤Br
 h2:Br<Bc
 h3:Bc<Bo
 h4:Bo<g0
 h5:g0≤g1
 h6:g1≤Bm
 h7:Bm<l0
 h8:l0≤l1
 h9:l1≤Bl
 h10:Bl<Bp
 h11:Bp<K
structure WG(n Br Bc Bo g0 g1 Bm l0 l1 Bl Bp K r c G cap L capL:Nat)(F vr vc:Value)(Q C:Nat→Nat)(W0 w:World)(left:List Int)(m:List (List Int))(out:List (List (List Int))):Prop where
 base:Below n W0 w
 br:Aw w Br #[vr] 32
 bc:Aw w Bc #[vc] 32
 bm:Aw w Bm #[.slice (some ⟨G,0,none⟩) r cap] 31
 bl:Aw w Bl #[.slice (some ⟨L,0,none⟩) c capL] 32
 bp:Aw w Bp #[F] 127
 bo:∃vo,Aw w Bo #[vo] 77∧A4 31 (A4 32 (A4 3 A7)) (Iv K w.heap.size) w vo out
 sh:Ac r c m
 own:A4 32 (A4 3 A7) (Iv g0 g1) w (.slice (some ⟨G,0,none⟩) r cap) m
 lown:A4 3 A7 (Iv l0 l1) w (.slice (some ⟨L,0,none⟩) c capL) left
 ll:left.length=c
 rows:∀k,k<r→w.cell? ⟨G,k,none⟩=some (.slice (some ⟨Q k,0,none⟩) c (C k))
 hK:K≤w.heap.size
theorem WG.setM{n Br Bc Bo g0 g1 Bm l0 l1 Bl Bp K r c G cap L capL:Nat}{F vr vc:Value}{Q C:Nat→Nat}{W0 w:World}{left:List Int}{m:List (List Int)}{out:List (List (List Int))}(wf:AWf n Br Bc Bo g0 g1 Bm l0 l1 Bl Bp K)
  (h:WG n Br Bc Bo g0 g1 Bm l0 l1 Bl Bp K r c G cap L capL F vr vc Q C W0 w left m out){y x:Nat}(hy:y<r)(hx:x<c){z:Int}(dB:0≤z)(bZ:z≤1):
  (∃o,w.cell? ⟨Q y,x,none⟩=some (.int .i64 o))∧w.frozen? ⟨Q y,x,none⟩=false∧
  WG n Br Bc Bo g0 g1 Bm l0 l1 Bl Bp K r c G cap L capL F vr vc Q C W0 (w.setCell ⟨Q y,x,none⟩ (.int .i64 z)) left (setC m y x z) out:=by
 obtain⟨a1,a2,a3,a4,a5,a6,a7,a8,a9,a10,a11⟩:=wf;obtain⟨aG,aw⟩:=Cv h.sh hy;obtain⟨q,cq,aM,hG,hq,hqG,di,dz,lp,ap⟩:=AC h.own aG (by omega);have hQ:=h.rows y hy;rw[aM] at hQ;have e:=Option.some.inj hQ;have e2:q=Q y:=by injection e with e1 e3 e4;injection e1 with e5;injection e5
 subst e2;obtain⟨⟨o,ho⟩,gN⟩:=dz x (by omega);obtain⟨vo,bn,gt⟩:=h.bo;have q1:=hq.1;have q2:=hq.2;refine⟨⟨o,ho⟩,gN,⟨h.base.setCell (by show n≤Q y;omega) _,h.br.set_ne (by omega) _,h.bc.set_ne (by omega) _,h.bm.set_ne (by omega) _,h.bl.set_ne (by omega) _,h.bp.set_ne (by omega) _,⟨vo,bn.set_ne (by omega) _,?_⟩,El h.sh hy dB bZ,ap w (fun _ _=>rfl) x z (by omega) (BV.small (by omega) (by omega)),?_,h.ll,fun k hk=>?_,?_⟩⟩
 ·rw[A9];exact(A3 (A3 (A3 A2))).same (fun b hb=>Below.heap_setCell w _ _ b (by have:=hb.1;show b≠Q y;omega)) gt
 ·exact(A3 A2).same (fun b hb=>Below.heap_setCell w _ _ b (by have:=hb.1;show b≠Q y;omega)) h.lown
 ·rw[World.cell?_of_block (w:=w) (a:=⟨G,k,none⟩) (Below.heap_setCell w ⟨Q y,x,none⟩ (.int .i64 z) G (by simpa using fun e=>hqG e.symm))];exact h.rows k hk
 ·rw[A9];exact h.hK
theorem WG.setL{n Br Bc Bo g0 g1 Bm l0 l1 Bl Bp K r c G cap L capL:Nat}{F vr vc:Value}{Q C:Nat→Nat}{W0 w:World}{left:List Int}{m:List (List Int)}{out:List (List (List Int))}(wf:AWf n Br Bc Bo g0 g1 Bm l0 l1 Bl Bp K)
  (h:WG n Br Bc Bo g0 g1 Bm l0 l1 Bl Bp K r c G cap L capL F vr vc Q C W0 w left m out){x:Nat}(hx:x<c){z:Int}(dB:-1≤z)(bZ:z≤9):
  w.cell? ⟨L,x,none⟩=some (.int .i64 (left.getD x 0))∧w.frozen? ⟨L,x,none⟩=false∧
  WG n Br Bc Bo g0 g1 Bm l0 l1 Bl Bp K r c G cap L capL F vr vc Q C W0 (w.setCell ⟨L,x,none⟩ (.int .i64 z)) (left.set x z) m out:=by
 obtain⟨a1,a2,a3,a4,a5,a6,a7,a8,a9,a10,a11⟩:=wf;have dX:=h.ll;have bB:left[x]? =some (left.getD x 0):=BE 0 (by omega);obtain⟨hL,-⟩:=h.lown.focus A2 bB;obtain⟨h1,h2,-⟩:=h.lown.ints_cell bB;obtain⟨vo,bn,gt⟩:=h.bo;have q1:=hL.1;have q2:=hL.2;refine⟨h1,h2,⟨h.base.setCell (by show n≤L;omega) _,h.br.set_ne (by omega) _,h.bc.set_ne (by omega) _,h.bm.set_ne (by omega) _,h.bl.set_ne (by omega) _,h.bp.set_ne (by omega) _,⟨vo,bn.set_ne (by omega) _,?_⟩,h.sh,?_,h.lown.setInt (by omega) (BV.small (by omega) (by omega)),by rw[List.length_set];exact dX,fun k hk=>?_,?_⟩⟩
 ·rw[A9];exact(A3 (A3 (A3 A2))).same (fun b hb=>Below.heap_setCell w _ _ b (by have:=hb.1;show b≠L;omega)) gt
 ·exact(A3 (A3 A2)).same (fun b hb=>Below.heap_setCell w _ _ b (by have:=hb.2;show b≠L;omega)) h.own
 ·obtain⟨hG,-⟩:=h.own.focus (A3 A2) (Cv h.sh hk).1;rw[World.cell?_of_block (w:=w) (a:=⟨G,k,none⟩) (Below.heap_setCell w ⟨L,x,none⟩ (.int .i64 z) G (by have:=hG.2;show G≠L;omega))];exact h.rows k hk
 ·rw[A9];exact h.hK
theorem WG.put{n Br Bc Bo g0 g1 Bm l0 l1 Bl Bp K r c G cap L capL:Nat}{F vr vc:Value}{Q C:Nat→Nat}{W0 w w':World}{left:List Int}{m:List (List Int)}{out out':List (List (List Int))}(wf:AWf n Br Bc Bo g0 g1 Bm l0 l1 Bl Bp K)
  (h:WG n Br Bc Bo g0 g1 Bm l0 l1 Bl Bp K r c G cap L capL F vr vc Q C W0 w left m out){v':Value}(hb:Below K w w')(ho:A4 31 (A4 32 (A4 3 A7)) (Iv K w'.heap.size) w' v' out'):
  WG n Br Bc Bo g0 g1 Bm l0 l1 Bl Bp K r c G cap L capL F vr vc Q C W0 (w'.setCell ⟨Bo,0,none⟩ v') left m out':=by
 obtain⟨a1,a2,a3,a4,a5,a6,a7,a8,a9,a10,a11⟩:=wf;have hs:=hb.size;obtain⟨vo,bn,gt⟩:=h.bo;have kb:∀{g:Nat}{cs:Array Value}{t:TypeId},Aw w g cs t→g<K→g≠Bo→Aw (w'.setCell ⟨Bo,0,none⟩ v') g cs t:=fun {g cs t} hg hl hn=>Aw.set_ne (show Aw w' g cs t from(hb.block g hl).trans hg) hn v';have ko:∀b,b<K→b≠Bo→(w'.setCell ⟨Bo,0,none⟩ v').heap[b]? =w.heap[b]? :=fun b hl hn=>(Below.heap_setCell w' _ _ b (by show b≠Bo;exact hn)).trans (hb.block b hl);refine⟨?_,kb h.br (by omega) (by omega),kb h.bc (by omega) (by omega),kb h.bm (by omega) (by omega),kb h.bl (by omega) (by omega),kb h.bp (by omega) (by omega),⟨v',?_,?_⟩,h.sh,?_,?_,h.ll,fun k hk=>?_,?_⟩
 ·exact(h.base.trans (hb.mono (by omega))).setCell (by show n≤Bo;omega) _
 ·have h1:Aw w' Bo #[vo] 77:=(hb.block Bo (by omega)).trans bn;have h2:=h1.set (j:=0) v';simpa using h2
 ·rw[A9];exact(A3 (A3 (A3 A2))).same (fun b hb=>Below.heap_setCell w' _ _ b (by have:=hb.1;show b≠Bo;omega)) ho
 ·exact(A3 (A3 A2)).same (fun b hb=>ko b (by have:=hb.2;omega) (by have:=hb.1;omega)) h.own
 ·exact(A3 A2).same (fun b hb=>ko b (by have:=hb.2;omega) (by have:=hb.1;omega)) h.lown
 ·obtain⟨hG,-⟩:=h.own.focus (A3 A2) (Cv h.sh hk).1;rw[World.cell?_of_block (w:=w) (a:=⟨G,k,none⟩) (ko G (by have:=hG.2;omega) (by have:=hG.1;omega))];exact h.rows k hk
 ·rw[A9];have:=h.hK;omega
theorem GN{w w2:World}(h:Below w.drew.heap.size w.drew w2):Below w.heap.size w w2:=⟨h.os,h.tape,h.output,h.size,h.block⟩
theorem SQ:(Tryz.prog.info? 31).map (fun i=>(i.zero,i.size,i.bytes))=some (some (.slice none 0 0),1,24):=by kernel_rfl
theorem Tr{a b c f:Nat}(h:a+2^(f+1)≤b)(hc:c≤2^f):a+c+2^f≤b:=by rw[Nat.pow_succ] at h;omega
theorem WG.drewN{n Br Bc Bo g0 g1 Bm l0 l1 Bl Bp K r c G cap L capL:Nat}{F vr vc:Value}{Q C:Nat→Nat}{W0 w:World}{left:List Int}{m:List (List Int)}{out:List (List (List Int))}
  (h:WG n Br Bc Bo g0 g1 Bm l0 l1 Bl Bp K r c G cap L capL F vr vc Q C W0 w left m out)(k:Nat):WG n Br Bc Bo g0 g1 Bm l0 l1 Bl Bp K r c G cap L capL F vr vc Q C W0 (w.drewN k) left m out:=
 ⟨below_drewN h.base k,h.br,h.bc,h.bm,h.bl,h.bp,h.bo,h.sh,h.own,h.lown,h.ll,h.rows,h.hK⟩
theorem A6g{n Br Bc Bo g0 g1 Bm l0 l1 Bl Bp K G cap L capL:Nat}{F vr vc:Value}{Q C:Nat→Nat}{W0:World}{xs ys:List Int}(wf:AWf n Br Bc Bo g0 g1 Bm l0 l1 Bl Bp K)
  (hF:F=.func (.func 108) #[] #[.pointer (some ⟨Bc,0,none⟩),.pointer (some ⟨Br,0,none⟩),.pointer (some ⟨Bo,0,none⟩),.pointer (some ⟨Bm,0,none⟩),.pointer (some ⟨Bl,0,none⟩),.pointer (some ⟨Bp,0,none⟩)])
  (hn:W0.heap.size≤n)(fZ:n≤W0.heap.size)(sq:Ab W0 vr xs)(sD:Ab W0 vc ys)(hr5:xs.length≤5)(hc1:1≤ys.length)(hc5:ys.length≤5)(jb:∀i,0≤xs.getD i 0∧xs.getD i 0≤5)(f:Nat):
  ∀(y x:Nat)(Bn:Int)(left:List Int)(m:List (List Int))(out:List (List (List Int)))(w:World),WG n Br Bc Bo g0 g1 Bm l0 l1 Bl Bp K xs.length ys.length G cap L capL F vr vc Q C W0 w left m out→JK xs ys xs.length ys.length y x Bn left m→y<xs.length→x≤ys.length→
   xs.length*(ys.length+1)≤f+(y*(ys.length+1)+x)→out.length+2^f≤1099511627775→
   Calls Tryz.prog 108 #[.int .i64 y,.int .i64 x,.int .i64 Bn,.pointer (some ⟨Bc,0,none⟩),.pointer (some ⟨Br,0,none⟩),.pointer (some ⟨Bo,0,none⟩),.pointer (some ⟨Bm,0,none⟩),.pointer (some ⟨Bl,0,none⟩),.pointer (some ⟨Bp,0,none⟩)] w
    fun e w'=>e=.returned (.tuple #[])∧WG n Br Bc Bo g0 g1 Bm l0 l1 Bl Bp K xs.length ys.length G cap L capL F vr vc Q C W0 w' left m (out++Qt xs xs.length ys.length f y x Bn left m):=by
 subst hF;have Wf:=Z wf;have ww:=Z sq;have Hvc:=Z sD;obtain⟨ar,capr,rfl,-⟩:=sq;obtain⟨ac,capc,rfl,-⟩:=sD;induction f with
 |zero=>
  intro y x Bn left m out w _ _ hy hx hf _;have h1:(y+1)*(ys.length+1)≤xs.length*(ys.length+1):=Nat.mul_le_mul_right _ hy;rw[Nat.succ_mul] at h1;omega
 |succ f ih=>
  intro y x Bn left m out w bE lJ hy hx hf bq;have IH:=Z ih;have mK:=Z jb;have aJ:=Z bE;have lK:=Z lJ;have Hf:=Z hf;have df:=Z bq;have dY:=lJ.need0;have sr:=dY.1;have su:=dY.2;have c0:w.cell? ⟨Bc,0,none⟩=some (.slice ac ys.length capc):=bE.bc.cell 0;have c1:w.cell? ⟨Br,0,none⟩=some (.slice ar xs.length capr):=bE.br.cell 0;clear ih bE lJ hf bq dY jb;go_enter Tryz.func108,Tryz.ntmps108
  go_upto_if 15 with(fail)
  go_cut [0,1,2] (fun s0 s1 s2 wx=>∃(y1 x1:Nat)(n1:Int),s0=.int .i64 y1∧s1=.int .i64 x1∧s2=.int .i64 n1∧w=wx∧y1<xs.length∧x1<ys.length∧Hid (JK xs ys xs.length ys.length y1 x1 n1 left m)∧Hid (xs.length*(ys.length+1)≤f+(y1*(ys.length+1)+(x1+1)))∧Hid (Qt xs xs.length ys.length (f+1) y x Bn left m=NP xs.length ys.length (Qt xs xs.length ys.length f) y1 x1 n1 left m))
  case first=>
   by_cases hxc:x=ys.length
   ·subst hxc;have sv:Bn=0:=by omega
    subst sv;by_cases gO:y+1=xs.length
    ·have Hp:=Z (show Qt xs xs.length ys.length (f+1) y ys.length 0 left m=[m] from by rw[Qt,if_pos rfl,if_neg (by decide),if_pos gO]);have fx:((y:Int)+1==(xs.length:Int))=true:=by rw[beq_iff_eq];omega
     have nY:(y+1)*1=xs.length:=by omega
     clear nY;have HG:=Z aJ.o.own.grid;have aP:out.length<1099511627776:=Nat.lt_of_le_of_lt (Nat.le_trans (Nat.le_add_right _ _) df.o) (by decide);obtain⟨vo,bn,gt⟩:=aJ.o.bo;have ex:=Z gt;have nZ:=Z bn;have c2:w.cell? ⟨Bm,0,none⟩=some (.slice (some ⟨G,0,none⟩) xs.length cap):=aJ.o.bm.cell 0;have c5:w.cell? ⟨Bo,0,none⟩=some vo:=bn.cell 0;have c6:w.frozen? ⟨Bo,0,none⟩=false:=bn.frozen 0;clear gt bn;go_wp2;have bJ:m.length≤1048576:=by have:=aJ.o.sh.1;omega
     have HR:=Z (show ∀p∈m,p.length≤1048576 from fun p hp=>by have:=(aJ.o.sh.2 p hp).1;omega);have hK:=aJ.o.hK;have eO:Bo<K:=by have h4:=Wf.o.h4;have h5:=Wf.o.h5;have h6:=Wf.o.h6;have h7:=Wf.o.h7;have h8:=Wf.o.h8;have h9:=Wf.o.h9;have h10:=Wf.o.h10;have h11:=Wf.o.h11;omega
     have jr:Bo<w.heap.size:=by omega
     go_region_law (first
      |(refine Yv (w0:=w2) (v:=vo) rfl (.tmp 24) (.tmp 27) 77 rfl (A3 (A3 A2)) 31 Tryz.underlying77 SQ rfl (by decide) K w.heap.size hK hs2 (by simp[Act.eval]) (by simp[Act.eval]) (by exact sw.o) (by exact cu.o) aP ?_;intro v3 w3 o3 b3;obtain⟨p4,p5,p6,rfl⟩:=o3.shape;have c7:=(b3.cell (p:=⟨Bo,0,none⟩) eO).trans qT;have c8:=(b3.frozen (p:=⟨Bo,0,none⟩) eO).trans sx)
      |(refine Yv (w0:=w2.drew) (v:=vo) rfl (.tmp 24) (.tmp 27) 77 rfl (A3 (A3 A2)) 31 Tryz.underlying77 SQ rfl (by decide) K w.heap.size hK hs2 (by simp[Act.eval]) (by simp[Act.eval]) (by exact sw.o) (by exact cu.o) aP ?_;intro v3 w3 o3 b3;obtain⟨p4,p5,p6,rfl⟩:=o3.shape;have c7:=(b3.cell (p:=⟨Bo,0,none⟩) eO).trans qT;have c8:=(b3.frozen (p:=⟨Bo,0,none⟩) eO).trans sx)
      |(go_simp;go_at_call 82;refine(EO _ m _ (by exact HG.o) bJ HR.o).mono ?_;rintro e w2 ⟨v2,rfl,o2,b2⟩;obtain⟨p1,p2,p3,rfl⟩:=o2.shape;
        have sy:Below w.heap.size w w2:=by first|exact b2|exact GN b2|exact GN (GN b2);
        have hs2:=sy.size;
        have cu:=Z o2;
        have sw:=Z (A4.keep (A3 (A3 A2)) ex.o sy (Nat.le_refl _));
        have qT:=(sy.cell (p:=⟨Bo,0,none⟩) jr).trans c5;have xv:Bo<w2.heap.size:=Nat.lt_of_lt_of_le jr hs2;have xw:=((Below.pureAlloc w2 (.cells #[Value.slice p1 p2 p3] 31)).cell (p:=⟨Bo,0,none⟩) xv).trans qT;
        have sx:=(sy.frozen (p:=⟨Bo,0,none⟩) jr).trans c6;clear o2 b2))
     all_goals go_wp2
     all_goals exact bodyPost_ret (v:=.tuple #[]) (by simp[results,Tryz.results108,go_sem]) rfl ⟨rfl,by rw[Hp.o];exact aJ.o.put Wf.o (v':=Value.slice p4 p5 p6) ((sy.mono hK).trans (by first|exact b3|exact GN b3)) o3⟩
    ·have fx:((y:Int)+1==(xs.length:Int))=false:=by rw[beq_eq_false_iff_ne];omega
     have d5:y+1<xs.length:=by omega
     have pL:=lK.o.next d5;have cQ:=Z pL;have fW:w.cell? ⟨Br,0,none⟩=some (.slice ar xs.length capr):=c1;obtain⟨b,off,cpr,he,hb,-⟩:=ww.o.inv_ne (by omega);obtain⟨rfl,-⟩:ar=some ⟨b,off,none⟩∧capr=cpr:=by simpa using he
     have qP:=Ab.at ww.o (BE 0 d5:xs[y+1]? =some (xs.getD (y+1) 0));rw[←aJ.o.base.cell (p:=⟨b,off+(y+1),none⟩) (by show b<n;omega)] at qP;obtain⟨n1,eA⟩:∃n1,n1=xs.getD (y+1) 0:=⟨_,rfl⟩;rw[←eA] at qP;have pM:=Z eA;clear pL he eA;go_wp2
     go_meet
     case rel=>
      refine⟨y+1,0,n1,by go_num,rfl,rfl,rfl,d5,by omega,?_,?_,?_⟩
      ·rw[pM.o];exact cQ
      ·have:=Hf.o;show xs.length*(ys.length+1)≤_;rw[Nat.succ_mul];omega
      ·rw[pM.o];show Qt xs xs.length ys.length (f+1) y ys.length 0 left m=_;rw[Qt,if_pos rfl,if_neg (by decide),if_neg gO]
   ·have gF:((x:Int)==(ys.length:Int))=false:=by rw[beq_eq_false_iff_ne];omega
    go_wp2
    go_meet
    case rel=>
     refine⟨y,x,Bn,rfl,rfl,rfl,rfl,hy,by omega,lK,?_,?_⟩
     ·have:=Hf.o;show xs.length*(ys.length+1)≤_;omega
     ·show Qt xs xs.length ys.length (f+1) y x Bn left m=_;rw[Qt,if_neg hxc]
  case rest=>
   obtain⟨y1,x1,n1,rfl,rfl,rfl,rfl,d5,cM,Hinv1,Hf1,Hp⟩:=hcut;clear lK Hf sr su;have dY:=Hinv1.o.need0;have sr:=dY.1;have su:=dY.2;have dX:=aJ.o.ll;obtain⟨lx,fJ⟩:∃lx,lx=left.getD x1 0:=⟨_,rfl⟩;have gA:=Hinv1.o.left0 x1 cM;rw[←fJ,if_neg (by omega)] at gA;have hl00:=gA.1;have hl01:=gA.2;have ej:=Z fJ;obtain⟨az,-⟩:=aJ.o.setL Wf.o cM (z:=0) (by decide) (by decide);rw[←fJ] at az;have c3:w.cell? ⟨Bl,0,none⟩=some (.slice (some ⟨L,0,none⟩) ys.length capL):=aJ.o.bl.cell 0;have c4:w.cell? ⟨Bp,0,none⟩=some (.func (.func 108) #[] #[.pointer (some ⟨Bc,0,none⟩),.pointer (some ⟨Br,0,none⟩),.pointer (some ⟨Bo,0,none⟩),.pointer (some ⟨Bm,0,none⟩),.pointer (some ⟨Bl,0,none⟩),.pointer (some ⟨Bp,0,none⟩)]):=aJ.o.bp.cell 0;clear dY fJ gA dX;obtain⟨A,hA⟩:∃A,A=(if n1≤(ys.length:Int)-x1-1∧left.getD x1 0≤(xs.length:Int)-y1-1 then Qt xs xs.length ys.length f y1 (x1+1) n1 left m else[]):=⟨_,rfl⟩;obtain⟨B,hB⟩:∃B,B=(if 0<n1∧0<left.getD x1 0 then Qt xs xs.length ys.length f y1 (x1+1) (n1-1) (left.set x1 (left.getD x1 0-1)) (setC m y1 x1 1) else[]):=⟨_,rfl⟩;have HP:=Z (show Qt xs xs.length ys.length (f+1) y x Bn left m=A++B from by rw[Hp.o,hA,hB];rfl);have hAl:A.length≤2^f:=by
    rw[hA];split
    ·exact A15 _ _ _ _ _ _ _ _ _
    ·simp
   rw[←ej.o] at hA hB;have HA:=Z hA;have HB:=Z hB;have HAl:=Z hAl;clear hA hB hAl Hp
   go_upto_region 6 with(fail)
   go_cut [51] (fun s51 wx=>s51=.bool (decide (n1≤(ys.length:Int)-x1-1∧lx≤(xs.length:Int)-y1-1))∧∃k,w.drewN k=wx)
   case first=>
    by_cases h1:n1≤(ys.length:Int)-x1-1
    ·by_cases h2:lx≤(xs.length:Int)-y1-1
     ·have Hd:=Z (show decide (n1≤(ys.length:Int)-x1-1∧lx≤(xs.length:Int)-y1-1)=true from by rw[decide_eq_true_eq];exact⟨h1,h2⟩);go_quiet (fail);go_wp2
      go_meet
      case rel=>exact⟨by rw[Hd.o],_,rfl⟩
     ·have Hd:=Z (show decide (n1≤(ys.length:Int)-x1-1∧lx≤(xs.length:Int)-y1-1)=false from by rw[decide_eq_false_iff_not];exact fun h=>h2 h.2);go_quiet (fail);go_wp2
      go_meet
      case rel=>exact⟨by rw[Hd.o],_,rfl⟩
    ·have Hd:=Z (show decide (n1≤(ys.length:Int)-x1-1∧lx≤(xs.length:Int)-y1-1)=false from by rw[decide_eq_false_iff_not];exact fun h=>h1 h.1);go_quiet (fail);go_wp2
     go_meet
     case rel=>exact⟨by rw[Hd.o],_,rfl⟩
   case rest=>
    obtain⟨rfl,k,rfl⟩:=hcut;have tA:=Z (aJ.o.drewN k)
    go_upto_if 51 with(fail)
    go_cut [] (fun wx=>Hid (WG n Br Bc Bo g0 g1 Bm l0 l1 Bl Bp K xs.length ys.length G cap L capL (.func (.func 108) #[] #[.pointer (some ⟨Bc,0,none⟩),.pointer (some ⟨Br,0,none⟩),.pointer (some ⟨Bo,0,none⟩),.pointer (some ⟨Bm,0,none⟩),.pointer (some ⟨Bl,0,none⟩),.pointer (some ⟨Bp,0,none⟩)]) (.slice ar xs.length capr) (.slice ac ys.length capc) Q C W0 wx left m (out++A)))
    case first=>
     by_cases hg:n1≤(ys.length:Int)-x1-1∧lx≤(xs.length:Int)-y1-1
     ·have hd:decide (n1≤(ys.length:Int)-x1-1∧lx≤(xs.length:Int)-y1-1)=true:=by rw[decide_eq_true_eq];exact hg
      rw[hd];have hw:=Hinv1.o.white hg.1 (by rw[←ej.o];exact hg.2);have Hw:=Z hw;have xx:=Z (show A=_ from by rw[HA.o,if_pos hg]);have tB:out.length+2^f≤1099511627775:=by have:=df.o;rw[Nat.pow_succ] at this;omega
      clear hw hd;go_wp2_with (fail);refine(IH.o y1 (x1+1) n1 left m out _ tA.o Hw.o d5 (by omega) Hf1.o tB).mono ?_;rintro e w2 ⟨rfl,st2⟩;have b9:=Z st2;clear st2;go_wp2
      go_meet
      case rel=>rw[xx.o];exact b9
     ·have hd:decide (n1≤(ys.length:Int)-x1-1∧lx≤(xs.length:Int)-y1-1)=false:=by rw[decide_eq_false_iff_not];exact hg
      rw[hd];have xx:=Z (show A=[] from by rw[HA.o,if_neg hg]);clear hd;go_wp2
      go_meet
      case rel=>rw[xx.o,List.append_nil];exact tA
    case rest=>
     have dF:=hcut;clear hcut;have c3':wc.cell? ⟨Bl,0,none⟩=some (.slice (some ⟨L,0,none⟩) ys.length capL):=dF.o.bl.cell 0;obtain⟨lH,-⟩:=dF.o.setL Wf.o cM (z:=0) (by decide) (by decide);rw[←ej.o] at lH;by_cases hg:0<n1∧0<lx
     ·have xy:=hg.1;have ai:=hg.2;have hb:=Hinv1.o.black d5 cM hg.1 (by rw[←ej.o];exact hg.2);rw[←ej.o] at hb;have Hb:=Z hb;have fl:=Z (show B=_ from by rw[HB.o,if_pos hg]);have pN:(out++A).length+2^f≤1099511627775:=by rw[List.length_append];exact Tr df.o HAl.o
      have jL:=Z pN;have aM:=dF.o.rows y1 d5;have sf:wc.cell? ⟨Bm,0,none⟩=some (.slice (some ⟨G,0,none⟩) xs.length cap):=dF.o.bm.cell 0;obtain⟨⟨o,ho⟩,gN,s1⟩:=dF.o.setM Wf.o d5 cM (z:=1) (by decide) (by decide);obtain⟨e1,e2,s2⟩:=s1.setL Wf.o cM (z:=lx-1) (by omega) (by omega);rw[←ej.o] at e1;have c31:(wc.setCell ⟨Q y1,x1,none⟩ (.int .i64 1)).cell? ⟨Bl,0,none⟩=some (.slice (some ⟨L,0,none⟩) ys.length capL):=s1.bl.cell 0;have c42:((wc.setCell ⟨Q y1,x1,none⟩ (.int .i64 1)).setCell ⟨L,x1,none⟩ (.int .i64 (lx-1))).cell? ⟨Bp,0,none⟩=some (.func (.func 108) #[] #[.pointer (some ⟨Bc,0,none⟩),.pointer (some ⟨Br,0,none⟩),.pointer (some ⟨Bo,0,none⟩),.pointer (some ⟨Bm,0,none⟩),.pointer (some ⟨Bl,0,none⟩),.pointer (some ⟨Bp,0,none⟩)]):=s2.bp.cell 0;have S2:=Z s2;clear hb pN s1 s2 hg;go_wp2_with (fail);refine(IH.o y1 (x1+1) (n1-1) (left.set x1 (lx-1)) (setC m y1 x1 1) (out++A) _ S2.o Hb.o d5 (by omega) Hf1.o jL.o).mono ?_;rintro e w3 ⟨rfl,kg⟩;have tC:=kg.ll;have c33:w3.cell? ⟨Bl,0,none⟩=some (.slice (some ⟨L,0,none⟩) ys.length capL):=kg.bl.cell 0;obtain⟨f1,f2,s4⟩:=kg.setL Wf.o cM (z:=lx) (by omega) (by omega);have lq:x1<left.length:=by rw[List.length_set] at tC;omega
      rw[J1 lq] at f1;have tD:(left.set x1 (lx-1)).set x1 lx=left:=by
       rw[List.set_set];apply List.ext_getElem?;intro j;by_cases hj:j=x1
       ·subst hj;rw[List.getElem?_set_self lq,BE 0 lq,←ej.o]
       ·rw[List.getElem?_set_ne (by omega)]
      rw[tD] at s4;obtain⟨⟨o5,n8⟩,hf5,s5⟩:=s4.setM Wf.o d5 cM (z:=0) (by decide) (by decide);rw[A2l dF.o.sh d5 cM (by decide) (by decide) (Hinv1.o.zero y1 x1 (.inr ⟨rfl,Nat.le_refl _⟩))] at s5;have c24:(w3.setCell ⟨L,x1,none⟩ (.int .i64 lx)).cell? ⟨Bm,0,none⟩=some (.slice (some ⟨G,0,none⟩) xs.length cap):=s4.bm.cell 0;have hcell4:=s4.rows y1 d5;have S5:=Z s5;clear kg s4 s5 tC tD lq c31 c42 e1 e2 ho gN aM sf c3' lH;go_wp2;refine bodyPost_end (results_none rfl _ _ _) rfl ⟨rfl,?_⟩;rw[HP.o,←List.append_assoc,fl.o,ej.o];have h:=S5.o;rw[ej.o] at h;exact h
     ·have fl:=Z (show B=[] from by rw[HB.o,if_neg hg]);by_cases h1:0<n1
      ·have h2:¬0<lx:=fun h=>hg ⟨h1,h⟩;clear hg;go_wp2;refine bodyPost_end (results_none rfl _ _ _) rfl ⟨rfl,?_⟩;rw[HP.o,fl.o,List.append_nil];exact dF.o
      ·clear hg;go_wp2;refine bodyPost_end (results_none rfl _ _ _) rfl ⟨rfl,?_⟩;rw[HP.o,fl.o,List.append_nil];exact dF.o
def AZ(xs ys:List Int):List (List (List Int)):=if AF xs ys then Bi xs ys else[]
theorem Ef(v v2:Value)(xs ys:List Int)(w:World)(hv:Ab w v xs)(aW:Ab w v2 ys):Calls Tryz.prog 48 #[v,v2] w fun e w'=>∃vo,e=.returned (.tuple #[vo,.bool (AF xs ys)])∧A4 31 (A4 32 (A4 3 A7)) (Iv w.heap.size w'.heap.size) w' vo (AZ xs ys)∧Below w.heap.size w w':=by
 have Hv:=Z hv;have aj:=Z aW;obtain⟨a,cap,rfl,-⟩:=hv;obtain⟨a2,cap2,rfl,-⟩:=aW;obtain⟨W1,hW1⟩:∃W1,W1=(w.alloc (.cells #[.slice a xs.length cap] 32)).alloc (.cells #[.slice a2 ys.length cap2] 32):=⟨_,rfl⟩;have dg:Below w.heap.size w W1:=by rw[hW1];exact((Below.refl _ _).alloc (Nat.le_refl _) _).alloc (by simp) _
 have jM:W1.heap.size=w.heap.size+2:=by rw[hW1];simp
 have kr:Aw W1 w.heap.size #[.slice a xs.length cap] 32:=by rw[hW1];exact(Aw.new w _ _).keep (Below.pureAlloc _ _)
 have kc:Aw W1 (w.heap.size+1) #[.slice a2 ys.length cap2] 32:=by
  rw[hW1];have:=Aw.new (w.alloc (.cells #[.slice a xs.length cap] 32)) #[.slice a2 ys.length cap2] 32;simpa using this
 have cj:=Z dg;have Hkr:=Z kr;have Hkc:=Z kc;have ey:=Z jM;clear dg jM kr kc;cases aD:AF xs ys
 ·have aS:=Z aD;have Hr:=Z (show AZ xs ys=[] from by unfold AZ;rw[aD];rfl);clear aD;go_enter Tryz.func48,Tryz.ntmps48;subst hW1;go_wp2_with (fail);refine(Fj _ _ _ _ _ (Hv.o.keep cj.o) (aj.o.keep cj.o)).mono ?_;rintro e w' ⟨rfl,rfl⟩;rw[aS.o];go_wp2
  go_ret2
  exact⟨_,rfl,by rw[Hr.o];exact A4.nil _ _ _ _,cj.o⟩
 ·have Hr:=Z (show AZ xs ys=Bi xs ys from by unfold AZ;rw[aD];rfl);obtain⟨hr1,hr5,hc1,hc5,jb,-,-⟩:=BC aD;have lJ:=A3c aD;have lK:=Z lJ;have aS:=Z aD;clear aD lJ;go_enter Tryz.func48,Tryz.ntmps48;subst hW1;go_wp2_with (fail);refine(Fj _ _ _ _ _ (Hv.o.keep cj.o) (aj.o.keep cj.o)).mono ?_;rintro e w' ⟨rfl,rfl⟩;rw[aS.o];go_wp2_with (fail);refine(K9 xs.length ys.length _ (by omega) (by omega)).mono ?_;rintro e w3 ⟨v3,rfl,o3,b3⟩;obtain⟨G,cap3,rfl,hG,hcapG,hGs,-⟩:=o3.inv_ne (by simp[Bv];omega);have gM:(Bv xs.length ys.length).length=xs.length:=by simp[Bv]
  rw[gM] at o3 hcapG⊢;have s3:=b3.size;have bM:=Z b3;have cn:=Z o3;have tE:=Z s3;have HG:=Z hG;clear gM o3 b3 s3 hG;have B3:Below w.heap.size w w3:=(cj.o.alloc cj.o.size _).trans_pure bM.o (Nat.le_refl _);have js:=Z B3;have lL:=(B3.cell (p:=⟨w.heap.size+1,0,none⟩));have z3:w.heap.size+3≤w3.heap.size:=by have:=tE.o;simp at this;omega
  have kc4:(w3.alloc (.cells #[.slice (some ⟨G,0,none⟩) xs.length cap3] 31)).cell? ⟨w.heap.size+1,0,none⟩=some (.slice a2 ys.length cap2):=(((Hkc.o.keep (Below.pureAlloc _ _)).keep bM.o).keep (Below.pureAlloc _ _)).cell 0;clear B3 lL;go_wp2_with (fail);refine(GB _ ys _ ((aj.o.keep js.o).keep (Below.pureAlloc _ _)) (by omega)).mono ?_;rintro e w5 ⟨v5,rfl,o5,b5⟩;obtain⟨L,cap5,rfl,hL,hcapL,ig,-⟩:=o5.inv_ne (by omega);have hZ:=Z b5;have iA:=Z o5;have Hs5:=Z b5.size;clear o5 b5;obtain⟨F,hF⟩:∃F:Value,F=(.func (.func 108) #[] #[.pointer (some ⟨w.heap.size+1,0,none⟩),.pointer (some ⟨w.heap.size,0,none⟩),.pointer (some ⟨w.heap.size+1+1,0,none⟩),.pointer (some ⟨w3.heap.size,0,none⟩),.pointer (some ⟨w5.heap.size,0,none⟩),.pointer (some ⟨w5.heap.size+1,0,none⟩)]):=⟨_,rfl⟩;obtain⟨W4,hW4⟩:∃W4,W4=w3.alloc (.cells #[.slice (some ⟨G,0,none⟩) xs.length cap3] 31):=⟨_,rfl⟩;obtain⟨W6,hW6⟩:∃W6,W6=(w5.alloc (.cells #[.slice (some ⟨L,0,none⟩) ys.length cap5] 32)).alloc (.cells #[F] 127):=⟨_,rfl⟩;rw[←hW4] at hZ iA Hs5;have z4:W4.heap.size=w3.heap.size+1:=by rw[hW4];simp
  have z6:W6.heap.size=w5.heap.size+2:=by rw[hW6];simp
  have z5:W4.heap.size≤w5.heap.size:=Hs5.o;have tF:Below w3.heap.size w3 W4:=by rw[hW4];exact Below.pureAlloc _ _
  have wy:Below w5.heap.size w5 W6:=by rw[hW6];exact((Below.refl _ _).alloc (Nat.le_refl _) _).alloc (by simp) _
  have tG:Below w3.heap.size w3 W6:=(tF.trans_pure hZ.o (Nat.le_refl _)).trans_pure wy (Nat.le_refl _);have xz:Below w.heap.size w W6:=js.o.trans_pure tG (Nat.le_refl _);have k3:∀{g:Nat}{cs:Array Value}{t:TypeId},Aw w3 g cs t→Aw W6 g cs t:=fun h=>h.keep tG;have kbo:Aw w3 (w.heap.size+1+1) #[.slice none 0 0] 77:=by
   have h0:=Aw.new ((w.alloc (.cells #[.slice a xs.length cap] 32)).alloc (.cells #[.slice a2 ys.length cap2] 32)) #[.slice none 0 0] 77;have h1:=h0.keep bM.o;rw[ey.o] at h1;exact h1
  have dX:ys.length≤5:=hc5;have bE:WG w.heap.size w.heap.size (w.heap.size+1) (w.heap.size+1+1) (w.heap.size+3) w3.heap.size w3.heap.size (w3.heap.size+1) w5.heap.size w5.heap.size (w5.heap.size+1) (w5.heap.size+2) xs.length ys.length G cap3 L cap5 F (.slice a xs.length cap) (.slice a2 ys.length cap2)
    (fun k=>match w3.cell? ⟨G,k,none⟩ with|some (.slice (some p) _ _)=>p.block|_=>0) (fun k=>match w3.cell? ⟨G,k,none⟩ with|some (.slice _ _ q)=>q|_=>0) w W6 ys (Bv xs.length ys.length) []:=by
   refine⟨xz,k3 ((Hkr.o.keep (Below.pureAlloc _ _)).keep bM.o),k3 ((Hkc.o.keep (Below.pureAlloc _ _)).keep bM.o),?_,?_,?_,⟨_,k3 kbo,A4.nil _ _ _ _⟩,Jb _ _,?_,?_,rfl,fun k hk=>?_,by omega⟩
   ·have h1:Aw W4 w3.heap.size #[.slice (some ⟨G,0,none⟩) xs.length cap3] 31:=by rw[hW4];exact Aw.new _ _ _
    exact(h1.keep hZ.o).keep wy
   ·rw[hW6];exact(Aw.new w5 _ _).keep (Below.pureAlloc _ _)
   ·rw[hW6];have:=Aw.new (w5.alloc (.cells #[.slice (some ⟨L,0,none⟩) ys.length cap5] 32)) #[F] 127;simpa using this
   ·exact(A3 (A3 A2)).mono (fun b hb=>⟨by have:=hb.1;simp at this;omega,hb.2⟩) (A4.keep (A3 A2) cn.o tG (Nat.le_refl _))
   ·exact(A3 A2).mono (fun b hb=>⟨by have:=hb.1;omega,hb.2⟩) (A4.keep A2 iA.o wy (Nat.le_refl _))
   ·have aG:=Cv (Jb xs.length ys.length) hk;obtain⟨q,cq,aM,-⟩:=AC cn.o aG.1 (by rw[aG.2];omega);rw[aG.2] at aM;rw[tG.cell (p:=⟨G,k,none⟩) hGs,aM]
  have wf:AWf w.heap.size w.heap.size (w.heap.size+1) (w.heap.size+1+1) (w.heap.size+3) w3.heap.size w3.heap.size (w3.heap.size+1) w5.heap.size w5.heap.size (w5.heap.size+1) (w5.heap.size+2):=by
   refine⟨?_,?_,?_,?_,?_,?_,?_,?_,?_,?_,?_⟩<;>omega
  obtain⟨Q,hQ⟩:∃Q:Nat→Nat,Q=(fun k=>match w3.cell? ⟨G,k,none⟩ with|some (.slice (some p) _ _)=>p.block|_=>0):=⟨_,rfl⟩;obtain⟨C,hC⟩:∃C:Nat→Nat,C=(fun k=>match w3.cell? ⟨G,k,none⟩ with|some (.slice _ _ q)=>q|_=>0):=⟨_,rfl⟩;rw[←hQ,←hC] at bE;have lM:∀wx,WG w.heap.size w.heap.size (w.heap.size+1) (w.heap.size+1+1) (w.heap.size+3) w3.heap.size w3.heap.size (w3.heap.size+1) w5.heap.size w5.heap.size (w5.heap.size+1) (w5.heap.size+2) xs.length ys.length G cap3 L cap5 F (.slice a xs.length cap) (.slice a2 ys.length cap2) Q C w wx ys (Bv xs.length ys.length) []→
    Calls Tryz.prog 108 #[.int .i64 0,.int .i64 0,.int .i64 (xs.getD 0 0),.pointer (some ⟨w.heap.size+1,0,none⟩),.pointer (some ⟨w.heap.size,0,none⟩),.pointer (some ⟨w.heap.size+1+1,0,none⟩),.pointer (some ⟨w3.heap.size,0,none⟩),.pointer (some ⟨w5.heap.size,0,none⟩),.pointer (some ⟨w5.heap.size+1,0,none⟩)] wx
     fun e w'=>e=.returned (.tuple #[])∧WG w.heap.size w.heap.size (w.heap.size+1) (w.heap.size+1+1) (w.heap.size+3) w3.heap.size w3.heap.size (w3.heap.size+1) w5.heap.size w5.heap.size (w5.heap.size+1) (w5.heap.size+2) xs.length ys.length G cap3 L cap5 F (.slice a xs.length cap) (.slice a2 ys.length cap2) Q C w w' ys (Bv xs.length ys.length) (Bi xs ys):=by
   intro wx xA;have hpw:xs.length*(ys.length+1)≤30:=Nat.mul_le_mul hr5 (by omega:ys.length+1≤6);have jN:2^(xs.length*(ys.length+1))≤2^30:=Nat.pow_le_pow_right (by decide) hpw;exact A6g wf hF (Nat.le_refl _) (Nat.le_refl _) Hv.o aj.o hr5 hc1 hc5 (fun i=>⟨(jb i).1,by have:=(jb i).2;omega⟩) (xs.length*(ys.length+1)) 0 0 (xs.getD 0 0) ys (Bv xs.length ys.length) [] wx xA lK.o (by omega) (by omega) (by omega) (by simp;omega)
  obtain⟨ba,off,cpr,he,hba,-⟩:=Hv.o.inv_ne (by omega);obtain⟨rfl,-⟩:a=some ⟨ba,off,none⟩∧cap=cpr:=by simpa using he
  have cF:=Ab.at Hv.o (BE 0 (by omega):xs[0]? =some (xs.getD 0 0));rw[←xz.cell (p:=⟨ba,off+0,none⟩) hba] at cF;obtain⟨n0,dY⟩:∃n0,n0=xs.getD 0 0:=⟨_,rfl⟩;rw[←dY,Nat.add_zero] at cF;rw[←dY] at lM;have c6r:W6.cell? ⟨w.heap.size,0,none⟩=some (.slice (some ⟨ba,off,none⟩) xs.length cap):=bE.br.cell 0;have c6p:W6.cell? ⟨w5.heap.size+1,0,none⟩=some F:=bE.bp.cell 0;have aJ:=Z bE;have qU:=Z lM;have hxp:0<xs.length:=by omega
  have mL:w.heap.size≤w5.heap.size:=by omega
  clear bE lM he k3 kbo tF wy tG xz z4 z5 z6 hQ hC wf dY lK kc4 hba hcapG hcapL hL hGs ig;subst hF;subst hW6;go_wp2_with (fail);go_region_with (go_at_call 108;refine(qU.o _ (by first|exact aJ.o|exact aJ.o.drewN 1|exact aJ.o.drewN 2)).mono ?_;rintro e w7 ⟨rfl,st7⟩;obtain⟨vo,bn,gt⟩:=st7.bo;have c7:=bn.cell 0)
  all_goals have ex:=Z gt
  all_goals have mM:=Z st7.base
  all_goals clear st7 bn gt
  all_goals go_wp2
  all_goals go_ret2
  all_goals
   refine⟨vo,rfl,?_,mM.o⟩;rw[Hr.o];exact(A3 (A3 (A3 A2))).mono (fun b hb=>⟨by have h1:=hb.1;omega,hb.2⟩) ex.o
