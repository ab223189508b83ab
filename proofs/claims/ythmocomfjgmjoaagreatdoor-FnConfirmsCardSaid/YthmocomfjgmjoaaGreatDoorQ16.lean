/- Base. -/
import Derived.Test.YthmocomfjgmjoaaGreatDoorQ15
set_option maxHeartbeats 4000000
set_option maxRecDepth 100000
namespace Go.Proofs.YthmocomfjgmjoaaGreatDoor
open Go.RowKit
def Dh(rows cols:List Int):Option (List (List Int)):=if Bu rows cols=true then some (MA rows cols) else none
def TT(l:List Nat):List Int:=l.map fun n:Nat=>(n:Int)
theorem Wj{l:List Nat}{k p:Nat}(h:l[k]? =some p):(TT l)[k]? =some (p:Int):=by unfold TT;rw[List.getElem?_map,h];rfl
theorem A1r(l:List Nat)(k p:Nat):(TT l).set k (p:Int)=TT (l.set k p):=by unfold TT;rw[List.map_set]
theorem Wq(l:List Nat):(TT l).length=l.length:=List.length_map _
theorem A5p(a b:Nat)(Bl:Nat)(lv:Value)(left:List Int)(w:World)(ep:Aw w Bl #[lv] 32)(hl:Ab w lv left)(ha:a<left.length)(hb:b<left.length)(fd:∀x∈left,-10≤x∧x≤10):
  Calls Tryz.prog 107 #[.int .i64 a,.int .i64 b,.pointer (some ⟨Bl,0,none⟩)] w fun e w'=>e=.returned (.int .i64 (left.getD b 0-left.getD a 0))∧∃n,w'=w.drewN n:=by
 have c0:w.cell? ⟨Bl,0,none⟩=some lv:=ep.cell 0;have h1:=fd _ (List.mem_of_getElem? (BE 0 ha:left[a]? =some (left.getD a 0)));have h2:=fd _ (List.mem_of_getElem? (BE 0 hb:left[b]? =some (left.getD b 0)));obtain⟨bb,off,cp,rfl,eU,-⟩:=hl.inv_ne (by omega);have c1:=Ab.at hl (BE 0 ha:left[a]? =some (left.getD a 0));have c2:=Ab.at hl (BE 0 hb:left[b]? =some (left.getD b 0));obtain⟨za,hza⟩:∃z,z=left.getD a 0:=⟨_,rfl⟩;obtain⟨zb,ii⟩:∃z,z=left.getD b 0:=⟨_,rfl⟩;rw[←hza] at h1 c1⊢;rw[←ii] at h2 c2⊢;have h11:=h1.1;have sP:=h1.2;have h21:=h2.1;have h22:=h2.2;clear hza ii hl ep fd h1 h2;go_enter Tryz.func107,Tryz.ntmps107;go_wp2;go_quiet (fail);go_wp2
 go_ret
 exact⟨rfl,_,rfl⟩
theorem A2e(D capD c Bl:Nat)(lv:Value)(left:List Int)(S T:Bk)(w:World)(hc:1≤c)(hc5:c≤5)(dX:left.length=c)(fd:∀x∈left,-10≤x∧x≤10)
  (ho:A4 3 A7 S w (.slice (some ⟨D,0,none⟩) c capD) (TT (List.range c)))(ep:Aw w Bl #[lv] 32)(tj:D≠Bl)(hl:A4 3 A7 T w lv left)(hT:∀b,T b→b<w.heap.size∧b≠D)(hS:∀b,S b→b<w.heap.size):
  Calls Tryz.prog 229 #[.slice (some ⟨D,0,none⟩) c capD,.int .i64 0,.int .i64 c,.func (.func 107) #[] #[.pointer (some ⟨Bl,0,none⟩)]] w
   fun e w'=>e=.returned (.tuple #[])∧A4 3 A7 S w' (.slice (some ⟨D,0,none⟩) c capD) (TT (IV left c))∧Ar (fun b=>b=D) w w':=by
 have Ho:=Z ho;have Hl:=Z hl;have HT:=Z hT;have oK:=Z ep;have yF:=Z fd;have eo:=Z dX;have HS:=Z hS;have oD:Hid (∀(a b:Nat)(wr:World),Ar (fun b=>b=D) w wr→a<c→b<c→∀n,Calls Tryz.prog 107 #[.int .i64 a,.int .i64 b,.pointer (some ⟨Bl,0,none⟩)] (wr.drewN n) fun e w'=>e=.returned (.int .i64 (left.getD b 0-left.getD a 0))∧∃m,w'=(wr.drewN n).drewN m):=Z (by
  intro a b wr hwr ha hb n;exact A5p a b Bl lv left (wr.drewN n) (oK.o.only (hwr.drewN n) (fun e=>tj e.symm)) ((hl.only A2 (hwr.drewN n) (fun b hb=>(hT b hb).1) (fun b hb=>(hT b hb).2)).ints) (by omega) (by omega) fd)
 clear ho hl hT ep fd dX hS;go_enter Tryz.func229,Tryz.ntmps229;go_wp2;go_loopw [8,9] (fun i _ wr=>∃(k:Nat)(P:List Nat),1≤k∧k≤c∧i=.int .i64 k∧Hid (Te left k P)∧Hid (A4 3 A7 S wr (.slice (some ⟨D,0,none⟩) c capD) (TT (P++GQ k c)))∧Hid (Ar (fun b=>b=D) w wr)) (fun i _ _=>c-(intOf i).toNat)
 case atStart=>
  refine⟨1,[0],Nat.le_refl _,hc,rfl,Z ⟨by simp,by simp⟩,Z ?_,Z (Ar.refl _ _)⟩;have e:[0]++GQ 1 c=List.range c:=by rw[←A0L,SF (i:=0) (c:=c) (by omega)];rfl
  rw[e];exact Ho.o
 case round=>
  clear Ho;obtain⟨k,P,fU,yG,rfl,HP,aC,Honly⟩:=hrel;by_cases aH:k<c
  ·go_wp2;go_loopw [9] (fun j wr=>∃q:Nat,q≤k∧j=.int .i64 q∧Hid (∀x∈P.drop q,left.getD x 0<left.getD k 0)∧Hid (A4 3 A7 S wr (.slice (some ⟨D,0,none⟩) c capD) (TT (Jz P q k++GQ (k+1) c)))∧Hid (Ar (fun b=>b=D) w wr)) (fun j _=>(intOf j).toNat)
   case atStart=>
    refine⟨k,Nat.le_refl _,rfl,Z ?_,Z ?_,Honly⟩
    ·rw[List.drop_of_length_le (by rw[HP.o.length];exact Nat.le_refl _)];intro x hx;exact absurd hx (by simp)
    ·have e:Jz P k k++GQ (k+1) c=P++GQ k c:=by
      unfold Jz;rw[SF aH,List.drop_of_length_le (by rw[HP.o.length];exact Nat.le_refl _),List.take_of_length_le (by rw[HP.o.length];exact Nat.le_refl _)];simp
     rw[e];exact aC.o
   case round=>
    clear aC Honly;obtain⟨q,hq,rfl,sQ,aC,Honly⟩:=hrel;have xO:P.length=k:=HP.o.length;have HPl:=Z xO;by_cases nc:q=0
    ·subst nc;have cJ:=Z (Yb HP.o sQ.o (.inl rfl));clear xO;go_wp2;go_quiet (fail);go_wp2;go_roundw
     case rel=>exact⟨k+1,Jz P 0 k,by omega,by omega,by go_num,cJ,aC,Z (Honly.o.drewN _)⟩
     case measure=>simp[intOf];omega
    ·obtain⟨q0,hq01,hq02⟩:∃q0,q≤q0+1∧q0+1≤q:=⟨q-1,by omega,by omega⟩;have tk:=Z (show q=q0+1 from by omega);have hp:P[q0]? =some P[q0]:=List.getElem?_eq_getElem (by omega);obtain⟨p,hpe⟩:∃p,p=P[q0]'(by omega):=⟨_,rfl⟩;rw[←hpe] at hp;have sR:p<k:=HP.o.lt hp;have Hp:=Z hp;have yj:(Jz P q k++GQ (k+1) c)[q]? =some k:=by
      rw[List.getElem?_append_left (by rw[Ry (by omega)];omega)];exact A4X (by omega)
     have yl:(Jz P q k++GQ (k+1) c)[q0]? =some p:=by
      rw[List.getElem?_append_left (by rw[Ry (by omega)];omega),tk.o];exact A1Y hp
     have aP:(TT (Jz P q k++GQ (k+1) c)).length=c:=by rw[Wq,List.length_append,Ry (by omega),A2C];omega
     obtain⟨c1,f1,-⟩:=aC.o.ints_cell (Wj yj);obtain⟨c0,f0,-⟩:=aC.o.ints_cell (Wj yl);have bU:=Z (oD.o k p wr Honly.o aH (by omega));obtain⟨d,hd⟩:∃d,d=left.getD p 0-left.getD k 0:=⟨_,rfl⟩;rw[←hd] at bU;have sS:q<c:=by omega
     have hqp:0<q:=by omega
     have hdq:decide ((0:Int)<(q:Int))=true:=by simp;omega
     have e1:((q:Int)-1).toNat=q0:=by omega
     by_cases iB:d<0
     ·have hdn:decide (d<0)=true:=by simpa using iB
      have Hnd:=Z (show ∀x∈P.drop q0,left.getD x 0<left.getD k 0 from by
       obtain⟨-,-,h3⟩:=T3 Hp.o;rw[h3];intro x hx;rw[List.mem_cons] at hx;rcases hx with rfl|hx
       ·omega
       ·rw[←tk.o] at hx;exact sQ.o x hx)
      have s1:=aC.o.setInt (k:=q) (by omega) (c:=(p:Int)) (BV.small (by omega) (by omega));have s2:=s1.setInt (k:=q0) (by rw[List.length_set];omega) (c:=(k:Int)) (BV.small (by omega) (by omega));rw[A1r,A1r,tk.o,A2u Hp.o] at s2;obtain⟨y01,c01,f01⟩:=s1.ints_at (k:=q0) (by rw[List.length_set];omega);have S2:=Z s2;have tl:=Z ((Honly.o.setCell (p:=⟨D,q,none⟩) (.inl rfl) (.int .i64 p)).setCell (p:=⟨D,q0,none⟩) (.inl rfl) (.int .i64 k));clear s1 s2 hp hpe yj yl aP xO hd aC;go_wp2;go_quiet ((go_at_call 107;with_reducible exact Calls.quiet_of (bU.o _)));go_wp2
      go_region
      all_goals go_wp2
      all_goals go_roundw
      all_goals first
       |(case measure=>simp[intOf];omega)
       |(case rel=>exact⟨q0,by omega,by first|rfl|(congr 1;omega),Hnd,Z (by first|exact S2.o|(have h:=S2.o;rw[←tk.o] at h;exact h)),Z ⟨tl.o.os,tl.o.tape,tl.o.output,tl.o.size,tl.o.block⟩⟩)
     ·have hdn:decide (d<0)=false:=by simpa using iB
      have cJ:=Z (Yb HP.o sQ.o (.inr ⟨p,by rw[tk.o];simpa using Hp.o,by omega⟩));clear hp hpe yj yl aP xO hd;go_wp2;go_quiet ((go_at_call 107;with_reducible exact Calls.quiet_of (bU.o _)));go_wp2;go_roundw
      case rel=>exact⟨k+1,Jz P q k,by omega,by omega,by go_num,cJ,aC,Z (Honly.o.drewN _)⟩
      case measure=>simp[intOf];omega
  ·obtain rfl:k=c:=by omega
   have e:P=IV left k:=HP.o.eq (K8 left k);have aZ:=Z (show A4 3 A7 S wr (.slice (some ⟨D,0,none⟩) k capD) (TT (IV left k)) from by
    have h:=aC.o;rw[ZL,List.append_nil,e] at h;exact h)
   clear e;go_wp2;exact bodyPost_end (results_none rfl _ _ _) rfl ⟨rfl,aZ.o,Honly.o⟩
theorem A3V(D capD c Bl:Nat)(lv:Value)(left:List Int)(S T:Bk)(w:World)(hc:1≤c)(hc5:c≤5)(dX:left.length=c)(fd:∀x∈left,-10≤x∧x≤10)
  (ho:A4 3 A7 S w (.slice (some ⟨D,0,none⟩) c capD) (TT (List.range c)))(ep:Aw w Bl #[lv] 32)(tj:D≠Bl)(hl:A4 3 A7 T w lv left)(hT:∀b,T b→b<w.heap.size∧b≠D)(hS:∀b,S b→b<w.heap.size):
  Calls Tryz.prog 165 #[.slice (some ⟨D,0,none⟩) c capD,.int .i64 c,.func (.func 107) #[] #[.pointer (some ⟨Bl,0,none⟩)]] w
   fun e w'=>e=.returned (.tuple #[])∧A4 3 A7 S w' (.slice (some ⟨D,0,none⟩) c capD) (TT (IV left c))∧Ar (fun b=>b=D) w w':=by
 have bU:=Z (A2e D capD c Bl lv left S T w hc hc5 dX fd ho ep tj hl hT hS);clear ho ep hl hT hS fd dX;go_enter Tryz.func165,Tryz.ntmps165;go_wp2;refine wp_loop_rounds 1 ?_;rw[rounds_succ];go_wp2_with (fail);refine bU.o.mono ?_;rintro e w2 ⟨rfl,o2,n2⟩;have cu:=Z o2;have mb:=Z n2;clear o2 n2;go_wp2;refine wp_loop_rounds 1 ?_;rw[rounds_succ];go_wp2;exact bodyPost_end (results_none rfl _ _ _) rfl ⟨rfl,cu.o,mb.o⟩
theorem WD(D capD c Bl:Nat)(lv:Value)(left:List Int)(S T:Bk)(w:World)(hc:1≤c)(hc5:c≤5)(dX:left.length=c)(fd:∀x∈left,-10≤x∧x≤10)
  (ho:A4 3 A7 S w (.slice (some ⟨D,0,none⟩) c capD) (TT (List.range c)))(ep:Aw w Bl #[lv] 32)(tj:D≠Bl)(hl:A4 3 A7 T w lv left)(hT:∀b,T b→b<w.heap.size∧b≠D)(hS:∀b,S b→b<w.heap.size):
  Calls Tryz.prog 106 #[.slice (some ⟨D,0,none⟩) c capD,.func (.func 107) #[] #[.pointer (some ⟨Bl,0,none⟩)]] w
   fun e w'=>e=.returned (.tuple #[])∧A4 3 A7 S w' (.slice (some ⟨D,0,none⟩) c capD) (TT (IV left c))∧Ar (fun b=>b=D) w w':=by
 have bU:=Z (A3V D capD c Bl lv left S T w hc hc5 dX fd ho ep tj hl hT hS);clear ho ep hl hT hS fd dX;go_enter Tryz.func106,Tryz.ntmps106;go_wp2_with (fail);refine bU.o.mono ?_;rintro e w2 ⟨rfl,o2,n2⟩;have cu:=Z o2;have mb:=Z n2;clear o2 n2;go_wp2;exact bodyPost_end (results_none rfl _ _ _) rfl ⟨rfl,cu.o,mb.o⟩
def A5L(c:Nat):List Int:=List.replicate c 0
def MT(rows cols:List Int)(r c k:Nat)(row:List Int):List (List Int):=(MA rows cols).take k++row::Bv (r-(k+1)) c
theorem A21{rows cols:List Int}{r c k x:Nat}{row:List Int}{z:Int}(hk:k≤rows.length):setC (MT rows cols r c k row) k x z=MT rows cols r c k (row.set x z):=by
 have hl:((MA rows cols).take k).length=k:=by rw[List.length_take,Oz];omega
 unfold setC MT;have e1:((MA rows cols).take k++row::Bv (r-(k+1)) c).getD k []=row:=by
  rw[List.getD_eq_getElem?_getD,List.getElem?_append_right (by omega),hl,Nat.sub_self];rfl
 rw[e1];have:=Vf ((MA rows cols).take k) row (row.set x z) (Bv (r-(k+1)) c);rw[hl] at this;exact this
theorem A0x{rows cols:List Int}{r c k:Nat}(hk:k<r):MT rows cols r c k (A5L c)=(MA rows cols).take k++Bv (r-k) c:=by
 unfold MT Bv A5L;rw[show r-k=(r-(k+1))+1 from by omega,List.replicate_succ]
theorem ZD{rows cols:List Int}{r c k:Nat}{n:Int}(h:rows[k]? =some n):MT rows cols r c k (CO (I5 rows cols k) n.toNat)=(MA rows cols).take (k+1)++Bv (r-(k+1)) c:=by
 unfold MT;rw[List.take_add_one,ZZ h];simp
structure Zh(n a b d r c G cap L capL D capD Bl:Nat)(Q C:Nat→Nat)(W0 w:World)(m:List (List Int))(left od:List Int):Prop where
 p:Uq n a b r c G cap Q C W0 w m
 bl:Aw w Bl #[.slice (some ⟨L,0,none⟩) c capL] 32
 lown:A4 3 A7 (Iv b d) w (.slice (some ⟨L,0,none⟩) c capL) left
 ll:left.length=c
 dn:A4 3 A7 (fun x=>x=D) w (.slice (some ⟨D,0,none⟩) c capD) od
 dl:od.length=c
 hD:D<w.heap.size
theorem Zh.setG{n a b d r c G cap L capL D capD Bl:Nat}{Q C:Nat→Nat}{W0 w:World}{m:List (List Int)}{left od:List Int}(hn:n≤a)(fd:b≤d)(h1:d≤Bl)(h2:d≤D)
  (h:Zh n a b d r c G cap L capL D capD Bl Q C W0 w m left od){y x:Nat}(hy:y<r)(hx:x<c){z:Int}(dB:0≤z)(bZ:z≤1):
  w.cell? ⟨Q y,x,none⟩=some (.int .i64 (Al m y x))∧w.frozen? ⟨Q y,x,none⟩=false∧Zh n a b d r c G cap L capL D capD Bl Q C W0 (w.setCell ⟨Q y,x,none⟩ (.int .i64 z)) (setC m y x z) left od:=by
 obtain⟨a1,a2,⟨a3,a4⟩,a5⟩:=h.p.set hn hy hx dB bZ;refine⟨a1,a2,⟨a5,h.bl.set_ne (by omega) _,?_,h.ll,?_,h.dl,by rw[A9];exact h.hD⟩⟩
 ·exact(A3 A2).same (fun x hx=>Below.heap_setCell w _ _ x (by have:=hx.1;show x≠Q y;omega)) h.lown
 ·exact(A3 A2).same (fun x hx=>Below.heap_setCell w _ _ x (by have:x=D:=hx;show x≠Q y;omega)) h.dn
theorem Uq.other{n g0 g1 r c G cap:Nat}{Q C:Nat→Nat}{W0 w w':World}{m:List (List Int)}(h:Uq n g0 g1 r c G cap Q C W0 w m){B:Nat}(hng:n≤g1)(hn:n≤B)(hB:g1≤B∨B<g0)(ho:Ar (fun b=>b=B) w w'):Uq n g0 g1 r c G cap Q C W0 w' m:=by
 have hs:=ho.size;have hg:=h.hg;refine⟨h.base.trans (ho.below (by omega) (fun b hb=>by
  have:b=B:=hb;omega)),h.sh,?_,fun k hk=>?_,by omega⟩
 ·exact(A3 (A3 A2)).same (ho.same (fun b hb e=>by have h1:=hb.1;have h2:=hb.2;have:b=B:=e;omega) (fun b hb=>by have:=hb.2;omega)) h.own
 ·obtain⟨hG,-⟩:=h.own.focus (A3 A2) (Cv h.sh hk).1;have h1:=hG.1;have h2:=hG.2;rw[ho.cell (p:=⟨G,k,none⟩) (by show G<_;omega) (fun e=>by have:G=B:=e;omega)];exact h.rows k hk
theorem F2(w:World)(B k:Nat)(u:Value):Ar (fun b=>b=B) w (w.setCell ⟨B,k,none⟩ u):=Ar.setCell (S:=fun b=>b=B) (Ar.refl _ w) (p:=⟨B,k,none⟩) (.inl rfl) u
theorem Zh.setL{n a b d r c G cap L capL D capD Bl:Nat}{Q C:Nat→Nat}{W0 w:World}{m:List (List Int)}{left od:List Int}(hn:n≤a)(gx:a≤b)(h1:d≤Bl)(h2:d≤D)
  (h:Zh n a b d r c G cap L capL D capD Bl Q C W0 w m left od){x:Nat}(hx:x<c){z:Int}(hz:BV z):
  w.cell? ⟨L,x,none⟩=some (.int .i64 (left.getD x 0))∧w.frozen? ⟨L,x,none⟩=false∧Zh n a b d r c G cap L capL D capD Bl Q C W0 (w.setCell ⟨L,x,none⟩ (.int .i64 z)) m (left.set x z) od:=by
 have dX:=h.ll;have bB:left[x]? =some (left.getD x 0):=BE 0 (by omega);obtain⟨hL,-⟩:=h.lown.focus A2 bB;obtain⟨e1,e2,-⟩:=h.lown.ints_cell bB;have q1:=hL.1;have q2:=hL.2;refine⟨e1,e2,⟨h.p.other (by omega) (by omega) (.inl (by omega)) (F2 w L x _),h.bl.set_ne (by omega) _,h.lown.setInt (by omega) hz,by rw[List.length_set];exact dX,?_,h.dl,by rw[A9];exact h.hD⟩⟩;exact(A3 A2).same (fun y hy=>Below.heap_setCell w _ _ y (by have:y=D:=hy;show y≠L;omega)) h.dn
theorem Zh.sortD{n a b d r c G cap L capL D capD Bl:Nat}{Q C:Nat→Nat}{W0 w w':World}{m:List (List Int)}{left od od':List Int}(hn:n≤a)(gx:a≤b)(fd:b≤d)(h2:d≤D)(aO:D≠Bl)
  (h:Zh n a b d r c G cap L capL D capD Bl Q C W0 w m left od)(ho:Ar (fun b=>b=D) w w')(hd:A4 3 A7 (fun x=>x=D) w' (.slice (some ⟨D,0,none⟩) c capD) od')(hl:od'.length=c):
  Zh n a b d r c G cap L capL D capD Bl Q C W0 w' m left od':=by
 have hD:=h.hD;have hs:=ho.size;refine⟨h.p.other (by omega) (by omega) (.inl (by omega)) ho,h.bl.only ho (fun e=>aO e.symm),?_,h.ll,hd,hl,by omega⟩;exact(A3 A2).same (ho.same (fun y hy e=>by have:=hy.2;have:y=D:=e;omega) (fun y hy=>by have:=hy.2;omega)) h.lown
theorem RT{xs ys:List Int}(h:Bu xs ys=true):1≤xs.length∧xs.length≤5∧1≤ys.length∧ys.length≤5∧(∀i,0≤xs.getD i 0∧xs.getD i 0≤ys.length)∧(∀x∈ys,0≤x∧x≤5):=by
 have aD:=Fy h;obtain⟨h1,h2,h3,h4,h5,h6,-⟩:=BC aD;refine⟨h1,h2,h3,h4,h5,fun x hx=>?_⟩;obtain⟨i,hi⟩:=List.getElem?_of_mem hx;have h7:=h6 i;rw[AL hi] at h7;omega
theorem Wa(v v2:Value)(rows cols:List Int)(w:World)(hv:Ab w v rows)(aW:Ab w v2 cols):Calls Tryz.prog 46 #[v,v2] w (M0 w (Dh rows cols)):=by
 have Hv:=Z hv;have aj:=Z aW;obtain⟨a1,cap1,rfl,-⟩:=hv;obtain⟨a2,cap2,rfl,-⟩:=aW;cases bR:Bu rows cols
 ·have Hr:=Z (show Dh rows cols=none from by unfold Dh;rw[bR];rfl);have dk:=Z bR;clear bR;go_enter Tryz.func46,Tryz.ntmps46;go_wp2_with (fail);refine(NY _ _ _ _ _ Hv.o aj.o).mono ?_;rintro e w2 ⟨rfl,b2⟩;rw[dk.o];go_wp2
  go_ret2
  exact⟨_,by rw[Hr.o];rfl,by rw[Hr.o];exact A4.nil _ _ _ _,b2⟩
 obtain⟨hr1,hr5,hc1,hc5,eG,eY⟩:=RT bR;have Hr:=Z (show Dh rows cols=some (MA rows cols) from by unfold Dh;rw[bR];rfl);have dk:=Z bR;have jn:=Z eG;have i8:=Z eY;clear bR eG eY;obtain⟨r,hr⟩:∃r,r=rows.length:=⟨_,rfl⟩;obtain⟨c,hc⟩:∃c,c=cols.length:=⟨_,rfl⟩;rw[←hr] at hr1 hr5 Hv;rw[←hc] at hc1 hc5 aj jn;rw[←hr,←hc];have HR:=Z hr;have HC:=Z hc;clear hr hc;go_enter Tryz.func46,Tryz.ntmps46;go_wp2_with (fail);refine(NY _ _ _ _ _ Hv.o aj.o).mono ?_;rintro e w1 ⟨rfl,b1⟩;rw[dk.o];go_wp2_with (fail);refine(K9 r c _ (by omega) (by omega)).mono ?_;rintro e w2 ⟨v3,rfl,o2,b2⟩;obtain⟨G,cap3,rfl,hG,hcapG,hGs,-⟩:=o2.inv_ne (by simp[Bv];omega);have gM:(Bv r c).length=r:=by simp[Bv]
 rw[gM] at o2 hcapG⊢;have cu:=Z o2;have bj:=Z (b1.trans_pure b2 (Nat.le_refl _));have hs2:=b2.size;have cX:=b1.size;have hG1:=hG.1;have hG2:=hG.2;clear o2 b1 b2 gM hG;go_wp2_with (fail);refine(GB _ cols _ (aj.o.keep bj.o) (by rw[←HC.o];omega)).mono ?_;rintro e w3 ⟨v4,rfl,o3,b3⟩;obtain⟨L,capL,rfl,hL,hcapL,ig,-⟩:=o3.inv_ne (by rw[←HC.o];omega);rw[←HC.o] at o3 hcapL⊢;have bM:=Z b3;have bO:=b3.size;have cn:=Z o3;have hL1:=hL.1;have kq:=hL.2;clear o3 b3 hL;obtain⟨W4,hW4⟩:∃W4,W4=w3.alloc (.cells #[.slice (some ⟨L,0,none⟩) c capL] 32):=⟨_,rfl⟩;have tF:Below w3.heap.size w3 W4:=by rw[hW4];exact Below.pureAlloc _ _
 have z4:W4.heap.size=w3.heap.size+1:=by rw[hW4];simp
 have kl:Aw W4 w3.heap.size #[.slice (some ⟨L,0,none⟩) c capL] 32:=by rw[hW4];exact Aw.new w3 _ _
 have qu:=Z tF;have Hz4:=Z z4;have Hkl:=Z kl;have ym:w3.heap.size<W4.heap.size:=by omega
 clear tF z4 kl;have yo:=Z hW4;clear hW4;go_wp2_with (first|(at_make;rw[←yo.o];refine Ez _ rfl _ _ 32 rfl 3 Tryz.underlying32 As rfl (by decide) (R:=A7) 0 ⟨rfl,BV.small (by decide) (by decide)⟩ A2 c rfl rfl (by omega) ?_;intro w5 hown5 hbel5 hsz5;have yp:=Z hsz5;have iA:=Z hown5;have hZ:=Z hbel5;clear hsz5 hown5 hbel5)|fail);have bw5:Below w.heap.size w w5:=((bj.o.trans_pure bM.o (Nat.le_refl _)).trans_pure qu.o (Nat.le_refl _)).trans_pure hZ.o (Nat.le_refl _);have yq:Below w2.heap.size w2 w5:=(bM.o.trans_pure qu.o (Nat.le_refl _)).trans_pure hZ.o (Nat.le_refl _);have b35:Below w3.heap.size w3 w5:=qu.o.trans_pure hZ.o (Nat.le_refl _);obtain⟨DN,hDN⟩:∃DN,DN=W4.heap.size:=⟨_,rfl⟩;have hD5:DN<w5.heap.size:=by have:=yp.o;omega
 obtain⟨Q,C,hp⟩:=Uq.make (n:=w.heap.size) (g0:=w1.heap.size) (g1:=w2.heap.size) bw5 (Jb r c) hc1 (A4.keep (A3 A2) cu.o yq (Nat.le_refl _)) yq.size;have aJ:Hid (Zh w.heap.size w1.heap.size w2.heap.size w3.heap.size r c G cap3 L capL DN c w3.heap.size Q C w w5 ((MA rows cols).take 0++Bv (r-0) c) (I5 rows cols 0) (List.replicate c 0)):=Z (by
  refine⟨by rw[List.take_zero,List.nil_append,Nat.sub_zero];exact hp,Hkl.o.keep hZ.o,?_,by rw[Rf];exact HC.o.symm,?_,by simp,hD5⟩
  ·have:I5 rows cols 0=cols:=by cases rows<;>rfl
   rw[this];exact A4.keep A2 cn.o b35 (Nat.le_refl _)
  ·rw[hDN];exact iA.o)
 have hDg:w3.heap.size<DN:=by omega
 rw[←hDN];clear hp bw5 yq b35 cu cn iA hDN hD5;obtain⟨n0,dY⟩:∃n0,n0=w.heap.size:=⟨_,rfl⟩;obtain⟨g0,hU⟩:∃g0,g0=w1.heap.size:=⟨_,rfl⟩;obtain⟨g1,kd⟩:∃g1,g1=w2.heap.size:=⟨_,rfl⟩;obtain⟨g2,mG⟩:∃g2,g2=w3.heap.size:=⟨_,rfl⟩;have l7:=Z dY;rw[←dY,←hU,←kd,←mG] at aJ;rw[←mG];rw[←mG] at hDg;have k1:n0≤g0:=by omega
 have k2:g0≤g1:=by omega
 have k3:g1≤g2:=by omega
 clear dY hU kd mG cX hs2 bO hG1 hG2 hL1 kq hGs ig ym;go_loopw [9,10,11,13,30] (fun _ _ _ _ i wr=>∃(k:Nat)(od:List Int),k≤r∧i=.int .i64 k∧Hid (Zh n0 g0 g1 g2 r c G cap3 L capL DN c g2 Q C w wr ((MA rows cols).take k++Bv (r-k) c) (I5 rows cols k) od)) (fun _ _ _ _ i _=>r-(intOf i).toNat)
 case atStart=>exact⟨0,_,Nat.zero_le _,rfl,aJ⟩
 case round=>
  clear aJ;obtain⟨k,od,hk,rfl,aJ⟩:=hrel;by_cases aH:k<r
  ·have aG:rows[k]? =some (rows.getD k 0):=BE 0 (by rw[←HR.o];exact aH);have jz:=jn.o k;obtain⟨ba,off,cpr,he,hba,-⟩:=Hv.o.inv_ne (by rw[←HR.o];omega);rw[←HR.o] at he;obtain⟨rfl,-⟩:a1=some ⟨ba,off,none⟩∧cap1=cpr:=by simpa using he
   have iV:=Ab.at Hv.o aG;rw[←aJ.o.p.base.cell (p:=⟨ba,off+k,none⟩) (by show ba<n0;rw[l7.o];exact hba)] at iV;obtain⟨N,hN⟩:∃N:Nat,rows.getD k 0=N:=⟨(rows.getD k 0).toNat,by omega⟩;rw[hN] at iV jz aG;have hNc:N≤c:=by omega
   have da:=Z aG;obtain⟨left0,hleft0⟩:∃l,l=I5 rows cols k:=⟨_,rfl⟩;have gu:Hid (∀x∈left0,-(k:Int)≤x∧x≤5):=Z (by
    rw[hleft0];intro x hx;have:=Vj rows cols k (a:=0) (b:=5) i8.o x hx;omega)
   rw[←hleft0] at aJ;have kJ:=Z hleft0;have Hz:=Z (A0x (rows:=rows) (cols:=cols) (r:=r) (c:=c) aH);have dW:decide ((k:Int)<(r:Int))=true:=by simp;omega
   clear hleft0 aG hN he jz;go_wp2;clear iV;go_loopw [11,37] (fun _ i wr=>∃(j:Nat)(od:List Int),j≤c∧i=.int .i64 j∧Hid (∀t,t<j→od[t]? =some (t:Int))∧Hid (Zh n0 g0 g1 g2 r c G cap3 L capL DN c g2 Q C w wr ((MA rows cols).take k++Bv (r-k) c) left0 od)) (fun _ i _=>c-(intOf i).toNat)
   case atStart=>exact⟨0,od,Nat.zero_le _,rfl,Z (fun t h=>absurd h (by omega)),aJ⟩
   case round=>
    clear aJ;obtain⟨j,od,hj,rfl,Hod,aJ⟩:=hrel;by_cases hltj:j<c
    ·have tm:=aJ.o.dl;obtain⟨y0,e1,e2⟩:=aJ.o.dn.ints_at (k:=j) (by omega);have dn2:=aJ.o.dn.setInt (k:=j) (by omega) (c:=(j:Int)) (BV.small (by omega) (by omega));have b9:=Z (aJ.o.sortD k1 k2 k3 (by omega) (by omega) (F2 wr DN j (.int .i64 j)) dn2 (by rw[List.length_set];exact tm));have yr:=Z (show ∀t,t<j+1→(od.set j (j:Int))[t]? =some (t:Int) from by
      intro t ht;by_cases e:t=j
      ·subst e;rw[List.getElem?_set_self (by omega)]
      ·rw[List.getElem?_set_ne (by omega)];exact Hod.o t (by omega))
     clear dn2 tm;go_wp2;go_roundw
     case rel=>exact⟨j+1,_,by omega,by go_num,yr,b9⟩
     case measure=>simp[intOf];omega
    ·obtain rfl:j=c:=by omega
     have tp:od=TT (List.range j):=by
      apply List.ext_getElem?;intro t;rcases Nat.lt_or_ge t j with h|h
      ·rw[Hod.o t h];exact(Wj (by rw[List.getElem?_range h])).symm
      ·rw[List.getElem?_eq_none (by rw[aJ.o.dl];exact h),List.getElem?_eq_none (by rw[Wq,List.length_range];exact h)]
     rw[tp] at aJ;clear tp Hod;have mc:=Z (WD DN j j g2 (.slice (some ⟨L,0,none⟩) j capL) left0 (fun x=>x=DN) (Iv g1 g2) wr hc1 hc5 aJ.o.ll (fun x hx=>by have:=gu.o x hx;omega) aJ.o.dn aJ.o.bl (by omega) aJ.o.lown (fun b hb=>⟨by have:=hb.2;have:=aJ.o.bl.lt;omega,by have:=hb.2;omega⟩) (fun b hb=>by have:b=DN:=hb;have:=aJ.o.hD;omega));obtain⟨P,hP⟩:∃P,P=IV left0 j:=⟨_,rfl⟩;rw[←hP] at mc;have qw:Hid (Te left0 j P):=Z (by rw[hP];exact K8 _ _);have HP:=Z hP;clear hP;go_wp2_with (fail);refine mc.o.mono ?_;rintro e w7 ⟨rfl,o7,n7⟩;have tq:=Z (aJ.o.sortD k1 k2 k3 (by omega) (by omega) n7 o7 (by rw[Wq];exact qw.o.length));have tt:Hid (Zh n0 g0 g1 g2 r j G cap3 L capL DN j g2 Q C w w7 (MT rows cols r j k (Ji j (P.take 0))) (CS left0 (Ji j (P.take 0))) (TT P)):=Z (by
      have h:=tq.o;rw[←Hz.o] at h;have e1:Ji j (P.take 0)=A5L j:=by rw[List.take_zero,A1s];rfl
      have e2:CS left0 (Ji j (P.take 0))=left0:=by
       have:=UY left0;rw[aJ.o.ll] at this;rw[List.take_zero];exact this
      rw[e2,e1];exact h)
     have eo:=Z aJ.o.ll;clear o7 n7 tq mc aJ Hz;go_wp2;go_loopw [13,52] (fun _ i wr=>∃(t:Nat),t≤N∧i=.int .i64 t∧Hid (Zh n0 g0 g1 g2 r j G cap3 L capL DN j g2 Q C w wr (MT rows cols r j k (Ji j (P.take t))) (CS left0 (Ji j (P.take t))) (TT P))) (fun _ i _=>N-(intOf i).toNat)
     case atStart=>exact⟨0,Nat.zero_le _,rfl,tt⟩
     case round=>
      clear tt;obtain⟨t,ht,rfl,aJ⟩:=hrel;by_cases hltt:t<N
      ·have yt:t<P.length:=by rw[qw.o.length];omega
       have tu:P[t]? =some P[t]:=List.getElem?_eq_getElem yt;obtain⟨p,hpe⟩:∃p,p=P[t]:=⟨_,rfl⟩;rw[←hpe] at tu;have sR:p<j:=qw.o.lt tu;have kK:p∉P.take t:=by
        intro hm;obtain⟨q,hq,e⟩:=List.mem_take_iff_getElem.mp hm;have:=List.pairwise_iff_getElem.mp qw.o.nodup q t (by omega) yt (by omega);rw[e,←hpe] at this;exact this rfl
       obtain⟨e1,e2,-⟩:=aJ.o.dn.ints_cell (Wj tu);have hrowG:=aJ.o.p.rows k aH;obtain⟨e3,e4,st1⟩:=aJ.o.setG k1 k3 (by omega) (by omega) aH sR (z:=1) (by decide) (by decide);have e5:=st1.bl.cell 0;simp only[List.getElem?_toArray,List.getElem?_cons_zero] at e5;obtain⟨u,hu⟩:∃u,u=(CS left0 (Ji j (P.take t))).getD p 0:=⟨_,rfl⟩;have lS:-10≤u∧u≤10:=by
        have hl:=RK (w:=left0) (row:=Ji j (P.take t)) (a:=-(k:Int)) (b:=5) gu.o (fun i=>Ww _ _ i);have hm:(CS left0 (Ji j (P.take t)))[p]? =some u:=by rw[hu];exact BE 0 (by rw[JX,eo.o];exact sR)
        have:=hl u (List.mem_of_getElem? hm);omega
       have lV:=lS.1;have ec:=lS.2;obtain⟨e6,e7,st2⟩:=st1.setL k1 k2 (by omega) (by omega) sR (z:=u-1) (BV.small (by omega) (by omega));rw[←hu] at e6;have b9:Hid (Zh n0 g0 g1 g2 r j G cap3 L capL DN j g2 Q C w ((wr.setCell ⟨Q k,p,none⟩ (.int .i64 1)).setCell ⟨L,p,none⟩ (.int .i64 (u-1))) (MT rows cols r j k (Ji j (P.take (t+1)))) (CS left0 (Ji j (P.take (t+1)))) (TT P)):=Z (by
        have h:=st2;rw[A21 (by rw[←HR.o];omega),A1l _ sR] at h;have e:(CS left0 (Ji j (P.take t))).set p (u-1)=CS left0 (Ji j (P.take t++[p])):=by
         have h2:=V7 (w:=left0) (b:=p) (s:=P.take t) (by rw[eo.o];exact sR) kK;rw[eo.o] at h2;rw[hu];exact h2
        rw[e] at h;rw[Pr tu];exact h)
       clear tu hpe kK st1 st2 hu lS yt;go_wp2;go_roundw
       case rel=>exact⟨t+1,by omega,by go_num,b9⟩
       case measure=>simp[intOf];omega
      ·obtain rfl:t=N:=by omega
       have b9:Hid (Zh n0 g0 g1 g2 r j G cap3 L capL DN j g2 Q C w wr ((MA rows cols).take (k+1)++Bv (r-(k+1)) j) (I5 rows cols (k+1)) (TT P)):=Z (by
        have h:=aJ.o;have ef:Ji j (P.take t)=CO (I5 rows cols k) ((t:Nat):Int).toNat:=by
         unfold CO;rw[←kJ.o,eo.o,Int.toNat_natCast,HP.o]
        rw[ef,ZD da.o] at h;rw[Pp da.o,←kJ.o];rw[←kJ.o] at h;exact h)
       go_wp2;go_roundw
       case rel=>exact⟨k+1,_,by omega,by go_num,b9⟩
       case measure=>simp[intOf];omega
  ·obtain rfl:k=r:=by omega
   have aZ:=Z (show(MA rows cols).take k++Bv (k-k) c=MA rows cols from by
    rw[Nat.sub_self,List.take_of_length_le (by rw[Oz,←HR.o];exact Nat.le_refl _)];simp[Bv])
   have Ho:=Z aJ.o.p.own;have Hb:=Z aJ.o.p.base;have gy:=aJ.o.p.hg;go_wp2
   go_ret2
   refine⟨_,by rw[Hr.o];rfl,?_,by rw[←l7.o];exact Hb.o⟩;rw[Hr.o];show A4 _ _ _ _ _ (MA rows cols);rw[←aZ.o];exact(A3 (A3 A2)).mono (fun b hb=>⟨by have:=hb.1;have:=l7.o;omega,by have:=hb.2;omega⟩) Ho.o
