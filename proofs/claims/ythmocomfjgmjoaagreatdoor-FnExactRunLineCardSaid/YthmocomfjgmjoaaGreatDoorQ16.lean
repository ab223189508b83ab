/- Base. -/
import Derived.Test.YthmocomfjgmjoaaGreatDoorQ15
set_option maxHeartbeats 4000000
set_option maxRecDepth 100000
namespace Go.Proofs.YthmocomfjgmjoaaGreatDoor
open Go.RowKit Go.Proofs.Tryz
variable {Bl:Nat}{C:Nat→Nat}{D G L:Nat}{Q:Nat→Nat}{W0:World}{a b c cap capD capL:Nat}{cols:U}{d k:Nat}{left:U}{m:I}{n:Nat}{od:U}{r:Nat}{rows:U}{w w':World}{x:Nat}{z:Int}
def DU(rows cols:U):Option I:=if BF rows cols=true then some (N4 rows cols)else none
def TN(l:List Nat):U:=l.map fun n:Nat=>(n:Int)
theorem VI{l:List Nat}{p:Nat}(h:l[k]? =some p):(TN l)[k]? =some (p:Int):=by unfold TN;rw[Ak,h];rfl
theorem A0e(l:List Nat)(k p:Nat):(TN l).set k (p:Int)=TN (l.set k p):=by unfold TN;rw[List.map_set]
theorem Wg(l:List Nat):(TN l).length=l.length:=Ay _
theorem A4s(a b:Nat)(Bl:Nat)(lv:Value)(left:U)(w:World)(eU:B9 w Bl #[lv] 32)(hl:Au w lv left)(ha:a<left.length)(hb:b<left.length)(fR:∀x∈left,-10≤x∧x≤10):
  Calls prog 107 #[.int .i64 a,.int .i64 b,.pointer (some ⟨Bl,0,none⟩)] w fun e w'=>e=.returned (.int .i64 (left.getD b 0-left.getD a 0))∧∃n,w'=w.drewN n:=by
 have c0:w.cell? ⟨Bl,0,none⟩=some lv:=eU.cell 0;have h1:=fR _ (A4 (BO 0 ha:left[a]? =some (left.getD a 0)));have h2:=fR _ (A4 (BO 0 hb:left[b]? =some (left.getD b 0)));obtain⟨bb,off,cp,rfl,eI,-⟩:=hl.qac J;have c1:=Au.at hl (BO 0 ha:left[a]? =some (left.getD a 0));have c2:=Au.at hl (BO 0 hb:left[b]? =some (left.getD b 0));obtain⟨za,hza⟩:∃z,z=left.getD a 0:=⟨_,rfl⟩;obtain⟨zb,ik⟩:∃z,z=left.getD b 0:=⟨_,rfl⟩;rw[←hza]at h1 c1⊢;rw[←ik]at h2 c2⊢;have h11:=h1.1;have sM:=h1.2;have h21:=h2.1;have h22:=h2.2;clear hza ik hl eU fR h1 h2;go_enter func107,ntmps107;go_wp2;go_quiet (fail);go_wp2
 go_ret
 exact⟨rfl,_,rfl⟩
theorem A0D(D capD c Bl:Nat)(lv:Value)(left:U)(S T:Bk)(w:World)(hc:1≤c)(hc5:c≤5)(dN:left.length=c)(fR:∀x∈left,-10≤x∧x≤10)
  (ho:Ag 3 Ap S w (.slice (some ⟨D,0,none⟩) c capD) (TN (List.range c)))(eU:B9 w Bl #[lv] 32)(tl:D≠Bl)(hl:Ag 3 Ap T w lv left)(hT:∀b,T b→b<w.heap.size∧b≠D)(hS:∀b,S b→b<w.heap.size):
  Calls prog 229 #[.slice (some ⟨D,0,none⟩) c capD,.int .i64 0,.int .i64 c,.func (.func 107) #[] #[.pointer (some ⟨Bl,0,none⟩)]] w
   fun e w'=>e=.returned (.tuple #[])∧Ag 3 Ap S w' (.slice (some ⟨D,0,none⟩) c capD) (TN (Ly left c))∧AO (fun b=>b=D) w w':=by
 have Ho:=Z ho;have Hl:=Z hl;have HT:=Z hT;have ny:=Z eU;have yV:=Z fR;have eT:=Z dN;have HS:=Z hS;have nl:Hid (∀(a b:Nat)(wr:World),AO (fun b=>b=D) w wr→a<c→b<c→∀n,Calls prog 107 #[.int .i64 a,.int .i64 b,.pointer (some ⟨Bl,0,none⟩)] (wr.drewN n) fun e w'=>e=.returned (.int .i64 (left.getD b 0-left.getD a 0))∧∃m,w'=(wr.drewN n).drewN m):=Z (by
  intro a b wr hwr ha hb n;exact A4s a b Bl lv left (wr.drewN n) (ny.o.only (hwr.drewN n) (fun e=>tl e.symm)) ((hl.only A8 (hwr.drewN n) (fun b hb=>(hT b hb).1) (fun b hb=>(hT b hb).2)).ints) J J fR)
 clear ho hl hT eU fR dN hS;go_enter func229,ntmps229;go_wp2;go_loopw [8,9] (fun i _ wr=>∃(k:Nat)(P:List Nat),1≤k∧k≤c∧i=.int .i64 k∧Hid (Ug left k P)∧Hid (Ag 3 Ap S wr (.slice (some ⟨D,0,none⟩) c capD) (TN (P++HJ k c)))∧Hid (AO (fun b=>b=D) w wr)) (fun i _ _=>c-(intOf i).toNat)
 case atStart=>
  refine⟨1,[0],A2 _,hc,rfl,Z ⟨Jj,Jj⟩,Z ?_,Z (AO.refl _ _)⟩;have e:[0]++HJ 1 c=List.range c:=by rw[←YF,SX (i:=0) (c:=c) J];rfl
  rw[e];exact Ho.o
 clear Ho;obtain⟨k,P,fH,yW,rfl,HP,aC,Honly⟩:=hrel;by_cases aF:k<c
 ·go_wp2;go_loopw [9] (fun j wr=>∃q:Nat,q≤k∧j=.int .i64 q∧Hid (∀x∈P.drop q,left.getD x 0<left.getD k 0)∧Hid (Ag 3 Ap S wr (.slice (some ⟨D,0,none⟩) c capD) (TN (JQ P q k++HJ (k+1) c)))∧Hid (AO (fun b=>b=D) w wr)) (fun j _=>(intOf j).toNat)
  case atStart=>
   refine⟨k,A2 _,rfl,Z ?_,Z ?_,Honly⟩
   ·rw[List.drop_of_length_le (by rw[HP.o.length];exact A2 _)];intro x hx;exact absurd hx Jj
   ·have e:JQ P k k++HJ (k+1) c=P++HJ k c:=by
     unfold JQ;rw[SX aF,List.drop_of_length_le (by rw[HP.o.length];exact A2 _),A9 (by rw[HP.o.length];exact A2 _)];simp
    rw[e];exact aC.o
  clear aC Honly;obtain⟨q,hq,rfl,sN,aC,Honly⟩:=hrel;have xU:P.length=k:=HP.o.length;have HPl:=Z xU;by_cases nU:q=0
  ·subst nU;have bq:=Z (Y8 HP.o sN.o (.inl rfl));clear xU;go_wp2;go_quiet (fail);go_wp2;go_roundw;exact⟨k+1,JQ P 0 k,J,J,by go_num,bq,aC,Z (Honly.o.drewN _)⟩;exact Jv
  ·obtain⟨q0,hq01,hq02⟩:∃q0,q≤q0+1∧q0+1≤q:=⟨q-1,J,J⟩;have tm:=Z (show q=q0+1 from by omega);have hp:P[q0]? =some P[q0]:=A3 J;obtain⟨p,hpe⟩:∃p,p=P[q0]'(by omega):=⟨_,rfl⟩;rw[←hpe]at hp;have sO:p<k:=HP.o.lt hp;have Hp:=Z hp;have zE:(JQ P q k++HJ (k+1) c)[q]? =some k:=by
    rw[Aq (by rw[SK J];omega)];exact A3M J
   have zF:(JQ P q k++HJ (k+1) c)[q0]? =some p:=by
    rw[Aq (by rw[SK J];omega),tm.o];exact A12 hp
   have aN:(TN (JQ P q k++HJ (k+1) c)).length=c:=by rw[Wg,Ad,SK J,A1p];omega
   obtain⟨c1,f1,-⟩:=aC.o.qaf (VI zE);obtain⟨c0,f0,-⟩:=aC.o.qaf (VI zF);have bG:=Z (nl.o k p wr Honly.o aF J);obtain⟨d,hd⟩:∃d,d=left.getD p 0-left.getD k 0:=⟨_,rfl⟩;rw[←hd]at bG;have sP:q<c:=J;have hqp:0<q:=J;have hdq:decide ((0:Int)<(q:Int))=true:=by simp;omega
   have e1:((q:Int)-1).toNat=q0:=J;by_cases ew:d<0
   ·have hdn:decide (d<0)=true:=by simpa using ew
    have Hnd:=Z (show ∀x∈P.drop q0,left.getD x 0<left.getD k 0 from by
     obtain⟨-,-,h3⟩:=T9 Hp.o;rw[h3];intro x hx;rw[List.mem_cons]at hx;rcases hx with rfl|hx
     ·omega
     ·rw[←tm.o]at hx;exact sN.o x hx)
    have s1:=aC.o.qak (k:=q) J (c:=(p:Int)) (Cc.small J J);have s2:=s1.qak (k:=q0) (by rw[List.length_set];omega) (c:=(k:Int)) (Cc.small J J);rw[A0e,A0e,tm.o,A1L Hp.o]at s2;obtain⟨y01,c01,f01⟩:=s1.ints_at (k:=q0) (by rw[List.length_set];omega);have S2:=Z s2;have tp:=Z ((Honly.o.setCell (p:=⟨D,q,none⟩) (.inl rfl) (.int .i64 p)).setCell (p:=⟨D,q0,none⟩) (.inl rfl) (.int .i64 k));clear s1 s2 hp hpe zE zF aN xU hd aC;go_wp2;go_quiet ((go_at_call 107;with_reducible exact Calls.quiet_of (bG.o _)));go_wp2
    go_region
    all_goals go_wp2
    all_goals go_roundw
    all_goals first
     |(case measure=>exact Jv)
     |(case rel=>exact⟨q0,J,by first|rfl|(congr 1;omega),Hnd,Z (by first|exact S2.o|(have h:=S2.o;rw[←tm.o]at h;exact h)),Z ⟨tp.o.os,tp.o.tape,tp.o.output,tp.o.size,tp.o.block⟩⟩)
   ·have hdn:decide (d<0)=false:=by simpa using ew
    have bq:=Z (Y8 HP.o sN.o (.inr ⟨p,by rw[tm.o];simpa using Hp.o,J⟩));clear hp hpe zE zF aN xU hd;go_wp2;go_quiet ((go_at_call 107;with_reducible exact Calls.quiet_of (bG.o _)));go_wp2;go_roundw;exact⟨k+1,JQ P q k,J,J,by go_num,bq,aC,Z (Honly.o.drewN _)⟩;exact Jv
 ·obtain rfl:k=c:=J;have e:P=Ly left k:=HP.o.eq (PI left k);have aU:=Z (show Ag 3 Ap S wr (.slice (some ⟨D,0,none⟩) k capD) (TN (Ly left k))from by
   have h:=aC.o;rw[Zq,List.append_nil,e]at h;exact h)
  clear e;go_wp2;exact bodyPost_end (results_none rfl _ _ _) rfl ⟨rfl,aU.o,Honly.o⟩
theorem A3i(D capD c Bl:Nat)(lv:Value)(left:U)(S T:Bk)(w:World)(hc:1≤c)(hc5:c≤5)(dN:left.length=c)(fR:∀x∈left,-10≤x∧x≤10)
  (ho:Ag 3 Ap S w (.slice (some ⟨D,0,none⟩) c capD) (TN (List.range c)))(eU:B9 w Bl #[lv] 32)(tl:D≠Bl)(hl:Ag 3 Ap T w lv left)(hT:∀b,T b→b<w.heap.size∧b≠D)(hS:∀b,S b→b<w.heap.size):
  Calls prog 165 #[.slice (some ⟨D,0,none⟩) c capD,.int .i64 c,.func (.func 107) #[] #[.pointer (some ⟨Bl,0,none⟩)]] w
   fun e w'=>e=.returned (.tuple #[])∧Ag 3 Ap S w' (.slice (some ⟨D,0,none⟩) c capD) (TN (Ly left c))∧AO (fun b=>b=D) w w':=by
 have bG:=Z (A0D D capD c Bl lv left S T w hc hc5 dN fR ho eU tl hl hT hS);clear ho eU hl hT hS fR dN;go_enter func165,ntmps165;go_wp2;refine wp_loop_rounds 1 ?_;rw[rounds_succ];go_wp2_with fail;refine bG.o.mono ?_;rintro e w2 ⟨rfl,o2,n2⟩;have dB:=Z o2;have mH:=Z n2;clear o2 n2;go_wp2;refine wp_loop_rounds 1 ?_;rw[rounds_succ];go_wp2;exact bodyPost_end (results_none rfl _ _ _) rfl ⟨rfl,dB.o,mH.o⟩
theorem Wx(D capD c Bl:Nat)(lv:Value)(left:U)(S T:Bk)(w:World)(hc:1≤c)(hc5:c≤5)(dN:left.length=c)(fR:∀x∈left,-10≤x∧x≤10)
  (ho:Ag 3 Ap S w (.slice (some ⟨D,0,none⟩) c capD) (TN (List.range c)))(eU:B9 w Bl #[lv] 32)(tl:D≠Bl)(hl:Ag 3 Ap T w lv left)(hT:∀b,T b→b<w.heap.size∧b≠D)(hS:∀b,S b→b<w.heap.size):
  Calls prog 106 #[.slice (some ⟨D,0,none⟩) c capD,.func (.func 107) #[] #[.pointer (some ⟨Bl,0,none⟩)]] w
   fun e w'=>e=.returned (.tuple #[])∧Ag 3 Ap S w' (.slice (some ⟨D,0,none⟩) c capD) (TN (Ly left c))∧AO (fun b=>b=D) w w':=by
 have bG:=Z (A3i D capD c Bl lv left S T w hc hc5 dN fR ho eU tl hl hT hS);clear ho eU hl hT hS fR dN;go_enter func106,ntmps106;go_wp2_with fail;refine bG.o.mono ?_;rintro e w2 ⟨rfl,o2,n2⟩;have dB:=Z o2;have mH:=Z n2;clear o2 n2;go_wp2;exact bodyPost_end (results_none rfl _ _ _) rfl ⟨rfl,dB.o,mH.o⟩
def A4a(c:Nat):U:=List.replicate c 0
def Nx(rows cols:U)(r c k:Nat)(row:U):I:=(N4 rows cols).take k++row::BJ (r-(k+1)) c
theorem A0X{row:U}(hk:k≤rows.length):setC (Nx rows cols r c k row) k x z=Nx rows cols r c k (row.set x z):=by
 have hl:((N4 rows cols).take k).length=k:=by rw[At,OJ];omega
 unfold setC Nx;have e1:((N4 rows cols).take k++row::BJ (r-(k+1)) c).getD k []=row:=by
  rw[List.getD_eq_getElem?_getD,List.getElem?_append_right J,hl,Nat.sub_self];rfl
 rw[e1];have:=VL ((N4 rows cols).take k) row (row.set x z) (BJ (r-(k+1)) c);rw[hl]at this;exact this
theorem Zm(hk:k<r):Nx rows cols r c k (A4a c)=(N4 rows cols).take k++BJ (r-k) c:=by
 unfold Nx BJ A4a;rw[show r-k=(r-(k+1))+1 from by omega,List.replicate_succ]
theorem YS{n:Int}(h:rows[k]? =some n):Nx rows cols r c k (DH (Ih rows cols k) n.toNat)=(N4 rows cols).take (k+1)++BJ (r-(k+1)) c:=by
 unfold Nx;rw[Ao,ZG h];simp
structure YA(n a b d r c G cap L capL D capD Bl:Nat)(Q C:Nat→Nat)(W0 w:World)(m:I)(left od:U):Prop where
 p:Um n a b r c G cap Q C W0 w m
 bl:B9 w Bl #[.slice (some ⟨L,0,none⟩) c capL] 32
 lown:Ag 3 Ap (Iv b d) w (.slice (some ⟨L,0,none⟩) c capL) left
 ll:left.length=c
 dn:Ag 3 Ap (fun x=>x=D) w (.slice (some ⟨D,0,none⟩) c capD) od
 dl:od.length=c
 hD:D<w.heap.size
theorem YA.qck(hn:n≤a)(fR:b≤d)(h1:d≤Bl)(h2:d≤D)
  (h:YA n a b d r c G cap L capL D capD Bl Q C W0 w m left od){y:Nat}(hy:y<r)(hx:x<c)(cT:0≤z)(bL:z≤1):
  w.cell? ⟨Q y,x,none⟩=some (.int .i64 (AJ m y x))∧w.frozen? ⟨Q y,x,none⟩=false∧YA n a b d r c G cap L capL D capD Bl Q C W0 (w.setCell ⟨Q y,x,none⟩ (.int .i64 z)) (setC m y x z) left od:=by
 obtain⟨a1,a2,⟨a3,a4⟩,a5⟩:=h.p.set hn hy hx cT bL;refine⟨a1,a2,⟨a5,h.bl.qah J _,?_,h.ll,?_,h.dl,by rw[As];exact h.hD⟩⟩
 ·exact(Ab A8).same (fun x hx=>Below.heap_setCell w _ _ x (by have:=hx.1;show x≠Q y;omega)) h.lown
 ·exact(Ab A8).same (fun x hx=>Below.heap_setCell w _ _ x (by have:x=D:=hx;show x≠Q y;omega)) h.dn
theorem Um.other{g0 g1:Nat}(h:Um n g0 g1 r c G cap Q C W0 w m){B:Nat}(hng:n≤g1)(hn:n≤B)(hB:g1≤B∨B<g0)(ho:AO (fun b=>b=B) w w'):Um n g0 g1 r c G cap Q C W0 w' m:=by
 have hs:=ho.size;have hg:=h.hg;refine⟨h.base.trans (ho.below J (fun b hb=>by
  have:b=B:=hb;omega)),h.sh,?_,fun k hk=>?_,J⟩
 ·exact(Ab (Ab A8)).same (ho.same (fun b hb e=>by have h1:=hb.1;have h2:=hb.2;have:b=B:=e;omega) (fun b hb=>by have:=hb.2;omega)) h.own
 ·obtain⟨hG,-⟩:=h.own.qal (Ab A8) (CM h.sh hk).1;have h1:=hG.1;have h2:=hG.2;rw[ho.cell (p:=⟨G,k,none⟩) (by show G<_;omega) (fun e=>by have:G=B:=e;omega)];exact h.rows k hk
theorem Fe(w:World)(B k:Nat)(u:Value):AO (fun b=>b=B) w (w.setCell ⟨B,k,none⟩ u):=AO.setCell (S:=fun b=>b=B) (AO.refl _ w) (p:=⟨B,k,none⟩) (.inl rfl) u
theorem YA.qbt(hn:n≤a)(gZ:a≤b)(h1:d≤Bl)(h2:d≤D)
  (h:YA n a b d r c G cap L capL D capD Bl Q C W0 w m left od)(hx:x<c)(hz:Cc z):
  w.cell? ⟨L,x,none⟩=some (.int .i64 (left.getD x 0))∧w.frozen? ⟨L,x,none⟩=false∧YA n a b d r c G cap L capL D capD Bl Q C W0 (w.setCell ⟨L,x,none⟩ (.int .i64 z)) m (left.set x z) od:=by
 have dN:=h.ll;have bA:left[x]? =some (left.getD x 0):=BO 0 J;obtain⟨hL,-⟩:=h.lown.qal A8 bA;obtain⟨e1,e2,-⟩:=h.lown.qaf bA;have q1:=hL.1;have q2:=hL.2;refine⟨e1,e2,⟨h.p.other J J (.inl J) (Fe w L x _),h.bl.qah J _,h.lown.qak J hz,by rw[List.length_set];exact dN,?_,h.dl,by rw[As];exact h.hD⟩⟩;exact(Ab A8).same (fun y hy=>Below.heap_setCell w _ _ y (by have:y=D:=hy;show y≠L;omega)) h.dn
theorem YA.sortD{od':U}(hn:n≤a)(gZ:a≤b)(fR:b≤d)(h2:d≤D)(aK:D≠Bl)
  (h:YA n a b d r c G cap L capL D capD Bl Q C W0 w m left od)(ho:AO (fun b=>b=D) w w')(hd:Ag 3 Ap (fun x=>x=D) w' (.slice (some ⟨D,0,none⟩) c capD) od')(hl:od'.length=c):
  YA n a b d r c G cap L capL D capD Bl Q C W0 w' m left od':=by
 have hD:=h.hD;have hs:=ho.size;refine⟨h.p.other J J (.inl J) ho,h.bl.only ho (fun e=>aK e.symm),?_,h.ll,hd,hl,J⟩;exact(Ab A8).same (ho.same (fun y hy e=>by have:=hy.2;have:y=D:=e;omega) (fun y hy=>by have:=hy.2;omega)) h.lown
theorem RS{xs ys:U}(h:BF xs ys=true):1≤xs.length∧xs.length≤5∧1≤ys.length∧ys.length≤5∧(∀i,0≤xs.getD i 0∧xs.getD i 0≤ys.length)∧(∀x∈ys,0≤x∧x≤5):=by
 have hok:=FL h;obtain⟨h1,h2,h3,h4,h5,h6,-⟩:=BG hok;refine⟨h1,h2,h3,h4,h5,fun x hx=>?_⟩;obtain⟨i,hi⟩:=List.getElem?_of_mem hx;have h7:=h6 i;rw[B7 hi]at h7;omega
theorem VO(v v2:Value)(rows cols:U)(w:World)(hv:Au w v rows)(aS:Au w v2 cols):Calls prog 46 #[v,v2] w (Nz w (DU rows cols)):=by
 have Hv:=Z hv;have aY:=Z aS;obtain⟨a1,cap1,rfl,-⟩:=hv;obtain⟨a2,cap2,rfl,-⟩:=aS;cases bK:BF rows cols
 ·have Hr:=Z (show DU rows cols=none from by unfold DU;rw[bK];rfl);have dk:=Z bK;clear bK;go_enter func46,ntmps46;go_wp2_with fail;refine(OZ _ _ _ _ _ Hv.o aY.o).mono ?_;rintro e w2 ⟨rfl,b2⟩;rw[dk.o];go_wp2
  go_ret2
  exact⟨_,by rw[Hr.o];rfl,by rw[Hr.o];exact Ag.nil _ _ _ _,b2⟩
 obtain⟨hr1,hr5,hc1,hc5,eE,eL⟩:=RS bK;have Hr:=Z (show DU rows cols=some (N4 rows cols)from by unfold DU;rw[bK];rfl);have dk:=Z bK;have jb:=Z eE;have iK:=Z eL;clear bK eE eL;obtain⟨r,hr⟩:∃r,r=rows.length:=⟨_,rfl⟩;obtain⟨c,hc⟩:∃c,c=cols.length:=⟨_,rfl⟩;rw[←hr]at hr1 hr5 Hv;rw[←hc]at hc1 hc5 aY jb;rw[←hr,←hc];have HR:=Z hr;have HC:=Z hc;clear hr hc;go_enter func46,ntmps46;go_wp2_with fail;refine(OZ _ _ _ _ _ Hv.o aY.o).mono ?_;rintro e w1 ⟨rfl,b1⟩;rw[dk.o];go_wp2_with fail;refine(Kx r c _ J J).mono ?_;rintro e w2 ⟨v3,rfl,o2,b2⟩;obtain⟨G,cap3,rfl,hG,hcapG,hGs,-⟩:=o2.qac (by simp[BJ];omega);have iA:(BJ r c).length=r:=by simp[BJ]
 rw[iA]at o2 hcapG⊢;have dB:=Z o2;have be:=Z (b1.qaa b2 (A2 _));have hs2:=b2.size;have cQ:=b1.size;have hG1:=hG.1;have hG2:=hG.2;clear o2 b1 b2 iA hG;go_wp2_with fail;refine(GF _ cols _ (aY.o.keep be.o) (by rw[←HC.o];omega)).mono ?_;rintro e w3 ⟨v4,rfl,o3,b3⟩;obtain⟨L,capL,rfl,hL,hcapL,iN,-⟩:=o3.qac (by rw[←HC.o];omega);rw[←HC.o]at o3 hcapL⊢;have bN:=Z b3;have d7:=b3.size;have cY:=Z o3;have hL1:=hL.1;have ka:=hL.2;clear o3 b3 hL;obtain⟨W4,hW4⟩:∃W4,W4=w3.alloc (.cells #[.slice (some ⟨L,0,none⟩) c capL] 32):=⟨_,rfl⟩;have tF:Below w3.heap.size w3 W4:=by rw[hW4];exact Below.qab _ _
 have z4:W4.heap.size=w3.heap.size+1:=by rw[hW4];simp
 have kl:B9 W4 w3.heap.size #[.slice (some ⟨L,0,none⟩) c capL] 32:=by rw[hW4];exact B9.new w3 _ _
 have qh:=Z tF;have Hz4:=Z z4;have Hkl:=Z kl;have zG:w3.heap.size<W4.heap.size:=J;clear tF z4 kl;have zH:=Z hW4;clear hW4;go_wp2_with (first|(at_make;rw[←zH.o];refine EJ _ rfl _ _ 32 rfl 3 underlying32 Bg rfl Jq (R:=Ap) 0 ⟨rfl,Cc.small Jq Jq⟩ A8 c rfl rfl J ?_;intro w5 hown5 hbel5 hsz5;have zI:=Z hsz5;have ge:=Z hown5;have gd:=Z hbel5;clear hsz5 hown5 hbel5)|fail);have bw5:Below w.heap.size w w5:=((be.o.qaa bN.o (A2 _)).qaa qh.o (A2 _)).qaa gd.o (A2 _);have zJ:Below w2.heap.size w2 w5:=(bN.o.qaa qh.o (A2 _)).qaa gd.o (A2 _);have b35:Below w3.heap.size w3 w5:=qh.o.qaa gd.o (A2 _);obtain⟨DN,hDN⟩:∃DN,DN=W4.heap.size:=⟨_,rfl⟩;have hD5:DN<w5.heap.size:=by have:=zI.o;omega
 obtain⟨Q,C,hp⟩:=Um.make (n:=w.heap.size) (g0:=w1.heap.size) (g1:=w2.heap.size) bw5 (JK r c) hc1 (Ag.keep (Ab A8) dB.o zJ (A2 _)) zJ.size;have aG:Hid (YA w.heap.size w1.heap.size w2.heap.size w3.heap.size r c G cap3 L capL DN c w3.heap.size Q C w w5 ((N4 rows cols).take 0++BJ (r-0) c) (Ih rows cols 0) (List.replicate c 0)):=Z (by
  refine⟨by rw[List.take_zero,List.nil_append,Nat.sub_zero];exact hp,Hkl.o.keep gd.o,?_,by rw[RD];exact HC.o.symm,?_,Jj,hD5⟩
  ·have:Ih rows cols 0=cols:=by cases rows<;>rfl
   rw[this];exact Ag.keep A8 cY.o b35 (A2 _)
  ·rw[hDN];exact ge.o)
 have hDg:w3.heap.size<DN:=J;rw[←hDN];clear hp bw5 zJ b35 dB cY ge hDN hD5;obtain⟨n0,dS⟩:∃n0,n0=w.heap.size:=⟨_,rfl⟩;obtain⟨g0,g7⟩:∃g0,g0=w1.heap.size:=⟨_,rfl⟩;obtain⟨g1,kT⟩:∃g1,g1=w2.heap.size:=⟨_,rfl⟩;obtain⟨g2,lr⟩:∃g2,g2=w3.heap.size:=⟨_,rfl⟩;have lN:=Z dS;rw[←dS,←g7,←kT,←lr]at aG;rw[←lr];rw[←lr]at hDg;have k1:n0≤g0:=J;have k2:g0≤g1:=J;have k3:g1≤g2:=J;clear dS g7 kT lr cQ hs2 d7 hG1 hG2 hL1 ka hGs iN zG;go_loopw [9,10,11,13,30] (fun _ _ _ _ i wr=>∃(k:Nat)(od:U),k≤r∧i=.int .i64 k∧Hid (YA n0 g0 g1 g2 r c G cap3 L capL DN c g2 Q C w wr ((N4 rows cols).take k++BJ (r-k) c) (Ih rows cols k) od)) (fun _ _ _ _ i _=>r-(intOf i).toNat);exact⟨0,_,A7 _,rfl,aG⟩;clear aG;obtain⟨k,od,hk,rfl,aG⟩:=hrel;by_cases aF:k<r
 ·have aD:rows[k]? =some (rows.getD k 0):=BO 0 (by rw[←HR.o];exact aF);have jn:=jb.o k;obtain⟨ba,off,cpr,he,hba,-⟩:=Hv.o.qac (by rw[←HR.o];omega);rw[←HR.o]at he;obtain⟨rfl,-⟩:a1=some ⟨ba,off,none⟩∧cap1=cpr:=by simpa using he
  have iF:=Au.at Hv.o aD;rw[←aG.o.p.base.cell (p:=⟨ba,off+k,none⟩) (by show ba<n0;rw[lN.o];exact hba)]at iF;obtain⟨N,hN⟩:∃N:Nat,rows.getD k 0=N:=⟨(rows.getD k 0).toNat,J⟩;rw[hN]at iF jn aD;have hNc:N≤c:=J;have da:=Z aD;obtain⟨left0,hleft0⟩:∃l,l=Ih rows cols k:=⟨_,rfl⟩;have fb:Hid (∀x∈left0,-(k:Int)≤x∧x≤5):=Z (by
   rw[hleft0];intro x hx;have:=WB rows cols k (a:=0) (b:=5) iK.o x hx;omega)
  rw[←hleft0]at aG;have jx:=Z hleft0;have Hz:=Z (Zm (rows:=rows) (cols:=cols) (r:=r) (c:=c) aF);have dM:decide ((k:Int)<(r:Int))=true:=by simp;omega
  clear hleft0 aD hN he jn;go_wp2;clear iF;go_loopw [11,37] (fun _ i wr=>∃(j:Nat)(od:U),j≤c∧i=.int .i64 j∧Hid (∀t,t<j→od[t]? =some (t:Int))∧Hid (YA n0 g0 g1 g2 r c G cap3 L capL DN c g2 Q C w wr ((N4 rows cols).take k++BJ (r-k) c) left0 od)) (fun _ i _=>c-(intOf i).toNat);exact⟨0,od,A7 _,rfl,Z (fun t h=>absurd h J),aG⟩;clear aG;obtain⟨j,od,hj,rfl,Hod,aG⟩:=hrel;by_cases hltj:j<c
  ·have tq:=aG.o.dl;obtain⟨y0,e1,e2⟩:=aG.o.dn.ints_at (k:=j) J;have dn2:=aG.o.dn.qak (k:=j) J (c:=(j:Int)) (Cc.small J J);have bM:=Z (aG.o.sortD k1 k2 k3 J J (Fe wr DN j (.int .i64 j)) dn2 (by rw[List.length_set];exact tq));have zK:=Z (show ∀t,t<j+1→(od.set j (j:Int))[t]? =some (t:Int)from by
    intro t ht;by_cases e:t=j
    ·subst e;rw[List.getElem?_set_self J]
    ·rw[List.getElem?_set_ne J];exact Hod.o t J)
   clear dn2 tq;go_wp2;go_roundw;exact⟨j+1,_,J,by go_num,zK,bM⟩;exact Jv
  ·obtain rfl:j=c:=J;have ts:od=TN (List.range j):=by
    apply List.ext_getElem?;intro t;rcases Nat.lt_or_ge t j with h|h
    ·rw[Hod.o t h];exact(VI (by rw[AA h])).symm
    ·rw[Am (by rw[aG.o.dl];exact h),Am (by rw[Wg,List.length_range];exact h)]
   rw[ts]at aG;clear ts Hod;have mX:=Z (Wx DN j j g2 (.slice (some ⟨L,0,none⟩) j capL) left0 (fun x=>x=DN) (Iv g1 g2) wr hc1 hc5 aG.o.ll (fun x hx=>by have:=fb.o x hx;omega) aG.o.dn aG.o.bl J aG.o.lown (fun b hb=>⟨by have:=hb.2;have:=aG.o.bl.lt;omega,by have:=hb.2;omega⟩) (fun b hb=>by have:b=DN:=hb;have:=aG.o.hD;omega));obtain⟨P,hP⟩:∃P,P=Ly left0 j:=⟨_,rfl⟩;rw[←hP]at mX;have qi:Hid (Ug left0 j P):=Z (by rw[hP];exact PI _ _);have HP:=Z hP;clear hP;go_wp2_with fail;refine mX.o.mono ?_;rintro e w7 ⟨rfl,o7,n7⟩;have tt:=Z (aG.o.sortD k1 k2 k3 J J n7 o7 (by rw[Wg];exact qi.o.length));have tu:Hid (YA n0 g0 g1 g2 r j G cap3 L capL DN j g2 Q C w w7 (Nx rows cols r j k (Jr j (P.take 0))) (D7 left0 (Jr j (P.take 0))) (TN P)):=Z (by
    have h:=tt.o;rw[←Hz.o]at h;have e1:Jr j (P.take 0)=A4a j:=by rw[List.take_zero,A0s];rfl
    have e2:D7 left0 (Jr j (P.take 0))=left0:=by
     have:=Ut left0;rw[aG.o.ll]at this;rw[List.take_zero];exact this
    rw[e2,e1];exact h)
   have eT:=Z aG.o.ll;clear o7 n7 tt mX aG Hz;go_wp2;go_loopw [13,52] (fun _ i wr=>∃(t:Nat),t≤N∧i=.int .i64 t∧Hid (YA n0 g0 g1 g2 r j G cap3 L capL DN j g2 Q C w wr (Nx rows cols r j k (Jr j (P.take t))) (D7 left0 (Jr j (P.take t))) (TN P))) (fun _ i _=>N-(intOf i).toNat);exact⟨0,A7 _,rfl,tu⟩;clear tu;obtain⟨t,ht,rfl,aG⟩:=hrel;by_cases hltt:t<N
   ·have zL:t<P.length:=by rw[qi.o.length];omega
    have tv:P[t]? =some P[t]:=A3 zL;obtain⟨p,hpe⟩:∃p,p=P[t]:=⟨_,rfl⟩;rw[←hpe]at tv;have sO:p<j:=qi.o.lt tv;have jy:p∉P.take t:=by
     intro hm;obtain⟨q,hq,e⟩:=List.mem_take_iff_getElem.mp hm;have:=List.pairwise_iff_getElem.mp qi.o.nodup q t J zL J;rw[e,←hpe]at this;exact this rfl
    obtain⟨e1,e2,-⟩:=aG.o.dn.qaf (VI tv);have hrowG:=aG.o.p.rows k aF;obtain⟨e3,e4,st1⟩:=aG.o.qck k1 k3 J J aF sO (z:=1) Jq Jq;have e5:=st1.bl.cell 0;simp only[Av,Aw]at e5;obtain⟨u,hu⟩:∃u,u=(D7 left0 (Jr j (P.take t))).getD p 0:=⟨_,rfl⟩;have lE:-10≤u∧u≤10:=by
     have hl:=T7 (w:=left0) (row:=Jr j (P.take t)) (a:=-(k:Int)) (b:=5) fb.o (fun i=>Wp _ _ i);have hm:(D7 left0 (Jr j (P.take t)))[p]? =some u:=by rw[hu];exact BO 0 (by rw[Kp,eT.o];exact sO)
     have:=hl u (A4 hm);omega
    have lH:=lE.1;have eO:=lE.2;obtain⟨e6,e7,st2⟩:=st1.qbt k1 k2 J J sO (z:=u-1) (Cc.small J J);rw[←hu]at e6;have bM:Hid (YA n0 g0 g1 g2 r j G cap3 L capL DN j g2 Q C w ((wr.setCell ⟨Q k,p,none⟩ (.int .i64 1)).setCell ⟨L,p,none⟩ (.int .i64 (u-1))) (Nx rows cols r j k (Jr j (P.take (t+1)))) (D7 left0 (Jr j (P.take (t+1)))) (TN P)):=Z (by
     have h:=st2;rw[A0X (by rw[←HR.o];omega),A0d _ sO]at h;have e:(D7 left0 (Jr j (P.take t))).set p (u-1)=D7 left0 (Jr j (P.take t++[p])):=by
      have h2:=UA (w:=left0) (b:=p) (s:=P.take t) (by rw[eT.o];exact sO) jy;rw[eT.o]at h2;rw[hu];exact h2
     rw[e]at h;rw[PJ tv];exact h)
    clear tv hpe jy st1 st2 hu lE zL;go_wp2;go_roundw;exact⟨t+1,J,by go_num,bM⟩;exact Jv
   ·obtain rfl:t=N:=J;have bM:Hid (YA n0 g0 g1 g2 r j G cap3 L capL DN j g2 Q C w wr ((N4 rows cols).take (k+1)++BJ (r-(k+1)) j) (Ih rows cols (k+1)) (TN P)):=Z (by
     have h:=aG.o;have ef:Jr j (P.take t)=DH (Ih rows cols k) ((t:Nat):Int).toNat:=by
      unfold DH;rw[←jx.o,eT.o,Int.toNat_natCast,HP.o]
     rw[ef,YS da.o]at h;rw[PE da.o,←jx.o];rw[←jx.o]at h;exact h)
    go_wp2;go_roundw;exact⟨k+1,_,J,by go_num,bM⟩;exact Jv
 ·obtain rfl:k=r:=J;have aU:=Z (show(N4 rows cols).take k++BJ (k-k) c=N4 rows cols from by
   rw[Nat.sub_self,A9 (by rw[OJ,←HR.o];exact A2 _)];simp[BJ])
  have Ho:=Z aG.o.p.own;have Hb:=Z aG.o.p.base;have iG:=aG.o.p.hg;go_wp2
  go_ret2
  refine⟨_,by rw[Hr.o];rfl,?_,by rw[←lN.o];exact Hb.o⟩;rw[Hr.o];show Ag _ _ _ _ _ (N4 rows cols);rw[←aU.o];exact(Ab (Ab A8)).mono (fun b hb=>⟨by have:=hb.1;have:=lN.o;omega,by have:=hb.2;omega⟩) Ho.o
