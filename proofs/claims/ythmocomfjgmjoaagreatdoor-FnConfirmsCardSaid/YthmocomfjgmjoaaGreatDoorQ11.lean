/- Base. -/
import Derived.Test.YthmocomfjgmjoaaGreatDoorQ09
import Derived.Test.YthmocomfjgmjoaaGreatDoorQ08
import Derived.Test.YthmocomfjgmjoaaGreatDoorQ06
set_option maxHeartbeats 2000000
namespace Go.Proofs.YthmocomfjgmjoaaGreatDoor
open Go.RowKit
def Gb(s:Sw):Nat→Nat×Nat
 |0=>(s.y1,s.x1)
 |1=>(s.y1,s.x2)
 |2=>(s.y2,s.x1)
 |_=>(s.y2,s.x2)
def FP(g:List (List Int))(s:Sw):Nat→List (List Int)
 |0=>g
 |n+1=>K4 (FP g s n) (Gb s n).1 (Gb s n).2
theorem Rl(g:List (List Int))(s:Sw):FP g s 4=AQ g s:=rfl
theorem Km{r c:Nat}{g:List (List Int)}{s:Sw}(hs:CB r c g s)(n:Nat):(Gb s n).1<r∧(Gb s n).2<c:=by
 obtain⟨h1,h2,h3,h4,-⟩:=hs
 match n with
 |0=>exact⟨Nat.lt_trans h1 h2,Nat.lt_trans h3 h4⟩
 |1=>exact⟨Nat.lt_trans h1 h2,h4⟩
 |2=>exact⟨h2,Nat.lt_trans h3 h4⟩
 |_+3=>exact⟨h2,h4⟩
theorem J8{r c:Nat}{g:List (List Int)}{s:Sw}(h:Ac r c g)(hs:CB r c g s):∀n,Ac r c (FP g s n)
 |0=>h
 |n+1=>Ee (J8 h hs n) (Km hs n).1
theorem Sn{r c:Nat}{g:List (List Int)}{s:Sw}(h:Ac r c g)(hs:CB r c g s):∀n,n<4→Al (FP g s n) (Gb s n).1 (Gb s n).2=Al g (Gb s n).1 (Gb s n).2:=by
 have dj:=hs;obtain⟨h1,h2,h3,h4,-⟩:=dj;have key:∀n k,k≤n→n<4→Al (FP g s k) (Gb s n).1 (Gb s n).2=Al g (Gb s n).1 (Gb s n).2:=by
  intro n k;induction k with
  |zero=>intro _ _;rfl
  |succ k ih=>
   intro hk hn;show Al (K4 (FP g s k) (Gb s k).1 (Gb s k).2) _ _=_;rw[M5 (J8 h hs k) (Km hs k).1 (Km hs k).2,if_neg,ih (by omega) hn];obtain⟨a,b,x,y⟩:=s;have h1:a<b:=h1;have h3:x<y:=h3;rcases(by omega:n=1∧k=0∨n=2∧k=0∨n=2∧k=1∨n=3∧k=0∨n=3∧k=1∨n=3∧k=2) with⟨rfl,rfl⟩|⟨rfl,rfl⟩|⟨rfl,rfl⟩|⟨rfl,rfl⟩|⟨rfl,rfl⟩|⟨rfl,rfl⟩<;>(show ¬(_=_∧_=_))<;>simp only[Gb,Sw.y1,Sw.y2,Sw.x1,Sw.x2]<;>omega
 exact fun n hn=>key n n (Nat.le_refl _) hn
def A5n(s:Sw):List Int:=[s.y1,s.y2]
def A5u(s:Sw):List Int:=[s.x1,s.x2]
theorem Oc(s:Sw){k j:Nat}(hk:k<2)(hj:j<2):(A5n s)[k]? =some ((Gb s (2*k+j)).1:Int)∧(A5u s)[j]? =some ((Gb s (2*k+j)).2:Int):=by
 rcases(by omega:k=0∧j=0∨k=0∧j=1∨k=1∧j=0∨k=1∧j=1) with⟨rfl,rfl⟩|⟨rfl,rfl⟩|⟨rfl,rfl⟩|⟨rfl,rfl⟩<;>exact⟨rfl,rfl⟩
theorem R9(v:Value)(m:List (List Int))(r c:Nat)(s:Sw)(w:World)(hv:Ak w v m)(hs:Ac r c m)(hr1:1≤r)(hr5:r≤5)(hc1:1≤c)(hc5:c≤5)(aD:CB r c m s):Calls Tryz.prog 209 #[v,SwV s.y1 s.y2 s.x1 s.x2] w (M7 32 (A4 3 A7) w (AQ m s)):=by
 obtain⟨b,off,cp,rfl,hb,az⟩:=hv.cells hs hr1 hc1;have fY:=Z az;have aA:=Below.pureAlloc w (.cells #[.int .i64 s.y1,.int .i64 s.y2,.int .i64 s.x1,.int .i64 s.x2] 65);have dN:=Z (hv.keep aA);have Hk:=Z (Aw.new w #[.int .i64 s.y1,.int .i64 s.y2,.int .i64 s.x1,.int .i64 s.x2] 65);have jQ:=Z (show m.length≤1048576 from by have:=hs.1;omega);have HR:=Z (show ∀p∈m,p.length≤1048576 from fun p hp=>by have:=(hs.2 p hp).1;omega);obtain⟨y1,d5⟩:∃y1,y1=s.y1:=⟨_,rfl⟩;obtain⟨y2,hy2⟩:∃y2,y2=s.y2:=⟨_,rfl⟩;obtain⟨x1,cM⟩:∃x1,x1=s.x1:=⟨_,rfl⟩;obtain⟨x2,hx2⟩:∃x2,x2=s.x2:=⟨_,rfl⟩;rw[←d5,←hy2,←cM,←hx2] at Hk dN aA⊢;have Hy:Hid (A5n s=[(y1:Int),y2]):=Z (by rw[d5,hy2];rfl);have Hx:Hid (A5u s=[(x1:Int),x2]):=Z (by rw[cM,hx2];rfl);clear az d5 hy2 cM hx2;go_enter Tryz.func209,Tryz.ntmps209;go_wp2_with (fail);refine(DG _ m _ dN.o jQ.o HR.o).mono ?_;rintro e w2 ⟨v2,rfl,o2,b2⟩;have dT:=Z (Hk.o.keep b2);have cI:Below w.heap.size w w2:=aA.trans_pure b2 (Nat.le_refl _);have bJ:=hs.1;obtain⟨G,cap,rfl,hG,ak,hGl,-⟩:=o2.inv_ne (by omega);rw[bJ] at o2 ak⊢;have bZ:(w.alloc (.cells #[.int .i64 y1,.int .i64 y2,.int .i64 x1,.int .i64 x2] 65)).heap.size=w.heap.size+1:=by simp
 rw[bZ] at o2;have bT:w.heap.size+1≤w2.heap.size:=by rw[←bZ];exact b2.size
 have k0:=dT.o.cell 0;have k1:=dT.o.cell 1;have k2:=dT.o.cell 2;have k3:=dT.o.cell 3;simp only[List.getElem?_toArray,List.getElem?_cons_zero,List.getElem?_cons_succ] at k0 k1 k2 k3;have cu:=Z o2;have jf:=Z (Aw.new w2 #[.int .i64 y1,.int .i64 y2] 3);have bM:=Z (Below.pureAlloc w2 (.cells #[.int .i64 y1,.int .i64 y2] 3));have hGa:w.heap.size+1≤G:=by have:=hG.1;rw[bZ] at this;exact this
 have fL:w2.heap.size+1≤(w2.alloc (.cells #[.int .i64 y1,.int .i64 y2] 3)).heap.size:=by simp
 have cn:=Z ((A3 (A3 A2)).same (A5 bM.o fun b hb=>hb.2) cu.o);have gQ:=Z (dT.o.keep bM.o);have jx:=Z (cI.trans_pure bM.o (Nat.le_refl _));clear o2 bJ hG bZ cu bM cI dT b2 Hk;have d7:=Z aD;clear aD;go_wp2;clear k0 k1 k2 k3;go_loopw [7,9,18] (fun _ _ i wr=>∃k:Nat,k≤2∧i=.int .i64 k∧Hid (A4 32 (A4 3 A7) (Iv (w.heap.size+1) w2.heap.size) wr (.slice (some ⟨G,0,none⟩) r cap) (FP m s (2*k)))∧Hid (Aw wr w.heap.size #[.int .i64 y1,.int .i64 y2,.int .i64 x1,.int .i64 x2] 65)∧Hid (Aw wr w2.heap.size #[.int .i64 y1,.int .i64 y2] 3)∧Hid (Below w.heap.size w wr)∧w2.heap.size+1≤wr.heap.size) (fun _ _ i _=>2-(intOf i).toNat)
 case atStart=>exact⟨0,Nat.zero_le _,rfl,cn,gQ,jf,jx,fL⟩
 case round=>
  clear cn gQ jf jx fL;obtain⟨k,hk,rfl,Ho,iE,gu,Hbe,hz⟩:=hrel;by_cases aH:k<2
  ·obtain⟨Y,hY⟩:∃Y,Y=(Gb s (2*k+0)).1:=⟨_,rfl⟩;have qZ:=(Oc s (j:=0) aH (by decide)).1;rw[Hy.o,←hY] at qZ;have xC:Y<r:=by rw[hY];exact(Km d7.o _).1
   have tM:Y=(Gb s (2*k+1)).1:=by rw[hY];rcases(by omega:k=0∨k=1) with rfl|rfl<;>rfl
   have yB:wr.cell? ⟨w2.heap.size,k,none⟩=some (.int .i64 Y):=by
    rw[gu.o.cell k];rcases(by omega:k=0∨k=1) with rfl|rfl<;>simpa using qZ
   have k2:=iE.o.cell 2;have k3:=iE.o.cell 3;simp only[List.getElem?_toArray,List.getElem?_cons_zero,List.getElem?_cons_succ] at k2 k3;have HY:=Z hY;have yC:=Z tM;clear hY tM qZ;have qd:=Z (Aw.new wr #[.int .i64 x1,.int .i64 x2] 3);have eV:=Z (Below.pureAlloc wr (.cells #[.int .i64 x1,.int .i64 x2] 3));have fL:wr.heap.size+1≤(wr.alloc (.cells #[.int .i64 x1,.int .i64 x2] 3)).heap.size:=by simp
   have fc:=Z ((A3 (A3 A2)).same (A5 eV.o fun b hb=>by have:=hb.2;omega) Ho.o);have oA:=Z (iE.o.keep eV.o);have mO:=Z (gu.o.keep eV.o);have mP:=Z (Hbe.o.trans_pure eV.o (Nat.le_refl _));clear Ho iE gu Hbe eV;obtain⟨L,hL⟩:∃L,L=wr.heap.size:=⟨_,rfl⟩;rw[←hL] at qd hz fL;have HL:=Z hL;clear hL;go_wp2;rw[←HL.o];clear yB k2 k3;go_loopw [9,28] (fun _ i wr=>∃j:Nat,j≤2∧i=.int .i64 j∧Hid (A4 32 (A4 3 A7) (Iv (w.heap.size+1) w2.heap.size) wr (.slice (some ⟨G,0,none⟩) r cap) (FP m s (2*k+j)))∧Hid (Aw wr w.heap.size #[.int .i64 y1,.int .i64 y2,.int .i64 x1,.int .i64 x2] 65)∧Hid (Aw wr w2.heap.size #[.int .i64 y1,.int .i64 y2] 3)∧Hid (Aw wr L #[.int .i64 x1,.int .i64 x2] 3)∧Hid (Below w.heap.size w wr)∧L+1≤wr.heap.size) (fun _ i _=>2-(intOf i).toNat)
   case atStart=>exact⟨0,Nat.zero_le _,rfl,fc,oA,mO,qd,mP,fL⟩
   case round=>
    clear fc oA mO qd mP fL;obtain⟨j,hj,rfl,Ho,iE,gu,ej,Hbe,bT⟩:=hrel;by_cases bt:j<2
    ·obtain⟨X,hX⟩:∃X,X=(Gb s (2*k+j)).2:=⟨_,rfl⟩;have pQ:Y=(Gb s (2*k+j)).1:=by
      rcases(by omega:j=0∨j=1) with rfl|rfl
      ·exact HY.o
      ·exact yC.o
     have qe:=(Oc s aH bt).2;rw[Hx.o,←hX] at qe;have sG:X<c:=by rw[hX];exact(Km d7.o _).2
     have hcX:wr.cell? ⟨L,j,none⟩=some (.int .i64 X):=by
      rw[ej.o.cell j];rcases(by omega:j=0∨j=1) with rfl|rfl<;>simpa using qe
     have pR:=J8 hs d7.o (2*k+j);obtain⟨row,aG,aw,-⟩:=pR.row xC;obtain⟨q,cq,aM,-,hq,hqG,di,dz,-,ap⟩:=AC Ho.o aG (by omega);obtain⟨⟨o0,ke⟩,gN⟩:=dz X (by omega);obtain⟨br,offr,cpr,hmY,dL,xD⟩:=fY.o Y xC;have xD:=xD X sG;have hmY':=(Hbe.o.cell (p:=⟨b,off+Y,none⟩) hb).trans hmY;have yD:=(Hbe.o.cell (p:=⟨br,offr+X,none⟩) dL).trans xD;have ii:=AE hs Y X;obtain⟨z,jy⟩:∃z,z=Al m Y X:=⟨_,rfl⟩;rw[←jy] at yD ii;have cJ:=Z (show A4 32 (A4 3 A7) (Iv (w.heap.size+1) w2.heap.size) (wr.setCell ⟨q,X,none⟩ (.int .i64 (1-z))) (.slice (some ⟨G,0,none⟩) r cap) (FP m s (2*k+(j+1))) from by
      have h:=ap wr (fun _ _=>rfl) X (1-z) (by omega) (BV.small (by omega) (by omega));have e:FP m s (2*k+(j+1))=(FP m s (2*k+j)).set Y (row.set X (1-z)):=by
       show K4 (FP m s (2*k+j)) (Gb s (2*k+j)).1 (Gb s (2*k+j)).2=_;rw[←pQ,←hX];unfold K4 setC;have bB:=Sn hs d7.o (2*k+j) (by omega);rw[←pQ,←hX] at bB;rw[bB,←jy,List.getD_eq_getElem?_getD,aG];rfl
      rw[e];exact h)
     have tN:q≠w.heap.size:=by have:=hq.1;omega
     have qf:q≠w2.heap.size:=by have:=hq.2;omega
     have qg:q≠L:=by have:=hq.2;omega
     have qh:=Z (iE.o.set_ne (g':=q) (j:=X) tN.symm (.int .i64 (1-z)));have qi:=Z (gu.o.set_ne (g':=q) (j:=X) qf.symm (.int .i64 (1-z)));have qj:=Z (ej.o.set_ne (g':=q) (j:=X) qg.symm (.int .i64 (1-z)));have gR:=Z (Hbe.o.setCell (p:=⟨q,X,none⟩) (by have:=hq.1;show w.heap.size≤q;omega) (.int .i64 (1-z)));rw[aw] at aM;clear hX pQ qe pR aG aw dz ap hmY xD jy Ho iE gu ej Hbe;go_wp2
     go_region
     all_goals go_wp2
     all_goals go_roundw
     all_goals first
      |(case measure=>simp[intOf];omega)
      |(case rel=>exact⟨j+1,by omega,by go_num,Z (by exact cJ.o),Z (by exact qh.o),Z (by exact qi.o),Z (by exact qj.o),Z ⟨gR.o.os,gR.o.tape,gR.o.output,gR.o.size,gR.o.block⟩,by first|exact bT|(simp;exact bT)|(rw[A9];exact bT)⟩)
    ·obtain rfl:j=2:=by omega
     go_wp2;go_roundw
     case rel=>exact⟨k+1,by omega,by go_num,Z (by have:=Ho.o;rwa[show 2*(k+1)=2*k+2 from by omega]),iE,gu,Hbe,by omega⟩
     case measure=>simp[intOf];omega
  ·obtain rfl:k=2:=by omega
   go_wp2
   go_ret
   exact⟨_,rfl,by rw[←Rl];exact(A3 (A3 A2)).mono (fun b hb=>⟨by have:=hb.1;omega,by have:=hb.2;omega⟩) Ho.o,Hbe.o⟩
theorem A02:∀r,r<5→∀c,c<5→(V1 r c).length≤36:=by decide+kernel
theorem HH{r c:Nat}(hr:r≤4)(hc:c≤4)(g:List (List Int)):(AX r c g).length≤36:=Nat.le_trans (List.length_filter_le _ _) (A02 r (by omega) c (by omega))
theorem TV(v v2:Value)(xs ys:List Int)(w:World)(hv:Ab w v xs)(aW:Ab w v2 ys)(aD:AF xs ys=true):Calls Tryz.prog 92 #[v,v2] w fun e w'=>e=.returned (.int .i64 (Bi xs ys).length)∧Below w.heap.size w w':=by
 have Hv:=Z hv;have aj:=Z aW;have aS:=Z aD;obtain⟨a,cap,rfl,-⟩:=hv;obtain⟨a2,cap2,rfl,-⟩:=aW;clear aD;go_enter Tryz.func92,Tryz.ntmps92;go_wp2_with (fail);refine(Ef _ _ _ _ _ Hv.o aj.o).mono ?_;rintro e w1 ⟨v1,rfl,o1,b1⟩;rw[aS.o];rw[show AZ xs ys=Bi xs ys from by unfold AZ;rw[aS.o];rfl] at o1;obtain⟨p1,p2,p3,rfl⟩:=o1.shape;have hl:=o1.grids.len;subst hl;clear o1;go_wp2
 go_ret
 exact⟨rfl,b1⟩
theorem Sg(v v2:Value)(m g:List (List Int))(r c:Nat)(w:World)(hv:Ak w v m)(aW:Ak w v2 g)(hs:Ac r c m)(hs2:Ac r c g)(hr1:1≤r)(hr5:r≤5)(hc1:1≤c)(hc5:c≤5):Calls Tryz.prog 98 #[v,v2] w fun e w'=>e=.returned (.bool true)∧Below w.heap.size w w':=by
 have aG:=fun {q:List (List Int)} (h:Ac r c q)=>h.row (y:=0) (by omega);obtain⟨r1,hr1',eX,-⟩:=aG hs;obtain⟨r2,hr2',gB,-⟩:=aG hs2;obtain⟨b,off,cp,rfl,hb,-⟩:=hv.inv_ne (by have:=hs.1;omega);obtain⟨b2,off2,cp2,rfl,au,-⟩:=aW.inv_ne (by have:=hs2.1;omega);obtain⟨u,aQ,hu⟩:=Sl.at hv hr1';obtain⟨u2,eP,ec⟩:=Sl.at aW hr2';obtain⟨a1,k1,rfl,-⟩:=hu;obtain⟨a2,k2,rfl,-⟩:=ec;rw[Nat.add_zero,eX] at aQ;rw[Nat.add_zero,gB] at eP;have bJ:=hs.1;have ai:=hs2.1;rw[bJ] at hv⊢;rw[ai] at aW⊢;have fT:=Z (show ∀n,Calls Tryz.prog 84 #[.slice (some ⟨b,off,none⟩) r cp] (w.drewN n) fun e w'=>e=.returned (.bool true)∧w'=w.drewN n from fun n=>(AP _ m (w.drewN n) (Ak.keep hv (below_drewN (Below.refl _ _) n))).mono fun e w' ⟨he,hw⟩=>⟨by rw[he,hs.ok hr1 hr5 hc1 hc5],hw.symm⟩);have iU:=Z (show ∀n,Calls Tryz.prog 84 #[.slice (some ⟨b2,off2,none⟩) r cp2] (w.drewN n) fun e w'=>e=.returned (.bool true)∧w'=w.drewN n from fun n=>(AP _ g (w.drewN n) (Ak.keep aW (below_drewN (Below.refl _ _) n))).mono fun e w' ⟨he,hw⟩=>⟨by rw[he,hs2.ok hr1 hr5 hc1 hc5],hw.symm⟩);clear aG hr1' hr2' eX gB bJ ai hv aW;go_enter Tryz.func98,Tryz.ntmps98;go_wp2;go_quiet ((first|(go_at_call 84;with_reducible exact Calls.quiet_of_same (fT.o _))|(go_at_call 84;with_reducible exact Calls.quiet_of_same (iU.o _))));go_wp2
 go_ret
 exact⟨rfl,below_drewN (Below.refl _ _) _⟩
theorem A0u(v v2:Value)(m g:List (List Int))(r c:Nat)(w:World)(hv:Ak w v m)(aW:Ak w v2 g)(hs:Ac r c m)(hs2:Ac r c g)(hr1:1≤r)(hr5:r≤5)(hc1:1≤c)(hc5:c≤5)(e1:A6 m=A6 g)(e2:A8 m=A8 g):Calls Tryz.prog 160 #[v,v2] w fun e w'=>e=.returned (.bool true)∧Below w.heap.size w w':=by
 have Hv:=Z hv;have aj:=Z aW;obtain⟨a,cap,rfl,-⟩:=hv;obtain⟨a2,cap2,rfl,-⟩:=aW;have E1:=Z e1;have E2:=Z e2;clear e1 e2;go_enter Tryz.func160,Tryz.ntmps160;go_wp2_with (fail);refine(Sg _ _ m g r c _ Hv.o aj.o hs hs2 hr1 hr5 hc1 hc5).mono ?_;rintro e w1 ⟨rfl,b1⟩;go_wp2_with (fail);refine(E7 _ _ _ (Hv.o.keep b1)).mono ?_;rintro e w2 ⟨v3,rfl,o3,b2⟩;have cI:=b1.trans_pure b2 (Nat.le_refl _);have cn:=Z o3.ints;clear o3;go_wp2_with (fail);refine(E7 _ _ _ (aj.o.keep cI)).mono ?_;rintro e w3 ⟨v4,rfl,o4,b3⟩;have dd:=cI.trans_pure b3 (Nat.le_refl _);have fc:=Z o4.ints;clear o4;go_wp2_with (fail);refine(Mx _ _ _ _ _ (cn.o.keep b3) fc.o).mono ?_;rintro e w4 ⟨rfl,n4,fS⟩;have b4:Below w3.heap.size w3 w4:=by rw[fS];exact below_drewN (Below.refl _ _) n4
 clear fS;rw[decide_eq_true E1.o];have eH:=dd.trans_pure b4 (Nat.le_refl _);go_wp2_with (fail);refine(EA _ _ _ (Hv.o.keep eH)).mono ?_;rintro e w5 ⟨v5,rfl,o5,b5⟩;have e8:=eH.trans_pure b5 (Nat.le_refl _);have iA:=Z o5.ints;clear o5;go_wp2_with (fail);refine(EA _ _ _ (aj.o.keep e8)).mono ?_;rintro e w6 ⟨v6,rfl,o6,b6⟩;have ju:=e8.trans_pure b6 (Nat.le_refl _);have lP:=Z o6.ints;clear o6;go_wp2_with (fail);refine(Mx _ _ _ _ _ (iA.o.keep b6) lP.o).mono ?_;rintro e w7 ⟨rfl,n7,hw7⟩;have b7:Below w6.heap.size w6 w7:=by rw[hw7];exact below_drewN (Below.refl _ _) n7
 clear hw7;rw[decide_eq_true E2.o];have lO:=ju.trans_pure b7 (Nat.le_refl _);go_wp2
 go_ret
 exact⟨rfl,lO⟩
def A3q(w:World)(g:List (List Int)):Ending→World→Prop:=fun e w'=>∃v',e=.returned (.tuple #[v',.bool true])∧A4 32 (A4 3 A7) (Iv w.heap.size w'.heap.size) w' v' g∧Below w.heap.size w w'
def D5(c:Nat)(g h:List (List Int))(i:Nat):Int:=rs c (fun j=>if Al g i j=Al h i j then 0 else 1)
theorem IK(g h:List (List Int))(i:Nat):∀c,0≤D5 c g h i∧D5 c g h i≤c:=by
 intro c;induction c with
 |zero=>simp[D5,rs]
 |succ c ih=>
  have e:D5 (c+1) g h i=D5 c g h i+if Al g i c=Al h i c then 0 else 1:=rfl;rw[e]
  split<;>omega
theorem Ga(c:Nat)(g h:List (List Int)):∀r,0≤BG r c g h∧BG r c g h≤((r*c:Nat):Int):=by
 intro r;induction r with
 |zero=>simp[BG,rs]
 |succ r ih=>
  have e:BG (r+1) c g h=BG r c g h+D5 c g h r:=rfl;have:=IK g h r c;rw[e,Nat.succ_mul];omega
theorem Jj(v:Value)(m:List (List Int))(r c:Nat)(s:Sw)(w:World)(hv:Ak w v m)(hs:Ac r c m)(hr1:1≤r)(hr5:r≤5)(hc1:1≤c)(hc5:c≤5)(aD:CB r c m s):Calls Tryz.prog 37 #[v,SwV s.y1 s.y2 s.x1 s.x2] w (A3q w (AQ m s)):=by
 obtain⟨b,off,cp,rfl,hb,az⟩:=hv.cells hs hr1 hc1;have fY:=Z az;have aA:=Below.pureAlloc w (.cells #[.int .i64 s.y1,.int .i64 s.y2,.int .i64 s.x1,.int .i64 s.x2] 65);have dN:=Z (hv.keep aA);have Hk:=Z (Aw.new w #[.int .i64 s.y1,.int .i64 s.y2,.int .i64 s.x1,.int .i64 s.x2] 65);have jQ:=Z (show m.length≤1048576 from by have:=hs.1;omega);have HR:=Z (show ∀p∈m,p.length≤1048576 from fun p hp=>by have:=(hs.2 p hp).1;omega);obtain⟨y1,d5⟩:∃y1,y1=s.y1:=⟨_,rfl⟩;obtain⟨y2,hy2⟩:∃y2,y2=s.y2:=⟨_,rfl⟩;obtain⟨x1,cM⟩:∃x1,x1=s.x1:=⟨_,rfl⟩;obtain⟨x2,hx2⟩:∃x2,x2=s.x2:=⟨_,rfl⟩;rw[←d5,←hy2,←cM,←hx2] at Hk dN aA⊢;have HE1:=Z d5;have HE2:=Z hy2;have HE3:=Z cM;have HE4:=Z hx2;have d7:=Z aD;have Hy:Hid (A5n s=[(y1:Int),y2]):=Z (by rw[d5,hy2];rfl);have Hx:Hid (A5u s=[(x1:Int),x2]):=Z (by rw[cM,hx2];rfl);clear az d5 hy2 cM hx2 aD;have tO:=Z (show D0 r c m y1 y2 x1 x2=true from by rw[HE1.o,HE2.o,HE3.o,HE4.o,Ps];exact decide_eq_true d7.o);go_enter Tryz.func37,Tryz.ntmps37;go_wp2_with (fail);refine(Ni _ m r c _ _ _ _ _ dN.o hs hr1 hr5 hc1 hc5).mono ?_;rintro e w1 ⟨rfl,b1⟩;rw[tO.o];have gv:=Z (Hk.o.keep b1);have s1:w.heap.size+1≤w1.heap.size:=by have:=b1.size;simp at this;exact this
 have bb1:=aA.trans_pure b1 (Nat.le_refl _);have dp:=Z b1;clear b1 Hk tO;go_wp2_with (fail);refine(EO _ m _ (dN.o.keep dp.o) jQ.o HR.o).mono ?_;rintro e w2 ⟨v2,rfl,o2,b2⟩;have dT:=Z (gv.o.keep b2);have cI:Below w.heap.size w w2:=bb1.trans_pure b2 (Nat.le_refl _);have bJ:=hs.1;obtain⟨G,cap,rfl,hG,ak,hGl,-⟩:=o2.inv_ne (by omega);rw[bJ] at o2 ak⊢;have bT:w.heap.size+1≤w2.heap.size:=Nat.le_trans s1 b2.size;have o2:=(A3 (A3 A2)).mono (S':=Iv (w.heap.size+1) w2.heap.size) (fun b hb=>⟨Nat.le_trans s1 hb.1,hb.2⟩) o2;have k0:=dT.o.cell 0;have k1:=dT.o.cell 1;have k2:=dT.o.cell 2;have k3:=dT.o.cell 3;simp only[List.getElem?_toArray,List.getElem?_cons_zero,List.getElem?_cons_succ] at k0 k1 k2 k3;have cu:=Z o2;have jf:=Z (Aw.new w2 #[.int .i64 y1,.int .i64 y2] 3);have bM:=Z (Below.pureAlloc w2 (.cells #[.int .i64 y1,.int .i64 y2] 3));have hGa:w.heap.size+1≤G:=Nat.le_trans s1 hG.1;have fL:w2.heap.size+1≤(w2.alloc (.cells #[.int .i64 y1,.int .i64 y2] 3)).heap.size:=by simp
 have cn:=Z ((A3 (A3 A2)).same (A5 bM.o fun b hb=>hb.2) cu.o);have gQ:=Z (dT.o.keep bM.o);have jx:=Z (cI.trans_pure bM.o (Nat.le_refl _));clear o2 bJ hG cu bM cI dT b2 bb1 gv dp s1;go_wp2;clear k0 k1 k2 k3;go_loopw [8,10,23] (fun _ _ i wr=>∃k:Nat,k≤2∧i=.int .i64 k∧Hid (A4 32 (A4 3 A7) (Iv (w.heap.size+1) w2.heap.size) wr (.slice (some ⟨G,0,none⟩) r cap) (FP m s (2*k)))∧Hid (Aw wr w.heap.size #[.int .i64 y1,.int .i64 y2,.int .i64 x1,.int .i64 x2] 65)∧Hid (Aw wr w2.heap.size #[.int .i64 y1,.int .i64 y2] 3)∧Hid (Below w.heap.size w wr)∧w2.heap.size+1≤wr.heap.size) (fun _ _ i _=>2-(intOf i).toNat)
 case atStart=>exact⟨0,Nat.zero_le _,rfl,cn,gQ,jf,jx,fL⟩
 case round=>
  clear cn gQ jf jx fL;obtain⟨k,hk,rfl,Ho,iE,gu,Hbe,hz⟩:=hrel;by_cases aH:k<2
  ·obtain⟨Y,hY⟩:∃Y,Y=(Gb s (2*k+0)).1:=⟨_,rfl⟩;have qZ:=(Oc s (j:=0) aH (by decide)).1;rw[Hy.o,←hY] at qZ;have xC:Y<r:=by rw[hY];exact(Km d7.o _).1
   have tM:Y=(Gb s (2*k+1)).1:=by rw[hY];rcases(by omega:k=0∨k=1) with rfl|rfl<;>rfl
   have yB:wr.cell? ⟨w2.heap.size,k,none⟩=some (.int .i64 Y):=by
    rw[gu.o.cell k];rcases(by omega:k=0∨k=1) with rfl|rfl<;>simpa using qZ
   have k2:=iE.o.cell 2;have k3:=iE.o.cell 3;simp only[List.getElem?_toArray,List.getElem?_cons_zero,List.getElem?_cons_succ] at k2 k3;have HY:=Z hY;have yC:=Z tM;clear hY tM qZ;have qd:=Z (Aw.new wr #[.int .i64 x1,.int .i64 x2] 3);have eV:=Z (Below.pureAlloc wr (.cells #[.int .i64 x1,.int .i64 x2] 3));have fL:wr.heap.size+1≤(wr.alloc (.cells #[.int .i64 x1,.int .i64 x2] 3)).heap.size:=by simp
   have fc:=Z ((A3 (A3 A2)).same (A5 eV.o fun b hb=>by have:=hb.2;omega) Ho.o);have oA:=Z (iE.o.keep eV.o);have mO:=Z (gu.o.keep eV.o);have mP:=Z (Hbe.o.trans_pure eV.o (Nat.le_refl _));clear Ho iE gu Hbe eV;obtain⟨L,hL⟩:∃L,L=wr.heap.size:=⟨_,rfl⟩;rw[←hL] at qd hz fL;have HL:=Z hL;clear hL;go_wp2;rw[←HL.o];clear yB k2 k3;go_loopw [10,33] (fun _ i wr=>∃j:Nat,j≤2∧i=.int .i64 j∧Hid (A4 32 (A4 3 A7) (Iv (w.heap.size+1) w2.heap.size) wr (.slice (some ⟨G,0,none⟩) r cap) (FP m s (2*k+j)))∧Hid (Aw wr w.heap.size #[.int .i64 y1,.int .i64 y2,.int .i64 x1,.int .i64 x2] 65)∧Hid (Aw wr w2.heap.size #[.int .i64 y1,.int .i64 y2] 3)∧Hid (Aw wr L #[.int .i64 x1,.int .i64 x2] 3)∧Hid (Below w.heap.size w wr)∧L+1≤wr.heap.size) (fun _ i _=>2-(intOf i).toNat)
   case atStart=>exact⟨0,Nat.zero_le _,rfl,fc,oA,mO,qd,mP,fL⟩
   case round=>
    clear fc oA mO qd mP fL;obtain⟨j,hj,rfl,Ho,iE,gu,ej,Hbe,bT⟩:=hrel;by_cases bt:j<2
    ·obtain⟨X,hX⟩:∃X,X=(Gb s (2*k+j)).2:=⟨_,rfl⟩;have pQ:Y=(Gb s (2*k+j)).1:=by
      rcases(by omega:j=0∨j=1) with rfl|rfl
      ·exact HY.o
      ·exact yC.o
     have qe:=(Oc s aH bt).2;rw[Hx.o,←hX] at qe;have sG:X<c:=by rw[hX];exact(Km d7.o _).2
     have hcX:wr.cell? ⟨L,j,none⟩=some (.int .i64 X):=by
      rw[ej.o.cell j];rcases(by omega:j=0∨j=1) with rfl|rfl<;>simpa using qe
     have pR:=J8 hs d7.o (2*k+j);obtain⟨row,aG,aw,-⟩:=pR.row xC;obtain⟨q,cq,aM,-,hq,hqG,di,dz,lp,ap⟩:=AC Ho.o aG (by omega);have gN:=(dz X (by omega)).2;obtain⟨z,jy⟩:∃z,z=Al m Y X:=⟨_,rfl⟩;have ii:=AE hs Y X;have bB:Al (FP m s (2*k+j)) Y X=Al m Y X:=by
      have h:=Sn hs d7.o (2*k+j) (by omega);rwa[←pQ,←hX] at h
     have hrz:row[X]? =some z:=by
      rw[jy,←bB];unfold Al;rw[List.getD_eq_getElem?_getD (l:=FP m s (2*k+j)),aG];exact BE 0 (by show X<row.length;omega)
     have ke:=lp X z hrz;rw[←jy] at ii;have cJ:=Z (show A4 32 (A4 3 A7) (Iv (w.heap.size+1) w2.heap.size) (wr.setCell ⟨q,X,none⟩ (.int .i64 (1-z))) (.slice (some ⟨G,0,none⟩) r cap) (FP m s (2*k+(j+1))) from by
      have h:=ap wr (fun _ _=>rfl) X (1-z) (by omega) (BV.small (by omega) (by omega));have e:FP m s (2*k+(j+1))=(FP m s (2*k+j)).set Y (row.set X (1-z)):=by
       show K4 (FP m s (2*k+j)) (Gb s (2*k+j)).1 (Gb s (2*k+j)).2=_;rw[←pQ,←hX];unfold K4 setC;have bB:=Sn hs d7.o (2*k+j) (by omega);rw[←pQ,←hX] at bB;rw[bB,←jy,List.getD_eq_getElem?_getD,aG];rfl
      rw[e];exact h)
     have tN:q≠w.heap.size:=by have:=hq.1;omega
     have qf:q≠w2.heap.size:=by have:=hq.2;omega
     have qg:q≠L:=by have:=hq.2;omega
     have qh:=Z (iE.o.set_ne (g':=q) (j:=X) tN.symm (.int .i64 (1-z)));have qi:=Z (gu.o.set_ne (g':=q) (j:=X) qf.symm (.int .i64 (1-z)));have qj:=Z (ej.o.set_ne (g':=q) (j:=X) qg.symm (.int .i64 (1-z)));have gR:=Z (Hbe.o.setCell (p:=⟨q,X,none⟩) (by have:=hq.1;show w.heap.size≤q;omega) (.int .i64 (1-z)));rw[aw] at aM;clear hX pQ qe pR aG aw dz ap bB hrz lp jy Ho iE gu ej Hbe;go_wp2
     go_region
     all_goals go_wp2
     all_goals go_roundw
     all_goals first
      |(case measure=>simp[intOf];omega)
      |(case rel=>exact⟨j+1,by omega,by go_num,Z (by exact cJ.o),Z (by exact qh.o),Z (by exact qi.o),Z (by exact qj.o),Z ⟨gR.o.os,gR.o.tape,gR.o.output,gR.o.size,gR.o.block⟩,by first|exact bT|(simp;exact bT)|(rw[A9];exact bT)⟩)
    ·obtain rfl:j=2:=by omega
     go_wp2;go_roundw
     case rel=>exact⟨k+1,by omega,by go_num,Z (by have:=Ho.o;rwa[show 2*(k+1)=2*k+2 from by omega]),iE,gu,Hbe,by omega⟩
     case measure=>simp[intOf];omega
  ·obtain rfl:k=2:=by omega
   go_wp2;refine bodyPost_ret (v:=.tuple #[.slice (some ⟨G,0,none⟩) r cap,.bool true]) (by simp[results,Tryz.results37,go_sem]) rfl ?_;exact⟨_,rfl,by rw[←Rl];exact(A3 (A3 A2)).mono (fun b hb=>⟨by have:=hb.1;omega,by have:=hb.2;omega⟩) Ho.o,Hbe.o⟩
theorem KS(v v2:Value)(m g:List (List Int))(r c:Nat)(w:World)(hv:Ak w v m)(aW:Ak w v2 g)(hs:Ac r c m)(hs2:Ac r c g)(hr1:1≤r)(hr5:r≤5)(hc1:1≤c)(hc5:c≤5):Calls Tryz.prog 99 #[v,v2] w fun e w'=>e=.returned (.int .i64 (BG r c m g))∧Below w.heap.size w w':=by
 obtain⟨b,off,cp,rfl,hb,az⟩:=hv.cells hs hr1 hc1;obtain⟨b2,off2,cp2,rfl,au,lQ⟩:=aW.cells hs2 hr1 hc1;have fY:=Z az;have yE:=Z lQ;have Hv:=Z hv;have aj:=Z aW;have fd:=Ga c m g;have yF:=Z fd;clear az lQ hv aW fd;go_enter Tryz.func99,Tryz.ntmps99;go_wp2_with (fail);refine(Sg _ _ m g r c _ Hv.o aj.o hs hs2 hr1 hr5 hc1 hc5).mono ?_;rintro e w1 ⟨rfl,b1⟩;go_wp2;go_loopw [5,6,7,8,9,16] (fun n _ _ _ _ i wr=>∃k:Nat,k≤r∧i=.int .i64 k∧n=.int .i64 (BG k c m g)∧Hid (Below w.heap.size w wr)) (fun _ _ _ _ _ i _=>r-(intOf i).toNat)
 case atStart=>exact⟨0,Nat.zero_le _,rfl,rfl,b1⟩
 case round=>
  obtain⟨k,hk,rfl,rfl,Hb⟩:=hrel;have mQ:=(Ga c m g k).1;have jg:=(Ga c m g k).2;have yG:k*c≤25:=Nat.mul_le_mul (show k≤5 by omega) hc5;obtain⟨D,hD⟩:∃D,D=BG k c m g:=⟨_,rfl⟩;rw[←hD] at mQ jg⊢;have HD:=Z hD;clear hD;by_cases aH:k<r
  ·obtain⟨q,oq,cq,je,hq,jO⟩:=fY.o k aH;obtain⟨q2,oq2,cq2,xE,fo,xF⟩:=yE.o k aH;have qX:=(Hb.o.cell (p:=⟨b,off+k,none⟩) hb).trans je;have Hmx:=Z jO;have Hgx:=Z xF;have Hgk:=Z xE;clear je jO xF xE;go_wp2;clear qX;go_loopw [5,8,9,23] (fun n _ _ i wr=>∃x:Nat,x≤c∧i=.int .i64 x∧n=.int .i64 (D+D5 x m g k)∧Hid (Below w.heap.size w wr)) (fun _ _ _ i _=>c-(intOf i).toNat)
   case atStart=>exact⟨0,Nat.zero_le _,rfl,by simp[D5,rs],Hb⟩
   case round=>
    clear Hb;obtain⟨x,hx,rfl,rfl,Hb⟩:=hrel;have kh:=(IK m g k x).1;have hr1:=(IK m g k x).2;obtain⟨E,hE⟩:∃E,E=D5 x m g k:=⟨_,rfl⟩;rw[←hE] at kh hr1⊢;have HE:=Z hE;clear hE;by_cases bt:x<c
    ·have pS:=(Hb.o.cell (p:=⟨q,oq+x,none⟩) hq).trans (Hmx.o x bt);have hgk':=(Hb.o.cell (p:=⟨b2,off2+k,none⟩) au).trans Hgk.o;have hgc:=(Hb.o.cell (p:=⟨q2,oq2+x,none⟩) fo).trans (Hgx.o x bt);have aJ:=Z (show D5 (x+1) m g k=D5 x m g k+if Al m k x=Al g k x then 0 else 1 from rfl);obtain⟨z1,bZ⟩:∃z,z=Al m k x:=⟨_,rfl⟩;obtain⟨z2,bT⟩:∃z,z=Al g k x:=⟨_,rfl⟩;rw[←bZ] at pS aJ;rw[←bT] at hgc aJ;clear bZ bT;by_cases hz:z1=z2
     ·have aO:(z1 !=z2)=false:=by simp[hz]
      have eW:=Z (show D5 (x+1) m g k=E from by rw[aJ.o,if_pos hz,←HE.o];omega);clear hz;go_wp2;go_roundw
      case rel=>exact⟨x+1,by omega,by go_num,by rw[eW.o],Hb⟩
      case measure=>simp[intOf];omega
     ·have aO:(z1 !=z2)=true:=by simp[hz]
      have eW:=Z (show D5 (x+1) m g k=E+1 from by rw[aJ.o,if_neg hz,←HE.o]);clear hz;go_wp2;go_roundw
      case rel=>exact⟨x+1,by omega,by go_num,by rw[eW.o,Int.add_assoc],Hb⟩
      case measure=>simp[intOf];omega
    ·obtain rfl:x=c:=by omega
     have aJ:=Z (show BG (k+1) x m g=D+E from by rw[HD.o,HE.o];rfl);go_wp2;go_roundw
     case rel=>exact⟨k+1,by omega,by go_num,by rw[aJ.o],Hb⟩
     case measure=>simp[intOf];omega
  ·obtain rfl:k=r:=by omega
   go_wp2
   go_ret
   exact⟨CM HD.o,Hb.o⟩
def swG(m:List (List Int))(y1 y2 x1 x2:Int):Bool:=Af m&&D0 m.length (m.headD []).length m y1 y2 x1 x2
def IT(m:List (List Int))(y1 y2 x1 x2:Int):Option (List (List Int)):=if swG m y1 y2 x1 x2=true then some (AQ m (y1.toNat,y2.toNat,x1.toNat,x2.toNat)) else none
theorem JQ{m:List (List Int)}{r c:Nat}(hs:Ac r c m)(hr:1≤r)(h:Af m=true)(y1 y2 x1 x2:Int):swG m y1 y2 x1 x2=D0 r c m y1 y2 x1 x2:=by
 obtain⟨e1,e2⟩:=IB hs hr;rw[swG,h,e1,e2];rfl
theorem RE{r c:Nat}{m:List (List Int)}{y1 y2 x1 x2:Int}(h:D0 r c m y1 y2 x1 x2=true):∃s:Sw,y1=s.y1∧y2=s.y2∧x1=s.x1∧x2=s.x2∧CB r c m s∧(y1.toNat,y2.toNat,x1.toNat,x2.toNat)=s:=by
 unfold D0 at h;rw[Bool.and_eq_true,Bool.and_eq_true,Fs,Fs] at h;obtain⟨h1,h2,h3⟩:=h;refine⟨(y1.toNat,y2.toNat,x1.toNat,x2.toNat),?_,?_,?_,?_,of_decide_eq_true h3,rfl⟩
 ·show y1=((y1.toNat:Nat):Int);omega
 ·show y2=((y2.toNat:Nat):Int);omega
 ·show x1=((x1.toNat:Nat):Int);omega
 ·show x2=((x2.toNat:Nat):Int);omega
theorem Xq(v:Value)(m:List (List Int))(y1 y2 x1 x2:Int)(w:World)(hv:Ak w v m):Calls Tryz.prog 93 #[v,SwV y1 y2 x1 x2] w fun e w'=>e=.returned (.bool (swG m y1 y2 x1 x2))∧Below w.heap.size w w':=by
 cases aD:Af m
 ·have Hr:=Z (show swG m y1 y2 x1 x2=false from by simp[swG,aD]);have H1:=Z (QL aD y1 x1);have aA:=Below.pureAlloc w (.cells #[.int .i64 y1,.int .i64 y2,.int .i64 x1,.int .i64 x2] 65);have dN:=Z (hv.keep aA);obtain⟨a,cap0,rfl,-⟩:=id hv;clear aD hv;go_enter Tryz.func93,Tryz.ntmps93;go_wp2_with (fail);refine(UK _ _ _ _ _ dN.o).mono ?_;rintro e w' ⟨rfl,rfl⟩;rw[H1.o];go_wp2
  go_ret
  exact⟨AI Hr.o.symm,aA⟩
 ·obtain⟨r,c,hr1,hr5,hc1,hc5,hs⟩:=Ad aD;rw[JQ hs hr1 aD];exact Ni v m r c y1 y2 x1 x2 w hv hs hr1 hr5 hc1 hc5
theorem Qc(v:Value)(m:List (List Int))(y1 y2 x1 x2:Int)(w:World)(hv:Ak w v m):Calls Tryz.prog 208 #[v,SwV y1 y2 x1 x2] w fun e w'=>e=.returned (.bool (swG m y1 y2 x1 x2))∧Below w.heap.size w w':=by
 cases aD:Af m
 ·have Hr:=Z (show swG m y1 y2 x1 x2=false from by simp[swG,aD]);have H1:=Z (QL aD y1 x1);have aA:=Below.pureAlloc w (.cells #[.int .i64 y1,.int .i64 y2,.int .i64 x1,.int .i64 x2] 65);have dN:=Z (hv.keep aA);obtain⟨a,cap0,rfl,-⟩:=id hv;clear aD hv;go_enter Tryz.func208,Tryz.ntmps208;go_wp2_with (fail);refine(UP _ _ _ _ _ dN.o).mono ?_;rintro e w' ⟨rfl,rfl⟩;rw[H1.o];go_wp2
  go_ret
  exact⟨AI Hr.o.symm,aA⟩
 ·obtain⟨r,c,hr1,hr5,hc1,hc5,hs⟩:=Ad aD;rw[JQ hs hr1 aD];exact SE v m r c y1 y2 x1 x2 w hv hs hr1 hr5 hc1 hc5
theorem Ss(v:Value)(m:List (List Int))(y1 y2 x1 x2:Int)(w:World)(hv:Ak w v m):Calls Tryz.prog 37 #[v,SwV y1 y2 x1 x2] w (M0 w (IT m y1 y2 x1 x2)):=by
 cases h1:swG m y1 y2 x1 x2
 ·have Hr:=Z (show IT m y1 y2 x1 x2=none from by simp[IT,h1]);have H1:=Z h1;have aA:=Below.pureAlloc w (.cells #[.int .i64 y1,.int .i64 y2,.int .i64 x1,.int .i64 x2] 65);have dN:=Z (hv.keep aA);obtain⟨a,cap0,rfl,-⟩:=id hv;clear h1 hv;go_enter Tryz.func37,Tryz.ntmps37;go_wp2_with (fail);refine(Xq _ _ _ _ _ _ _ dN.o).mono ?_;rintro e w' ⟨rfl,b2⟩;rw[H1.o];go_wp2
  go_ret2
  exact⟨_,by rw[Hr.o];rfl,by rw[Hr.o];exact A4.nil _ _ _ _,aA.trans_pure b2 (Nat.le_refl _)⟩
 ·have aD:Af m=true:=by unfold swG at h1;rw[Bool.and_eq_true] at h1;exact h1.1
  obtain⟨r,c,hr1,hr5,hc1,hc5,hs⟩:=Ad aD;have h2:=h1;rw[JQ hs hr1 aD] at h2;rw[show IT m y1 y2 x1 x2=some (AQ m (y1.toNat,y2.toNat,x1.toNat,x2.toNat)) from by simp[IT,h1]];obtain⟨s,rfl,rfl,rfl,rfl,jK,e⟩:=RE h2;rw[e];exact Jj v m r c s w hv hs hr1 hr5 hc1 hc5 jK
theorem Tb(v:Value)(m:List (List Int))(y1 y2 x1 x2:Int)(w:World)(hv:Ak w v m):Calls Tryz.prog 148 #[v,SwV y1 y2 x1 x2] w (M0 w (IT m y1 y2 x1 x2)):=by
 have aA:=Below.pureAlloc w (.cells #[.int .i64 y1,.int .i64 y2,.int .i64 x1,.int .i64 x2] 65);have dN:=Z (hv.keep aA);cases h1:swG m y1 y2 x1 x2
 ·have Hr:=Z (show IT m y1 y2 x1 x2=none from by simp[IT,h1]);have H1:=Z h1;obtain⟨a,cap0,rfl,-⟩:=id hv;clear h1 hv;go_enter Tryz.func148,Tryz.ntmps148;go_wp2_with (fail);refine(Qc _ _ _ _ _ _ _ dN.o).mono ?_;rintro e w' ⟨rfl,b2⟩;rw[H1.o];go_wp2
  go_ret2
  exact⟨_,by rw[Hr.o];rfl,by rw[Hr.o];exact A4.nil _ _ _ _,aA.trans_pure b2 (Nat.le_refl _)⟩
 ·have aD:Af m=true:=by unfold swG at h1;rw[Bool.and_eq_true] at h1;exact h1.1
  obtain⟨r,c,hr1,hr5,hc1,hc5,hs⟩:=Ad aD;have h2:=h1;rw[JQ hs hr1 aD] at h2;have Hr:=Z (show IT m y1 y2 x1 x2=some (AQ m (y1.toNat,y2.toNat,x1.toNat,x2.toNat)) from by simp[IT,h1]);have H1:=Z h1;obtain⟨s,d5,hy2,cM,hx2,jK,e⟩:=RE h2;have Hap:=Z (fun(v:Value) (w:World) (hv:Ak w v m)=>R9 v m r c s w hv hs hr1 hr5 hc1 hc5 jK);rw[←d5,←hy2,←cM,←hx2] at Hap;rw[e] at Hr;obtain⟨a,cap0,rfl,-⟩:=id hv;clear h1 hv h2 d5 hy2 cM hx2 aD jK e;have Hk:=Z (Aw.new w #[.int .i64 y1,.int .i64 y2,.int .i64 x1,.int .i64 x2] 65);go_enter Tryz.func148,Tryz.ntmps148;go_wp2_with (fail);refine(Qc _ _ _ _ _ _ _ dN.o).mono ?_;rintro e w2 ⟨rfl,b2⟩;rw[H1.o];have dT:=Z (Hk.o.keep b2);have aj:=Z (dN.o.keep b2);have bj:=Z (aA.trans_pure b2 (Nat.le_refl _));have k0:=dT.o.cell 0;have k1:=dT.o.cell 1;have k2:=dT.o.cell 2;have k3:=dT.o.cell 3;simp only[List.getElem?_toArray,List.getElem?_cons_zero,List.getElem?_cons_succ] at k0 k1 k2 k3;clear b2;go_wp2_with (fail);refine(Hap.o _ _ aj.o).mono ?_;rintro e w3 ⟨v3,rfl,o3,b3⟩;have cn:=Z o3;obtain⟨t1,t2,t3,rfl⟩:=o3.shape;have bM:=Z (bj.o.trans_pure b3 (Nat.le_refl _));have hz:=bj.o.size;clear o3 b3;go_wp2
  go_ret2
  refine⟨_,by rw[Hr.o];rfl,?_,bM.o⟩;rw[Hr.o];exact(A3 (A3 A2)).mono (fun b hb=>⟨by have:=hb.1;omega,hb.2⟩) cn.o
