/- Base. -/
import Derived.Test.YthmocomfjgmjoaaGreatDoorQ09
import Derived.Test.YthmocomfjgmjoaaGreatDoorQ08
import Derived.Test.YthmocomfjgmjoaaGreatDoorQ06
set_option maxHeartbeats 2000000
namespace Go.Proofs.YthmocomfjgmjoaaGreatDoor
open Go.RowKit Go.Proofs.Tryz
variable {c:Nat}{g m:I}{r:Nat}{s:Sw}
def Ga(s:Sw):Nat→Nat×Nat
 |0=>(s.y1,s.x1)
 |1=>(s.y1,s.x2)
 |2=>(s.y2,s.x1)
 |_=>(s.y2,s.x2)
def FX(g:I)(s:Sw):Nat→I
 |0=>g
 |n+1=>KA (FX g s n) (Ga s n).1 (Ga s n).2
theorem RO(g:I)(s:Sw):FX g s 4=Ba g s:=rfl
theorem Lq(hs:CL r c g s)(n:Nat):(Ga s n).1<r∧(Ga s n).2<c:=by
 obtain⟨h1,h2,h3,h4,-⟩:=hs
 match n with
 |0=>exact⟨Nat.lt_trans h1 h2,Nat.lt_trans h3 h4⟩
 |1=>exact⟨Nat.lt_trans h1 h2,h4⟩
 |2=>exact⟨h2,Nat.lt_trans h3 h4⟩
 |_+3=>exact⟨h2,h4⟩
theorem JC(h:Ax r c g)(hs:CL r c g s):∀n,Ax r c (FX g s n)
 |0=>h
 |n+1=>En (JC h hs n) (Lq hs n).1
theorem SQ(h:Ax r c g)(hs:CL r c g s):∀n,n<4→AJ (FX g s n) (Ga s n).1 (Ga s n).2=AJ g (Ga s n).1 (Ga s n).2:=by
 have dY:=hs;obtain⟨h1,h2,h3,h4,-⟩:=dY;have key:∀n k,k≤n→n<4→AJ (FX g s k) (Ga s n).1 (Ga s n).2=AJ g (Ga s n).1 (Ga s n).2:=by
  intro n k;induction k with
  |zero=>intro _ _;rfl
  |succ k ih=>
   intro hk hn;show AJ (KA (FX g s k) (Ga s k).1 (Ga s k).2) _ _=_;rw[Mk (JC h hs k) (Lq hs k).1 (Lq hs k).2,if_neg,ih J hn];obtain⟨a,b,x,y⟩:=s;have h1:a<b:=h1;have h3:x<y:=h3;rcases(by omega:n=1∧k=0∨n=2∧k=0∨n=2∧k=1∨n=3∧k=0∨n=3∧k=1∨n=3∧k=2)with⟨rfl,rfl⟩|⟨rfl,rfl⟩|⟨rfl,rfl⟩|⟨rfl,rfl⟩|⟨rfl,rfl⟩|⟨rfl,rfl⟩<;>(show ¬(_=_∧_=_))<;>simp only[Ga,Sw.y1,Sw.y2,Sw.x1,Sw.x2]<;>omega
 exact fun n hn=>key n n (A2 _) hn
def A4o(s:Sw):U:=[s.y1,s.y2]
def A4r(s:Sw):U:=[s.x1,s.x2]
theorem P5(s:Sw){k j:Nat}(hk:k<2)(hj:j<2):(A4o s)[k]? =some ((Ga s (2*k+j)).1:Int)∧(A4r s)[j]? =some ((Ga s (2*k+j)).2:Int):=by
 rcases(by omega:k=0∧j=0∨k=0∧j=1∨k=1∧j=0∨k=1∧j=1)with⟨rfl,rfl⟩|⟨rfl,rfl⟩|⟨rfl,rfl⟩|⟨rfl,rfl⟩<;>exact⟨rfl,rfl⟩
theorem S9(v:Value)(m:I)(r c:Nat)(s:Sw)(w:World)(hv:AI w v m)(hs:Ax r c m)(hr1:1≤r)(hr5:r≤5)(hc1:1≤c)(hc5:c≤5)(hok:CL r c m s):Calls prog 209 #[v,SwV s.y1 s.y2 s.x1 s.x2] w (N7 32 (Ag 3 Ap) w (Ba m s)):=by
 obtain⟨b,off,cp,rfl,hb,ah⟩:=hv.cells hs hr1 hc1;have fL:=Z ah;have aA:=Below.qab w (.cells #[.int .i64 s.y1,.int .i64 s.y2,.int .i64 s.x1,.int .i64 s.x2] 65);have dD:=Z (hv.keep aA);have Hk:=Z (B9.new w #[.int .i64 s.y1,.int .i64 s.y2,.int .i64 s.x1,.int .i64 s.x2] 65);have kX:=Z (show m.length≤1048576 from by have:=hs.1;omega);have HR:=Z (show ∀p∈m,p.length≤1048576 from fun p hp=>by have:=(hs.2 p hp).1;omega);obtain⟨y1,dU⟩:∃y1,y1=s.y1:=⟨_,rfl⟩;obtain⟨y2,hy2⟩:∃y2,y2=s.y2:=⟨_,rfl⟩;obtain⟨x1,bj⟩:∃x1,x1=s.x1:=⟨_,rfl⟩;obtain⟨x2,dZ⟩:∃x2,x2=s.x2:=⟨_,rfl⟩;rw[←dU,←hy2,←bj,←dZ]at Hk dD aA⊢;have Hy:Hid (A4o s=[(y1:Int),y2]):=Z (by rw[dU,hy2];rfl);have Hx:Hid (A4r s=[(x1:Int),x2]):=Z (by rw[bj,dZ];rfl);clear ah dU hy2 bj dZ;go_enter func209,ntmps209;go_wp2_with fail;refine(D5 _ m _ dD.o kX.o HR.o).mono ?_;rintro e w2 ⟨v2,rfl,o2,b2⟩;have dW:=Z (Hk.o.keep b2);have cI:Below w.heap.size w w2:=aA.qaa b2 (A2 _);have bF:=hs.1;obtain⟨G,cap,rfl,hG,ae,hGl,-⟩:=o2.qac J;rw[bF]at o2 ae⊢;have bL:(w.alloc (.cells #[.int .i64 y1,.int .i64 y2,.int .i64 x1,.int .i64 x2] 65)).heap.size=w.heap.size+1:=Jj;rw[bL]at o2;have bQ:w.heap.size+1≤w2.heap.size:=by rw[←bL];exact b2.size
 have k0:=dW.o.cell 0;have k1:=dW.o.cell 1;have k2:=dW.o.cell 2;have k3:=dW.o.cell 3;simp only[Av,Aw,AB]at k0 k1 k2 k3;have dB:=Z o2;have jY:=Z (B9.new w2 #[.int .i64 y1,.int .i64 y2] 3);have bN:=Z (Below.qab w2 (.cells #[.int .i64 y1,.int .i64 y2] 3));have hGa:w.heap.size+1≤G:=by have:=hG.1;rw[bL]at this;exact this
 have er:w2.heap.size+1≤(w2.alloc (.cells #[.int .i64 y1,.int .i64 y2] 3)).heap.size:=Jj;have cY:=Z ((Ab (Ab A8)).same (Ac bN.o fun b hb=>hb.2) dB.o);have iD:=Z (dW.o.keep bN.o);have jl:=Z (cI.qaa bN.o (A2 _));clear o2 bF hG bL dB bN cI dW b2 Hk;have dP:=Z hok;clear hok;go_wp2;clear k0 k1 k2 k3;go_loopw [7,9,18] (fun _ _ i wr=>∃k:Nat,k≤2∧i=.int .i64 k∧Hid (Ag 32 (Ag 3 Ap) (Iv (w.heap.size+1) w2.heap.size) wr (.slice (some ⟨G,0,none⟩) r cap) (FX m s (2*k)))∧Hid (B9 wr w.heap.size #[.int .i64 y1,.int .i64 y2,.int .i64 x1,.int .i64 x2] 65)∧Hid (B9 wr w2.heap.size #[.int .i64 y1,.int .i64 y2] 3)∧Hid (Below w.heap.size w wr)∧w2.heap.size+1≤wr.heap.size) (fun _ _ i _=>2-(intOf i).toNat);exact⟨0,A7 _,rfl,cY,iD,jY,jl,er⟩;clear cY iD jY jl er;obtain⟨k,hk,rfl,Ho,gf,fb,Hbe,hz⟩:=hrel;by_cases aF:k<2
 ·obtain⟨Y,hY⟩:∃Y,Y=(Ga s (2*k+0)).1:=⟨_,rfl⟩;have qK:=(P5 s (j:=0) aF Jq).1;rw[Hy.o,←hY]at qK;have xI:Y<r:=by rw[hY];exact(Lq dP.o _).1
  have tL:Y=(Ga s (2*k+1)).1:=by rw[hY];rcases(by omega:k=0∨k=1)with rfl|rfl<;>rfl
  have yR:wr.cell? ⟨w2.heap.size,k,none⟩=some (.int .i64 Y):=by
   rw[fb.o.cell k];rcases(by omega:k=0∨k=1)with rfl|rfl<;>simpa using qK
  have k2:=gf.o.cell 2;have k3:=gf.o.cell 3;simp only[Av,Aw,AB]at k2 k3;have HY:=Z hY;have yS:=Z tL;clear hY tL qK;have qL:=Z (B9.new wr #[.int .i64 x1,.int .i64 x2] 3);have eN:=Z (Below.qab wr (.cells #[.int .i64 x1,.int .i64 x2] 3));have er:wr.heap.size+1≤(wr.alloc (.cells #[.int .i64 x1,.int .i64 x2] 3)).heap.size:=Jj;have fQ:=Z ((Ab (Ab A8)).same (Ac eN.o fun b hb=>by have:=hb.2;omega) Ho.o);have ni:=Z (gf.o.keep eN.o);have mC:=Z (fb.o.keep eN.o);have mD:=Z (Hbe.o.qaa eN.o (A2 _));clear Ho gf fb Hbe eN;obtain⟨L,hL⟩:∃L,L=wr.heap.size:=⟨_,rfl⟩;rw[←hL]at qL hz er;have HL:=Z hL;clear hL;go_wp2;rw[←HL.o];clear yR k2 k3;go_loopw [9,28] (fun _ i wr=>∃j:Nat,j≤2∧i=.int .i64 j∧Hid (Ag 32 (Ag 3 Ap) (Iv (w.heap.size+1) w2.heap.size) wr (.slice (some ⟨G,0,none⟩) r cap) (FX m s (2*k+j)))∧Hid (B9 wr w.heap.size #[.int .i64 y1,.int .i64 y2,.int .i64 x1,.int .i64 x2] 65)∧Hid (B9 wr w2.heap.size #[.int .i64 y1,.int .i64 y2] 3)∧Hid (B9 wr L #[.int .i64 x1,.int .i64 x2] 3)∧Hid (Below w.heap.size w wr)∧L+1≤wr.heap.size) (fun _ i _=>2-(intOf i).toNat);exact⟨0,A7 _,rfl,fQ,ni,mC,qL,mD,er⟩;clear fQ ni mC qL mD er;obtain⟨j,hj,rfl,Ho,gf,fb,e8,Hbe,bQ⟩:=hrel;by_cases bW:j<2
  ·obtain⟨X,hX⟩:∃X,X=(Ga s (2*k+j)).2:=⟨_,rfl⟩;have pE:Y=(Ga s (2*k+j)).1:=by
    rcases(by omega:j=0∨j=1)with rfl|rfl
    ·exact HY.o
    ·exact yS.o
   have qM:=(P5 s aF bW).2;rw[Hx.o,←hX]at qM;have sD:X<c:=by rw[hX];exact(Lq dP.o _).2
   have hcX:wr.cell? ⟨L,j,none⟩=some (.int .i64 X):=by
    rw[e8.o.cell j];rcases(by omega:j=0∨j=1)with rfl|rfl<;>simpa using qM
   have pF:=JC hs dP.o (2*k+j);obtain⟨row,aD,aj,-⟩:=pF.row xI;obtain⟨q,cq,aH,-,hq,hqG,dj,eX,-,ai⟩:=AV Ho.o aD J;obtain⟨⟨o0,kv⟩,g8⟩:=eX X J;obtain⟨br,offr,cpr,hmY,dL,xJ⟩:=fL.o Y xI;have xJ:=xJ X sD;have hmY':=(Hbe.o.cell (p:=⟨b,off+Y,none⟩) hb).trans hmY;have yT:=(Hbe.o.cell (p:=⟨br,offr+X,none⟩) dL).trans xJ;have ik:=AS hs Y X;obtain⟨z,jm⟩:∃z,z=AJ m Y X:=⟨_,rfl⟩;rw[←jm]at yT ik;have bq:=Z (show Ag 32 (Ag 3 Ap) (Iv (w.heap.size+1) w2.heap.size) (wr.setCell ⟨q,X,none⟩ (.int .i64 (1-z))) (.slice (some ⟨G,0,none⟩) r cap) (FX m s (2*k+(j+1)))from by
    have h:=ai wr (fun _ _=>rfl) X (1-z) J (Cc.small J J);have e:FX m s (2*k+(j+1))=(FX m s (2*k+j)).set Y (row.set X (1-z)):=by
     show KA (FX m s (2*k+j)) (Ga s (2*k+j)).1 (Ga s (2*k+j)).2=_;rw[←pE,←hX];unfold KA setC;have bA:=SQ hs dP.o (2*k+j) J;rw[←pE,←hX]at bA;rw[bA,←jm,List.getD_eq_getElem?_getD,aD];rfl
    rw[e];exact h)
   have tM:q≠w.heap.size:=by have:=hq.1;omega
   have qN:q≠w2.heap.size:=by have:=hq.2;omega
   have qO:q≠L:=by have:=hq.2;omega
   have qP:=Z (gf.o.qah (g':=q) (j:=X) tM.symm (.int .i64 (1-z)));have qQ:=Z (fb.o.qah (g':=q) (j:=X) qN.symm (.int .i64 (1-z)));have qR:=Z (e8.o.qah (g':=q) (j:=X) qO.symm (.int .i64 (1-z)));have fx:=Z (Hbe.o.setCell (p:=⟨q,X,none⟩) (by have:=hq.1;show w.heap.size≤q;omega) (.int .i64 (1-z)));rw[aj]at aH;clear hX pE qM pF aD aj eX ai hmY xJ jm Ho gf fb e8 Hbe;go_wp2
   go_region
   all_goals go_wp2
   all_goals go_roundw
   all_goals first
    |(case measure=>exact Jv)
    |(case rel=>exact⟨j+1,J,by go_num,Z (by exact bq.o),Z (by exact qP.o),Z (by exact qQ.o),Z (by exact qR.o),Z ⟨fx.o.os,fx.o.tape,fx.o.output,fx.o.size,fx.o.block⟩,by first|exact bQ|(simp;exact bQ)|(rw[As];exact bQ)⟩)
  ·obtain rfl:j=2:=J;go_wp2;go_roundw;exact⟨k+1,J,by go_num,Z (by have:=Ho.o;rwa[show 2*(k+1)=2*k+2 from by omega]),gf,fb,Hbe,J⟩;exact Jv
 ·obtain rfl:k=2:=J;go_wp2
  go_ret
  exact⟨_,rfl,by rw[←RO];exact(Ab (Ab A8)).mono (fun b hb=>⟨by have:=hb.1;omega,by have:=hb.2;omega⟩) Ho.o,Hbe.o⟩
theorem ZC:∀r,r<5→∀c,c<5→(V3 r c).length≤36:=by decide+kernel
theorem Ii(hr:r≤4)(hc:c≤4)(g:I):(Bj r c g).length≤36:=Aj (List.length_filter_le _ _) (ZC r J c J)
theorem TZ(v v2:Value)(xs ys:U)(w:World)(hv:Au w v xs)(aS:Au w v2 ys)(hok:AT xs ys=true):Calls prog 92 #[v,v2] w fun e w'=>e=.returned (.int .i64 (BB xs ys).length)∧Below w.heap.size w w':=by
 have Hv:=Z hv;have aY:=Z aS;have aR:=Z hok;obtain⟨a,cap,rfl,-⟩:=hv;obtain⟨a2,cap2,rfl,-⟩:=aS;clear hok;go_enter func92,ntmps92;go_wp2_with fail;refine(El _ _ _ _ _ Hv.o aY.o).mono ?_;rintro e w1 ⟨v1,rfl,o1,b1⟩;rw[aR.o];rw[show Bt xs ys=BB xs ys from by unfold Bt;rw[aR.o];rfl]at o1;obtain⟨p1,p2,p3,rfl⟩:=o1.shape;have hl:=o1.qan.len;subst hl;clear o1;go_wp2
 go_ret
 exact⟨rfl,b1⟩
theorem SW(v v2:Value)(m g:I)(r c:Nat)(w:World)(hv:AI w v m)(aS:AI w v2 g)(hs:Ax r c m)(hs2:Ax r c g)(hr1:1≤r)(hr5:r≤5)(hc1:1≤c)(hc5:c≤5):Calls prog 98 #[v,v2] w fun e w'=>e=.returned (.bool true)∧Below w.heap.size w w':=by
 have aD:=fun {q:I} (h:Ax r c q)=>h.row (y:=0) J;obtain⟨r1,hr1',eJ,-⟩:=aD hs;obtain⟨r2,hr2',fl,-⟩:=aD hs2;obtain⟨b,off,cp,rfl,hb,-⟩:=hv.qac (by have:=hs.1;omega);obtain⟨b2,off2,cp2,rfl,af,-⟩:=aS.qac (by have:=hs2.1;omega);obtain⟨u,aW,hu⟩:=Sl.at hv hr1';obtain⟨u2,dw,eO⟩:=Sl.at aS hr2';obtain⟨a1,k1,rfl,-⟩:=hu;obtain⟨a2,k2,rfl,-⟩:=eO;rw[AF,eJ]at aW;rw[AF,fl]at dw;have bF:=hs.1;have bz:=hs2.1;rw[bF]at hv⊢;rw[bz]at aS⊢;have fE:=Z (show ∀n,Calls prog 84 #[.slice (some ⟨b,off,none⟩) r cp] (w.drewN n) fun e w'=>e=.returned (.bool true)∧w'=w.drewN n from fun n=>(B8 _ m (w.drewN n) (AI.keep hv (below_drewN (A6 _ _) n))).mono fun e w' ⟨he,hw⟩=>⟨by rw[he,hs.ok hr1 hr5 hc1 hc5],hw.symm⟩);have iE:=Z (show ∀n,Calls prog 84 #[.slice (some ⟨b2,off2,none⟩) r cp2] (w.drewN n) fun e w'=>e=.returned (.bool true)∧w'=w.drewN n from fun n=>(B8 _ g (w.drewN n) (AI.keep aS (below_drewN (A6 _ _) n))).mono fun e w' ⟨he,hw⟩=>⟨by rw[he,hs2.ok hr1 hr5 hc1 hc5],hw.symm⟩);clear aD hr1' hr2' eJ fl bF bz hv aS;go_enter func98,ntmps98;go_wp2;go_quiet ((first|(go_at_call 84;with_reducible exact Calls.quiet_of_same (fE.o _))|(go_at_call 84;with_reducible exact Calls.quiet_of_same (iE.o _))));go_wp2
 go_ret
 exact⟨rfl,below_drewN (A6 _ _) _⟩
theorem YH(v v2:Value)(m g:I)(r c:Nat)(w:World)(hv:AI w v m)(aS:AI w v2 g)(hs:Ax r c m)(hs2:Ax r c g)(hr1:1≤r)(hr5:r≤5)(hc1:1≤c)(hc5:c≤5)(e1:Ae m=Ae g)(e2:Al m=Al g):Calls prog 160 #[v,v2] w fun e w'=>e=.returned (.bool true)∧Below w.heap.size w w':=by
 have Hv:=Z hv;have aY:=Z aS;obtain⟨a,cap,rfl,-⟩:=hv;obtain⟨a2,cap2,rfl,-⟩:=aS;have E1:=Z e1;have E2:=Z e2;clear e1 e2;go_enter func160,ntmps160;go_wp2_with fail;refine(SW _ _ m g r c _ Hv.o aY.o hs hs2 hr1 hr5 hc1 hc5).mono ?_;rintro e w1 ⟨rfl,b1⟩;go_wp2_with fail;refine(Ei _ _ _ (Hv.o.keep b1)).mono ?_;rintro e w2 ⟨v3,rfl,o3,b2⟩;have cI:=b1.qaa b2 (A2 _);have cY:=Z o3.ints;clear o3;go_wp2_with fail;refine(Ei _ _ _ (aY.o.keep cI)).mono ?_;rintro e w3 ⟨v4,rfl,o4,b3⟩;have di:=cI.qaa b3 (A2 _);have fQ:=Z o4.ints;clear o4;go_wp2_with fail;refine(MV _ _ _ _ _ (cY.o.keep b3) fQ.o).mono ?_;rintro e w4 ⟨rfl,n4,hw4⟩;have b4:Below w3.heap.size w3 w4:=by rw[hw4];exact below_drewN (A6 _ _) n4
 clear hw4;rw[decide_eq_true E1.o];have eu:=di.qaa b4 (A2 _);go_wp2_with fail;refine(CQ 34 (.inl rfl) _ _ _ (Hv.o.keep eu)).mono ?_;rintro e w5 ⟨v5,rfl,o5,b5⟩;have fD:=eu.qaa b5 (A2 _);have ge:=Z o5.ints;clear o5;go_wp2_with fail;refine(CQ 34 (.inl rfl) _ _ _ (aY.o.keep fD)).mono ?_;rintro e w6 ⟨v6,rfl,o6,b6⟩;have jA:=fD.qaa b6 (A2 _);have lB:=Z o6.ints;clear o6;go_wp2_with fail;refine(MV _ _ _ _ _ (ge.o.keep b6) lB.o).mono ?_;rintro e w7 ⟨rfl,n7,hw7⟩;have b7:Below w6.heap.size w6 w7:=by rw[hw7];exact below_drewN (A6 _ _) n7
 clear hw7;rw[decide_eq_true E2.o];have jW:=jA.qaa b7 (A2 _);go_wp2
 go_ret
 exact⟨rfl,jW⟩
def A20(w:World)(g:I):Ending→World→Prop:=fun e w'=>∃v',e=.returned (.tuple #[v',.bool true])∧Ag 32 (Ag 3 Ap) (Iv w.heap.size w'.heap.size) w' v' g∧Below w.heap.size w w'
def Dn(c:Nat)(g h:I)(i:Nat):Int:=rs c (fun j=>if AJ g i j=AJ h i j then 0 else 1)
theorem IQ(g h:I)(i:Nat):∀c,0≤Dn c g h i∧Dn c g h i≤c:=by
 intro c;induction c with
 |zero=>simp[Dn,rs]
 |succ c ih=>
  have e:Dn (c+1) g h i=Dn c g h i+if AJ g i c=AJ h i c then 0 else 1:=rfl;rw[e]
  split<;>omega
theorem Gf(c:Nat)(g h:I):∀r,0≤BR r c g h∧BR r c g h≤((r*c:Nat):Int):=by
 intro r;induction r with
 |zero=>simp[BR,rs]
 |succ r ih=>
  have e:BR (r+1) c g h=BR r c g h+Dn c g h r:=rfl;have:=IQ g h r c;rw[e,Nat.succ_mul];omega
theorem K9(v:Value)(m:I)(r c:Nat)(s:Sw)(w:World)(hv:AI w v m)(hs:Ax r c m)(hr1:1≤r)(hr5:r≤5)(hc1:1≤c)(hc5:c≤5)(hok:CL r c m s):Calls prog 37 #[v,SwV s.y1 s.y2 s.x1 s.x2] w (A20 w (Ba m s)):=by
 obtain⟨b,off,cp,rfl,hb,ah⟩:=hv.cells hs hr1 hc1;have fL:=Z ah;have aA:=Below.qab w (.cells #[.int .i64 s.y1,.int .i64 s.y2,.int .i64 s.x1,.int .i64 s.x2] 65);have dD:=Z (hv.keep aA);have Hk:=Z (B9.new w #[.int .i64 s.y1,.int .i64 s.y2,.int .i64 s.x1,.int .i64 s.x2] 65);have kX:=Z (show m.length≤1048576 from by have:=hs.1;omega);have HR:=Z (show ∀p∈m,p.length≤1048576 from fun p hp=>by have:=(hs.2 p hp).1;omega);obtain⟨y1,dU⟩:∃y1,y1=s.y1:=⟨_,rfl⟩;obtain⟨y2,hy2⟩:∃y2,y2=s.y2:=⟨_,rfl⟩;obtain⟨x1,bj⟩:∃x1,x1=s.x1:=⟨_,rfl⟩;obtain⟨x2,dZ⟩:∃x2,x2=s.x2:=⟨_,rfl⟩;rw[←dU,←hy2,←bj,←dZ]at Hk dD aA⊢;have HE1:=Z dU;have HE2:=Z hy2;have HE3:=Z bj;have HE4:=Z dZ;have dP:=Z hok;have Hy:Hid (A4o s=[(y1:Int),y2]):=Z (by rw[dU,hy2];rfl);have Hx:Hid (A4r s=[(x1:Int),x2]):=Z (by rw[bj,dZ];rfl);clear ah dU hy2 bj dZ hok;have tN:=Z (show Dg r c m y1 y2 x1 x2=true from by rw[HE1.o,HE2.o,HE3.o,HE4.o,Pz];exact decide_eq_true dP.o);go_enter func37,ntmps37;go_wp2_with fail;refine(NG _ m r c _ _ _ _ _ dD.o hs hr1 hr5 hc1 hc5).mono ?_;rintro e w1 ⟨rfl,b1⟩;rw[tN.o];have jC:=Z (Hk.o.keep b1);have s1:w.heap.size+1≤w1.heap.size:=by have:=b1.size;simp at this;exact this
 have qS:=aA.qaa b1 (A2 _);have dm:=Z b1;clear b1 Hk tN;go_wp2_with fail;refine(F5 _ m _ (dD.o.keep dm.o) kX.o HR.o).mono ?_;rintro e w2 ⟨v2,rfl,o2,b2⟩;have dW:=Z (jC.o.keep b2);have cI:Below w.heap.size w w2:=qS.qaa b2 (A2 _);have bF:=hs.1;obtain⟨G,cap,rfl,hG,ae,hGl,-⟩:=o2.qac J;rw[bF]at o2 ae⊢;have bQ:w.heap.size+1≤w2.heap.size:=Aj s1 b2.size;have o2:=(Ab (Ab A8)).mono (S':=Iv (w.heap.size+1) w2.heap.size) (fun b hb=>⟨Aj s1 hb.1,hb.2⟩) o2;have k0:=dW.o.cell 0;have k1:=dW.o.cell 1;have k2:=dW.o.cell 2;have k3:=dW.o.cell 3;simp only[Av,Aw,AB]at k0 k1 k2 k3;have dB:=Z o2;have jY:=Z (B9.new w2 #[.int .i64 y1,.int .i64 y2] 3);have bN:=Z (Below.qab w2 (.cells #[.int .i64 y1,.int .i64 y2] 3));have hGa:w.heap.size+1≤G:=Aj s1 hG.1;have er:w2.heap.size+1≤(w2.alloc (.cells #[.int .i64 y1,.int .i64 y2] 3)).heap.size:=Jj;have cY:=Z ((Ab (Ab A8)).same (Ac bN.o fun b hb=>hb.2) dB.o);have iD:=Z (dW.o.keep bN.o);have jl:=Z (cI.qaa bN.o (A2 _));clear o2 bF hG dB bN cI dW b2 qS jC dm s1;go_wp2;clear k0 k1 k2 k3;go_loopw [8,10,23] (fun _ _ i wr=>∃k:Nat,k≤2∧i=.int .i64 k∧Hid (Ag 32 (Ag 3 Ap) (Iv (w.heap.size+1) w2.heap.size) wr (.slice (some ⟨G,0,none⟩) r cap) (FX m s (2*k)))∧Hid (B9 wr w.heap.size #[.int .i64 y1,.int .i64 y2,.int .i64 x1,.int .i64 x2] 65)∧Hid (B9 wr w2.heap.size #[.int .i64 y1,.int .i64 y2] 3)∧Hid (Below w.heap.size w wr)∧w2.heap.size+1≤wr.heap.size) (fun _ _ i _=>2-(intOf i).toNat);exact⟨0,A7 _,rfl,cY,iD,jY,jl,er⟩;clear cY iD jY jl er;obtain⟨k,hk,rfl,Ho,gf,fb,Hbe,hz⟩:=hrel;by_cases aF:k<2
 ·obtain⟨Y,hY⟩:∃Y,Y=(Ga s (2*k+0)).1:=⟨_,rfl⟩;have qK:=(P5 s (j:=0) aF Jq).1;rw[Hy.o,←hY]at qK;have xI:Y<r:=by rw[hY];exact(Lq dP.o _).1
  have tL:Y=(Ga s (2*k+1)).1:=by rw[hY];rcases(by omega:k=0∨k=1)with rfl|rfl<;>rfl
  have yR:wr.cell? ⟨w2.heap.size,k,none⟩=some (.int .i64 Y):=by
   rw[fb.o.cell k];rcases(by omega:k=0∨k=1)with rfl|rfl<;>simpa using qK
  have k2:=gf.o.cell 2;have k3:=gf.o.cell 3;simp only[Av,Aw,AB]at k2 k3;have HY:=Z hY;have yS:=Z tL;clear hY tL qK;have qL:=Z (B9.new wr #[.int .i64 x1,.int .i64 x2] 3);have eN:=Z (Below.qab wr (.cells #[.int .i64 x1,.int .i64 x2] 3));have er:wr.heap.size+1≤(wr.alloc (.cells #[.int .i64 x1,.int .i64 x2] 3)).heap.size:=Jj;have fQ:=Z ((Ab (Ab A8)).same (Ac eN.o fun b hb=>by have:=hb.2;omega) Ho.o);have ni:=Z (gf.o.keep eN.o);have mC:=Z (fb.o.keep eN.o);have mD:=Z (Hbe.o.qaa eN.o (A2 _));clear Ho gf fb Hbe eN;obtain⟨L,hL⟩:∃L,L=wr.heap.size:=⟨_,rfl⟩;rw[←hL]at qL hz er;have HL:=Z hL;clear hL;go_wp2;rw[←HL.o];clear yR k2 k3;go_loopw [10,33] (fun _ i wr=>∃j:Nat,j≤2∧i=.int .i64 j∧Hid (Ag 32 (Ag 3 Ap) (Iv (w.heap.size+1) w2.heap.size) wr (.slice (some ⟨G,0,none⟩) r cap) (FX m s (2*k+j)))∧Hid (B9 wr w.heap.size #[.int .i64 y1,.int .i64 y2,.int .i64 x1,.int .i64 x2] 65)∧Hid (B9 wr w2.heap.size #[.int .i64 y1,.int .i64 y2] 3)∧Hid (B9 wr L #[.int .i64 x1,.int .i64 x2] 3)∧Hid (Below w.heap.size w wr)∧L+1≤wr.heap.size) (fun _ i _=>2-(intOf i).toNat);exact⟨0,A7 _,rfl,fQ,ni,mC,qL,mD,er⟩;clear fQ ni mC qL mD er;obtain⟨j,hj,rfl,Ho,gf,fb,e8,Hbe,bQ⟩:=hrel;by_cases bW:j<2
  ·obtain⟨X,hX⟩:∃X,X=(Ga s (2*k+j)).2:=⟨_,rfl⟩;have pE:Y=(Ga s (2*k+j)).1:=by
    rcases(by omega:j=0∨j=1)with rfl|rfl
    ·exact HY.o
    ·exact yS.o
   have qM:=(P5 s aF bW).2;rw[Hx.o,←hX]at qM;have sD:X<c:=by rw[hX];exact(Lq dP.o _).2
   have hcX:wr.cell? ⟨L,j,none⟩=some (.int .i64 X):=by
    rw[e8.o.cell j];rcases(by omega:j=0∨j=1)with rfl|rfl<;>simpa using qM
   have pF:=JC hs dP.o (2*k+j);obtain⟨row,aD,aj,-⟩:=pF.row xI;obtain⟨q,cq,aH,-,hq,hqG,dj,eX,l8,ai⟩:=AV Ho.o aD J;have g8:=(eX X J).2;obtain⟨z,jm⟩:∃z,z=AJ m Y X:=⟨_,rfl⟩;have ik:=AS hs Y X;have bA:AJ (FX m s (2*k+j)) Y X=AJ m Y X:=by
    have h:=SQ hs dP.o (2*k+j) J;rwa[←pE,←hX]at h
   have hrz:row[X]? =some z:=by
    rw[jm,←bA];unfold AJ;rw[List.getD_eq_getElem?_getD (l:=FX m s (2*k+j)),aD];exact BO 0 (by show X<row.length;omega)
   have kv:=l8 X z hrz;rw[←jm]at ik;have bq:=Z (show Ag 32 (Ag 3 Ap) (Iv (w.heap.size+1) w2.heap.size) (wr.setCell ⟨q,X,none⟩ (.int .i64 (1-z))) (.slice (some ⟨G,0,none⟩) r cap) (FX m s (2*k+(j+1)))from by
    have h:=ai wr (fun _ _=>rfl) X (1-z) J (Cc.small J J);have e:FX m s (2*k+(j+1))=(FX m s (2*k+j)).set Y (row.set X (1-z)):=by
     show KA (FX m s (2*k+j)) (Ga s (2*k+j)).1 (Ga s (2*k+j)).2=_;rw[←pE,←hX];unfold KA setC;have bA:=SQ hs dP.o (2*k+j) J;rw[←pE,←hX]at bA;rw[bA,←jm,List.getD_eq_getElem?_getD,aD];rfl
    rw[e];exact h)
   have tM:q≠w.heap.size:=by have:=hq.1;omega
   have qN:q≠w2.heap.size:=by have:=hq.2;omega
   have qO:q≠L:=by have:=hq.2;omega
   have qP:=Z (gf.o.qah (g':=q) (j:=X) tM.symm (.int .i64 (1-z)));have qQ:=Z (fb.o.qah (g':=q) (j:=X) qN.symm (.int .i64 (1-z)));have qR:=Z (e8.o.qah (g':=q) (j:=X) qO.symm (.int .i64 (1-z)));have fx:=Z (Hbe.o.setCell (p:=⟨q,X,none⟩) (by have:=hq.1;show w.heap.size≤q;omega) (.int .i64 (1-z)));rw[aj]at aH;clear hX pE qM pF aD aj eX ai bA hrz l8 jm Ho gf fb e8 Hbe;go_wp2
   go_region
   all_goals go_wp2
   all_goals go_roundw
   all_goals first
    |(case measure=>exact Jv)
    |(case rel=>exact⟨j+1,J,by go_num,Z (by exact bq.o),Z (by exact qP.o),Z (by exact qQ.o),Z (by exact qR.o),Z ⟨fx.o.os,fx.o.tape,fx.o.output,fx.o.size,fx.o.block⟩,by first|exact bQ|(simp;exact bQ)|(rw[As];exact bQ)⟩)
  ·obtain rfl:j=2:=J;go_wp2;go_roundw;exact⟨k+1,J,by go_num,Z (by have:=Ho.o;rwa[show 2*(k+1)=2*k+2 from by omega]),gf,fb,Hbe,J⟩;exact Jv
 ·obtain rfl:k=2:=J;go_wp2;refine Jz #[.slice (some ⟨G,0,none⟩) r cap,.bool true] (by simp[results,results37,go_sem]) ?_;exact⟨_,rfl,by rw[←RO];exact(Ab (Ab A8)).mono (fun b hb=>⟨by have:=hb.1;omega,by have:=hb.2;omega⟩) Ho.o,Hbe.o⟩
theorem KZ(v v2:Value)(m g:I)(r c:Nat)(w:World)(hv:AI w v m)(aS:AI w v2 g)(hs:Ax r c m)(hs2:Ax r c g)(hr1:1≤r)(hr5:r≤5)(hc1:1≤c)(hc5:c≤5):Calls prog 99 #[v,v2] w fun e w'=>e=.returned (.int .i64 (BR r c m g))∧Below w.heap.size w w':=by
 obtain⟨b,off,cp,rfl,hb,ah⟩:=hv.cells hs hr1 hc1;obtain⟨b2,off2,cp2,rfl,af,lC⟩:=aS.cells hs2 hr1 hc1;have fL:=Z ah;have yU:=Z lC;have Hv:=Z hv;have aY:=Z aS;have fR:=Gf c m g;have yV:=Z fR;clear ah lC hv aS fR;go_enter func99,ntmps99;go_wp2_with fail;refine(SW _ _ m g r c _ Hv.o aY.o hs hs2 hr1 hr5 hc1 hc5).mono ?_;rintro e w1 ⟨rfl,b1⟩;go_wp2;go_loopw [5,6,7,8,9,16] (fun n _ _ _ _ i wr=>∃k:Nat,k≤r∧i=.int .i64 k∧n=.int .i64 (BR k c m g)∧Hid (Below w.heap.size w wr)) (fun _ _ _ _ _ i _=>r-(intOf i).toNat);exact⟨0,A7 _,rfl,rfl,b1⟩;obtain⟨k,hk,rfl,rfl,Hb⟩:=hrel;have pG:=(Gf c m g k).1;have jZ:=(Gf c m g k).2;have yW:k*c≤25:=Nat.mul_le_mul (show k≤5 by omega) hc5;obtain⟨D,hD⟩:∃D,D=BR k c m g:=⟨_,rfl⟩;rw[←hD]at pG jZ⊢;have HD:=Z hD;clear hD;by_cases aF:k<r
 ·obtain⟨q,oq,cq,jX,hq,jB⟩:=fL.o k aF;obtain⟨q2,oq2,cq2,xK,ct,xL⟩:=yU.o k aF;have qJ:=(Hb.o.cell (p:=⟨b,off+k,none⟩) hb).trans jX;have Hmx:=Z jB;have Hgx:=Z xL;have Hgk:=Z xK;clear jX jB xL xK;go_wp2;clear qJ;go_loopw [5,8,9,23] (fun n _ _ i wr=>∃x:Nat,x≤c∧i=.int .i64 x∧n=.int .i64 (D+Dn x m g k)∧Hid (Below w.heap.size w wr)) (fun _ _ _ i _=>c-(intOf i).toNat);exact⟨0,A7 _,rfl,by simp[Dn,rs],Hb⟩;clear Hb;obtain⟨x,hx,rfl,rfl,Hb⟩:=hrel;have lb:=(IQ m g k x).1;have hr1:=(IQ m g k x).2;obtain⟨E,hE⟩:∃E,E=Dn x m g k:=⟨_,rfl⟩;rw[←hE]at lb hr1⊢;have HE:=Z hE;clear hE;by_cases bW:x<c
  ·have pH:=(Hb.o.cell (p:=⟨q,oq+x,none⟩) hq).trans (Hmx.o x bW);have hgk':=(Hb.o.cell (p:=⟨b2,off2+k,none⟩) af).trans Hgk.o;have hgc:=(Hb.o.cell (p:=⟨q2,oq2+x,none⟩) ct).trans (Hgx.o x bW);have aG:=Z (show Dn (x+1) m g k=Dn x m g k+if AJ m k x=AJ g k x then 0 else 1 from rfl);obtain⟨z1,bL⟩:∃z,z=AJ m k x:=⟨_,rfl⟩;obtain⟨z2,bQ⟩:∃z,z=AJ g k x:=⟨_,rfl⟩;rw[←bL]at pH aG;rw[←bQ]at hgc aG;clear bL bQ;by_cases hz:z1=z2
   ·have aK:(z1 !=z2)=false:=by simp[hz]
    have eF:=Z (show Dn (x+1) m g k=E from by rw[aG.o,if_pos hz,←HE.o];omega);clear hz;go_wp2;go_roundw;exact⟨x+1,J,by go_num,by rw[eF.o],Hb⟩;exact Jv
   ·have aK:(z1 !=z2)=true:=by simp[hz]
    have eF:=Z (show Dn (x+1) m g k=E+1 from by rw[aG.o,if_neg hz,←HE.o]);clear hz;go_wp2;go_roundw;exact⟨x+1,J,by go_num,by rw[eF.o,Int.add_assoc],Hb⟩;exact Jv
  ·obtain rfl:x=c:=J;have aG:=Z (show BR (k+1) x m g=D+E from by rw[HD.o,HE.o];rfl);go_wp2;go_roundw;exact⟨k+1,J,by go_num,by rw[aG.o],Hb⟩;exact Jv
 ·obtain rfl:k=r:=J;go_wp2
  go_ret
  exact⟨CY HD.o,Hb.o⟩
def swG(m:I)(y1 y2 x1 x2:Int):Bool:=AC m&&Dg m.length (m.headD []).length m y1 y2 x1 x2
def JS(m:I)(y1 y2 x1 x2:Int):Option I:=if swG m y1 y2 x1 x2=true then some (Ba m (y1.toNat,y2.toNat,x1.toNat,x2.toNat))else none
theorem Kf(hs:Ax r c m)(hr:1≤r)(h:AC m=true)(y1 y2 x1 x2:Int):swG m y1 y2 x1 x2=Dg r c m y1 y2 x1 x2:=by
 obtain⟨e1,e2⟩:=J9 hs hr;rw[swG,h,e1,e2];rfl
theorem Sx{y1 y2 x1 x2:Int}(h:Dg r c m y1 y2 x1 x2=true):∃s:Sw,y1=s.y1∧y2=s.y2∧x1=s.x1∧x2=s.x2∧CL r c m s∧(y1.toNat,y2.toNat,x1.toNat,x2.toNat)=s:=by
 unfold Dg at h;rw[Af,Af,FB,FB]at h;obtain⟨h1,h2,h3⟩:=h;refine⟨(y1.toNat,y2.toNat,x1.toNat,x2.toNat),?_,?_,?_,?_,of_decide_eq_true h3,rfl⟩
 ·show y1=((y1.toNat:Nat):Int);omega
 ·show y2=((y2.toNat:Nat):Int);omega
 ·show x1=((x1.toNat:Nat):Int);omega
 ·show x2=((x2.toNat:Nat):Int);omega
theorem Xr(v:Value)(m:I)(y1 y2 x1 x2:Int)(w:World)(hv:AI w v m):Calls prog 93 #[v,SwV y1 y2 x1 x2] w fun e w'=>e=.returned (.bool (swG m y1 y2 x1 x2))∧Below w.heap.size w w':=by
 cases hok:AC m
 ·have Hr:=Z (show swG m y1 y2 x1 x2=false from by simp[swG,hok]);have H1:=Z (VF hok y1 x1);have aA:=Below.qab w (.cells #[.int .i64 y1,.int .i64 y2,.int .i64 x1,.int .i64 x2] 65);have dD:=Z (hv.keep aA);obtain⟨a,cap0,rfl,-⟩:=id hv;clear hok hv;go_enter func93,ntmps93;go_wp2_with fail;refine(LA 94 (.inl rfl) _ _ _ _ _ dD.o).mono ?_;rintro e w' ⟨rfl,rfl⟩;rw[H1.o];go_wp2
  go_ret
  exact⟨AW Hr.o.symm,aA⟩
 ·obtain⟨r,c,hr1,hr5,hc1,hc5,hs⟩:=Az hok;rw[Kf hs hr1 hok];exact NG v m r c y1 y2 x1 x2 w hv hs hr1 hr5 hc1 hc5
theorem Qo(v:Value)(m:I)(y1 y2 x1 x2:Int)(w:World)(hv:AI w v m):Calls prog 208 #[v,SwV y1 y2 x1 x2] w fun e w'=>e=.returned (.bool (swG m y1 y2 x1 x2))∧Below w.heap.size w w':=by
 cases hok:AC m
 ·have Hr:=Z (show swG m y1 y2 x1 x2=false from by simp[swG,hok]);have H1:=Z (VF hok y1 x1);have aA:=Below.qab w (.cells #[.int .i64 y1,.int .i64 y2,.int .i64 x1,.int .i64 x2] 65);have dD:=Z (hv.keep aA);obtain⟨a,cap0,rfl,-⟩:=id hv;clear hok hv;go_enter func208,ntmps208;go_wp2_with fail;refine(LA 210 (.inr rfl) _ _ _ _ _ dD.o).mono ?_;rintro e w' ⟨rfl,rfl⟩;rw[H1.o];go_wp2
  go_ret
  exact⟨AW Hr.o.symm,aA⟩
 ·obtain⟨r,c,hr1,hr5,hc1,hc5,hs⟩:=Az hok;rw[Kf hs hr1 hok];exact Ra v m r c y1 y2 x1 x2 w hv hs hr1 hr5 hc1 hc5
theorem SU(v:Value)(m:I)(y1 y2 x1 x2:Int)(w:World)(hv:AI w v m):Calls prog 37 #[v,SwV y1 y2 x1 x2] w (Nz w (JS m y1 y2 x1 x2)):=by
 cases h1:swG m y1 y2 x1 x2
 ·have Hr:=Z (show JS m y1 y2 x1 x2=none from by simp[JS,h1]);have H1:=Z h1;have aA:=Below.qab w (.cells #[.int .i64 y1,.int .i64 y2,.int .i64 x1,.int .i64 x2] 65);have dD:=Z (hv.keep aA);obtain⟨a,cap0,rfl,-⟩:=id hv;clear h1 hv;go_enter func37,ntmps37;go_wp2_with fail;refine(Xr _ _ _ _ _ _ _ dD.o).mono ?_;rintro e w' ⟨rfl,b2⟩;rw[H1.o];go_wp2
  go_ret2
  exact⟨_,by rw[Hr.o];rfl,by rw[Hr.o];exact Ag.nil _ _ _ _,aA.qaa b2 (A2 _)⟩
 ·have hok:AC m=true:=by unfold swG at h1;rw[Af]at h1;exact h1.1
  obtain⟨r,c,hr1,hr5,hc1,hc5,hs⟩:=Az hok;have h2:=h1;rw[Kf hs hr1 hok]at h2;rw[show JS m y1 y2 x1 x2=some (Ba m (y1.toNat,y2.toNat,x1.toNat,x2.toNat))from by simp[JS,h1]];obtain⟨s,rfl,rfl,rfl,rfl,ix,e⟩:=Sx h2;rw[e];exact K9 v m r c s w hv hs hr1 hr5 hc1 hc5 ix
theorem Re(v:Value)(m:I)(y1 y2 x1 x2:Int)(w:World)(hv:AI w v m):Calls prog 148 #[v,SwV y1 y2 x1 x2] w (Nz w (JS m y1 y2 x1 x2)):=by
 have aA:=Below.qab w (.cells #[.int .i64 y1,.int .i64 y2,.int .i64 x1,.int .i64 x2] 65);have dD:=Z (hv.keep aA);cases h1:swG m y1 y2 x1 x2
 ·have Hr:=Z (show JS m y1 y2 x1 x2=none from by simp[JS,h1]);have H1:=Z h1;obtain⟨a,cap0,rfl,-⟩:=id hv;clear h1 hv;go_enter func148,ntmps148;go_wp2_with fail;refine(Qo _ _ _ _ _ _ _ dD.o).mono ?_;rintro e w' ⟨rfl,b2⟩;rw[H1.o];go_wp2
  go_ret2
  exact⟨_,by rw[Hr.o];rfl,by rw[Hr.o];exact Ag.nil _ _ _ _,aA.qaa b2 (A2 _)⟩
 ·have hok:AC m=true:=by unfold swG at h1;rw[Af]at h1;exact h1.1
  obtain⟨r,c,hr1,hr5,hc1,hc5,hs⟩:=Az hok;have h2:=h1;rw[Kf hs hr1 hok]at h2;have Hr:=Z (show JS m y1 y2 x1 x2=some (Ba m (y1.toNat,y2.toNat,x1.toNat,x2.toNat))from by simp[JS,h1]);have H1:=Z h1;obtain⟨s,dU,hy2,bj,dZ,ix,e⟩:=Sx h2;have Hap:=Z (fun(v:Value) (w:World) (hv:AI w v m)=>S9 v m r c s w hv hs hr1 hr5 hc1 hc5 ix);rw[←dU,←hy2,←bj,←dZ]at Hap;rw[e]at Hr;obtain⟨a,cap0,rfl,-⟩:=id hv;clear h1 hv h2 dU hy2 bj dZ hok ix e;have Hk:=Z (B9.new w #[.int .i64 y1,.int .i64 y2,.int .i64 x1,.int .i64 x2] 65);go_enter func148,ntmps148;go_wp2_with fail;refine(Qo _ _ _ _ _ _ _ dD.o).mono ?_;rintro e w2 ⟨rfl,b2⟩;rw[H1.o];have dW:=Z (Hk.o.keep b2);have aY:=Z (dD.o.keep b2);have be:=Z (aA.qaa b2 (A2 _));have k0:=dW.o.cell 0;have k1:=dW.o.cell 1;have k2:=dW.o.cell 2;have k3:=dW.o.cell 3;simp only[Av,Aw,AB]at k0 k1 k2 k3;clear b2;go_wp2_with fail;refine(Hap.o _ _ aY.o).mono ?_;rintro e w3 ⟨v3,rfl,o3,b3⟩;have cY:=Z o3;obtain⟨t1,t2,t3,rfl⟩:=o3.shape;have bN:=Z (be.o.qaa b3 (A2 _));have hz:=be.o.size;clear o3 b3;go_wp2
  go_ret2
  refine⟨_,by rw[Hr.o];rfl,?_,bN.o⟩;rw[Hr.o];exact(Ab (Ab A8)).mono (fun b hb=>⟨by have:=hb.1;omega,hb.2⟩) cY.o
