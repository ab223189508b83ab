/- Base. -/
import Derived.Test.YthmocomfjgmjoaaGreatDoorQ09
import Derived.Test.YthmocomfjgmjoaaGreatDoorQ10
set_option maxHeartbeats 2000000
set_option maxRecDepth 100000
namespace Go.Proofs.YthmocomfjgmjoaaGreatDoor
open Go.RowKit Go.Proofs.Tryz
variable {N:Nat}{b:Int}{c:Nat}{cells:U}{f:Nat→Nat}{fw:Int}{j k len:Nat}{m:I}{n r:Nat}{x:I}
theorem A27(v:Value)(l:U)(n:Int)(N:Nat)(w:World)(hv:Au w v l)(hn:n=(N:Int))(hN:N≤1048576)(hl:DJ N l):Calls prog 233 #[v,.int .i64 n] w fun e w'=>e=.returned (.bool true)∧w=w':=by
 subst hn;obtain⟨a,cap0,rfl,-⟩:=id hv;have Hv:=Z hv;have Hl:=Z hl;have dN:l.length≤1048576:=by have:=KV (R8.2 hl) (A7 _);omega
 clear hv hl;go_enter func233,ntmps233;go_wp2;go_loopw [5,6,9] (fun _ _ i wr=>∃k:Nat,k≤l.length∧i=.int .i64 k∧w=wr) (fun _ _ i _=>l.length-(intOf i).toNat);exact⟨0,A7 _,rfl,rfl⟩;obtain⟨k,hk,rfl,rfl⟩:=hrel;by_cases aF:k<l.length
 ·obtain⟨b,off,cpr,he,hb,-⟩:=Hv.o.qac J;obtain⟨rfl,-⟩:a=some ⟨b,off,none⟩∧cap0=cpr:=by simpa using he
  obtain⟨x,hx⟩:∃x,l[k]? =some x:=⟨_,A3 aF⟩;have fK:=Au.at Hv.o hx;have fR:=Hl.o.2 x (A4 hx);have Hr:=Z (show C1 0 ((N:Int)-1) x=true from Ft J J);by_cases ap:0<k
  ·obtain⟨K,hK⟩:∃K:Nat,(k:Int)-1=(K:Int):=⟨k-1,J⟩;obtain⟨y,hy⟩:∃y,l[K]? =some y:=⟨_,A3 J⟩;have qA:=Au.at Hv.o hy;have hyx:y<x:=by
    obtain⟨i1,e1⟩:=A5.1 hy;obtain⟨i2,e2⟩:=A5.1 hx;rw[←e1,←e2];exact List.pairwise_iff_getElem.1 Hl.o.1 _ _ i1 i2 J
   have hd:decide (y≥x)=false:=decide_eq_false J;have li:decide (x≤y)=false:=decide_eq_false J;have xW:decide ((0:Int)<(k:Int))=true:=by simp;omega
   clear hx hy he;go_wp2_with fail;refine(Bi _ _ _ _).mono ?_;rintro e w' ⟨rfl,rfl⟩;rw[Hr.o];go_wp2;go_roundw;exact⟨k+1,J,by go_num,trivial⟩;exact Jv
  ·obtain rfl:k=0:=J;rw[AF]at fK;clear hx he;go_wp2_with fail;refine(Bi _ _ _ _).mono ?_;rintro e w' ⟨rfl,rfl⟩;rw[Hr.o];go_wp2;go_roundw;exact⟨0+1,J,by go_num,trivial⟩;exact Jv
 ·go_wp2
  go_ret
  exact⟨rfl,rfl⟩
structure A49(r c:Nat)(m:I)(L:List I):Prop where
 eq:L=BB (Ae m) (Al m)
 ok:AT (Ae m) (Al m)=true
 mem:∀q,q∈L↔Da (Ae m) (Al m) r c q
 self:m∈L
 nd:L.Pairwise (fun a b=>a≠b)
 shape:∀g∈L,Ax r c g
 big:L.length≤1073741824
theorem Ro(hs:Ax r c m)(hr1:1≤r)(hr5:r≤5)(hc1:1≤c)(hc5:c≤5):A49 r c m (BB (Ae m) (Al m)):=by
 have hS:=Dv hs hr1 hr5 hc1 hc5;have aj:=(Cr hs hr1 hr5 hc1 hc5).1;have ah:=(Cv hs hr1 hr5 hc1 hc5).1;have hok:AT (Ae m) (Al m)=true:=IG J J J J (by rw[aj,ah];exact hS);have cj:∀q,q∈BB (Ae m) (Al m)↔Da (Ae m) (Al m) r c q:=fun q=>by rw[Dy hok,aj,ah]
 have aN:=JJ (Ae m) (Al m);refine⟨rfl,hok,cj,(cj m).2 hS,TU hok,fun g hg=>((cj g).1 hg).1,Aj aN ?_⟩;rw[aj,ah];exact Aj (Nat.pow_le_pow_right Jq (Nat.mul_le_mul hr5 (Nat.succ_le_succ hc5))) Jq
theorem Nn{L:List I}(h:L[k]? =some x):Cb c (L.take (k+1)) m cells=Cb c (L.take k) m cells++if C5 c m x cells then[x]else[]:=by
 unfold Cb;rw[Ao,h,Option.toList_some,List.filter_append];cases hb:C5 c m x cells<;>simp[hb]
theorem Pq(h:cells[j]? =some (n:Int)):C5 c m x (cells.take (j+1))=(C5 c m x (cells.take j)&&decide (AJ x (n/c) (n % c)=AJ m (n/c) (n % c))):=by
 rw[Ao,h,Option.toList_some,Pp];unfold ME;rw[Int.toNat_natCast]
theorem A1r:(Tryz.prog.info? 31).map (fun i=>(i.zero,i.size,i.bytes))=some (some (.slice none 0 0),1,24):=by kernel_rfl
theorem RX(v v2:Value)(m:I)(cells:U)(r c:Nat)(w:World)(hv:AI w v m)(aS:Au w v2 cells)(hs:Ax r c m)(hr1:1≤r)(hr5:r≤5)(hc1:1≤c)(hc5:c≤5)(dR:DJ (r*c) cells):Calls prog 170 #[v,v2] w fun e w'=>∃v',e=.returned (.tuple #[v',.bool true])∧Gv w' v' (Cb c (BB (Ae m) (Al m)) m cells)∧Below w.heap.size w w':=by
 have hI:=Ro hs hr1 hr5 hc1 hc5;obtain⟨L,hL⟩:∃L,L=BB (Ae m) (Al m):=⟨_,rfl⟩;rw[←hL]at hI⊢;have HI:=Z hI;have jt:r*c≤25:=Nat.mul_le_mul hr5 hc5;have aR:=Z (hs.ok hr1 hr5 hc1 hc5);have Hv:=Z hv;have aY:=Z aS;obtain⟨b,off,cp,rfl,hb,ah⟩:=hv.cells hs hr1 hc1;obtain⟨b0,o0,c0,bZ,bu,-⟩:=ah 0 J;rw[AF]at bZ;have fL:=Z ah;obtain⟨a2,cap2,rfl,-⟩:=id aS;have lM:=Z dR;have hcl25:cells.length≤25:=by have:=KV (R8.2 dR) (A7 _);omega
 have HL:=Z hL;have dG:=hI.big;have lN:0<L.length:=List.length_pos_of_mem hI.self;have ju:=Z (show(r:Int)*(c:Int)=((r*c:Nat):Int)from by rw[Int.natCast_mul]);clear hI ah hv aS dR hL;go_enter func170,ntmps170;go_wp2_with fail;refine(B8 _ _ _ Hv.o).mono ?_;rintro e w' ⟨rfl,rfl⟩;rw[aR.o];go_wp2_with fail;refine(A27 _ cells _ (r*c) _ aY.o ju.o J lM.o).mono ?_;rintro e w' ⟨rfl,rfl⟩;go_wp2_with fail;refine(Ei _ _ _ Hv.o).mono ?_;rintro e w2 ⟨v2,rfl,o2,b2⟩;have dB:=Z o2.ints;clear o2;go_wp2_with fail;refine(CQ 34 (.inl rfl) _ _ _ (Hv.o.keep b2)).mono ?_;rintro e w3 ⟨v3,rfl,o3,b3⟩;go_wp2_with fail;refine(El _ _ _ _ _ (dB.o.keep b3) o3.ints).mono ?_;rintro e w4 ⟨v4,rfl,o4,b4⟩;rw[HI.o.ok];rw[show Bt (Ae m) (Al m)=L from by unfold Bt;rw[HI.o.ok,HL.o];rfl]at o4;have jH:=b2.qaa (b3.qaa b4 (A2 _)) (A2 _);obtain⟨gl,gc,rfl,-,-,bz,-⟩:=o4.qac lN;have Hg:=Z o4.qan;obtain⟨N,hN⟩:∃N,N=L.length:=⟨_,rfl⟩;rw[←hN]at Hg lN dG⊢;have HN:=Z hN;have gA:b<w4.heap.size:=Aa hb jH.size;have hb04:b0<w4.heap.size:=Aa bu jH.size;clear o3 o4 hN bZ;go_wp2;go_loopw [8,10,11,13,14,15,41] (fun out _ _ _ _ _ i wr=>∃(k:Nat)(us:List Value),k≤N∧i=.int .i64 k∧Hid (Ag 31 PS (Iv w4.heap.size wr.heap.size) wr out us)∧Hid (In (Sl (Sl Ap)) w4 us (Cb c (L.take k) m cells))∧Hid (Below w4.heap.size w4 wr)) (fun _ _ _ _ _ _ i _=>N-(intOf i).toNat);exact⟨0,[],A7 _,rfl,Ag.nil _ _ _ _,In.nil _ _,A6 _ _⟩;obtain⟨k,us,hk,rfl,Ho,Hh,Hb⟩:=hrel;have HMr:=Z (show ∀y x,y<r→x<c→∃br offr cpr,wr.cell? ⟨b,off+y,none⟩=some (.slice (some ⟨br,offr,none⟩) c cpr)∧br<wr.heap.size∧wr.cell? ⟨br,offr+x,none⟩=some (.int .i64 (AJ m y x))from fun y x hy hx=>by
  obtain⟨br,offr,cpr,h1,h2,h3⟩:=fL.o y hy;have b4r:=jH.qaa Hb.o (A2 _);exact⟨br,offr,cpr,(b4r.cell (p:=⟨b,off+y,none⟩) hb).trans h1,Aa h2 b4r.size,(b4r.cell (p:=⟨br,offr+x,none⟩) h2).trans (h3 x hx)⟩)
 by_cases aF:k<N
 ·obtain⟨x,hx⟩:∃x,L[k]? =some x:=⟨_,A3 (by rw[←HN.o];exact aF)⟩;have eX:=HI.o.shape x (A4 hx);obtain⟨u,aW,hu⟩:=Sl.at Hg.o hx;have hu:AI w4 u x:=hu;obtain⟨bx,offx,cpx,rfl,hbx,hxc⟩:=hu.cells eX hr1 hc1;rw[Nat.zero_add]at aW;have gy:=(Hb.o.cell (p:=⟨gl,k,none⟩) bz).trans aW;have HXr:=Z (show ∀y x',y<r→x'<c→∃br offr cpr,wr.cell? ⟨bx,offx+y,none⟩=some (.slice (some ⟨br,offr,none⟩) c cpr)∧br<wr.heap.size∧wr.cell? ⟨br,offr+x',none⟩=some (.int .i64 (AJ x y x'))from fun y x' hy hx'=>by
   obtain⟨br,offr,cpr,h1,h2,h3⟩:=hxc y hy;exact⟨br,offr,cpr,(Hb.o.cell (p:=⟨bx,offx+y,none⟩) hbx).trans h1,Aa h2 Hb.o.size,(Hb.o.cell (p:=⟨br,offr+x',none⟩) h2).trans (h3 x' hx')⟩)
  have nW:=Z (Nn (c:=c) (m:=m) (cells:=cells) hx);have Hu:=Z hu;have ry:=Z (aY.o.keep (jH.qaa Hb.o (A2 _)));have dL:b<wr.heap.size:=Aa gA Hb.o.size;have hbxr:bx<wr.heap.size:=Aa hbx Hb.o.size;have aN:=Hh.o.1;have pZ:(Cb c (L.take k) m cells).length≤k:=Aj (List.length_filter_le _ _) (by rw[At];omega);clear hx aW hu hxc;go_wp2;clear gy;go_loopw [11,13,14,15,47] (fun ag _ _ _ i wi=>∃j:Nat,j≤cells.length∧i=.int .i64 j∧ag=.bool (C5 c m x (cells.take j))∧Hid (Below wr.heap.size wr wi)) (fun _ _ _ _ i _=>cells.length-(intOf i).toNat);exact⟨0,A7 _,rfl,rfl,A6 _ _⟩;obtain⟨wo,hwo⟩:∃wo,wo=wr:=⟨_,rfl⟩;clear hwo;obtain⟨j,hj,rfl,rfl,d9⟩:=hrel;by_cases hltj:j<cells.length
  ·obtain⟨n0,dS⟩:∃n,cells[j]? =some n:=⟨_,A3 hltj⟩;have jn:=lM.o.2 n0 (A4 dS);obtain⟨n,rfl⟩:∃n:Nat,n0=n:=⟨n0.toNat,J⟩;have rz:n<r*c:=J;have ku:n/c<r:=by rw[Nat.div_lt_iff_lt_mul J];exact rz
   have f4:n % c<c:=Nat.mod_lt _ J;have aG:=Z (Pq (c:=c) (m:=m) (x:=x) dS);obtain⟨bc,offc,cpc,hec,hbc,-⟩:=ry.o.qac J;obtain⟨rfl,-⟩:a2=some ⟨bc,offc,none⟩∧cap2=cpc:=by simpa using hec
   have iF:=(d9.o.cell (p:=⟨bc,offc+j,none⟩) hbc).trans (Au.at ry.o dS);obtain⟨q1,f1,p1,m1,cf,m2⟩:=HMr.o (n/c) (n % c) ku f4;obtain⟨q2,f2,p2,x1,ct,x2⟩:=HXr.o (n/c) (n % c) ku f4;obtain⟨q0,f0,p0,m0,nU,-⟩:=HMr.o 0 0 J J;rw[AF]at m0;have m0:=(d9.o.cell (p:=⟨b,off,none⟩) dL).trans m0;have m1:=(d9.o.cell (p:=⟨b,off+n/c,none⟩) dL).trans m1;have m2:=(d9.o.cell (p:=⟨q1,f1+n % c,none⟩) cf).trans m2;have x1:=(d9.o.cell (p:=⟨bx,offx+n/c,none⟩) hbxr).trans x1;have x2:=(d9.o.cell (p:=⟨q2,f2+n % c,none⟩) ct).trans x2;have kU:(0:Int)≤(n:Int) / (c:Int):=Int.ediv_nonneg J J;have iB:(n:Int) / (c:Int)<(r:Int):=by rw[←Int.natCast_ediv];omega
   have xC:(0:Int)≤(n:Int) % (c:Int):=Int.emod_nonneg _ J;have xD:(n:Int) % (c:Int)<(c:Int):=Int.emod_lt_of_pos _ J;obtain⟨z1,bL⟩:∃z,z=AJ x (n/c) (n % c):=⟨_,rfl⟩;obtain⟨z2,bQ⟩:∃z,z=AJ m (n/c) (n % c):=⟨_,rfl⟩;rw[←bL]at x2 aG;rw[←bQ]at m2 aG;obtain⟨ag,fe⟩:∃ag,ag=C5 c m x (cells.take j):=⟨_,rfl⟩;rw[←fe]at aG⊢;clear bL bQ fe dS jn hec;cases ag
   ·have eF:=Z (show C5 c m x (cells.take (j+1))=false from by rw[aG.o];rfl);go_wp2
    go_region
    all_goals
     go_wp2
     go_region
    all_goals
     go_wp2;go_roundw;exact⟨j+1,J,by go_num,by rw[eF.o],Z d9.o.drew.drew⟩;exact Jv
   ·have eF:=Z (show C5 c m x (cells.take (j+1))=(z1==z2)from by rw[aG.o,Bool.true_and,Bool.eq_iff_iff,Ah,beq_iff_eq]);go_wp2
    go_region
    all_goals
     go_wp2
     go_region
    all_goals
     go_wp2;go_roundw;exact⟨j+1,J,by go_num,by rw[eF.o],Z d9.o.drew.drew⟩;exact Jv
  ·obtain rfl:j=cells.length:=J;rw[List.take_length];have be:=Z (Hb.o.qaa d9.o (A2 _));have aM:=d9.o.size;have dB:=Z (Ag.grow EW Ho.o (A2 _) d9.o);obtain⟨ag,fe⟩:∃ag,ag=C5 c m x cells:=⟨_,rfl⟩;have iq:=Z fe;rw[←fe];clear fe Ho;cases ag
   ·have oP:=Z (show Cb c (L.take (k+1)) m cells=Cb c (L.take k) m cells from by rw[nW.o,←iq.o];simp);go_wp2;go_roundw;exact⟨k+1,us,J,by go_num,dB,Z (by rw[oP.o];exact Hh.o),be⟩;exact Jv
   ·have oP:=Z (show Cb c (L.take (k+1)) m cells=Cb c (L.take k) m cells++[x]from by rw[nW.o,←iq.o];simp);obtain⟨wo,rfl⟩:∃wo:World,wo=wr:=⟨_,rfl⟩;have q8:us.length<1099511627776:=J;have hw4:=be.o.size;obtain⟨p1,p2,p3,rfl⟩:=dB.o.shape;go_wp2_with (first|(at_builtin;(refine AH rfl _ _ 77 rfl EW 31 underlying77 A1r rfl Jq w4.heap.size wo.heap.size hw4 (A2 _) rfl rfl (by exact dB.o) (by exact⟨rfl,rfl⟩) q8 ?_);intro v2 w2 hown2 hbel2 _)|fail);have bN:=Z (be.o.trans hbel2);have lm:=Z (Hh.o.snoc (x:=x) Hu.o);exact⟨⟨k+1,_,J,by go_num,Z hown2,Z (by rw[oP.o];exact lm.o),bN⟩,by simp[intOf];omega⟩
 ·obtain rfl:k=N:=J;rw[A9 (by rw[←HN.o];exact A2 _)]at Hh;obtain⟨p1,p2,p3,rfl⟩:=Ho.o.shape;have aU:=Z ((Hh.o.keep (Cd (Cd A8)) Hb.o).list Ho.o);have js:=jH.qaa Hb.o (A2 _);go_wp2;refine Jz #[.slice p1 p2 p3,.bool true] (by simp[results,results170,go_sem]) ?_;exact⟨_,rfl,aU.o,js⟩
theorem QR(v v2:Value)(m:I)(cells:U)(r c:Nat)(w:World)(hv:AI w v m)(aS:Au w v2 cells)(hs:Ax r c m)(hr1:1≤r)(hr5:r≤5)(hc1:1≤c)(hc5:c≤5)(dR:DJ (r*c) cells):Calls prog 169 #[v,v2] w fun e w'=>e=.returned (.int .i64 (CN c (BB (Ae m) (Al m)) m cells))∧Below w.heap.size w w':=by
 have Hv:=Z hv;have aY:=Z aS;obtain⟨a,cap,rfl,-⟩:=hv;obtain⟨a2,cap2,rfl,-⟩:=aS;go_enter func169,ntmps169;go_wp2_with fail;refine(RX _ _ m cells r c _ Hv.o aY.o hs hr1 hr5 hc1 hc5 dR).mono ?_;rintro e w1 ⟨v1,rfl,g1,b1⟩;obtain⟨p1,p2,rfl,-⟩:=g1;go_wp2
 go_ret
 exact⟨rfl,b1⟩
theorem YD(v v2:Value)(m:I)(cells:U)(r c:Nat)(w:World)(hv:AI w v m)(aS:Au w v2 cells)(hs:Ax r c m)(hr1:1≤r)(hr5:r≤5)(hc1:1≤c)(hc5:c≤5)(dR:DJ (r*c) cells):Calls prog 112 #[v,v2] w fun e w'=>e=.returned (.bool (decide (CN c (BB (Ae m) (Al m)) m cells=1)))∧Below w.heap.size w w':=by
 have Hv:=Z hv;have aY:=Z aS;obtain⟨a,cap,rfl,-⟩:=hv;obtain⟨a2,cap2,rfl,-⟩:=aS;obtain⟨N,hN⟩:∃N,N=CN c (BB (Ae m) (Al m)) m cells:=⟨_,rfl⟩;rw[←hN];have HN:=Z hN;clear hN;go_enter func112,ntmps112;go_wp2_with fail;refine(QR _ _ m cells r c _ Hv.o aY.o hs hr1 hr5 hc1 hc5 dR).mono ?_;rintro e w1 ⟨rfl,b1⟩;rw[←HN.o];obtain⟨z,hz⟩:∃z,((N:Int)==1)=z:=⟨_,rfl⟩;have Hz:=Z (show z=decide (N=1)from by rw[←hz,Bool.eq_iff_iff,Ah,beq_iff_eq];omega);go_wp2
 go_ret
 exact⟨AW Hz.o,b1⟩
def O9(c:Nat)(m:I)(n:Nat)(A:List I):Nat:=(A.filter fun h=>decide (AJ h (n/c) (n % c)=AJ m (n/c) (n % c))).length
theorem A3G(c:Nat)(L:List I)(m:I)(cells:U)(n:Nat):O9 c m n (Cb c L m cells)=CN c L m (cells++[(n:Int)]):=by
 unfold CN;rw[Nm];unfold O9 ME;rw[Int.toNat_natCast]
theorem A19{A:List I}(h:A[j]? =some x):O9 c m n (A.take (j+1))=O9 c m n (A.take j)+if AJ x (n/c) (n % c)=AJ m (n/c) (n % c)then 1 else 0:=by
 unfold O9;rw[Ao,h,Option.toList_some,List.filter_append,Ad];by_cases hb:AJ x (n/c) (n % c)=AJ m (n/c) (n % c)<;>simp[hb]
theorem A0n(c:Nat)(m:I)(n:Nat)(A:List I):O9 c m n A≤A.length:=List.length_filter_le _ _
def Ln(f:Nat→Nat)(len k:Nat)(b fw:Int):Prop:=(k=0∧b=-1∧fw=(len:Int)+1)∨(1≤k∧b=(Dc f k:Nat)∧fw=(f (Dc f k):Nat))
theorem Ln.less(h:Ln f len k b fw)(aF:(f k:Int)<fw):Ln f len (k+1) k (f k):=by
 rcases h with⟨rfl,-,-⟩|⟨h1,-,rfl⟩
 ·exact .inr ⟨J,by rw[L0],by rw[L0]⟩
 ·have e:Dc f (k+1)=k:=by rw[JP h1,if_pos J]
  exact .inr ⟨J,by rw[e],by rw[e]⟩
theorem Ln.more(hf:∀i,f i≤len)(h:Ln f len k b fw)(aF:¬(f k:Int)<fw):Ln f len (k+1) b fw:=by
 rcases h with⟨rfl,-,rfl⟩|⟨h1,h2,rfl⟩
 ·have:=hf 0;omega
 ·have e:Dc f (k+1)=Dc f k:=by rw[JP h1,if_neg J]
  exact .inr ⟨J,by rw[e,h2],by rw[e]⟩
theorem Ln.bd(hf:∀i,f i≤len)(h:Ln f len k b fw):-1≤b∧b≤k∧0≤fw∧fw≤(len:Int)+1:=by
 rcases h with⟨rfl,rfl,rfl⟩|⟨h1,rfl,rfl⟩
 ·omega
 ·have:=(Mr f k h1).1;have:=hf (Dc f k);omega
def LM(r c:Nat)(L:List I)(m:I)(cells:U):Int:=if CN c L m cells=1 then-1 else(C9 c (r*c) L m cells:Nat)
theorem Ws(v v2:Value)(m:I)(cells:U)(r c:Nat)(w:World)(hv:AI w v m)(aS:Au w v2 cells)(hs:Ax r c m)(hr1:1≤r)(hr5:r≤5)(hc1:1≤c)(hc5:c≤5)(dR:DJ (r*c) cells):Calls prog 113 #[v,v2] w fun e w'=>e=.returned (.int .i64 (LM r c (BB (Ae m) (Al m)) m cells))∧Below w.heap.size w w':=by
 have hI:=Ro hs hr1 hr5 hc1 hc5;obtain⟨L,hL⟩:∃L,L=BB (Ae m) (Al m):=⟨_,rfl⟩;rw[←hL]at hI⊢;have HI:=Z hI;have jt:r*c≤25:=Nat.mul_le_mul hr5 hc5;have yx:1≤r*c:=Nat.mul_pos hr1 hc1;have Hv:=Z hv;have aY:=Z aS;obtain⟨b,off,cp,rfl,hb,ah⟩:=hv.cells hs hr1 hc1;obtain⟨b0,o0,c0,bZ,bu,-⟩:=ah 0 J;rw[AF]at bZ;have fL:=Z ah;have k9:=Z bZ;obtain⟨a2,cap2,rfl,-⟩:=id aS;have lM:=Z dR;have HL:=Z hL;have ju:=Z (show(r:Int)*(c:Int)=((r*c:Nat):Int)from by rw[Int.natCast_mul]);have cC:=Z (show(CN c L m cells=1→LM r c L m cells=-1)∧(CN c L m cells≠1→LM r c L m cells=(C9 c (r*c) L m cells:Nat))from⟨fun h=>by unfold LM;rw[if_pos h],fun h=>by unfold LM;rw[if_neg h]⟩);have th:=Z (show C9 c (r*c) L m cells=Dc (fun k=>O9 c m k (Cb c L m cells)) (r*c)from by unfold C9;congr 1;funext k;rw[A3G]);have dG:=hI.big;clear hI ah hv aS dR hL bZ;go_enter func113,ntmps113;go_wp2_with fail;refine(RX _ _ m cells r c _ Hv.o aY.o hs hr1 hr5 hc1 hc5 lM.o).mono ?_;rintro e w1 ⟨v1,rfl,g1,b1⟩;rw[←HL.o]at g1;obtain⟨A,hA⟩:∃A,A=Cb c L m cells:=⟨_,rfl⟩;rw[←hA]at g1 th;have iF:CN c L m cells=A.length:=by rw[hA];rfl
 have hAL:A.length≤1073741824:=by rw[hA];exact Aj (List.length_filter_le _ _) dG
 have p7:0<A.length:=by rw[←iF];exact Mp HI.o.self cells
 have HAs:=Z (show ∀x∈A,Ax r c x from fun x hx=>HI.o.shape x (by rw[hA]at hx;exact(List.mem_filter.1 hx).1));rw[iF]at cC;clear hA iF;have Hg:=Z g1;obtain⟨gl,go,gc,rfl,bz,-⟩:=g1.qac p7;obtain⟨N,hN⟩:∃N,N=A.length:=⟨_,rfl⟩;rw[←hN]at Hg cC hAL p7⊢;have HN:=Z hN;clear g1 hN;by_cases h1:N=1
 ·have Hr:=Z (cC.o.1 h1);have hd:((N:Int)==1)=true:=by simp[h1]
  clear h1;go_wp2
  go_ret
  exact⟨CY Hr.o.symm,b1⟩
 have Hr:=Z (cC.o.2 h1);have hd:((N:Int)==1)=false:=by rw[Ai];omega
 have Hf:=Z (show ∀i,O9 c m i A≤N from fun i=>by rw[HN.o];exact A0n c m i A);obtain⟨f,hf⟩:∃f:Nat→Nat,f=fun k=>O9 c m k A:=⟨_,rfl⟩;have yz:=Z (show ∀k,f k=O9 c m k A from fun k=>by rw[hf]);rw[←hf]at th;have tg:=Z (show ∀i,f i≤N from fun i=>by rw[hf];exact Hf.o i);clear h1 hf;go_wp2;go_loopw [7,8,9,10,11,12,14] (fun bv fv i _ _ _ _ wr=>∃(k:Nat)(bi fi:Int),k≤r*c∧i=.int .i64 k∧bv=.int .i64 bi∧fv=.int .i64 fi∧Hid (Ln f N k bi fi)∧Hid (Below w1.heap.size w1 wr)) (fun _ _ i _ _ _ _ _=>r*c-(intOf i).toNat);exact⟨0,-1,(N:Int)+1,A7 _,rfl,rfl,rfl,.inl ⟨rfl,rfl,rfl⟩,A6 _ _⟩;clear hd;obtain⟨k,bi,fi,hk,rfl,rfl,rfl,aG,Hb⟩:=hrel;have sW:=b1.qaa Hb.o (A2 _);have bZ:=(sW.cell (p:=⟨b,off,none⟩) hb).trans k9.o;obtain⟨dK,af,dg,gA⟩:=aG.o.bd tg.o;by_cases aF:k<r*c
 ·have dM:(k:Int)<(r:Int)*(c:Int):=by rw[ju.o];omega
  have ku:k/c<r:=by rw[Nat.div_lt_iff_lt_mul J];exact aF
  have f4:k % c<c:=Nat.mod_lt _ J;have kU:(0:Int)≤(k:Int) / (c:Int):=Int.ediv_nonneg J J;have iB:(k:Int) / (c:Int)<(r:Int):=by rw[←Int.natCast_ediv];omega
  have xC:(0:Int)≤(k:Int) % (c:Int):=Int.emod_nonneg _ J;have xD:(k:Int) % (c:Int)<(c:Int):=Int.emod_lt_of_pos _ J;obtain⟨q1,f1,p1,m1,cf,m2⟩:=fL.o (k/c) ku;have m1:=(sW.cell (p:=⟨b,off+k/c,none⟩) hb).trans m1;have m2:=(sW.cell (p:=⟨q1,f1+k % c,none⟩) cf).trans (m2 (k % c) f4);have iw:b<wr.heap.size:=Aa hb sW.size;have hq1w:q1<wr.heap.size:=Aa cf sW.size;have HM:=Z (And.intro m1 m2);obtain⟨z2,bQ⟩:∃z,z=AJ m (k/c) (k % c):=⟨_,rfl⟩;have sX:=Z bQ;rw[←bQ]at HM;clear m1 m2 bQ;go_wp2
  go_region
  all_goals go_wp2
  all_goals
   have fV:=Z (show Below wr.heap.size wr wr.drew from(A6 _ _).drew);clear bZ;go_loopw [12,14,56] (fun cv _ i wi=>∃j:Nat,j≤N∧i=.int .i64 j∧cv=.int .i64 (O9 c m k (A.take j))∧Hid (Below wr.heap.size wr wi)) (fun _ _ i _=>N-(intOf i).toNat);exact⟨0,A7 _,rfl,by simp[O9],fV⟩;clear fV;obtain⟨j,hj,rfl,rfl,d9⟩:=hrel;have ah:=A0n c m k (A.take j);rw[At]at ah;obtain⟨C,hC⟩:∃C,C=O9 c m k (A.take j):=⟨_,rfl⟩;rw[←hC]at ah⊢;have HC:=Z hC;clear hC;by_cases hltj:j<N
   ·obtain⟨x,hx⟩:∃x,A[j]? =some x:=⟨_,A3 (by rw[←HN.o];exact hltj)⟩;have eX:=HAs.o x (A4 hx);obtain⟨u,aW,hu⟩:=Sl.at Hg.o hx;have hu:AI w1 u x:=hu;obtain⟨bx,offx,cpx,rfl,hbx,hxc⟩:=hu.cells eX hr1 hc1;have b1i:=Hb.o.qaa d9.o (A2 _);have aW:=(b1i.cell (p:=⟨gl,go+j,none⟩) bz).trans aW;obtain⟨q2,f2,p2,x1,ct,x2⟩:=hxc (k/c) ku;have x1:=(b1i.cell (p:=⟨bx,offx+k/c,none⟩) hbx).trans x1;have x2:=(b1i.cell (p:=⟨q2,f2+k % c,none⟩) ct).trans (x2 (k % c) f4);have m1:=(d9.o.cell (p:=⟨b,off+k/c,none⟩) iw).trans HM.o.1;have m2:=(d9.o.cell (p:=⟨q1,f1+k % c,none⟩) hq1w).trans HM.o.2;have cZ:=Z (A19 (c:=c) (m:=m) (n:=k) hx);obtain⟨z1,bL⟩:∃z,z=AJ x (k/c) (k % c):=⟨_,rfl⟩;rw[←bL,←sX.o,←HC.o]at cZ;rw[←bL]at x2;clear bL hx hu hxc;by_cases hz:z1=z2
    ·have ng:(z1==z2)=true:=by simp[hz]
     have eF:=Z (show O9 c m k (A.take (j+1))=C+1 from by rw[cZ.o,if_pos hz]);clear hz;go_wp2
     go_region
     all_goals
      go_wp2;go_roundw;exact⟨j+1,J,by go_num,by rw[eF.o];go_num,Z d9.o.drew⟩;exact Jv
    ·have ng:(z1==z2)=false:=by simp[hz]
     have eF:=Z (show O9 c m k (A.take (j+1))=C from by rw[cZ.o,if_neg hz];rfl);clear hz;go_wp2
     go_region
     all_goals
      go_wp2;go_roundw;exact⟨j+1,J,by go_num,by rw[eF.o],Z d9.o.drew⟩;exact Jv
   ·obtain rfl:j=N:=J;have xS:f k=C:=by rw[yz.o,HC.o,A9 (by rw[←HN.o];exact A2 _)]
    have be:=Z (Hb.o.qaa d9.o (A2 _));have Hfk:=Z xS;clear xS;by_cases hltc:(C:Int)<fi
    ·have bM:=Z (aG.o.less (by rw[Hfk.o];exact hltc));rw[Hfk.o]at bM;go_wp2;go_roundw;exact⟨k+1,k,C,J,by go_num,rfl,rfl,bM,be⟩;exact Jv
    ·have bM:=Z (aG.o.more tg.o (by rw[Hfk.o];exact hltc));go_wp2;go_roundw;exact⟨k+1,bi,fi,J,by go_num,rfl,rfl,bM,be⟩;exact Jv
 ·obtain rfl:k=r*c:=J;have dM:¬(((r*c:Nat):Int)<(r:Int)*(c:Int)):=by rw[ju.o];omega
  have aU:=Z (show bi=LM r c L m cells from by
   rcases aG.o with⟨h,-⟩|⟨-,h,-⟩
   ·omega
   ·rw[h,Hr.o,th.o])
  obtain⟨K,hK⟩:∃K,K=r*c:=⟨_,rfl⟩;rw[←hK]at dM⊢;clear hK;go_wp2
  go_ret
  exact⟨CY aU.o,sW⟩
def A0j:Value→Nat
 |.slice _ n _=>n
 |_=>0
theorem A1J{n:Int}(hr:DJ N (Fh n cells)):Kq (cells++[n])=Fh n cells:=by
 have hp:(Kq (cells++[n])).Perm (Fh n cells):=(O6 _).trans (G5 n cells).symm;have aK:(Kq (cells++[n])).Pairwise (fun a b=>a≠b):=(hp.pairwise_iff (fun h=>Ne.symm h)).2 (hr.1.imp fun h=>by omega);exact A17 hp ((List.Pairwise.and (Vp _) aK).imp fun h=>by omega) hr.1
theorem MH{l:U}(h:DJ N l):l.length≤N:=by have:=KV (R8.2 h) (A7 _);omega
def I8(r c:Nat)(m:I):U:=Gb c (r*c) (BB (Ae m) (Al m)) m (BB (Ae m) (Al m)).length []
def Dt(m:I):Option U:=if AC m then some (I8 m.length (m.headD []).length m)else none
theorem NC(h:Ax r c m)(h1:1≤r)(h2:r≤5)(h3:1≤c)(h4:c≤5):Dt m=some (I8 r c m):=by
 unfold Dt;rw[if_pos (h.ok h1 h2 h3 h4),h.1,h.head h1]
theorem NE(N:Nat):DJ N []:=⟨List.Pairwise.nil,fun x hx=>by cases hx⟩
theorem Nd(h:Ax r c m)(h1:1≤r)(h2:r≤5)(h3:1≤c)(h4:c≤5):DJ (r*c) (I8 r c m)∧CN c (BB (Ae m) (Al m)) m (I8 r c m)=1:=by
 have hI:=Ro h h1 h2 h3 h4;exact Tx h1 h3 hI.nd hI.shape hI.self _ [] (NE _) (by
  have:CN c (BB (Ae m) (Al m)) m []≤(BB (Ae m) (Al m)).length:=List.length_filter_le _ _;omega)
theorem Mb(m:I):((Dt m).getD []).length≤25:=by
 cases hok:AC m
 ·simp[Dt,hok]
 ·obtain⟨r,c,hr1,hr5,hc1,hc5,an⟩:=Az hok;rw[NC an hr1 hr5 hc1 hc5];have:=MH (Nd an hr1 hr5 hc1 hc5).1;have:r*c≤25:=Nat.mul_le_mul hr5 hc5;simp only[Option.getD_some];omega
structure GSt(n r c:Nat)(m:I)(L:List I)(W:U)(w wr:World)(ov:Value)(cells:U)(f:Nat):Prop where
 own:Ag 3 Ap (Iv n wr.heap.size) wr ov cells
 ris:DJ (r*c) cells
 cnt:CN c L m cells≤f+1
 eq:W=Gb c (r*c) L m f cells
 bel:Below n w wr
theorem SB(v:Value)(m:I)(r c:Nat)(w:World)(hv:AI w v m)(hs:Ax r c m)(hr1:1≤r)(hr5:r≤5)(hc1:1≤c)(hc5:c≤5):Calls prog 52 #[v] w fun e w'=>∃v',e=.returned (.tuple #[v',.bool true])∧Ag 3 Ap (Iv w.heap.size w'.heap.size) w' v' (I8 r c m)∧Below w.heap.size w w':=by
 have hI:=Ro hs hr1 hr5 hc1 hc5;obtain⟨W,hW⟩:∃W,W=I8 r c m:=⟨_,rfl⟩;obtain⟨L,hL⟩:∃L,L=BB (Ae m) (Al m):=⟨_,rfl⟩;have nj:W=Gb c (r*c) L m L.length []:=by rw[hW,hL];rfl
 have iF:CN c L m []≤L.length:=List.length_filter_le _ _;rw[←hL]at hI;rw[←hW];have HI:=Z hI;have jt:r*c≤25:=Nat.mul_le_mul hr5 hc5;have aR:=Z (hs.ok hr1 hr5 hc1 hc5);have Hv:=Z hv;have HL:=Z hL;obtain⟨a,cap,rfl,-⟩:=hv;have ti:=Z (show GSt w.heap.size r c m L W w w (.slice none 0 0) [] L.length from⟨Ag.nil _ _ _ _,NE _,J,nj,A6 _ _⟩);clear hI hW hL nj iF;go_enter func52,ntmps52;go_wp2_with fail;refine(B8 _ _ _ Hv.o).mono ?_;rintro e w' ⟨rfl,rfl⟩;rw[aR.o];go_wp2;go_loopw [4] (fun ov wr=>∃(cells:U)(f:Nat),Hid (GSt w.heap.size r c m L W w wr ov cells f)) (fun ov _=>26-A0j ov);exact⟨[],L.length,ti⟩;clear ti;obtain⟨cells,f,St⟩:=hrel;obtain⟨N,hN⟩:∃N,N=CN c L m cells:=⟨_,rfl⟩;have HN:=Z hN;have aZ:1≤N:=by rw[hN];exact Mp HI.o.self cells
 have hNf:N≤f+1:=by rw[hN];exact St.o.cnt
 have ah:=MH St.o.ris;have pN:=Z St.o.own.ints;obtain⟨p1,p2,p3,rfl⟩:=St.o.own.shape;obtain rfl:p2=cells.length:=Au.len St.o.own.ints;clear hN;go_wp2_with fail;refine(YD _ _ m cells r c _ (Hv.o.keep St.o.bel) pN.o hs hr1 hr5 hc1 hc5 St.o.ris).mono ?_;rintro e w1 ⟨rfl,b1⟩;rw[←HL.o,←HN.o];have sz1:=b1.size;have hnw:=St.o.bel.size;by_cases h1:N=1
 ·rw[decide_eq_true h1];have aU:=Z (show W=cells from by rw[St.o.eq,Mu (by rw[←HN.o];omega)]);have aC:=Z (Ag.grow A8 St.o.own (A2 _) b1);have js:=St.o.bel.qaa b1 (A2 _);clear h1;go_wp2;refine Jz #[.slice p1 cells.length p3,.bool true] (by simp[results,results52,go_sem]) ?_;exact⟨_,rfl,by rw[aU.o];exact aC.o,js⟩
 ·rw[decide_eq_false h1];have mV:=PK hr1 hc1 HI.o.nd HI.o.shape HI.o.self St.o.ris (by rw[←HN.o];omega);have lS:=Z (show LM r c L m cells=(C9 c (r*c) L m cells:Nat)from by unfold LM;rw[if_neg (by rw[←HN.o];exact h1)]);obtain⟨f',rfl⟩:∃f',f=f'+1:=⟨f-1,J⟩;have gC:=Z (show W=Gb c (r*c) L m f' (Fh (C9 c (r*c) L m cells) cells)from by rw[St.o.eq,MG (by rw[←HN.o];omega)]);obtain⟨X,hX⟩:∃X,X=C9 c (r*c) L m cells:=⟨_,rfl⟩;rw[←hX]at mV lS gC;have hXb:=mV.1;have tj:=Z mV.2.2.2.1;have zC:=Z (show CN c L m (Fh X cells)≤f'+1 from by have:=mV.2.2.2.2;rw[←HN.o]at this;omega);clear hX mV h1;have mW:=Z (pN.o.keep b1);have dm:=Z (St.o.bel.qaa b1 (A2 _));have dd:=Z (Ag.grow A8 St.o.own (A2 _) b1);go_wp2_with fail;refine(Ws _ _ m cells r c _ (Hv.o.keep dm.o) mW.o hs hr1 hr5 hc1 hc5 St.o.ris).mono ?_;rintro e w2 ⟨rfl,b2⟩;rw[←HL.o,lS.o];have zD:Cc (X:Int):=Cc.small J J;have sz2:=b2.size;have aX:=Z (Ag.grow A8 dd.o (A2 _) b2);have be:=Z (dm.o.qaa b2 (A2 _));have lC:cells.length<1099511627776:=J;clear dd pN mW;go_wp2_with (first|(at_builtin;(refine AH (w0:=w2) (u:=.int .i64 X) rfl _ _ 32 rfl A8 3 underlying32 Bg rfl Jq w.heap.size w2.heap.size be.o.size (A2 _) rfl rfl (by exact aX.o) (by exact⟨rfl,zD⟩) lC ?_);intro v3 w3 o3 b3 _;obtain⟨q3,hq3⟩:∃q3,q3=cells++[(X:Int)]:=⟨_,rfl⟩;rw[←hq3]at o3;obtain⟨g3,c3,rfl,hg3,-,hg3s,-⟩:=o3.qac (by rw[hq3];simp);have xT:=Z hq3;have j6:q3.length=cells.length+1:=(by rw[hq3];simp);have jY:=Z j6;clear hq3 j6;have cY:=Z o3;have bN:=Z b3;clear o3 b3)|fail);have HI3:=Z (show ∀x∈q3,Cc x from fun x hx=>by
   rw[xT.o]at hx;have:=tj.o.2 x ((G5 (X:Int) cells).mem_iff.2 hx);exact Cc.small J J)
  have j6:q3.length<4611686018427387904:=by rw[jY.o];omega
  refine(A4g g3 c3 q3 _ w3 cY.o HI3.o j6).mono ?_;rintro e w4 ⟨rfl,o4,h4⟩;rw[show Kq q3=Fh X cells from by rw[xT.o,A1J tj.o]]at o4;have fs:=h4.size;have gA:Below w.heap.size w3 w4:=h4.below (Aj (Aj hnw (Aj sz1 sz2)) bN.o.size) fun b hb=>by have hb:b=g3:=hb;rw[hb];exact hg3.1
  have oH:=Z (show GSt w.heap.size r c m L W w w4 (.slice (some ⟨g3,0,none⟩) q3.length c3) (Fh X cells) f' from⟨(Ab A8).mono (fun b hb=>⟨hb.1.1,Aa hb.2 fs⟩) o4,tj.o,zC.o,gC.o,(be.o.trans bN.o).trans gA⟩);clear o4;go_wp2;go_roundw
  case rel=>exact⟨_,f',oH⟩
  case measure=>have:=jY.o;simp[A0j];omega
theorem QM(v:Value)(m:I)(w:World)(hv:AI w v m):Calls prog 52 #[v] w fun e w'=>∃v',e=.returned (.tuple #[v',.bool (Dt m).isSome])∧Ag 3 Ap (Iv w.heap.size w'.heap.size) w' v' ((Dt m).getD [])∧Below w.heap.size w w':=by
 cases hok:AC m
 ·have Hr:=Z (show Dt m=none from by simp[Dt,hok]);have aR:=Z hok;clear hok;obtain⟨a,cap,rfl,-⟩:=id hv;go_enter func52,ntmps52;go_wp2_with fail;refine(B8 _ _ _ hv).mono ?_;rintro e w' ⟨rfl,rfl⟩;rw[aR.o];go_wp2;refine Jz #[.slice none 0 0,.bool false] (by simp[results,results52,go_sem]) ?_;exact⟨_,by rw[Hr.o];rfl,by rw[Hr.o];exact Ag.nil _ _ _ _,A6 _ _⟩
 ·obtain⟨r,c,hr1,hr5,hc1,hc5,an⟩:=Az hok;rw[NC an hr1 hr5 hc1 hc5];exact SB v m r c w hv an hr1 hr5 hc1 hc5
