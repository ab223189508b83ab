/- Base. -/
import Derived.Test.YthmocomfjgmjoaaGreatDoorQ09
import Derived.Test.YthmocomfjgmjoaaGreatDoorQ10
set_option maxHeartbeats 2000000
set_option maxRecDepth 100000
namespace Go.Proofs.YthmocomfjgmjoaaGreatDoor
open Go.RowKit
theorem A3f(v:Value)(l:List Int)(n:Int)(N:Nat)(w:World)(hv:Ab w v l)(hn:n=(N:Int))(hN:N≤1048576)(hl:DD N l):Calls Tryz.prog 233 #[v,.int .i64 n] w fun e w'=>e=.returned (.bool true)∧w=w':=by
 subst hn;obtain⟨a,cap0,rfl,-⟩:=id hv;have Hv:=Z hv;have Hl:=Z hl;have dX:l.length≤1048576:=by have:=Kj (RD.2 hl) (Nat.zero_le _);omega
 clear hv hl;go_enter Tryz.func233,Tryz.ntmps233;go_wp2;go_loopw [5,6,9] (fun _ _ i wr=>∃k:Nat,k≤l.length∧i=.int .i64 k∧w=wr) (fun _ _ i _=>l.length-(intOf i).toNat)
 case atStart=>exact⟨0,Nat.zero_le _,rfl,rfl⟩
 case round=>
  obtain⟨k,hk,rfl,rfl⟩:=hrel;by_cases aH:k<l.length
  ·obtain⟨b,off,cpr,he,hb,-⟩:=Hv.o.inv_ne (by omega);obtain⟨rfl,-⟩:a=some ⟨b,off,none⟩∧cap0=cpr:=by simpa using he
   obtain⟨x,hx⟩:∃x,l[k]? =some x:=⟨_,List.getElem?_eq_getElem aH⟩;have fW:=Ab.at Hv.o hx;have fd:=Hl.o.2 x (List.mem_of_getElem? hx);have Hr:=Z (show BR 0 ((N:Int)-1) x=true from Fg (by omega) (by omega));by_cases aN:0<k
   ·obtain⟨K,hK⟩:∃K:Nat,(k:Int)-1=(K:Int):=⟨k-1,by omega⟩;obtain⟨y,hy⟩:∃y,l[K]? =some y:=⟨_,List.getElem?_eq_getElem (by omega)⟩;have qP:=Ab.at Hv.o hy;have hyx:y<x:=by
     obtain⟨i1,e1⟩:=List.getElem?_eq_some_iff.1 hy;obtain⟨i2,e2⟩:=List.getElem?_eq_some_iff.1 hx;rw[←e1,←e2];exact List.pairwise_iff_getElem.1 Hl.o.1 _ _ i1 i2 (by omega)
    have hd:decide (y≥x)=false:=decide_eq_false (by omega);have mA:decide (x≤y)=false:=decide_eq_false (by omega);have xQ:decide ((0:Int)<(k:Int))=true:=by simp;omega
    clear hx hy he;go_wp2_with (fail);refine(B6 _ _ _ _).mono ?_;rintro e w' ⟨rfl,rfl⟩;rw[Hr.o];go_wp2;go_roundw
    case rel=>exact⟨k+1,by omega,by go_num,trivial⟩
    case measure=>simp[intOf];omega
   ·obtain rfl:k=0:=by omega
    rw[Nat.add_zero] at fW;clear hx he;go_wp2_with (fail);refine(B6 _ _ _ _).mono ?_;rintro e w' ⟨rfl,rfl⟩;rw[Hr.o];go_wp2;go_roundw
    case rel=>exact⟨0+1,by omega,by go_num,trivial⟩
    case measure=>simp[intOf];omega
  ·go_wp2
   go_ret
   exact⟨rfl,rfl⟩
structure A5I(r c:Nat)(m:List (List Int))(L:List (List (List Int))):Prop where
 eq:L=Bi (A6 m) (A8 m)
 ok:AF (A6 m) (A8 m)=true
 mem:∀q,q∈L↔CY (A6 m) (A8 m) r c q
 self:m∈L
 nd:L.Pairwise (fun a b=>a≠b)
 shape:∀g∈L,Ac r c g
 big:L.length≤1073741824
theorem RC{r c:Nat}{m:List (List Int)}(hs:Ac r c m)(hr1:1≤r)(hr5:r≤5)(hc1:1≤c)(hc5:c≤5):A5I r c m (Bi (A6 m) (A8 m)):=by
 have hS:=Dq hs hr1 hr5 hc1 hc5;have aw:=(Ch hs hr1 hr5 hc1 hc5).1;have az:=(Cl hs hr1 hr5 hc1 hc5).1;have aD:AF (A6 m) (A8 m)=true:=Ip (by omega) (by omega) (by omega) (by omega) (by rw[aw,az];exact hS);have dG:∀q,q∈Bi (A6 m) (A8 m)↔CY (A6 m) (A8 m) r c q:=fun q=>by rw[Dp aD,aw,az]
 have aP:=J3 (A6 m) (A8 m);refine⟨rfl,aD,dG,(dG m).2 hS,Tp aD,fun g hg=>((dG g).1 hg).1,Nat.le_trans aP ?_⟩;rw[aw,az];exact Nat.le_trans (Nat.pow_le_pow_right (by decide) (Nat.mul_le_mul hr5 (Nat.succ_le_succ hc5))) (by decide)
theorem MJ{c:Nat}{L:List (List (List Int))}{m:List (List Int)}{cells:List Int}{k:Nat}{x:List (List Int)}(h:L[k]? =some x):C5 c (L.take (k+1)) m cells=C5 c (L.take k) m cells++if C2 c m x cells then[x] else[]:=by
 unfold C5;rw[List.take_add_one,h,Option.toList_some,List.filter_append];cases hb:C2 c m x cells<;>simp[hb]
theorem Ov{c:Nat}{m x:List (List Int)}{cells:List Int}{j n:Nat}(h:cells[j]? =some (n:Int)):C2 c m x (cells.take (j+1))=(C2 c m x (cells.take j)&&decide (Al x (n/c) (n % c)=Al m (n/c) (n % c))):=by
 rw[List.take_add_one,h,Option.toList_some,OE];unfold Lv;rw[Int.toNat_natCast]
theorem A1T:(Tryz.prog.info? 31).map (fun i=>(i.zero,i.size,i.bytes))=some (some (.slice none 0 0),1,24):=by kernel_rfl
theorem Rp(v v2:Value)(m:List (List Int))(cells:List Int)(r c:Nat)(w:World)(hv:Ak w v m)(aW:Ab w v2 cells)(hs:Ac r c m)(hr1:1≤r)(hr5:r≤5)(hc1:1≤c)(hc5:c≤5)(d9:DD (r*c) cells):Calls Tryz.prog 170 #[v,v2] w fun e w'=>∃v',e=.returned (.tuple #[v',.bool true])∧Gm w' v' (C5 c (Bi (A6 m) (A8 m)) m cells)∧Below w.heap.size w w':=by
 have hI:=RC hs hr1 hr5 hc1 hc5;obtain⟨L,hL⟩:∃L,L=Bi (A6 m) (A8 m):=⟨_,rfl⟩;rw[←hL] at hI⊢;have HI:=Z hI;have kE:r*c≤25:=Nat.mul_le_mul hr5 hc5;have aS:=Z (hs.ok hr1 hr5 hc1 hc5);have Hv:=Z hv;have aj:=Z aW;obtain⟨b,off,cp,rfl,hb,az⟩:=hv.cells hs hr1 hc1;obtain⟨b0,o0,c0,cF,aX,-⟩:=az 0 (by omega);rw[Nat.add_zero] at cF;have fY:=Z az;obtain⟨a2,cap2,rfl,-⟩:=id aW;have l6:=Z d9;have hcl25:cells.length≤25:=by have:=Kj (RD.2 d9) (Nat.zero_le _);omega
 have HL:=Z hL;have cz:=hI.big;have l7:0<L.length:=List.length_pos_of_mem hI.self;have kG:=Z (show(r:Int)*(c:Int)=((r*c:Nat):Int) from by rw[Int.natCast_mul]);clear hI az hv aW d9 hL;go_enter Tryz.func170,Tryz.ntmps170;go_wp2_with (fail);refine(AP _ _ _ Hv.o).mono ?_;rintro e w' ⟨rfl,rfl⟩;rw[aS.o];go_wp2_with (fail);refine(A3f _ cells _ (r*c) _ aj.o kG.o (by omega) l6.o).mono ?_;rintro e w' ⟨rfl,rfl⟩;go_wp2_with (fail);refine(E7 _ _ _ Hv.o).mono ?_;rintro e w2 ⟨v2,rfl,o2,b2⟩;have cu:=Z o2.ints;clear o2;go_wp2_with (fail);refine(EA _ _ _ (Hv.o.keep b2)).mono ?_;rintro e w3 ⟨v3,rfl,o3,b3⟩;go_wp2_with (fail);refine(Ef _ _ _ _ _ (cu.o.keep b3) o3.ints).mono ?_;rintro e w4 ⟨v4,rfl,o4,b4⟩;rw[HI.o.ok];rw[show AZ (A6 m) (A8 m)=L from by unfold AZ;rw[HI.o.ok,HL.o];rfl] at o4;have pY:=b2.trans_pure (b3.trans_pure b4 (Nat.le_refl _)) (Nat.le_refl _);obtain⟨gl,gc,rfl,-,-,ai,-⟩:=o4.inv_ne l7;have Hg:=Z o4.grids;obtain⟨N,hN⟩:∃N,N=L.length:=⟨_,rfl⟩;rw[←hN] at Hg l7 cz⊢;have HN:=Z hN;have cG:b<w4.heap.size:=Nat.lt_of_lt_of_le hb pY.size;have hb04:b0<w4.heap.size:=Nat.lt_of_lt_of_le aX pY.size;clear o3 o4 hN cF;go_wp2;go_loopw [8,10,11,13,14,15,41] (fun out _ _ _ _ _ i wr=>∃(k:Nat)(us:List Value),k≤N∧i=.int .i64 k∧Hid (A4 31 PA (Iv w4.heap.size wr.heap.size) wr out us)∧Hid (GV (Sl (Sl A7)) w4 us (C5 c (L.take k) m cells))∧Hid (Below w4.heap.size w4 wr)) (fun _ _ _ _ _ _ i _=>N-(intOf i).toNat)
 case atStart=>exact⟨0,[],Nat.zero_le _,rfl,A4.nil _ _ _ _,GV.nil _ _,Below.refl _ _⟩
 case round=>
  obtain⟨k,us,hk,rfl,Ho,Hh,Hb⟩:=hrel;have HMr:=Z (show ∀y x,y<r→x<c→∃br offr cpr,wr.cell? ⟨b,off+y,none⟩=some (.slice (some ⟨br,offr,none⟩) c cpr)∧br<wr.heap.size∧wr.cell? ⟨br,offr+x,none⟩=some (.int .i64 (Al m y x)) from fun y x hy hx=>by
   obtain⟨br,offr,cpr,h1,h2,h3⟩:=fY.o y hy;have b4r:=pY.trans_pure Hb.o (Nat.le_refl _);exact⟨br,offr,cpr,(b4r.cell (p:=⟨b,off+y,none⟩) hb).trans h1,Nat.lt_of_lt_of_le h2 b4r.size,(b4r.cell (p:=⟨br,offr+x,none⟩) h2).trans (h3 x hx)⟩)
  by_cases aH:k<N
  ·obtain⟨x,hx⟩:∃x,L[k]? =some x:=⟨_,List.getElem?_eq_getElem (by rw[←HN.o];exact aH)⟩;have dz:=HI.o.shape x (List.mem_of_getElem? hx);obtain⟨u,aQ,hu⟩:=Sl.at Hg.o hx;have hu:Ak w4 u x:=hu;obtain⟨bx,offx,cpx,rfl,hbx,hxc⟩:=hu.cells dz hr1 hc1;rw[Nat.zero_add] at aQ;have gX:=(Hb.o.cell (p:=⟨gl,k,none⟩) ai).trans aQ;have HXr:=Z (show ∀y x',y<r→x'<c→∃br offr cpr,wr.cell? ⟨bx,offx+y,none⟩=some (.slice (some ⟨br,offr,none⟩) c cpr)∧br<wr.heap.size∧wr.cell? ⟨br,offr+x',none⟩=some (.int .i64 (Al x y x')) from fun y x' hy hx'=>by
    obtain⟨br,offr,cpr,h1,h2,h3⟩:=hxc y hy;exact⟨br,offr,cpr,(Hb.o.cell (p:=⟨bx,offx+y,none⟩) hbx).trans h1,Nat.lt_of_lt_of_le h2 Hb.o.size,(Hb.o.cell (p:=⟨br,offr+x',none⟩) h2).trans (h3 x' hx')⟩)
   have kn:=Z (MJ (c:=c) (m:=m) (cells:=cells) hx);have Hu:=Z hu;have sB:=Z (aj.o.keep (pY.trans_pure Hb.o (Nat.le_refl _)));have dL:b<wr.heap.size:=Nat.lt_of_lt_of_le cG Hb.o.size;have hbxr:bx<wr.heap.size:=Nat.lt_of_lt_of_le hbx Hb.o.size;have aP:=Hh.o.1;have lA:(C5 c (L.take k) m cells).length≤k:=Nat.le_trans (List.length_filter_le _ _) (by rw[List.length_take];omega);clear hx aQ hu hxc;go_wp2;clear gX;go_loopw [11,13,14,15,47] (fun ag _ _ _ i wi=>∃j:Nat,j≤cells.length∧i=.int .i64 j∧ag=.bool (C2 c m x (cells.take j))∧Hid (Below wr.heap.size wr wi)) (fun _ _ _ _ i _=>cells.length-(intOf i).toNat)
   case atStart=>exact⟨0,Nat.zero_le _,rfl,rfl,Below.refl _ _⟩
   case round=>
    obtain⟨wo,hwo⟩:∃wo,wo=wr:=⟨_,rfl⟩;clear hwo;obtain⟨j,hj,rfl,rfl,du⟩:=hrel;by_cases hltj:j<cells.length
    ·obtain⟨n0,dY⟩:∃n,cells[j]? =some n:=⟨_,List.getElem?_eq_getElem hltj⟩;have jz:=l6.o.2 n0 (List.mem_of_getElem? dY);obtain⟨n,rfl⟩:∃n:Nat,n0=n:=⟨n0.toNat,by omega⟩;have sC:n<r*c:=by omega
     have lI:n/c<r:=by rw[Nat.div_lt_iff_lt_mul (by omega)];exact sC
     have fk:n % c<c:=Nat.mod_lt _ (by omega);have aJ:=Z (Ov (c:=c) (m:=m) (x:=x) dY);obtain⟨bc,offc,cpc,hec,hbc,-⟩:=sB.o.inv_ne (by omega);obtain⟨rfl,-⟩:a2=some ⟨bc,offc,none⟩∧cap2=cpc:=by simpa using hec
     have iV:=(du.o.cell (p:=⟨bc,offc+j,none⟩) hbc).trans (Ab.at sB.o dY);obtain⟨q1,f1,p1,m1,fE,m2⟩:=HMr.o (n/c) (n % c) lI fk;obtain⟨q2,f2,p2,x1,fo,x2⟩:=HXr.o (n/c) (n % c) lI fk;obtain⟨q0,f0,p0,m0,nc,-⟩:=HMr.o 0 0 (by omega) (by omega);rw[Nat.add_zero] at m0;have m0:=(du.o.cell (p:=⟨b,off,none⟩) dL).trans m0;have m1:=(du.o.cell (p:=⟨b,off+n/c,none⟩) dL).trans m1;have m2:=(du.o.cell (p:=⟨q1,f1+n % c,none⟩) fE).trans m2;have x1:=(du.o.cell (p:=⟨bx,offx+n/c,none⟩) hbxr).trans x1;have x2:=(du.o.cell (p:=⟨q2,f2+n % c,none⟩) fo).trans x2;have wq:(0:Int)≤(n:Int) / (c:Int):=Int.ediv_nonneg (by omega) (by omega);have iS:(n:Int) / (c:Int)<(r:Int):=by rw[←Int.natCast_ediv];omega
     have ws:(0:Int)≤(n:Int) % (c:Int):=Int.emod_nonneg _ (by omega);have wt:(n:Int) % (c:Int)<(c:Int):=Int.emod_lt_of_pos _ (by omega);obtain⟨z1,bZ⟩:∃z,z=Al x (n/c) (n % c):=⟨_,rfl⟩;obtain⟨z2,bT⟩:∃z,z=Al m (n/c) (n % c):=⟨_,rfl⟩;rw[←bZ] at x2 aJ;rw[←bT] at m2 aJ;obtain⟨ag,fr⟩:∃ag,ag=C2 c m x (cells.take j):=⟨_,rfl⟩;rw[←fr] at aJ⊢;clear bZ bT fr dY jz hec;cases ag
     ·have eW:=Z (show C2 c m x (cells.take (j+1))=false from by rw[aJ.o];rfl);go_wp2
      go_region
      all_goals
       go_wp2
       go_region
      all_goals
       go_wp2;go_roundw
       case rel=>exact⟨j+1,by omega,by go_num,by rw[eW.o],Z du.o.drew.drew⟩
       case measure=>simp[intOf];omega
     ·have eW:=Z (show C2 c m x (cells.take (j+1))=(z1==z2) from by rw[aJ.o,Bool.true_and,Bool.eq_iff_iff,decide_eq_true_eq,beq_iff_eq]);go_wp2
      go_region
      all_goals
       go_wp2
       go_region
      all_goals
       go_wp2;go_roundw
       case rel=>exact⟨j+1,by omega,by go_num,by rw[eW.o],Z du.o.drew.drew⟩
       case measure=>simp[intOf];omega
    ·obtain rfl:j=cells.length:=by omega
     rw[List.take_length];have bj:=Z (Hb.o.trans_pure du.o (Nat.le_refl _));have aI:=du.o.size;have cu:=Z (A4.grow DV Ho.o (Nat.le_refl _) du.o);obtain⟨ag,fr⟩:∃ag,ag=C2 c m x cells:=⟨_,rfl⟩;have jH:=Z fr;rw[←fr];clear fr Ho;cases ag
     ·have kU:=Z (show C5 c (L.take (k+1)) m cells=C5 c (L.take k) m cells from by rw[kn.o,←jH.o];simp);go_wp2;go_roundw
      case rel=>exact⟨k+1,us,by omega,by go_num,cu,Z (by rw[kU.o];exact Hh.o),bj⟩
      case measure=>simp[intOf];omega
     ·have kU:=Z (show C5 c (L.take (k+1)) m cells=C5 c (L.take k) m cells++[x] from by rw[kn.o,←jH.o];simp);obtain⟨wo,rfl⟩:∃wo:World,wo=wr:=⟨_,rfl⟩;have oF:us.length<1099511627776:=by omega
      have fS:=bj.o.size;obtain⟨p1,p2,p3,rfl⟩:=cu.o.shape;go_wp2_with (first|(at_builtin;(refine Aa rfl _ _ 77 rfl DV 31 Tryz.underlying77 A1T rfl (by decide) w4.heap.size wo.heap.size fS (Nat.le_refl _) rfl rfl (by exact cu.o) (by exact⟨rfl,rfl⟩) oF ?_);intro v2 w2 hown2 aT _)|fail);have bM:=Z (bj.o.trans aT);have kv:=Z (Hh.o.snoc (x:=x) Hu.o);exact⟨⟨k+1,_,by omega,by go_num,Z hown2,Z (by rw[kU.o];exact kv.o),bM⟩,by simp[intOf];omega⟩
  ·obtain rfl:k=N:=by omega
   rw[List.take_of_length_le (by rw[←HN.o];exact Nat.le_refl _)] at Hh;obtain⟨p1,p2,p3,rfl⟩:=Ho.o.shape;have aZ:=Z ((Hh.o.keep (BY (BY A2)) Hb.o).list Ho.o);have jV:=pY.trans_pure Hb.o (Nat.le_refl _);go_wp2;refine bodyPost_ret (v:=.tuple #[.slice p1 p2 p3,.bool true]) (by simp[results,Tryz.results170,go_sem]) rfl ?_;exact⟨_,rfl,aZ.o,jV⟩
theorem QF(v v2:Value)(m:List (List Int))(cells:List Int)(r c:Nat)(w:World)(hv:Ak w v m)(aW:Ab w v2 cells)(hs:Ac r c m)(hr1:1≤r)(hr5:r≤5)(hc1:1≤c)(hc5:c≤5)(d9:DD (r*c) cells):Calls Tryz.prog 169 #[v,v2] w fun e w'=>e=.returned (.int .i64 (CD c (Bi (A6 m) (A8 m)) m cells))∧Below w.heap.size w w':=by
 have Hv:=Z hv;have aj:=Z aW;obtain⟨a,cap,rfl,-⟩:=hv;obtain⟨a2,cap2,rfl,-⟩:=aW;go_enter Tryz.func169,Tryz.ntmps169;go_wp2_with (fail);refine(Rp _ _ m cells r c _ Hv.o aj.o hs hr1 hr5 hc1 hc5 d9).mono ?_;rintro e w1 ⟨v1,rfl,g1,b1⟩;obtain⟨p1,p2,rfl,-⟩:=g1;go_wp2
 go_ret
 exact⟨rfl,b1⟩
theorem Zn(v v2:Value)(m:List (List Int))(cells:List Int)(r c:Nat)(w:World)(hv:Ak w v m)(aW:Ab w v2 cells)(hs:Ac r c m)(hr1:1≤r)(hr5:r≤5)(hc1:1≤c)(hc5:c≤5)(d9:DD (r*c) cells):Calls Tryz.prog 112 #[v,v2] w fun e w'=>e=.returned (.bool (decide (CD c (Bi (A6 m) (A8 m)) m cells=1)))∧Below w.heap.size w w':=by
 have Hv:=Z hv;have aj:=Z aW;obtain⟨a,cap,rfl,-⟩:=hv;obtain⟨a2,cap2,rfl,-⟩:=aW;obtain⟨N,hN⟩:∃N,N=CD c (Bi (A6 m) (A8 m)) m cells:=⟨_,rfl⟩;rw[←hN];have HN:=Z hN;clear hN;go_enter Tryz.func112,Tryz.ntmps112;go_wp2_with (fail);refine(QF _ _ m cells r c _ Hv.o aj.o hs hr1 hr5 hc1 hc5 d9).mono ?_;rintro e w1 ⟨rfl,b1⟩;rw[←HN.o];obtain⟨z,hz⟩:∃z,((N:Int)==1)=z:=⟨_,rfl⟩;have Hz:=Z (show z=decide (N=1) from by rw[←hz,Bool.eq_iff_iff,decide_eq_true_eq,beq_iff_eq];omega);go_wp2
 go_ret
 exact⟨AI Hz.o,b1⟩
def NI(c:Nat)(m:List (List Int))(n:Nat)(A:List (List (List Int))):Nat:=(A.filter fun h=>decide (Al h (n/c) (n % c)=Al m (n/c) (n % c))).length
theorem A4C(c:Nat)(L:List (List (List Int)))(m:List (List Int))(cells:List Int)(n:Nat):NI c m n (C5 c L m cells)=CD c L m (cells++[(n:Int)]):=by
 unfold CD;rw[MY];unfold NI Lv;rw[Int.toNat_natCast]
theorem A29{c:Nat}{m:List (List Int)}{n j:Nat}{A:List (List (List Int))}{x:List (List Int)}(h:A[j]? =some x):NI c m n (A.take (j+1))=NI c m n (A.take j)+if Al x (n/c) (n % c)=Al m (n/c) (n % c) then 1 else 0:=by
 unfold NI;rw[List.take_add_one,h,Option.toList_some,List.filter_append,List.length_append];by_cases hb:Al x (n/c) (n % c)=Al m (n/c) (n % c)<;>simp[hb]
theorem A1t(c:Nat)(m:List (List Int))(n:Nat)(A:List (List (List Int))):NI c m n A≤A.length:=List.length_filter_le _ _
def KE(f:Nat→Nat)(len k:Nat)(b fw:Int):Prop:=(k=0∧b=-1∧fw=(len:Int)+1)∨(1≤k∧b=(D3 f k:Nat)∧fw=(f (D3 f k):Nat))
theorem KE.less{f:Nat→Nat}{len k:Nat}{b fw:Int}(h:KE f len k b fw)(aH:(f k:Int)<fw):KE f len (k+1) k (f k):=by
 rcases h with⟨rfl,-,-⟩|⟨h1,-,rfl⟩
 ·exact .inr ⟨by omega,by rw[Kg],by rw[Kg]⟩
 ·have e:D3 f (k+1)=k:=by rw[Jc h1,if_pos (by omega)]
  exact .inr ⟨by omega,by rw[e],by rw[e]⟩
theorem KE.more{f:Nat→Nat}{len k:Nat}{b fw:Int}(hf:∀i,f i≤len)(h:KE f len k b fw)(aH:¬(f k:Int)<fw):KE f len (k+1) b fw:=by
 rcases h with⟨rfl,-,rfl⟩|⟨h1,h2,rfl⟩
 ·have:=hf 0;omega
 ·have e:D3 f (k+1)=D3 f k:=by rw[Jc h1,if_neg (by omega)]
  exact .inr ⟨by omega,by rw[e,h2],by rw[e]⟩
theorem KE.bd{f:Nat→Nat}{len k:Nat}{b fw:Int}(hf:∀i,f i≤len)(h:KE f len k b fw):-1≤b∧b≤k∧0≤fw∧fw≤(len:Int)+1:=by
 rcases h with⟨rfl,rfl,rfl⟩|⟨h1,rfl,rfl⟩
 ·omega
 ·have:=(Ly f k h1).1;have:=hf (D3 f k);omega
def LP(r c:Nat)(L:List (List (List Int)))(m:List (List Int))(cells:List Int):Int:=if CD c L m cells=1 then-1 else(C4 c (r*c) L m cells:Nat)
theorem Vi(v v2:Value)(m:List (List Int))(cells:List Int)(r c:Nat)(w:World)(hv:Ak w v m)(aW:Ab w v2 cells)(hs:Ac r c m)(hr1:1≤r)(hr5:r≤5)(hc1:1≤c)(hc5:c≤5)(d9:DD (r*c) cells):Calls Tryz.prog 113 #[v,v2] w fun e w'=>e=.returned (.int .i64 (LP r c (Bi (A6 m) (A8 m)) m cells))∧Below w.heap.size w w':=by
 have hI:=RC hs hr1 hr5 hc1 hc5;obtain⟨L,hL⟩:∃L,L=Bi (A6 m) (A8 m):=⟨_,rfl⟩;rw[←hL] at hI⊢;have HI:=Z hI;have kE:r*c≤25:=Nat.mul_le_mul hr5 hc5;have yd:1≤r*c:=Nat.mul_pos hr1 hc1;have Hv:=Z hv;have aj:=Z aW;obtain⟨b,off,cp,rfl,hb,az⟩:=hv.cells hs hr1 hc1;obtain⟨b0,o0,c0,cF,aX,-⟩:=az 0 (by omega);rw[Nat.add_zero] at cF;have fY:=Z az;have km:=Z cF;obtain⟨a2,cap2,rfl,-⟩:=id aW;have l6:=Z d9;have HL:=Z hL;have kG:=Z (show(r:Int)*(c:Int)=((r*c:Nat):Int) from by rw[Int.natCast_mul]);have cQ:=Z (show(CD c L m cells=1→LP r c L m cells=-1)∧(CD c L m cells≠1→LP r c L m cells=(C4 c (r*c) L m cells:Nat)) from⟨fun h=>by unfold LP;rw[if_pos h],fun h=>by unfold LP;rw[if_neg h]⟩);have tf:=Z (show C4 c (r*c) L m cells=D3 (fun k=>NI c m k (C5 c L m cells)) (r*c) from by unfold C4;congr 1;funext k;rw[A4C]);have cz:=hI.big;clear hI az hv aW d9 hL cF;go_enter Tryz.func113,Tryz.ntmps113;go_wp2_with (fail);refine(Rp _ _ m cells r c _ Hv.o aj.o hs hr1 hr5 hc1 hc5 l6.o).mono ?_;rintro e w1 ⟨v1,rfl,g1,b1⟩;rw[←HL.o] at g1;obtain⟨A,hA⟩:∃A,A=C5 c L m cells:=⟨_,rfl⟩;rw[←hA] at g1 tf;have iV:CD c L m cells=A.length:=by rw[hA];rfl
 have hAL:A.length≤1073741824:=by rw[hA];exact Nat.le_trans (List.length_filter_le _ _) cz
 have pk:0<A.length:=by rw[←iV];exact LB HI.o.self cells
 have HAs:=Z (show ∀x∈A,Ac r c x from fun x hx=>HI.o.shape x (by rw[hA] at hx;exact(List.mem_filter.1 hx).1));rw[iV] at cQ;clear hA iV;have Hg:=Z g1;obtain⟨gl,go,gc,rfl,ai,-⟩:=g1.inv_ne pk;obtain⟨N,hN⟩:∃N,N=A.length:=⟨_,rfl⟩;rw[←hN] at Hg cQ hAL pk⊢;have HN:=Z hN;clear g1 hN;by_cases h1:N=1
 ·have Hr:=Z (cQ.o.1 h1);have hd:((N:Int)==1)=true:=by simp[h1]
  clear h1;go_wp2
  go_ret
  exact⟨CM Hr.o.symm,b1⟩
 have Hr:=Z (cQ.o.2 h1);have hd:((N:Int)==1)=false:=by rw[beq_eq_false_iff_ne];omega
 have Hf:=Z (show ∀i,NI c m i A≤N from fun i=>by rw[HN.o];exact A1t c m i A);obtain⟨f,hf⟩:∃f:Nat→Nat,f=fun k=>NI c m k A:=⟨_,rfl⟩;have ye:=Z (show ∀k,f k=NI c m k A from fun k=>by rw[hf]);rw[←hf] at tf;have td:=Z (show ∀i,f i≤N from fun i=>by rw[hf];exact Hf.o i);clear h1 hf;go_wp2;go_loopw [7,8,9,10,11,12,14] (fun bv fv i _ _ _ _ wr=>∃(k:Nat)(bi fi:Int),k≤r*c∧i=.int .i64 k∧bv=.int .i64 bi∧fv=.int .i64 fi∧Hid (KE f N k bi fi)∧Hid (Below w1.heap.size w1 wr)) (fun _ _ i _ _ _ _ _=>r*c-(intOf i).toNat)
 case atStart=>exact⟨0,-1,(N:Int)+1,Nat.zero_le _,rfl,rfl,rfl,.inl ⟨rfl,rfl,rfl⟩,Below.refl _ _⟩
 case round=>
  clear hd;obtain⟨k,bi,fi,hk,rfl,rfl,rfl,aJ,Hb⟩:=hrel;have sZ:=b1.trans_pure Hb.o (Nat.le_refl _);have cF:=(sZ.cell (p:=⟨b,off,none⟩) hb).trans km.o;obtain⟨dU,au,bW,cG⟩:=aJ.o.bd td.o;by_cases aH:k<r*c
  ·have dW:(k:Int)<(r:Int)*(c:Int):=by rw[kG.o];omega
   have lI:k/c<r:=by rw[Nat.div_lt_iff_lt_mul (by omega)];exact aH
   have fk:k % c<c:=Nat.mod_lt _ (by omega);have wq:(0:Int)≤(k:Int) / (c:Int):=Int.ediv_nonneg (by omega) (by omega);have iS:(k:Int) / (c:Int)<(r:Int):=by rw[←Int.natCast_ediv];omega
   have ws:(0:Int)≤(k:Int) % (c:Int):=Int.emod_nonneg _ (by omega);have wt:(k:Int) % (c:Int)<(c:Int):=Int.emod_lt_of_pos _ (by omega);obtain⟨q1,f1,p1,m1,fE,m2⟩:=fY.o (k/c) lI;have m1:=(sZ.cell (p:=⟨b,off+k/c,none⟩) hb).trans m1;have m2:=(sZ.cell (p:=⟨q1,f1+k % c,none⟩) fE).trans (m2 (k % c) fk);have iT:b<wr.heap.size:=Nat.lt_of_lt_of_le hb sZ.size;have hq1w:q1<wr.heap.size:=Nat.lt_of_lt_of_le fE sZ.size;have HM:=Z (And.intro m1 m2);obtain⟨z2,bT⟩:∃z,z=Al m (k/c) (k % c):=⟨_,rfl⟩;have n9:=Z bT;rw[←bT] at HM;clear m1 m2 bT;go_wp2
   go_region
   all_goals go_wp2
   all_goals
    have er:=Z (show Below wr.heap.size wr wr.drew from(Below.refl _ _).drew);clear cF;go_loopw [12,14,56] (fun cv _ i wi=>∃j:Nat,j≤N∧i=.int .i64 j∧cv=.int .i64 (NI c m k (A.take j))∧Hid (Below wr.heap.size wr wi)) (fun _ _ i _=>N-(intOf i).toNat)
    case atStart=>exact⟨0,Nat.zero_le _,rfl,by simp[NI],er⟩
    case round=>
     clear er;obtain⟨j,hj,rfl,rfl,du⟩:=hrel;have az:=A1t c m k (A.take j);rw[List.length_take] at az;obtain⟨C,hC⟩:∃C,C=NI c m k (A.take j):=⟨_,rfl⟩;rw[←hC] at az⊢;have HC:=Z hC;clear hC;by_cases hltj:j<N
     ·obtain⟨x,hx⟩:∃x,A[j]? =some x:=⟨_,List.getElem?_eq_getElem (by rw[←HN.o];exact hltj)⟩;have dz:=HAs.o x (List.mem_of_getElem? hx);obtain⟨u,aQ,hu⟩:=Sl.at Hg.o hx;have hu:Ak w1 u x:=hu;obtain⟨bx,offx,cpx,rfl,hbx,hxc⟩:=hu.cells dz hr1 hc1;have b1i:=Hb.o.trans_pure du.o (Nat.le_refl _);have aQ:=(b1i.cell (p:=⟨gl,go+j,none⟩) ai).trans aQ;obtain⟨q2,f2,p2,x1,fo,x2⟩:=hxc (k/c) lI;have x1:=(b1i.cell (p:=⟨bx,offx+k/c,none⟩) hbx).trans x1;have x2:=(b1i.cell (p:=⟨q2,f2+k % c,none⟩) fo).trans (x2 (k % c) fk);have m1:=(du.o.cell (p:=⟨b,off+k/c,none⟩) iT).trans HM.o.1;have m2:=(du.o.cell (p:=⟨q1,f1+k % c,none⟩) hq1w).trans HM.o.2;have dF:=Z (A29 (c:=c) (m:=m) (n:=k) hx);obtain⟨z1,bZ⟩:∃z,z=Al x (k/c) (k % c):=⟨_,rfl⟩;rw[←bZ,←n9.o,←HC.o] at dF;rw[←bZ] at x2;clear bZ hx hu hxc;by_cases hz:z1=z2
      ·have nw:(z1==z2)=true:=by simp[hz]
       have eW:=Z (show NI c m k (A.take (j+1))=C+1 from by rw[dF.o,if_pos hz]);clear hz;go_wp2
       go_region
       all_goals
        go_wp2;go_roundw
        case rel=>exact⟨j+1,by omega,by go_num,by rw[eW.o];go_num,Z du.o.drew⟩
        case measure=>simp[intOf];omega
      ·have nw:(z1==z2)=false:=by simp[hz]
       have eW:=Z (show NI c m k (A.take (j+1))=C from by rw[dF.o,if_neg hz];rfl);clear hz;go_wp2
       go_region
       all_goals
        go_wp2;go_roundw
        case rel=>exact⟨j+1,by omega,by go_num,by rw[eW.o],Z du.o.drew⟩
        case measure=>simp[intOf];omega
     ·obtain rfl:j=N:=by omega
      have xM:f k=C:=by rw[ye.o,HC.o,List.take_of_length_le (by rw[←HN.o];exact Nat.le_refl _)]
      have bj:=Z (Hb.o.trans_pure du.o (Nat.le_refl _));have Hfk:=Z xM;clear xM;by_cases hltc:(C:Int)<fi
      ·have b9:=Z (aJ.o.less (by rw[Hfk.o];exact hltc));rw[Hfk.o] at b9;go_wp2;go_roundw
       case rel=>exact⟨k+1,k,C,by omega,by go_num,rfl,rfl,b9,bj⟩
       case measure=>simp[intOf];omega
      ·have b9:=Z (aJ.o.more td.o (by rw[Hfk.o];exact hltc));go_wp2;go_roundw
       case rel=>exact⟨k+1,bi,fi,by omega,by go_num,rfl,rfl,b9,bj⟩
       case measure=>simp[intOf];omega
  ·obtain rfl:k=r*c:=by omega
   have dW:¬(((r*c:Nat):Int)<(r:Int)*(c:Int)):=by rw[kG.o];omega
   have aZ:=Z (show bi=LP r c L m cells from by
    rcases aJ.o with⟨h,-⟩|⟨-,h,-⟩
    ·omega
    ·rw[h,Hr.o,tf.o])
   obtain⟨K,hK⟩:∃K,K=r*c:=⟨_,rfl⟩;rw[←hK] at dW⊢;clear hK;go_wp2
   go_ret
   exact⟨CM aZ.o,sZ⟩
def A1u:Value→Nat
 |.slice _ n _=>n
 |_=>0
theorem A1y{N:Nat}{n:Int}{cells:List Int}(hr:DD N (EX n cells)):K7 (cells++[n])=EX n cells:=by
 have hp:(K7 (cells++[n])).Perm (EX n cells):=(Na _).trans (FK n cells).symm;have aO:(K7 (cells++[n])).Pairwise (fun a b=>a≠b):=(hp.pairwise_iff (fun h=>Ne.symm h)).2 (hr.1.imp fun h=>by omega);exact A1D hp ((List.Pairwise.and (Wx _) aO).imp fun h=>by omega) hr.1
theorem Mw{N:Nat}{l:List Int}(h:DD N l):l.length≤N:=by have:=Kj (RD.2 h) (Nat.zero_le _);omega
def GY(r c:Nat)(m:List (List Int)):List Int:=Gf c (r*c) (Bi (A6 m) (A8 m)) m (Bi (A6 m) (A8 m)).length []
def D7(m:List (List Int)):Option (List Int):=if Af m then some (GY m.length (m.headD []).length m) else none
theorem Ny{r c:Nat}{m:List (List Int)}(h:Ac r c m)(h1:1≤r)(h2:r≤5)(h3:1≤c)(h4:c≤5):D7 m=some (GY r c m):=by
 unfold D7;rw[if_pos (h.ok h1 h2 h3 h4),h.1,h.head h1]
theorem Ng(N:Nat):DD N []:=⟨List.Pairwise.nil,fun x hx=>by cases hx⟩
theorem MP{r c:Nat}{m:List (List Int)}(h:Ac r c m)(h1:1≤r)(h2:r≤5)(h3:1≤c)(h4:c≤5):DD (r*c) (GY r c m)∧CD c (Bi (A6 m) (A8 m)) m (GY r c m)=1:=by
 have hI:=RC h h1 h2 h3 h4;exact TH h1 h3 hI.nd hI.shape hI.self _ [] (Ng _) (by
  have:CD c (Bi (A6 m) (A8 m)) m []≤(Bi (A6 m) (A8 m)).length:=List.length_filter_le _ _;omega)
theorem LF(m:List (List Int)):((D7 m).getD []).length≤25:=by
 cases aD:Af m
 ·simp[D7,aD]
 ·obtain⟨r,c,hr1,hr5,hc1,hc5,bA⟩:=Ad aD;rw[Ny bA hr1 hr5 hc1 hc5];have:=Mw (MP bA hr1 hr5 hc1 hc5).1;have:r*c≤25:=Nat.mul_le_mul hr5 hc5;simp only[Option.getD_some];omega
structure GSt(n r c:Nat)(m:List (List Int))(L:List (List (List Int)))(W:List Int)(w wr:World)(ov:Value)(cells:List Int)(f:Nat):Prop where
 own:A4 3 A7 (Iv n wr.heap.size) wr ov cells
 ris:DD (r*c) cells
 cnt:CD c L m cells≤f+1
 eq:W=Gf c (r*c) L m f cells
 bel:Below n w wr
theorem Sr(v:Value)(m:List (List Int))(r c:Nat)(w:World)(hv:Ak w v m)(hs:Ac r c m)(hr1:1≤r)(hr5:r≤5)(hc1:1≤c)(hc5:c≤5):Calls Tryz.prog 52 #[v] w fun e w'=>∃v',e=.returned (.tuple #[v',.bool true])∧A4 3 A7 (Iv w.heap.size w'.heap.size) w' v' (GY r c m)∧Below w.heap.size w w':=by
 have hI:=RC hs hr1 hr5 hc1 hc5;obtain⟨W,hW⟩:∃W,W=GY r c m:=⟨_,rfl⟩;obtain⟨L,hL⟩:∃L,L=Bi (A6 m) (A8 m):=⟨_,rfl⟩;have oB:W=Gf c (r*c) L m L.length []:=by rw[hW,hL];rfl
 have iV:CD c L m []≤L.length:=List.length_filter_le _ _;rw[←hL] at hI;rw[←hW];have HI:=Z hI;have kE:r*c≤25:=Nat.mul_le_mul hr5 hc5;have aS:=Z (hs.ok hr1 hr5 hc1 hc5);have Hv:=Z hv;have HL:=Z hL;obtain⟨a,cap,rfl,-⟩:=hv;have tg:=Z (show GSt w.heap.size r c m L W w w (.slice none 0 0) [] L.length from⟨A4.nil _ _ _ _,Ng _,by omega,oB,Below.refl _ _⟩);clear hI hW hL oB iV;go_enter Tryz.func52,Tryz.ntmps52;go_wp2_with (fail);refine(AP _ _ _ Hv.o).mono ?_;rintro e w' ⟨rfl,rfl⟩;rw[aS.o];go_wp2;go_loopw [4] (fun ov wr=>∃(cells:List Int)(f:Nat),Hid (GSt w.heap.size r c m L W w wr ov cells f)) (fun ov _=>26-A1u ov)
 case atStart=>exact⟨[],L.length,tg⟩
 case round=>
  clear tg;obtain⟨cells,f,St⟩:=hrel;obtain⟨N,hN⟩:∃N,N=CD c L m cells:=⟨_,rfl⟩;have HN:=Z hN;have bF:1≤N:=by rw[hN];exact LB HI.o.self cells
  have hNf:N≤f+1:=by rw[hN];exact St.o.cnt
  have az:=Mw St.o.ris;have pZ:=Z St.o.own.ints;obtain⟨p1,p2,p3,rfl⟩:=St.o.own.shape;obtain rfl:p2=cells.length:=Ab.len St.o.own.ints;clear hN;go_wp2_with (fail);refine(Zn _ _ m cells r c _ (Hv.o.keep St.o.bel) pZ.o hs hr1 hr5 hc1 hc5 St.o.ris).mono ?_;rintro e w1 ⟨rfl,b1⟩;rw[←HL.o,←HN.o];have sz1:=b1.size;have hnw:=St.o.bel.size;by_cases h1:N=1
  ·rw[decide_eq_true h1];have aZ:=Z (show W=cells from by rw[St.o.eq,M4 (by rw[←HN.o];omega)]);have aC:=Z (A4.grow A2 St.o.own (Nat.le_refl _) b1);have jV:=St.o.bel.trans_pure b1 (Nat.le_refl _);clear h1;go_wp2;refine bodyPost_ret (v:=.tuple #[.slice p1 cells.length p3,.bool true]) (by simp[results,Tryz.results52,go_sem]) rfl ?_;exact⟨_,rfl,by rw[aZ.o];exact aC.o,jV⟩
  ·rw[decide_eq_false h1];have m9:=Pt hr1 hc1 HI.o.nd HI.o.shape HI.o.self St.o.ris (by rw[←HN.o];omega);have ld:=Z (show LP r c L m cells=(C4 c (r*c) L m cells:Nat) from by unfold LP;rw[if_neg (by rw[←HN.o];exact h1)]);obtain⟨f',rfl⟩:∃f',f=f'+1:=⟨f-1,by omega⟩;have gU:=Z (show W=Gf c (r*c) L m f' (EX (C4 c (r*c) L m cells) cells) from by rw[St.o.eq,LZ (by rw[←HN.o];omega)]);obtain⟨X,hX⟩:∃X,X=C4 c (r*c) L m cells:=⟨_,rfl⟩;rw[←hX] at m9 ld gU;have hXb:=m9.1;have th:=Z m9.2.2.2.1;have yh:=Z (show CD c L m (EX X cells)≤f'+1 from by have:=m9.2.2.2.2;rw[←HN.o] at this;omega);clear hX m9 h1;have ma:=Z (pZ.o.keep b1);have dp:=Z (St.o.bel.trans_pure b1 (Nat.le_refl _));have eC:=Z (A4.grow A2 St.o.own (Nat.le_refl _) b1);go_wp2_with (fail);refine(Vi _ _ m cells r c _ (Hv.o.keep dp.o) ma.o hs hr1 hr5 hc1 hc5 St.o.ris).mono ?_;rintro e w2 ⟨rfl,b2⟩;rw[←HL.o,ld.o];have yi:BV (X:Int):=BV.small (by omega) (by omega);have sz2:=b2.size;have ae:=Z (A4.grow A2 eC.o (Nat.le_refl _) b2);have bj:=Z (dp.o.trans_pure b2 (Nat.le_refl _));have lQ:cells.length<1099511627776:=by omega
   clear eC pZ ma;go_wp2_with (first|(at_builtin;(refine Aa (w0:=w2) (u:=.int .i64 X) rfl _ _ 32 rfl A2 3 Tryz.underlying32 As rfl (by decide) w.heap.size w2.heap.size bj.o.size (Nat.le_refl _) rfl rfl (by exact ae.o) (by exact⟨rfl,yi⟩) lQ ?_);intro v3 w3 o3 b3 _;obtain⟨q3,iH⟩:∃q3,q3=cells++[(X:Int)]:=⟨_,rfl⟩;rw[←iH] at o3;obtain⟨g3,c3,rfl,hg3,-,hg3s,-⟩:=o3.inv_ne (by rw[iH];simp);have xN:=Z iH;have jd:q3.length=cells.length+1:=(by rw[iH];simp);have jf:=Z jd;clear iH jd;have cn:=Z o3;have bM:=Z b3;clear o3 b3)|fail);have HI3:=Z (show ∀x∈q3,BV x from fun x hx=>by
    rw[xN.o] at hx;have:=th.o.2 x ((FK (X:Int) cells).mem_iff.2 hx);exact BV.small (by omega) (by omega))
   have jd:q3.length<4611686018427387904:=by rw[jf.o];omega
   refine(A5N g3 c3 q3 _ w3 cn.o HI3.o jd).mono ?_;rintro e w4 ⟨rfl,o4,h4⟩;rw[show K7 q3=EX X cells from by rw[xN.o,A1y th.o]] at o4;have gH:=h4.size;have cG:Below w.heap.size w3 w4:=h4.below (Nat.le_trans (Nat.le_trans hnw (Nat.le_trans sz1 sz2)) bM.o.size) fun b hb=>by have hb:b=g3:=hb;rw[hb];exact hg3.1
   have oV:=Z (show GSt w.heap.size r c m L W w w4 (.slice (some ⟨g3,0,none⟩) q3.length c3) (EX X cells) f' from⟨(A3 A2).mono (fun b hb=>⟨hb.1.1,Nat.lt_of_lt_of_le hb.2 gH⟩) o4,th.o,yh.o,gU.o,(bj.o.trans bM.o).trans cG⟩);clear o4;go_wp2;go_roundw
   case rel=>exact⟨_,f',oV⟩
   case measure=>have:=jf.o;simp[A1u];omega
theorem QC(v:Value)(m:List (List Int))(w:World)(hv:Ak w v m):Calls Tryz.prog 52 #[v] w fun e w'=>∃v',e=.returned (.tuple #[v',.bool (D7 m).isSome])∧A4 3 A7 (Iv w.heap.size w'.heap.size) w' v' ((D7 m).getD [])∧Below w.heap.size w w':=by
 cases aD:Af m
 ·have Hr:=Z (show D7 m=none from by simp[D7,aD]);have aS:=Z aD;clear aD;obtain⟨a,cap,rfl,-⟩:=id hv;go_enter Tryz.func52,Tryz.ntmps52;go_wp2_with (fail);refine(AP _ _ _ hv).mono ?_;rintro e w' ⟨rfl,rfl⟩;rw[aS.o];go_wp2;refine bodyPost_ret (v:=.tuple #[.slice none 0 0,.bool false]) (by simp[results,Tryz.results52,go_sem]) rfl ?_;exact⟨_,by rw[Hr.o];rfl,by rw[Hr.o];exact A4.nil _ _ _ _,Below.refl _ _⟩
 ·obtain⟨r,c,hr1,hr5,hc1,hc5,bA⟩:=Ad aD;rw[Ny bA hr1 hr5 hc1 hc5];exact Sr v m r c w hv bA hr1 hr5 hc1 hc5
