/- Base. -/
import Derived.Test.YthmocomfjgmjoaaGreatDoorQ10
import Derived.Test.YthmocomfjgmjoaaGreatDoorQ05
import Derived.Test.YthmocomfjgmjoaaGreatDoorQ09
set_option maxHeartbeats 4000000
set_option maxRecDepth 100000
namespace Go.Proofs.YthmocomfjgmjoaaGreatDoor
open Go.RowKit Go.Proofs.Tryz
variable {F:I}{L:List I}{c:Nat}{g0:I}{k:Nat}{l:U}{m:I}{r x y:Nat}
theorem ID(r c:Nat)(f:Nat→Nat→Int):(ER r c f).length=r:=by simp[ER]
theorem FT{i:Nat}(f:Nat→Nat→Int)(hi:i<r):(ER r c f)[i]? =some ((List.range c).map fun j=>f i j):=by
 unfold ER;rw[Ak,AA hi];rfl
theorem Em{f g:Nat→Nat→Int}(h:∀i j,i<r→j<c→f i j=g i j):ER r c f=ER r c g:=by
 unfold ER;exact List.map_congr_left fun i hi=>List.map_congr_left fun j hj=>h i j (AG.1 hi) (AG.1 hj)
theorem A0O(f:Nat→Nat→Int)(hy:y<r)(v:Int):(ER r c f).set y (((List.range c).map fun j=>f y j).set x v)=ER r c (fun i j=>if i=y∧j=x then v else f i j):=by
 apply List.ext_getElem?;intro i;rw[List.getElem?_set];by_cases hi:y=i
 ·subst hi;rw[if_pos rfl,if_pos (by rw[ID];exact hy),FT _ hy]
  congr 1
  apply List.ext_getElem?;intro j;rw[List.getElem?_set];by_cases hj:x=j
  ·subst hj;rw[if_pos rfl];by_cases hx:x<c
   ·rw[if_pos (by simpa using hx),Ak,AA hx];simp
   ·rw[if_neg (by simpa using hx),Am (by simpa using hx)]
  ·rw[if_neg hj,Ak,Ak];cases hr:(List.range c)[j]? with
   |none=>rfl
   |some k=>
    have hk:k=j:=by
     have h1:=(A5.1 hr).1;rw[List.length_range]at h1;rw[AA h1]at hr;exact(Option.some.inj hr).symm
    subst hk;simp only[Option.map_some];rw[if_neg J]
 ·rw[if_neg hi];by_cases hir:i<r
  ·rw[FT _ hir,FT _ hir]
   congr 1
   exact List.map_congr_left fun j _=>by rw[if_neg J]
  ·rw[Am (by rw[ID];omega),Am (by rw[ID];omega)]
def Lv(g0:I)(L:List I)(k y x i j:Nat):Int:=
 if(∀m∈L.take k,AJ m i j=AJ g0 i j)∧((i<y∨i=y∧j<x)→AJ (L.getD k []) i j=AJ g0 i j)then AJ g0 i j else-1
def CJ(r c:Nat)(g0:I)(L:List I)(k y x:Nat):I:=ER r c (Lv g0 L k y x)
def RK(r c:Nat)(L:List I):I:=ER r c fun i j=>if ∀m∈L,AJ m i j=AJ (L.headD []) i j then AJ (L.headD []) i j else-1
theorem Qs(h:Ax r c g0)(L:List I):CJ r c g0 L 0 0 0=g0:=by
 unfold CJ;have e:ER r c (Lv g0 L 0 0 0)=ER r c (fun i j=>AJ g0 i j):=Em fun i j _ _=>by
  unfold Lv;rw[if_pos ⟨Jj,J⟩]
 rw[e];refine(Qq fun i j _ _=>AS h i j).ext h fun i j hi hj=>?_;show AJ _ i j=AJ g0 i j;exact Pc hi hj
theorem UW(r c:Nat)(g0:I)(L:List I)(k y:Nat):CJ r c g0 L k y c=CJ r c g0 L k (y+1) 0:=Em fun i j _ hj=>by
 unfold Lv;have:(i<y∨i=y∧j<c)↔(i<y+1∨i=y+1∧j<0):=J;simp only[this]
theorem Uu(hm:L[k]? =some m):CJ r c g0 L k r 0=CJ r c g0 L (k+1) 0 0:=Em fun i j hi _=>by
 unfold Lv;rw[B7 hm,Ao,hm];have e:((∀q∈L.take k,AJ q i j=AJ g0 i j)∧((i<r∨i=r∧j<0)→AJ m i j=AJ g0 i j))↔((∀q∈L.take k++(some m).toList,AJ q i j=AJ g0 i j)∧((i<0∨i=0∧j<0)→AJ (L.getD (k+1) []) i j=AJ g0 i j)):=by
  constructor
  ·rintro⟨h1,h2⟩;refine⟨fun q hq=>?_,J⟩;rcases List.mem_append.1 hq with h|h
   ·exact h1 q h
   ·simp at h;rw[h];exact h2 (.inl hi)
  ·rintro⟨h1,-⟩;exact⟨fun q hq=>h1 q (List.mem_append_left _ hq),fun _=>h1 m Jj⟩
 simp only[e]
theorem Up(h0:L[0]? =some g0)(hk:L.length≤k):CJ r c g0 L k 0 0=RK r c L:=by
 unfold CJ RK;have hh:L.headD []=g0:=M1 h0;rw[hh];exact Em fun i j _ _=>by
  unfold Lv;rw[A9 hk];have e:((∀q∈L,AJ q i j=AJ g0 i j)∧((i<0∨i=0∧j<0)→AJ (L.getD k []) i j=AJ g0 i j))↔∀q∈L,AJ q i j=AJ g0 i j:=⟨fun h=>h.1,fun h=>⟨h,J⟩⟩;simp only[e]
theorem NT{row:U}(hy:y<r)(hx:x<c)(aD:(CJ r c g0 L k y x)[y]? =some row):row=(List.range c).map (fun j=>Lv g0 L k y x y j)∧row.length=c∧row[x]? =some (if ∀m∈L.take k,AJ m y x=AJ g0 y x then AJ g0 y x else-1):=by
 have h1:=FT (Lv g0 L k y x) hy (c:=c);unfold CJ at aD;rw[h1]at aD;obtain rfl:=Option.some.inj aD;refine⟨rfl,Jj,?_⟩;rw[Ak,AA hx];simp only[Option.map_some,Option.some.injEq];unfold Lv;have e:((∀q∈L.take k,AJ q y x=AJ g0 y x)∧((y<y∨y=y∧x<x)→AJ (L.getD k []) y x=AJ g0 y x))↔∀q∈L.take k,AJ q y x=AJ g0 y x:=⟨fun h=>h.1,fun h=>⟨h,J⟩⟩;by_cases aQ:∀q∈L.take k,AJ q y x=AJ g0 y x
 ·rw[if_pos (e.2 aQ),if_pos aQ]
 ·rw[if_neg (fun h=>aQ (e.1 h)),if_neg aQ]
theorem S8(hm:L[k]? =some m)(sH:Ax r c m)(he:(if ∀q∈L.take k,AJ q y x=AJ g0 y x then AJ g0 y x else-1)=AJ m y x):CJ r c g0 L k y (x+1)=CJ r c g0 L k y x:=Em fun i j _ _=>by
 unfold Lv;rw[B7 hm];by_cases hij:i=y∧j=x
 ·obtain⟨rfl,rfl⟩:=hij;have hb:=AS sH i j;by_cases aQ:∀q∈L.take k,AJ q i j=AJ g0 i j
  ·rw[if_pos aQ]at he;rw[if_pos ⟨aQ,fun _=>he.symm⟩,if_pos ⟨aQ,J⟩]
  ·rw[if_neg aQ]at he;omega
 ·have:(i<y∨i=y∧j<x+1)↔(i<y∨i=y∧j<x):=J;simp only[this]
theorem QH{row:U}(hy:y<r)(hx:x<c)(hm:L[k]? =some m)(aD:(CJ r c g0 L k y x)[y]? =some row)(he:¬(if ∀q∈L.take k,AJ q y x=AJ g0 y x then AJ g0 y x else-1)=AJ m y x):
  (CJ r c g0 L k y x).set y (row.set x (-1))=CJ r c g0 L k y (x+1):=by
 obtain⟨e1,-,-⟩:=NT hy hx aD;rw[e1];unfold CJ;rw[A0O _ hy];refine Em fun i j _ _=>?_;by_cases hij:i=y∧j=x
 ·rw[if_pos hij];obtain⟨rfl,rfl⟩:=hij;unfold Lv;rw[B7 hm];by_cases aQ:∀q∈L.take k,AJ q i j=AJ g0 i j
  ·rw[if_pos aQ]at he;rw[if_neg (fun h=>he (h.2 (.inr ⟨rfl,J⟩)).symm)]
  ·rw[if_neg (fun h=>aQ h.1)]
 ·rw[if_neg hij];unfold Lv;have:(i<y∨i=y∧j<x+1)↔(i<y∨i=y∧j<x):=J;simp only[this]
def C0(xs ys:U):I:=if BF xs ys then RK xs.length ys.length (Bt xs ys)else[]
theorem Iw{xs ys:U}:∀m∈Bt xs ys,Da xs ys xs.length ys.length m:=by
 intro m hm;cases hok:AT xs ys
 ·rw[GB hok]at hm;cases hm
 ·rw[D6 hok]at hm;exact(Dy hok m).1 hm
theorem Ph(v v2:Value)(xs ys:U)(w:World)(hv:Au w v xs)(aS:Au w v2 ys):Calls prog 109 #[v,v2] w (N7 32 (Ag 3 Ap) w (C0 xs ys)):=by
 have Hv:=Z hv;have aY:=Z aS;obtain⟨a,cap,rfl,-⟩:=hv;obtain⟨a2,cap2,rfl,-⟩:=aS;cases bK:BF xs ys
 ·have Hr:=Z (show C0 xs ys=[]from by unfold C0;rw[bK];rfl);have Hi:=Z (I7 bK);have dk:=Z bK;clear bK;go_enter func109,ntmps109;go_wp2_with fail;refine(El _ _ _ _ _ Hv.o aY.o).mono ?_;rintro e w1 ⟨v1,rfl,o1,b1⟩;rw[Hi.o]at o1;obtain⟨aL,cL,rfl,-⟩:=id o1.qan;clear o1;go_wp2
  go_ret
  exact⟨_,rfl,by rw[Hr.o];exact Ag.nil _ _ _ _,b1⟩
 have hok:=FL bK;obtain⟨x1,x5,y1,y5,-,-,-⟩:=BG hok;have Hr:=Z (show C0 xs ys=RK xs.length ys.length (Bt xs ys)from by unfold C0;rw[bK];rfl);have aK:=HH bK;have vJ:=Eo xs ys;have an:=Iw (xs:=xs) (ys:=ys);have fC:=F2 hok;rw[←D6 hok]at fC;obtain⟨h5,h6⟩:=MF hok;obtain⟨L,hL⟩:∃L,L=Bt xs ys:=⟨_,rfl⟩;rw[←hL]at aK vJ an Hr fC;have sY:0<L.length:=List.length_pos_iff.2 aK;obtain⟨g0,g7⟩:∃g0,L[0]? =some g0:=⟨_,A3 sY⟩;have vK:=Z g7;have nz:=Z an;have HL:=Z hL;have dk:=Z bK;have mr:=Z fC;have ms:=Z (an g0 (A4 g7)).1;have H56:=Z (And.intro h5 h6);have xp:((L.length:Int)==0)=false:=by rw[Ai];omega
 clear bK hok aK an g7 hL fC h5 h6;go_enter func109,ntmps109;go_wp2_with fail;refine(El _ _ _ _ _ Hv.o aY.o).mono ?_;rintro e w1 ⟨v1,rfl,o1,b1⟩;rw[←HL.o]at o1;obtain⟨gL,cL,rfl,-,-,-,-⟩:=o1.qac sY;have iH:=Z (o1.sl (R':=Sl (Sl Ap)) (fun _ _ _ _ h=>h.sl (fun _ _ _ _ h=>h.sl (fun _ _ _ _ h=>h) A8) (Cd A8)) (Cd (Cd A8)));obtain⟨u0,bZ,eK⟩:=Sl.at iH.o vK.o;rw[AF]at bZ;have oK:AI w1 u0 g0:=(Cd (Cd A8)).rd eK;obtain⟨m1,m2,rfl,-⟩:=id oK;have cQ:=b1.size;have HG0:=Z oK;have bF:g0.length≤1048576:=by rw[ms.o.1];omega
 have HR:=Z (show ∀p∈g0,p.length≤1048576 from fun p hp=>by have:=(ms.o.2 p hp).1;omega);clear o1 eK oK;go_wp2_with fail;refine(F5 _ g0 _ (by exact HG0.o) bF HR.o).mono ?_;rintro e w2 ⟨v2,rfl,o2,b2⟩;obtain⟨g,c2,rfl,hg,cM,-,-⟩:=o2.qac (by rw[ms.o.1];omega);rw[ms.o.1]at o2 cM⊢;have hs2:=b2.size;have dB:=Z o2;have nV:=Z ((Cd (Cd (Cd A8))).same (Ac b2 fun b hb=>hb.2) iH.o);have lR:=Z (b1.qaa b2 (A2 _));clear o2 bZ;go_wp2;go_loopw [29] (fun i wr=>∃k:Nat,k≤L.length∧i=.int .i64 k∧Hid (Ag 32 (Ag 3 Ap) (Iv w1.heap.size w2.heap.size) wr (.slice (some ⟨g,0,none⟩) xs.length c2) (CJ xs.length ys.length g0 L k 0 0))∧Hid (Below w1.heap.size w2 wr)∧wr.heap.size=w2.heap.size) (fun i _=>L.length-(intOf i).toNat);exact⟨0,A7 _,rfl,by rw[Qs ms.o];exact dB.o,A6 _ _,rfl⟩;obtain⟨k,hk,rfl,aC,az,aM⟩:=hrel;have bX:=Z aM;clear aM;by_cases aF:k<L.length
 ·obtain⟨m,hm⟩:∃m,L[k]? =some m:=⟨_,A3 aF⟩;have lX:=Z (nz.o m (A4 hm)).1;have vL:=Z ((Cd (Cd (Cd A8))).same (fun b hb=>az.o.block b hb.2) nV.o);obtain⟨um,d8,hum⟩:=Sl.at vL.o hm;rw[Nat.zero_add]at d8;obtain⟨am,cm,rfl,-⟩:=id hum;have Hm:=Z hm;have mE:=Z hum;have bF:m.length=xs.length:=lX.o.1;rw[bF]at d8;obtain⟨wo,hwo⟩:∃wo,wo=wr:=⟨_,rfl⟩;rw[←hwo]at mE;have vM:=Z (show Below w1.heap.size wo wr from by rw[hwo];exact A6 _ _);have rV:=Z (show Below w1.heap.size w2 wo from by rw[hwo];exact az.o);clear hm hum hwo bF;go_wp2;go_loopw [35] (fun i wr=>∃y:Nat,y≤xs.length∧i=.int .i64 y∧Hid (Ag 32 (Ag 3 Ap) (Iv w1.heap.size w2.heap.size) wr (.slice (some ⟨g,0,none⟩) xs.length c2) (CJ xs.length ys.length g0 L k y 0))∧Hid (Below w1.heap.size wo wr)∧wr.heap.size=w2.heap.size) (fun i _=>xs.length-(intOf i).toNat);exact⟨0,A7 _,rfl,aC,vM,bX.o⟩;clear aC az bX vL d8 vM;obtain⟨y,hy,rfl,aC,az,aM⟩:=hrel;have bX:=Z aM;clear aM;by_cases hlty:y<xs.length
  ·obtain⟨ig,ln⟩:∃row,m[y]? =some row:=⟨_,(CM lX.o hlty).1⟩;have kM:ig.length=ys.length:=(lX.o.2 ig (A4 ln)).1;obtain⟨bm,offm,cpm,he,oM,-⟩:=mE.o.qac (by rw[lX.o.1];omega);obtain⟨rfl,-⟩:am=some ⟨bm,offm,none⟩∧cm=cpm:=by simpa using he
   obtain⟨ur,it,oX⟩:=Sl.at ((Cd (Cd A8)).same (fun b hb=>az.o.block b hb.2) mE.o) ln;obtain⟨ar,crr,rfl,-⟩:=id oX;rw[kM]at it;have rW:=Z oX;have pX:=Z (show ∀x,ig.getD x 0=AJ m y x from fun x=>by unfold AJ;rw[B7 ln]);have mt:=Z kM;obtain⟨wp,hwp⟩:∃wp,wp=wr:=⟨_,rfl⟩;rw[←hwp]at rW;have vN:=Z (show Below w1.heap.size wp wr from by rw[hwp];exact A6 _ _);have rX:=Z (show Below w1.heap.size wo wp from by rw[hwp];exact az.o);clear ln oX he hwp kM;go_wp2;go_loopw [42] (fun i wr=>∃x:Nat,x≤ys.length∧i=.int .i64 x∧Hid (Ag 32 (Ag 3 Ap) (Iv w1.heap.size w2.heap.size) wr (.slice (some ⟨g,0,none⟩) xs.length c2) (CJ xs.length ys.length g0 L k y x))∧Hid (Below w1.heap.size wp wr)∧wr.heap.size=w2.heap.size) (fun i _=>ys.length-(intOf i).toNat);exact⟨0,A7 _,rfl,aC,vN,bX.o⟩;clear aC az bX it vN;obtain⟨x,hx,rfl,aC,az,aM⟩:=hrel;have bX:=Z aM;clear aM;by_cases hltx:x<ys.length
   ·obtain⟨z,hz⟩:∃z,ig[x]? =some z:=⟨_,A3 (by rw[mt.o];exact hltx)⟩;obtain⟨br,offr,cpr,he,dL,-⟩:=rW.o.qac (by rw[mt.o];omega);obtain⟨rfl,-⟩:ar=some ⟨br,offr,none⟩∧crr=cpr:=by simpa using he
    obtain⟨uz,oI,rfl,-⟩:=Sl.at ((Cd A8).same (fun b hb=>az.o.block b hb.2) rW.o) hz;have er:z=AJ m y x:=by rw[←pX.o x,B7 hz]
    have ik:=AS lX.o y x;rw[←er]at ik;obtain⟨row,aD⟩:∃row,(CJ xs.length ys.length g0 L k y x)[y]? =some row:=⟨_,FT _ hlty⟩;obtain⟨-,aj,hrx⟩:=NT hlty hltx aD;obtain⟨q,cq,aH,-,hq,-,dj,hfree,bJ,ai⟩:=AV aC.o aD (by rw[aj];omega);rw[aj]at aH dj;obtain⟨o,ho⟩:∃o,o=(if ∀q∈L.take k,AJ q y x=AJ g0 y x then AJ g0 y x else-1):=⟨_,rfl⟩;rw[←ho]at hrx;have kv:=bJ x o hrx;obtain⟨-,g8⟩:=hfree x (by rw[aj];exact hltx);have vO:=hq.1;by_cases cu:o=z
    ·have aK:(o !=z)=false:=by simp[cu]
     have gO:=Z (show CJ xs.length ys.length g0 L k y (x+1)=CJ xs.length ys.length g0 L k y x from S8 Hm.o lX.o (by rw[←ho,cu,er]));clear hz er aD hrx bJ ai hfree ho cu he;go_wp2;go_roundw;exact⟨x+1,J,by go_num,by rw[gO.o];exact aC.o,az,bX.o⟩;exact Jv
    ·have aK:(o !=z)=true:=by simp[cu]
     have ei:=Z (show Ag 32 (Ag 3 Ap) (Iv w1.heap.size w2.heap.size) (wr.setCell ⟨q,x,none⟩ (.int .i64 (-1))) (.slice (some ⟨g,0,none⟩) xs.length c2) (CJ xs.length ys.length g0 L k y (x+1))from by
      have h:=ai wr (fun _ _=>rfl) x (-1) (by rw[aj];exact hltx) (Cc.small Jq Jq);rwa[QH hlty hltx Hm.o aD (by rw[←ho,←er];exact cu)]at h)
     clear hz er aD hrx bJ ai hfree ho cu he;go_wp2;go_roundw;exact⟨x+1,J,by go_num,ei,az.o.setCell (show w1.heap.size≤(⟨q,x,none⟩:Addr).block from vO) _,by rw[As];exact bX.o⟩;exact Jv
   ·have e:x=ys.length:=J;have He:=Z (show CJ xs.length ys.length g0 L k (y+1) 0=CJ xs.length ys.length g0 L k y x from by rw[e,UW]);clear e;go_wp2;go_roundw;exact⟨y+1,J,by go_num,by rw[He.o];exact aC.o,rX.o.trans az.o,bX.o⟩;exact Jv
  ·have e:y=xs.length:=J;have He:=Z (show CJ xs.length ys.length g0 L (k+1) 0 0=CJ xs.length ys.length g0 L k y 0 from by rw[e,Uu Hm.o]);clear e;go_wp2;go_roundw;exact⟨k+1,J,by go_num,by rw[He.o];exact aC.o,rV.o.trans az.o,bX.o⟩;exact Jv
 ·have He:=Z (show CJ xs.length ys.length g0 L k 0 0=RK xs.length ys.length L from Up vK.o J);have aE:Below w.heap.size w wr:=lR.o.trans (az.o.mono cQ);go_wp2
  go_ret
  refine⟨_,rfl,?_,aE⟩;rw[Hr.o,←He.o,bX.o];exact(Ab (Ab A8)).mono (fun b hb=>⟨by have:=hb.1;omega,hb.2⟩) aC.o
theorem VT(v v2:Value)(xs ys:U)(w:World)(hv:Au w v xs)(aS:Au w v2 ys):Calls prog 189 #[v,v2] w (N7 32 (Ag 3 Ap) w (C0 xs ys)):=by
 have Hv:=Z hv;have aY:=Z aS;obtain⟨a,cap,rfl,-⟩:=hv;obtain⟨a2,cap2,rfl,-⟩:=aS;cases bK:BF xs ys
 ·have Hr:=Z (show C0 xs ys=[]from by unfold C0;rw[bK];rfl);have Hi:=Z (I7 bK);have dk:=Z bK;clear bK;go_enter func189,ntmps189;go_wp2_with fail;refine(DB _ _ _ _ _ Hv.o aY.o).mono ?_;rintro e w1 ⟨rfl,b1⟩;rw[dk.o];go_wp2
  go_ret
  exact⟨_,rfl,by rw[Hr.o];exact Ag.nil _ _ _ _,b1⟩
 have hok:=FL bK;obtain⟨x1,x5,y1,y5,-,-,-⟩:=BG hok;have Hr:=Z (show C0 xs ys=RK xs.length ys.length (Bt xs ys)from by unfold C0;rw[bK];rfl);have aK:=HH bK;have vJ:=Eo xs ys;have an:=Iw (xs:=xs) (ys:=ys);have fC:=F2 hok;rw[←D6 hok]at fC;obtain⟨h5,h6⟩:=MF hok;obtain⟨L,hL⟩:∃L,L=Bt xs ys:=⟨_,rfl⟩;rw[←hL]at aK vJ an Hr fC;have sY:0<L.length:=List.length_pos_iff.2 aK;obtain⟨g0,g7⟩:∃g0,L[0]? =some g0:=⟨_,A3 sY⟩;have vK:=Z g7;have nz:=Z an;have HL:=Z hL;have dk:=Z bK;have mr:=Z fC;have ms:=Z (an g0 (A4 g7)).1;have H56:=Z (And.intro h5 h6);have xp:((L.length:Int)==0)=false:=by rw[Ai];omega
 clear bK hok aK an g7 hL fC h5 h6;go_enter func189,ntmps189;go_wp2_with fail;refine(DB _ _ _ _ _ Hv.o aY.o).mono ?_;rintro e w0 ⟨rfl,b0⟩;rw[dk.o];have bG:=Z (Pj xs ys (.slice none 0 0) (.slice none 0 0) (.slice a xs.length cap) (.slice a2 ys.length cap2) [] (fun _=>False) [] w0 x5 y1 y5 H56.o.1 H56.o.2 (fun _ h=>h.elim) (Ag.nil _ _ _ _) ⟨none,0,rfl,Jj,Jj,fun _=>rfl,fun h=>by simp at h⟩ ((Cd A8).mono (fun b hb=>⟨hb,fun h=>h⟩) (Hv.o.keep b0)) ((Cd A8).mono (fun b hb=>⟨hb,fun h=>h⟩) (aY.o.keep b0)) (by simpa using x5) (fun row hr=>by cases hr) (by rw[mr.o];simp;omega));go_wp2_with fail;refine(bG.o).mono ?_;rintro e w1 ⟨v1,S3,rfl,o3,k8,O3⟩;have fZ:=b0.size;have o1:=(Ab (Ab (Ab A8))).mono (S':=Iv w.heap.size w1.heap.size) (fun b hb=>⟨by have:=(k8 b hb).1;simp at this;omega,(k8 b hb).2⟩) o3;rw[List.nil_append,show(BP xs ys).map ([]++ ·)=BP xs ys from by simp,mr.o]at o1;have b1:=b0.qaa (O3.below (A2 _) fun _ h=>h.elim) (A2 _);clear o3 k8 O3 bG;obtain⟨gL,cL,rfl,-,-,-,-⟩:=o1.qac sY;have iH:=Z (o1.sl (R':=Sl (Sl Ap)) (fun _ _ _ _ h=>h.sl (fun _ _ _ _ h=>h.sl (fun _ _ _ _ h=>h) A8) (Cd A8)) (Cd (Cd A8)));obtain⟨u0,bZ,eK⟩:=Sl.at iH.o vK.o;rw[AF]at bZ;have oK:AI w1 u0 g0:=(Cd (Cd A8)).rd eK;obtain⟨m1,m2,rfl,-⟩:=id oK;have cQ:=b1.size;have HG0:=Z oK;have bF:g0.length≤1048576:=by rw[ms.o.1];omega
 have HR:=Z (show ∀p∈g0,p.length≤1048576 from fun p hp=>by have:=(ms.o.2 p hp).1;omega);clear o1 eK oK;go_wp2_with fail;refine(D5 _ g0 _ (by exact HG0.o) bF HR.o).mono ?_;rintro e w2 ⟨v2,rfl,o2,b2⟩;obtain⟨g,c2,rfl,hg,cM,-,-⟩:=o2.qac (by rw[ms.o.1];omega);rw[ms.o.1]at o2 cM⊢;have hs2:=b2.size;have dB:=Z o2;have nV:=Z ((Cd (Cd (Cd A8))).same (Ac b2 fun b hb=>hb.2) iH.o);have lR:=Z (b1.qaa b2 (A2 _));clear o2 bZ;go_wp2;go_loopw [26] (fun i wr=>∃k:Nat,k≤L.length∧i=.int .i64 k∧Hid (Ag 32 (Ag 3 Ap) (Iv w1.heap.size w2.heap.size) wr (.slice (some ⟨g,0,none⟩) xs.length c2) (CJ xs.length ys.length g0 L k 0 0))∧Hid (Below w1.heap.size w2 wr)∧wr.heap.size=w2.heap.size) (fun i _=>L.length-(intOf i).toNat);exact⟨0,A7 _,rfl,by rw[Qs ms.o];exact dB.o,A6 _ _,rfl⟩;obtain⟨k,hk,rfl,aC,az,aM⟩:=hrel;have bX:=Z aM;clear aM;by_cases aF:k<L.length
 ·obtain⟨m,hm⟩:∃m,L[k]? =some m:=⟨_,A3 aF⟩;have lX:=Z (nz.o m (A4 hm)).1;have vL:=Z ((Cd (Cd (Cd A8))).same (fun b hb=>az.o.block b hb.2) nV.o);obtain⟨um,d8,hum⟩:=Sl.at vL.o hm;rw[Nat.zero_add]at d8;obtain⟨am,cm,rfl,-⟩:=id hum;have Hm:=Z hm;have mE:=Z hum;have bF:m.length=xs.length:=lX.o.1;rw[bF]at d8;obtain⟨wo,hwo⟩:∃wo,wo=wr:=⟨_,rfl⟩;rw[←hwo]at mE;have vM:=Z (show Below w1.heap.size wo wr from by rw[hwo];exact A6 _ _);have rV:=Z (show Below w1.heap.size w2 wo from by rw[hwo];exact az.o);clear hm hum hwo bF;go_wp2;go_loopw [32] (fun i wr=>∃y:Nat,y≤xs.length∧i=.int .i64 y∧Hid (Ag 32 (Ag 3 Ap) (Iv w1.heap.size w2.heap.size) wr (.slice (some ⟨g,0,none⟩) xs.length c2) (CJ xs.length ys.length g0 L k y 0))∧Hid (Below w1.heap.size wo wr)∧wr.heap.size=w2.heap.size) (fun i _=>xs.length-(intOf i).toNat);exact⟨0,A7 _,rfl,aC,vM,bX.o⟩;clear aC az bX vL d8 vM;obtain⟨y,hy,rfl,aC,az,aM⟩:=hrel;have bX:=Z aM;clear aM;by_cases hlty:y<xs.length
  ·obtain⟨ig,ln⟩:∃row,m[y]? =some row:=⟨_,(CM lX.o hlty).1⟩;have kM:ig.length=ys.length:=(lX.o.2 ig (A4 ln)).1;obtain⟨bm,offm,cpm,he,oM,-⟩:=mE.o.qac (by rw[lX.o.1];omega);obtain⟨rfl,-⟩:am=some ⟨bm,offm,none⟩∧cm=cpm:=by simpa using he
   obtain⟨ur,it,oX⟩:=Sl.at ((Cd (Cd A8)).same (fun b hb=>az.o.block b hb.2) mE.o) ln;obtain⟨ar,crr,rfl,-⟩:=id oX;rw[kM]at it;have rW:=Z oX;have pX:=Z (show ∀x,ig.getD x 0=AJ m y x from fun x=>by unfold AJ;rw[B7 ln]);have mt:=Z kM;obtain⟨wp,hwp⟩:∃wp,wp=wr:=⟨_,rfl⟩;rw[←hwp]at rW;have vN:=Z (show Below w1.heap.size wp wr from by rw[hwp];exact A6 _ _);have rX:=Z (show Below w1.heap.size wo wp from by rw[hwp];exact az.o);clear ln oX he hwp kM;go_wp2;go_loopw [39] (fun i wr=>∃x:Nat,x≤ys.length∧i=.int .i64 x∧Hid (Ag 32 (Ag 3 Ap) (Iv w1.heap.size w2.heap.size) wr (.slice (some ⟨g,0,none⟩) xs.length c2) (CJ xs.length ys.length g0 L k y x))∧Hid (Below w1.heap.size wp wr)∧wr.heap.size=w2.heap.size) (fun i _=>ys.length-(intOf i).toNat);exact⟨0,A7 _,rfl,aC,vN,bX.o⟩;clear aC az bX it vN;obtain⟨x,hx,rfl,aC,az,aM⟩:=hrel;have bX:=Z aM;clear aM;by_cases hltx:x<ys.length
   ·obtain⟨z,hz⟩:∃z,ig[x]? =some z:=⟨_,A3 (by rw[mt.o];exact hltx)⟩;obtain⟨br,offr,cpr,he,dL,-⟩:=rW.o.qac (by rw[mt.o];omega);obtain⟨rfl,-⟩:ar=some ⟨br,offr,none⟩∧crr=cpr:=by simpa using he
    obtain⟨uz,oI,rfl,-⟩:=Sl.at ((Cd A8).same (fun b hb=>az.o.block b hb.2) rW.o) hz;have er:z=AJ m y x:=by rw[←pX.o x,B7 hz]
    have ik:=AS lX.o y x;rw[←er]at ik;obtain⟨row,aD⟩:∃row,(CJ xs.length ys.length g0 L k y x)[y]? =some row:=⟨_,FT _ hlty⟩;obtain⟨-,aj,hrx⟩:=NT hlty hltx aD;obtain⟨q,cq,aH,-,hq,-,dj,hfree,bJ,ai⟩:=AV aC.o aD (by rw[aj];omega);rw[aj]at aH dj;obtain⟨o,ho⟩:∃o,o=(if ∀q∈L.take k,AJ q y x=AJ g0 y x then AJ g0 y x else-1):=⟨_,rfl⟩;rw[←ho]at hrx;have kv:=bJ x o hrx;obtain⟨-,g8⟩:=hfree x (by rw[aj];exact hltx);have vO:=hq.1;by_cases cu:o=z
    ·have aK:(o !=z)=false:=by simp[cu]
     have gO:=Z (show CJ xs.length ys.length g0 L k y (x+1)=CJ xs.length ys.length g0 L k y x from S8 Hm.o lX.o (by rw[←ho,cu,er]));clear hz er aD hrx bJ ai hfree ho cu he;go_wp2;go_roundw;exact⟨x+1,J,by go_num,by rw[gO.o];exact aC.o,az,bX.o⟩;exact Jv
    ·have aK:(o !=z)=true:=by simp[cu]
     have ei:=Z (show Ag 32 (Ag 3 Ap) (Iv w1.heap.size w2.heap.size) (wr.setCell ⟨q,x,none⟩ (.int .i64 (-1))) (.slice (some ⟨g,0,none⟩) xs.length c2) (CJ xs.length ys.length g0 L k y (x+1))from by
      have h:=ai wr (fun _ _=>rfl) x (-1) (by rw[aj];exact hltx) (Cc.small Jq Jq);rwa[QH hlty hltx Hm.o aD (by rw[←ho,←er];exact cu)]at h)
     clear hz er aD hrx bJ ai hfree ho cu he;go_wp2;go_roundw;exact⟨x+1,J,by go_num,ei,az.o.setCell (show w1.heap.size≤(⟨q,x,none⟩:Addr).block from vO) _,by rw[As];exact bX.o⟩;exact Jv
   ·have e:x=ys.length:=J;have He:=Z (show CJ xs.length ys.length g0 L k (y+1) 0=CJ xs.length ys.length g0 L k y x from by rw[e,UW]);clear e;go_wp2;go_roundw;exact⟨y+1,J,by go_num,by rw[He.o];exact aC.o,rX.o.trans az.o,bX.o⟩;exact Jv
  ·have e:y=xs.length:=J;have He:=Z (show CJ xs.length ys.length g0 L (k+1) 0 0=CJ xs.length ys.length g0 L k y 0 from by rw[e,Uu Hm.o]);clear e;go_wp2;go_roundw;exact⟨k+1,J,by go_num,by rw[He.o];exact aC.o,rV.o.trans az.o,bX.o⟩;exact Jv
 ·have He:=Z (show CJ xs.length ys.length g0 L k 0 0=RK xs.length ys.length L from Up vK.o J);have aE:Below w.heap.size w wr:=lR.o.trans (az.o.mono cQ);go_wp2
  go_ret
  refine⟨_,rfl,?_,aE⟩;rw[Hr.o,←He.o,bX.o];exact(Ab (Ab A8)).mono (fun b hb=>⟨by have:=hb.1;omega,hb.2⟩) aC.o
theorem JU(xs ys:U):Yo (C0 xs ys):=by
 unfold C0;cases h:BF xs ys
 ·exact⟨Jj,Jj⟩
 ·rw[if_pos rfl];have hok:=FL h;obtain⟨-,x5,-,y5,-⟩:=BG hok;refine⟨by rw[RK,ID];exact x5,fun row hr=>?_⟩;unfold RK ER at hr;obtain⟨i,hi,rfl⟩:=AE.1 hr;refine⟨by simpa using y5,fun z hz=>?_⟩;obtain⟨j,hj,rfl⟩:=AE.1 hz;have hb:0≤AJ ((Bt xs ys).headD []) i j∧AJ ((Bt xs ys).headD []) i j≤1:=by
   obtain⟨g0,g7⟩:∃g0,(Bt xs ys)[0]? =some g0:=⟨_,A3 (List.length_pos_iff.2 (HH h))⟩;rw[M1 g7];exact AS (Iw g0 (A4 g7)).1 i j
  dsimp only
  split<;>omega
def Eh(xs ys:U):ByteArray:=EQ (C0 xs ys)
theorem XB(v v2:Value)(xs ys:U)(w:World)(hv:Au w v xs)(aS:Au w v2 ys):Calls prog 50 #[v,v2] w fun e w'=>e=.returned (.string (Eh xs ys))∧Below w.heap.size w w':=by
 have Hv:=Z hv;have aY:=Z aS;obtain⟨a,cap,rfl,-⟩:=hv;obtain⟨a2,cap2,rfl,-⟩:=aS;go_enter func50,ntmps50;go_wp2_with fail;refine(Ph _ _ _ _ _ Hv.o aY.o).mono ?_;rintro e w1 ⟨v1,rfl,o1,b1⟩;have Hg:=Z o1.qag;obtain⟨p1,p2,p3,rfl⟩:=o1.shape;clear o1;go_wp2_with fail;refine(A0o _ _ _ Hg.o (JU xs ys)).mono ?_;rintro e w2 ⟨rfl,b2⟩;have hb:=b1.qaa b2 (A2 _);have Hr:=Z (show Eh xs ys=EQ (C0 xs ys)from rfl);rw[←Hr.o];go_wp2
 go_ret
 exact⟨rfl,hb⟩
theorem A4W:VX 0=⟨#[46]⟩:=rfl
theorem A4F:VX 1=⟨#[35]⟩:=rfl
theorem A4M{x:Int}(h0:x≠0)(h1:x≠1):VX x=⟨#[63]⟩:=by unfold VX;rw[if_neg h0,if_neg h1]
theorem WW(v v2:Value)(xs ys:U)(w:World)(hv:Au w v xs)(aS:Au w v2 ys):Calls prog 131 #[v,v2] w fun e w'=>e=.returned (.string (Eh xs ys))∧Below w.heap.size w w':=by
 have Hv:=Z hv;have aY:=Z aS;obtain⟨a,cap,rfl,-⟩:=hv;obtain⟨a2,cap2,rfl,-⟩:=aS;have fV:=Z (Below.qab w (.cells #[] 9));have Ho0:=Z (BK w 9 w.heap.size CK);have cT:(w.alloc (.cells #[] 9)).heap.size=w.heap.size+1:=Jj;have lL:=Z cT;have Hr:=Z (show Eh xs ys=CE ⟨#[47]⟩ ((C0 xs ys).map Bu)from rfl);have hm:=JU xs ys;obtain⟨m,rP⟩:∃m,m=C0 xs ys:=⟨_,rfl⟩;rw[←rP]at Hr hm;have Hmm:=Z rP;have xB:=hm.1;clear cT rP;go_enter func131,ntmps131;go_wp2_with fail;refine(VT _ _ xs ys _ (Hv.o.keep fV.o) (aY.o.keep fV.o)).mono ?_;rintro e w1 ⟨v1,rfl,o1,b1⟩;rw[←Hmm.o]at o1;have cQ:=b1.size;rw[lL.o]at o1 cQ;have HG:=Z (o1.sl (R':=Sl Ap) (fun _ _ _ _ h=>h.sl (fun _ _ _ _ h=>h) A8) (Cd A8));obtain⟨am,cm,rfl,-⟩:=id HG.o;have fS:=Z ((Ab CK).same (Ac b1 fun b hb=>hb.2) Ho0.o);have lR:=Z (fV.o.qaa b1 (A2 _));clear o1;go_wp2;go_loopw [5,7,8,10,16] (fun v _ _ _ i wr=>∃k:Nat,k≤m.length∧i=.int .i64 k∧∃S,Hid (Ag 9 Km S wr v ((m.take k).map Bu))∧Hid (∀b,S b→(b=w.heap.size∨w1.heap.size≤b)∧b<wr.heap.size)∧Hid (AO (fun b=>b=w.heap.size) w1 wr)) (fun _ _ _ _ i _=>m.length-(intOf i).toNat);exact⟨0,A7 _,rfl,Iv w.heap.size (w.alloc (.cells #[] 9)).heap.size,by rw[List.take_zero,List.map_nil];exact fS.o,fun b hb=>⟨.inl (by have h1:=hb.1;have h2:=hb.2;rw[lL.o]at h2;omega),by have h2:=hb.2;rw[lL.o]at h2;omega⟩,AO.refl _ _⟩;obtain⟨k,hk,rfl,S,aC,HS,Honly⟩:=hrel;obtain⟨wo,rfl⟩:∃wo:World,wo=wr:=⟨_,rfl⟩;have bD:=Honly.o.size;have HGo:=Z ((Cd (Cd A8)).same (fun b hb=>Honly.o.block b hb.2 (fun e=>by have:=hb.1;omega)) HG.o);by_cases aF:k<m.length
 ·obtain⟨row,aD⟩:∃row,m[k]? =some row:=⟨_,A3 aF⟩;obtain⟨b,off,cpr,he,hb,-⟩:=HGo.o.qac J;obtain⟨rfl,-⟩:am=some ⟨b,off,none⟩∧cm=cpr:=by simpa using he
  obtain⟨u,aW,hu⟩:=Sl.at HGo.o aD;obtain⟨ar,cpr,rfl,-⟩:=id hu;obtain⟨aj,eE⟩:=hm.2 row (A4 aD);have aG:=Z (JX aD);have Hu:=Z (show Au wo (.slice ar row.length cpr) row from(Cd A8).rd hu);have au:((m.take k).map Bu).length<1099511627776:=by simp;omega
  have dM:decide ((k:Int)<(m.length:Int))=true:=by simp;omega
  obtain⟨p1,p2,p3,rfl⟩:=aC.o.shape;clear aD hu he;go_wp2;clear aW;go_loop [8,10,22] (fun s _ i=>∃j:Nat,j≤row.length∧i=.int .i64 j∧s=.string (Bu (row.take j))) (fun _ _ i=>row.length-(intOf i).toNat);exact⟨0,A7 _,rfl,rfl⟩;obtain⟨j,hj,rfl,rfl⟩:=hrel;obtain⟨t,ht⟩:∃t,t=Bu (row.take j):=⟨_,rfl⟩;rw[←ht];have x7:t.size≤5:=by rw[ht,Fc,At];omega
  have Ht:=Z ht;clear ht;by_cases hltj:j<row.length
  ·obtain⟨x,hx⟩:∃x,row[j]? =some x:=⟨_,A3 hltj⟩;obtain⟨br,offr,cpr2,dX,dL,-⟩:=Hu.o.qac J;obtain⟨rfl,-⟩:ar=some ⟨br,offr,none⟩∧cpr=cpr2:=by simpa using dX
   have fK:=Au.at Hu.o hx;have Hs:=Z (show Bu (row.take (j+1))=t++VX x from by rw[L8 hx,←Ht.o]);clear hx dX;by_cases h0:x=0
   ·subst h0;have Hg:=Z A4W;go_wp2
    go_round
    exact⟨j+1,J,by go_num,by rw[Hs.o,Hg.o]⟩;exact Jv
   by_cases h1:x=1
   ·subst h1;have Hg:=Z A4F;go_wp2
    go_round
    exact⟨j+1,J,by go_num,by rw[Hs.o,Hg.o]⟩;exact Jv
   ·have Hg:=Z (A4M h0 h1);have dS:(x==0)=false:=by simpa using h0
    have ep:(x==1)=false:=by simpa using h1
    clear h0 h1;go_wp2
    go_round
    exact⟨j+1,J,by go_num,by rw[Hs.o,Hg.o]⟩;exact Jv
  ·have Hf:=Z (show t=Bu row from by rw[Ht.o,A9 J]);have hx:t.size≤9223372036854775807:=J;have Hk:=Z (B9.new wo #[.string t] 9);have fO:=Z (Below.qab wo (.cells #[.string t] 9));have HoX:=Z ((Ab CK).same (Ac fO.o fun b hb=>(HS.o b hb).2) aC.o);have hzx:(wo.alloc (.cells #[.string t] 9)).heap.size=wo.heap.size+1:=Jj;have Hzx:=Z hzx;clear hzx;go_wp2_with (first|(at_builtin;(refine F6 (w:=wo.alloc (.cells #[.string t] 9)) (v:=.slice p1 p2 p3) (u:=.string t) (x:=t) (gb:=wo.heap.size) (c:=1) rfl _ _ 27 rfl CK 9 underlying27 Gi rfl Jq S (fun _=>False) rfl rfl (by exact Hk.o.cell 0) (by exact HoX.o) (by exact⟨rfl,hx⟩) (fun _ _ h=>h) (fun b hb=>by have:=(HS.o b hb).2;have:=Hzx.o;omega) (fun _ h=>h.elim) au ?_);intro v2 w2 hown2 honly2;obtain⟨t1,t2,t3,rfl⟩:=hown2.shape)|fail);have aX:=Z hown2;have HO:=Z ((Honly.o.qai (AO.qaj fO.o _)).qai (honly2.mono fun b hb _=>(HS.o b (aC.o.qae b hb)).1));clear hown2 honly2;go_wp2;go_roundw;exact⟨k+1,J,by go_num,fun b=>(S b∨False∨(wo.alloc (.cells #[.string t] 9)).heap.size≤b)∧b<w2.heap.size,by rw[aG.o,←Hf.o];exact aX.o,fun b hb=>⟨hb.1.elim (fun h=>(HS.o b h).1) (fun h=>h.elim (fun h=>h.elim) (fun h=>.inr (by have:=Hzx.o;omega))),hb.2⟩,HO.o⟩;exact Jv
 ·have aE:=aC.o;rw[A9 J]at aE;have aG:=Z (show CX wo _ (m.map Bu)from(Cd CK).rd (aE.sl (fun _ _ _ _ h=>h) CK));have iS:=Z hm.bulk;obtain⟨p1,p2,p3,rfl⟩:=aC.o.shape;have aA:Below w.heap.size w wo:=lR.o.trans (Honly.o.below J fun b hb=>by have hb:b=w.heap.size:=hb;omega);clear aE;go_wp2_with fail;refine(SR _ _ _ _ aG.o (by have:=iS.o;omega)).mono ?_;rintro e w2 ⟨rfl,rfl⟩;go_wp2
  go_ret
  exact⟨I4 Hr.o.symm,aA⟩
def Ed(l:U):Nat:=(l.filter fun x=>decide (x<0)).length
def Gu(F:I):Nat:=(F.map Ed).sum
theorem Qa{x:Int}(h:l[k]? =some x):Ed (l.take (k+1))=Ed (l.take k)+if x<0 then 1 else 0:=by
 unfold Ed;rw[Ao,h,Option.toList_some,List.filter_append,Ad];by_cases hx:x<0<;>simp[hx]
theorem A1e(l:U):Ed l≤l.length:=List.length_filter_le _ _
theorem Pw(h:F[k]? =some l):Gu (F.take (k+1))=Gu (F.take k)+Ed l:=by
 unfold Gu;rw[Ao,h,Option.toList_some,List.map_append,List.sum_append];simp
theorem Qg:Ed l=0↔∀x∈l,0≤x:=by
 unfold Ed;rw[List.length_eq_zero_iff,List.filter_eq_nil_iff];constructor
 ·intro h x hx;have:=h x hx;simp at this;exact this
 ·intro h x hx;have:=h x hx;simp;exact this
theorem A1N:Gu F=0↔∀l∈F,∀x∈l,0≤x:=by
 induction F with
 |nil=>simp[Gu]
 |cons l F ih=>
  have e:Gu (l::F)=Ed l+Gu F:=by simp[Gu]
  rw[e];constructor
  ·intro h k hk;rcases List.mem_cons.1 hk with rfl|hk
   ·exact Qg.1 J
   ·exact ih.1 J k hk
  ·intro h;have h1:=Qg.2 (h l Jj);have h2:=ih.2 fun k hk=>h k (by simp[hk]);omega
structure A3Y(r c:Nat)(m F:I):Prop where
 len:F.length=r
 row:∀y,y<r→∃l,F[y]? =some l∧l.length=c∧∀x,x<c→∃f,l[x]? =some f∧(f=-1∨f=AJ m y x)
 zero:Gu F=0↔Bj r c m=[]
 text:0<(EQ F).size
theorem A0N(hF:F≠[])(hc:1≤c)(hl:∀l∈F,l.length=c):0<(EQ F).size:=by
 obtain⟨G,x,rfl⟩:∃G x,F=G++[x]:=⟨F.dropLast,F.getLast hF,(List.dropLast_concat_getLast hF).symm⟩;have hx:=hl x Jj;unfold EQ;rw[List.map_append];by_cases hG:G.map Bu=[]
 ·rw[hG];simp only[List.map_cons,List.map_nil,List.nil_append];rw[KC,Fc];omega
 ·simp only[List.map_cons,List.map_nil];rw[Ja _ _ hG,ByteArray.size_append,Fc];omega
theorem Sy(hs:Ax r c m)(hr1:1≤r)(hr5:r≤5)(hc1:1≤c)(hc5:c≤5):A3Y r c m (C0 (Ae m) (Al m)):=by
 have hS:=Dv hs hr1 hr5 hc1 hc5;have aj:=(Cr hs hr1 hr5 hc1 hc5).1;have ah:=(Cv hs hr1 hr5 hc1 hc5).1;have hok:AT (Ae m) (Al m)=true:=IG J J J J (by rw[aj,ah];exact hS);have bK:BF (Ae m) (Al m)=true:=(JH hok).2 ⟨m,by rw[aj,ah];exact hS⟩;have cj:∀g,g∈Bt (Ae m) (Al m)↔Da (Ae m) (Al m) r c g:=fun g=>by
  rw[D6 hok,Dy hok,aj,ah]
 have hm:=(cj m).2 hS;obtain⟨L,hL⟩:∃L,L=Bt (Ae m) (Al m):=⟨_,rfl⟩;rw[←hL]at hm cj;have hh:L.headD []∈L:=by
  cases L with
  |nil=>cases hm
  |cons a l=>simp
 have hF:C0 (Ae m) (Al m)=ER r c fun i j=>if ∀g∈L,AJ g i j=AJ m i j then AJ m i j else-1:=by
  unfold C0;rw[if_pos bK,aj,ah,←hL];unfold RK;refine Em fun i j _ _=>?_;by_cases h:∀g∈L,AJ g i j=AJ (L.headD []) i j
  ·rw[if_pos h,if_pos fun g hg=>(h g hg).trans (h m hm).symm,h m hm]
  ·rw[if_neg h,if_neg fun h'=>h fun g hg=>(h' g hg).trans (h' _ hh).symm]
 rw[hF];have aD:=fun y (hy:y<r)=>FT (c:=c) (fun i j=>if ∀g∈L,AJ g i j=AJ m i j then AJ m i j else-1) hy;refine⟨ID _ _ _,fun y hy=>⟨_,aD y hy,Jj,fun x hx=>⟨if ∀g∈L,AJ g y x=AJ m y x then AJ m y x else-1,?_,?_⟩⟩,?_,?_⟩
 ·rw[Ak,AA hx];rfl
 ·split
  ·exact .inr rfl
  ·exact .inl rfl
 ·rw[A1N];have hu:=Zb hS;constructor
  ·intro h;have aQ:∀g,Da (Ae m) (Al m) r c g→g=m:=fun g hg=>by
    refine hg.1.ext hs fun i j hi hj=>?_;have h1:=h _ (A4 (aD i hi)) _ (AE.2 ⟨j,AG.2 hj,rfl⟩)
    split at h1
    ·rename_i h2;exact h2 g ((cj g).2 hg)
    ·omega
   have:=hu.1 aQ;rw[List.eq_nil_iff_forall_not_mem];exact fun s dY=>this s (DD.1 dY)
  ·intro h l hl x hx;have aQ:=hu.2 fun s dY=>by
    have:=DD.2 dY;rw[h]at this;cases this
   unfold ER at hl;obtain⟨i,hi,rfl⟩:=AE.1 hl;obtain⟨j,hj,rfl⟩:=AE.1 hx;dsimp only;rw[if_pos fun g hg=>by rw[aQ g ((cj g).1 hg)]];exact(AS hs i j).1
 ·refine A0N (c:=c) (fun e=>?_) hc1 fun l hl=>?_
  ·have:=ID r c (fun i j=>if ∀g∈L,AJ g i j=AJ m i j then AJ m i j else-1);rw[e]at this;simp at this;omega
  ·unfold ER at hl;obtain⟨i,hi,rfl⟩:=AE.1 hl;simp
theorem YO(v:Value)(m:I)(r c:Nat)(w:World)(hv:AI w v m)(hs:Ax r c m)(hr1:1≤r)(hr5:r≤5)(hc1:1≤c)(hc5:c≤5):Calls prog 103 #[v] w fun e w'=>e=.returned (.bool (decide (Bj r c m=[])))∧Below w.heap.size w w':=by
 have Hv:=Z hv;have aR:=Z (hs.ok hr1 hr5 hc1 hc5);obtain⟨a,cap,rfl,-⟩:=hv;go_enter func103,ntmps103;go_wp2_with fail;refine(B8 _ _ _ Hv.o).mono ?_;rintro e w' ⟨rfl,rfl⟩;rw[aR.o];go_wp2_with fail;refine(Ls _ m r c _ Hv.o hs hr1 hr5 hc1 hc5).mono ?_;rintro e w1 ⟨v1,rfl,o1,b1⟩;obtain⟨a1,c1,rfl⟩:=o1.shape;obtain⟨l,hl⟩:∃l,l=Bj r c m:=⟨_,rfl⟩;rw[←hl];clear o1;cases l with
 |nil=>
  have He:=Z (show true=decide (Bj r c m=[])from by rw[←hl];rfl);clear hl;go_wp2
  go_ret
  exact⟨AW He.o,b1⟩
 |cons s l=>
  have hd:(((s::l).length:Int)==0)=false:=by rw[Ai,An];omega
  obtain⟨n,hn⟩:∃n,n=(s::l).length:=⟨_,rfl⟩;rw[←hn]at hd⊢;have He:=Z (show false=decide (Bj r c m=[])from by rw[←hl];simp);clear hn hl;go_wp2
  go_ret
  exact⟨AW He.o,b1⟩
theorem XO(v:Value)(m:I)(r c:Nat)(w:World)(hv:AI w v m)(hs:Ax r c m)(hr1:1≤r)(hr5:r≤5)(hc1:1≤c)(hc5:c≤5):Calls prog 104 #[v] w fun e w'=>e=.returned (.int .i64 (Gu (C0 (Ae m) (Al m))))∧Below w.heap.size w w':=by
 have Hv:=Z hv;have aR:=Z (hs.ok hr1 hr5 hc1 hc5);have rY:=Sy hs hr1 hr5 hc1 hc5;obtain⟨F,hF⟩:∃F,F=C0 (Ae m) (Al m):=⟨_,rfl⟩;rw[←hF]at rY⊢;have HF:=Z hF;clear hF;have oY:=Z rY;clear rY;obtain⟨a,cap,rfl,-⟩:=hv;go_enter func104,ntmps104;go_wp2_with fail;refine(B8 _ _ _ Hv.o).mono ?_;rintro e w' ⟨rfl,rfl⟩;rw[aR.o];go_wp2_with fail;refine(Ei _ _ _ Hv.o).mono ?_;rintro e w1 ⟨v1,rfl,o1,b1⟩;have fS:=Z o1.ints;clear o1;go_wp2_with fail;refine(CQ 34 (.inl rfl) _ _ _ (Hv.o.keep b1)).mono ?_;rintro e w2 ⟨v2,rfl,o2,b2⟩;go_wp2_with fail;refine(Ph _ _ _ _ _ (fS.o.keep b2) o2.ints).mono ?_;rintro e w3 ⟨v3,rfl,o3,b3⟩;rw[←HF.o]at o3;have bb:Below w.heap.size w w3:=b1.qaa (b2.qaa b3 (A2 _)) (A2 _);obtain⟨g,gc,rfl,-,-,bz,-⟩:=o3.qac (by rw[oY.o.len];omega);have Hg:=Z o3.qag;have pR:=oY.o.len;rw[pR]at Hg⊢;clear o2 o3 pR;go_wp2;go_loopw [3,5,7,17] (fun n _ _ i wr=>∃k:Nat,k≤r∧i=.int .i64 k∧n=.int .i64 (Gu (F.take k))∧Gu (F.take k)≤5*k∧w3=wr) (fun _ _ _ i _=>r-(intOf i).toNat);exact⟨0,A7 _,rfl,by simp[Gu],by simp[Gu],rfl⟩;obtain⟨k,hk,rfl,rfl,hn,rfl⟩:=hrel;by_cases aF:k<r
 ·obtain⟨l,hl,dN,hlc⟩:=oY.o.row k aF;obtain⟨u,aW,hu⟩:=Sl.at Hg.o hl;have hu:Au w3 u l:=hu;obtain⟨br,offr,cpr,rfl,dL,-⟩:=hu.qac J;rw[Nat.zero_add]at aW;have Hu:=Z hu;have Hl:=Z hl;have eT:=Z dN;rw[dN]at aW;clear hu hl hlc;obtain⟨N,hN⟩:∃N,N=Gu (F.take k):=⟨_,rfl⟩;rw[←hN]at hn⊢;go_wp2;go_loopw [3,7,23] (fun n _ i wr=>∃x:Nat,x≤c∧i=.int .i64 x∧n=.int .i64 ((N+Ed (l.take x):Nat):Int)∧Ed (l.take x)≤x∧w3=wr) (fun _ _ i _=>c-(intOf i).toNat);exact⟨0,A7 _,rfl,by simp[Ed],by simp[Ed],rfl⟩;obtain⟨x,hx,rfl,rfl,hnx,rfl⟩:=hrel;by_cases bW:x<c
  ·obtain⟨z,hz⟩:∃z,l[x]? =some z:=⟨_,A3 (by have:=eT.o;omega)⟩;have oI:=Au.at Hu.o hz;have Hn:=Z (Qa hz);clear hz;obtain⟨N2,hN2⟩:∃N2,N2=Ed (l.take x):=⟨_,rfl⟩;rw[←hN2]at hnx⊢Hn;clear hN2;by_cases cT:z<0
   ·have tT:decide (z<0)=true:=by simpa using cT
    go_wp2;go_roundw;exact⟨x+1,J,by go_num,by rw[Hn.o,if_pos cT];go_num,by rw[Hn.o,if_pos cT];omega,trivial⟩;exact Jv
   ·have tT:decide (z<0)=false:=by simpa using cT
    go_wp2;go_roundw;exact⟨x+1,J,by go_num,by rw[Hn.o,if_neg cT,AF],by rw[Hn.o,if_neg cT];omega,trivial⟩;exact Jv
  ·obtain rfl:x=c:=J;have iC:l.take x=l:=A9 (Nat.le_of_eq eT.o);rw[iC]at hnx⊢;have Hs:=Z (Pw Hl.o);go_wp2;go_roundw;exact⟨k+1,J,by go_num,by rw[Hs.o,←hN],by rw[Hs.o,←hN];omega,trivial⟩;exact Jv
 ·obtain rfl:k=r:=J;rw[A9 (Nat.le_of_eq oY.o.len)]at hn⊢;go_wp2
  go_ret
  exact⟨rfl,bb⟩
