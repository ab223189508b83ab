/- Base. -/
import Derived.Test.YthmocomfjgmjoaaGreatDoorQ10
import Derived.Test.YthmocomfjgmjoaaGreatDoorQ05
import Derived.Test.YthmocomfjgmjoaaGreatDoorQ09
set_option maxHeartbeats 4000000
set_option maxRecDepth 100000
namespace Go.Proofs.YthmocomfjgmjoaaGreatDoor
open Go.RowKit
theorem Iw(r c:Nat)(f:Nat→Nat→Int):(ED r c f).length=r:=by simp[ED]
theorem FI{r c i:Nat}(f:Nat→Nat→Int)(hi:i<r):(ED r c f)[i]? =some ((List.range c).map fun j=>f i j):=by
 unfold ED;rw[List.getElem?_map,List.getElem?_range hi];rfl
theorem Eh{r c:Nat}{f g:Nat→Nat→Int}(h:∀i j,i<r→j<c→f i j=g i j):ED r c f=ED r c g:=by
 unfold ED;exact List.map_congr_left fun i hi=>List.map_congr_left fun j hj=>h i j (List.mem_range.1 hi) (List.mem_range.1 hj)
theorem A1B{r c y x:Nat}(f:Nat→Nat→Int)(hy:y<r)(v:Int):(ED r c f).set y (((List.range c).map fun j=>f y j).set x v)=ED r c (fun i j=>if i=y∧j=x then v else f i j):=by
 apply List.ext_getElem?;intro i;rw[List.getElem?_set];by_cases hi:y=i
 ·subst hi;rw[if_pos rfl,if_pos (by rw[Iw];exact hy),FI _ hy]
  congr 1
  apply List.ext_getElem?;intro j;rw[List.getElem?_set];by_cases hj:x=j
  ·subst hj;rw[if_pos rfl];by_cases hx:x<c
   ·rw[if_pos (by simpa using hx),List.getElem?_map,List.getElem?_range hx];simp
   ·rw[if_neg (by simpa using hx),List.getElem?_eq_none (by simpa using hx)]
  ·rw[if_neg hj,List.getElem?_map,List.getElem?_map];cases hr:(List.range c)[j]? with
   |none=>rfl
   |some k=>
    have hk:k=j:=by
     have h1:=(List.getElem?_eq_some_iff.1 hr).1;rw[List.length_range] at h1;rw[List.getElem?_range h1] at hr;exact(Option.some.inj hr).symm
    subst hk;simp only[Option.map_some];rw[if_neg (by omega)]
 ·rw[if_neg hi];by_cases hir:i<r
  ·rw[FI _ hir,FI _ hir]
   congr 1
   exact List.map_congr_left fun j _=>by rw[if_neg (by omega)]
  ·rw[List.getElem?_eq_none (by rw[Iw];omega),List.getElem?_eq_none (by rw[Iw];omega)]
def L6(g0:List (List Int))(L:List (List (List Int)))(k y x i j:Nat):Int:=
 if(∀m∈L.take k,Al m i j=Al g0 i j)∧((i<y∨i=y∧j<x)→Al (L.getD k []) i j=Al g0 i j) then Al g0 i j else-1
def CA(r c:Nat)(g0:List (List Int))(L:List (List (List Int)))(k y x:Nat):List (List Int):=ED r c (L6 g0 L k y x)
def Rw(r c:Nat)(L:List (List (List Int))):List (List Int):=ED r c fun i j=>if ∀m∈L,Al m i j=Al (L.headD []) i j then Al (L.headD []) i j else-1
theorem PM{r c:Nat}{g0:List (List Int)}(h:Ac r c g0)(L:List (List (List Int))):CA r c g0 L 0 0 0=g0:=by
 unfold CA;have e:ED r c (L6 g0 L 0 0 0)=ED r c (fun i j=>Al g0 i j):=Eh fun i j _ _=>by
  unfold L6;rw[if_pos ⟨by simp,by omega⟩]
 rw[e];refine(PW fun i j _ _=>AE h i j).ext h fun i j hi hj=>?_;show Al _ i j=Al g0 i j;exact NU hi hj
theorem Ui(r c:Nat)(g0:List (List Int))(L:List (List (List Int)))(k y:Nat):CA r c g0 L k y c=CA r c g0 L k (y+1) 0:=Eh fun i j _ hj=>by
 unfold L6;have:(i<y∨i=y∧j<c)↔(i<y+1∨i=y+1∧j<0):=by omega
 simp only[this]
theorem Us{r c:Nat}{g0:List (List Int)}{L:List (List (List Int))}{k:Nat}{m:List (List Int)}(hm:L[k]? =some m):CA r c g0 L k r 0=CA r c g0 L (k+1) 0 0:=Eh fun i j hi _=>by
 unfold L6;rw[AL hm,List.take_add_one,hm];have e:((∀q∈L.take k,Al q i j=Al g0 i j)∧((i<r∨i=r∧j<0)→Al m i j=Al g0 i j))↔((∀q∈L.take k++(some m).toList,Al q i j=Al g0 i j)∧((i<0∨i=0∧j<0)→Al (L.getD (k+1) []) i j=Al g0 i j)):=by
  constructor
  ·rintro⟨h1,h2⟩;refine⟨fun q hq=>?_,by omega⟩;rcases List.mem_append.1 hq with h|h
   ·exact h1 q h
   ·simp at h;rw[h];exact h2 (.inl hi)
  ·rintro⟨h1,-⟩;exact⟨fun q hq=>h1 q (List.mem_append_left _ hq),fun _=>h1 m (by simp)⟩
 simp only[e]
theorem Uw{r c:Nat}{L:List (List (List Int))}{g0:List (List Int)}(h0:L[0]? =some g0){k:Nat}(hk:L.length≤k):CA r c g0 L k 0 0=Rw r c L:=by
 unfold CA Rw;have hh:L.headD []=g0:=LL h0;rw[hh];exact Eh fun i j _ _=>by
  unfold L6;rw[List.take_of_length_le hk];have e:((∀q∈L,Al q i j=Al g0 i j)∧((i<0∨i=0∧j<0)→Al (L.getD k []) i j=Al g0 i j))↔∀q∈L,Al q i j=Al g0 i j:=⟨fun h=>h.1,fun h=>⟨h,by omega⟩⟩;simp only[e]
theorem Nr{r c y x:Nat}{g0:List (List Int)}{L:List (List (List Int))}{k:Nat}{row:List Int}(hy:y<r)(hx:x<c)(aG:(CA r c g0 L k y x)[y]? =some row):row=(List.range c).map (fun j=>L6 g0 L k y x y j)∧row.length=c∧row[x]? =some (if ∀m∈L.take k,Al m y x=Al g0 y x then Al g0 y x else-1):=by
 have h1:=FI (L6 g0 L k y x) hy (c:=c);unfold CA at aG;rw[h1] at aG;obtain rfl:=Option.some.inj aG;refine⟨rfl,by simp,?_⟩;rw[List.getElem?_map,List.getElem?_range hx];simp only[Option.map_some,Option.some.injEq];unfold L6;have e:((∀q∈L.take k,Al q y x=Al g0 y x)∧((y<y∨y=y∧x<x)→Al (L.getD k []) y x=Al g0 y x))↔∀q∈L.take k,Al q y x=Al g0 y x:=⟨fun h=>h.1,fun h=>⟨h,by omega⟩⟩;by_cases aR:∀q∈L.take k,Al q y x=Al g0 y x
 ·rw[if_pos (e.2 aR),if_pos aR]
 ·rw[if_neg (fun h=>aR (e.1 h)),if_neg aR]
theorem Rc{r c y x:Nat}{g0:List (List Int)}{L:List (List (List Int))}{k:Nat}{m:List (List Int)}(hm:L[k]? =some m)(sK:Ac r c m)(he:(if ∀q∈L.take k,Al q y x=Al g0 y x then Al g0 y x else-1)=Al m y x):CA r c g0 L k y (x+1)=CA r c g0 L k y x:=Eh fun i j _ _=>by
 unfold L6;rw[AL hm];by_cases hij:i=y∧j=x
 ·obtain⟨rfl,rfl⟩:=hij;have hb:=AE sK i j;by_cases aR:∀q∈L.take k,Al q i j=Al g0 i j
  ·rw[if_pos aR] at he;rw[if_pos ⟨aR,fun _=>he.symm⟩,if_pos ⟨aR,by omega⟩]
  ·rw[if_neg aR] at he;omega
 ·have:(i<y∨i=y∧j<x+1)↔(i<y∨i=y∧j<x):=by omega
  simp only[this]
theorem PH{r c y x:Nat}{g0:List (List Int)}{L:List (List (List Int))}{k:Nat}{m:List (List Int)}{row:List Int}(hy:y<r)(hx:x<c)(hm:L[k]? =some m)(aG:(CA r c g0 L k y x)[y]? =some row)(he:¬(if ∀q∈L.take k,Al q y x=Al g0 y x then Al g0 y x else-1)=Al m y x):
  (CA r c g0 L k y x).set y (row.set x (-1))=CA r c g0 L k y (x+1):=by
 obtain⟨e1,-,-⟩:=Nr hy hx aG;rw[e1];unfold CA;rw[A1B _ hy];refine Eh fun i j _ _=>?_;by_cases hij:i=y∧j=x
 ·rw[if_pos hij];obtain⟨rfl,rfl⟩:=hij;unfold L6;rw[AL hm];by_cases aR:∀q∈L.take k,Al q i j=Al g0 i j
  ·rw[if_pos aR] at he;rw[if_neg (fun h=>he (h.2 (.inr ⟨rfl,by omega⟩)).symm)]
  ·rw[if_neg (fun h=>aR h.1)]
 ·rw[if_neg hij];unfold L6;have:(i<y∨i=y∧j<x+1)↔(i<y∨i=y∧j<x):=by omega
  simp only[this]
def BT(xs ys:List Int):List (List Int):=if Bu xs ys then Rw xs.length ys.length (AZ xs ys) else[]
theorem Ik{xs ys:List Int}:∀m∈AZ xs ys,CY xs ys xs.length ys.length m:=by
 intro m hm;cases aD:AF xs ys
 ·rw[GF aD] at hm;cases hm
 ·rw[Cu aD] at hm;exact(Dp aD m).1 hm
theorem NO(v v2:Value)(xs ys:List Int)(w:World)(hv:Ab w v xs)(aW:Ab w v2 ys):Calls Tryz.prog 109 #[v,v2] w (M7 32 (A4 3 A7) w (BT xs ys)):=by
 have Hv:=Z hv;have aj:=Z aW;obtain⟨a,cap,rfl,-⟩:=hv;obtain⟨a2,cap2,rfl,-⟩:=aW;cases bR:Bu xs ys
 ·have Hr:=Z (show BT xs ys=[] from by unfold BT;rw[bR];rfl);have Hi:=Z (GU bR);have dk:=Z bR;clear bR;go_enter Tryz.func109,Tryz.ntmps109;go_wp2_with (fail);refine(Ef _ _ _ _ _ Hv.o aj.o).mono ?_;rintro e w1 ⟨v1,rfl,o1,b1⟩;rw[Hi.o] at o1;obtain⟨aL,cL,rfl,-⟩:=id o1.grids;clear o1;go_wp2
  go_ret
  exact⟨_,rfl,by rw[Hr.o];exact A4.nil _ _ _ _,b1⟩
 have aD:=Fy bR;obtain⟨x1,x5,y1,y5,-,-,-⟩:=BC aD;have Hr:=Z (show BT xs ys=Rw xs.length ys.length (AZ xs ys) from by unfold BT;rw[bR];rfl);have aO:=H0 bR;have vA:=DQ xs ys;have bA:=Ik (xs:=xs) (ys:=ys);have fQ:=EH aD;rw[←Cu aD] at fQ;obtain⟨h5,h6⟩:=Lx aD;obtain⟨L,hL⟩:∃L,L=AZ xs ys:=⟨_,rfl⟩;rw[←hL] at aO vA bA Hr fQ;have s7:0<L.length:=List.length_pos_iff.2 aO;obtain⟨g0,hU⟩:∃g0,L[0]? =some g0:=⟨_,List.getElem?_eq_getElem s7⟩;have vB:=Z hU;have oz:=Z bA;have HL:=Z hL;have dk:=Z bR;have nC:=Z fQ;have nD:=Z (bA g0 (List.mem_of_getElem? hU)).1;have H56:=Z (And.intro h5 h6);have xb:((L.length:Int)==0)=false:=by rw[beq_eq_false_iff_ne];omega
 clear bR aD aO bA hU hL fQ h5 h6;go_enter Tryz.func109,Tryz.ntmps109;go_wp2_with (fail);refine(Ef _ _ _ _ _ Hv.o aj.o).mono ?_;rintro e w1 ⟨v1,rfl,o1,b1⟩;rw[←HL.o] at o1;obtain⟨gL,cL,rfl,-,-,-,-⟩:=o1.inv_ne s7;have iX:=Z (o1.sl (R':=Sl (Sl A7)) (fun _ _ _ _ h=>h.sl (fun _ _ _ _ h=>h.sl (fun _ _ _ _ h=>h) A2) (BY A2)) (BY (BY A2)));obtain⟨u0,cF,eL⟩:=Sl.at iX.o vB.o;rw[Nat.add_zero] at cF;have oX:Ak w1 u0 g0:=(BY (BY A2)).rd eL;obtain⟨m1,m2,rfl,-⟩:=id oX;have cX:=b1.size;have HG0:=Z oX;have bJ:g0.length≤1048576:=by rw[nD.o.1];omega
 have HR:=Z (show ∀p∈g0,p.length≤1048576 from fun p hp=>by have:=(nD.o.2 p hp).1;omega);clear o1 eL oX;go_wp2_with (fail);refine(EO _ g0 _ (by exact HG0.o) bJ HR.o).mono ?_;rintro e w2 ⟨v2,rfl,o2,b2⟩;obtain⟨g,c2,rfl,hg,cH,-,-⟩:=o2.inv_ne (by rw[nD.o.1];omega);rw[nD.o.1] at o2 cH⊢;have hs2:=b2.size;have cu:=Z o2;have nf:=Z ((BY (BY (BY A2))).same (A5 b2 fun b hb=>hb.2) iX.o);have l9:=Z (b1.trans_pure b2 (Nat.le_refl _));clear o2 cF;go_wp2;go_loopw [29] (fun i wr=>∃k:Nat,k≤L.length∧i=.int .i64 k∧Hid (A4 32 (A4 3 A7) (Iv w1.heap.size w2.heap.size) wr (.slice (some ⟨g,0,none⟩) xs.length c2) (CA xs.length ys.length g0 L k 0 0))∧Hid (Below w1.heap.size w2 wr)∧wr.heap.size=w2.heap.size) (fun i _=>L.length-(intOf i).toNat)
 case atStart=>exact⟨0,Nat.zero_le _,rfl,by rw[PM nD.o];exact cu.o,Below.refl _ _,rfl⟩
 case round=>
  obtain⟨k,hk,rfl,aC,bI,aI⟩:=hrel;have bV:=Z aI;clear aI;by_cases aH:k<L.length
  ·obtain⟨m,hm⟩:∃m,L[k]? =some m:=⟨_,List.getElem?_eq_getElem aH⟩;have lj:=Z (oz.o m (List.mem_of_getElem? hm)).1;have vC:=Z ((BY (BY (BY A2))).same (fun b hb=>bI.o.block b hb.2) nf.o);obtain⟨um,e9,hum⟩:=Sl.at vC.o hm;rw[Nat.zero_add] at e9;obtain⟨am,cm,rfl,-⟩:=id hum;have Hm:=Z hm;have mR:=Z hum;have bJ:m.length=xs.length:=lj.o.1;rw[bJ] at e9;obtain⟨wo,hwo⟩:∃wo,wo=wr:=⟨_,rfl⟩;rw[←hwo] at mR;have vD:=Z (show Below w1.heap.size wo wr from by rw[hwo];exact Below.refl _ _);have r6:=Z (show Below w1.heap.size w2 wo from by rw[hwo];exact bI.o);clear hm hum hwo bJ;go_wp2;go_loopw [35] (fun i wr=>∃y:Nat,y≤xs.length∧i=.int .i64 y∧Hid (A4 32 (A4 3 A7) (Iv w1.heap.size w2.heap.size) wr (.slice (some ⟨g,0,none⟩) xs.length c2) (CA xs.length ys.length g0 L k y 0))∧Hid (Below w1.heap.size wo wr)∧wr.heap.size=w2.heap.size) (fun i _=>xs.length-(intOf i).toNat)
   case atStart=>exact⟨0,Nat.zero_le _,rfl,aC,vD,bV.o⟩
   case round=>
    clear aC bI bV vC e9 vD;obtain⟨y,hy,rfl,aC,bI,aI⟩:=hrel;have bV:=Z aI;clear aI;by_cases hlty:y<xs.length
    ·obtain⟨jB,kP⟩:∃row,m[y]? =some row:=⟨_,(Cv lj.o hlty).1⟩;have kX:jB.length=ys.length:=(lj.o.2 jB (List.mem_of_getElem? kP)).1;obtain⟨bm,offm,cpm,he,oe,-⟩:=mR.o.inv_ne (by rw[lj.o.1];omega);obtain⟨rfl,-⟩:am=some ⟨bm,offm,none⟩∧cm=cpm:=by simpa using he
     obtain⟨ur,jI,pB⟩:=Sl.at ((BY (BY A2)).same (fun b hb=>bI.o.block b hb.2) mR.o) kP;obtain⟨ar,crr,rfl,-⟩:=id pB;rw[kX] at jI;have r7:=Z pB;have oZ:=Z (show ∀x,jB.getD x 0=Al m y x from fun x=>by unfold Al;rw[AL kP]);have nE:=Z kX;obtain⟨wp,hwp⟩:∃wp,wp=wr:=⟨_,rfl⟩;rw[←hwp] at r7;have vE:=Z (show Below w1.heap.size wp wr from by rw[hwp];exact Below.refl _ _);have r8:=Z (show Below w1.heap.size wo wp from by rw[hwp];exact bI.o);clear kP pB he hwp kX;go_wp2;go_loopw [42] (fun i wr=>∃x:Nat,x≤ys.length∧i=.int .i64 x∧Hid (A4 32 (A4 3 A7) (Iv w1.heap.size w2.heap.size) wr (.slice (some ⟨g,0,none⟩) xs.length c2) (CA xs.length ys.length g0 L k y x))∧Hid (Below w1.heap.size wp wr)∧wr.heap.size=w2.heap.size) (fun i _=>ys.length-(intOf i).toNat)
     case atStart=>exact⟨0,Nat.zero_le _,rfl,aC,vE,bV.o⟩
     case round=>
      clear aC bI bV jI vE;obtain⟨x,hx,rfl,aC,bI,aI⟩:=hrel;have bV:=Z aI;clear aI;by_cases hltx:x<ys.length
      ·obtain⟨z,hz⟩:∃z,jB[x]? =some z:=⟨_,List.getElem?_eq_getElem (by rw[nE.o];exact hltx)⟩;obtain⟨br,offr,cpr,he,dL,-⟩:=r7.o.inv_ne (by rw[nE.o];omega);obtain⟨rfl,-⟩:ar=some ⟨br,offr,none⟩∧crr=cpr:=by simpa using he
       obtain⟨uz,mD,rfl,-⟩:=Sl.at ((BY A2).same (fun b hb=>bI.o.block b hb.2) r7.o) hz;have fL:z=Al m y x:=by rw[←oZ.o x,AL hz]
       have ii:=AE lj.o y x;rw[←fL] at ii;obtain⟨row,aG⟩:∃row,(CA xs.length ys.length g0 L k y x)[y]? =some row:=⟨_,FI _ hlty⟩;obtain⟨-,aw,hrx⟩:=Nr hlty hltx aG;obtain⟨q,cq,aM,-,hq,-,di,cP,bP,ap⟩:=AC aC.o aG (by rw[aw];omega);rw[aw] at aM di;obtain⟨o,ho⟩:∃o,o=(if ∀q∈L.take k,Al q y x=Al g0 y x then Al g0 y x else-1):=⟨_,rfl⟩;rw[←ho] at hrx;have ke:=bP x o hrx;obtain⟨-,gN⟩:=cP x (by rw[aw];exact hltx);have vF:=hq.1;by_cases dJ:o=z
       ·have aO:(o !=z)=false:=by simp[dJ]
        have gf:=Z (show CA xs.length ys.length g0 L k y (x+1)=CA xs.length ys.length g0 L k y x from Rc Hm.o lj.o (by rw[←ho,dJ,fL]));clear hz fL aG hrx bP ap cP ho dJ he;go_wp2;go_roundw
        case rel=>exact⟨x+1,by omega,by go_num,by rw[gf.o];exact aC.o,bI,bV.o⟩
        case measure=>simp[intOf];omega
       ·have aO:(o !=z)=true:=by simp[dJ]
        have fG:=Z (show A4 32 (A4 3 A7) (Iv w1.heap.size w2.heap.size) (wr.setCell ⟨q,x,none⟩ (.int .i64 (-1))) (.slice (some ⟨g,0,none⟩) xs.length c2) (CA xs.length ys.length g0 L k y (x+1)) from by
         have h:=ap wr (fun _ _=>rfl) x (-1) (by rw[aw];exact hltx) (BV.small (by decide) (by decide));rwa[PH hlty hltx Hm.o aG (by rw[←ho,←fL];exact dJ)] at h)
        clear hz fL aG hrx bP ap cP ho dJ he;go_wp2;go_roundw
        case rel=>exact⟨x+1,by omega,by go_num,fG,bI.o.setCell (show w1.heap.size≤(⟨q,x,none⟩:Addr).block from vF) _,by rw[A9];exact bV.o⟩
        case measure=>simp[intOf];omega
      ·have e:x=ys.length:=by omega
       have He:=Z (show CA xs.length ys.length g0 L k (y+1) 0=CA xs.length ys.length g0 L k y x from by rw[e,Ui]);clear e;go_wp2;go_roundw
       case rel=>exact⟨y+1,by omega,by go_num,by rw[He.o];exact aC.o,r8.o.trans bI.o,bV.o⟩
       case measure=>simp[intOf];omega
    ·have e:y=xs.length:=by omega
     have He:=Z (show CA xs.length ys.length g0 L (k+1) 0 0=CA xs.length ys.length g0 L k y 0 from by rw[e,Us Hm.o]);clear e;go_wp2;go_roundw
     case rel=>exact⟨k+1,by omega,by go_num,by rw[He.o];exact aC.o,r6.o.trans bI.o,bV.o⟩
     case measure=>simp[intOf];omega
  ·have He:=Z (show CA xs.length ys.length g0 L k 0 0=Rw xs.length ys.length L from Uw vB.o (by omega));have aF:Below w.heap.size w wr:=l9.o.trans (bI.o.mono cX);go_wp2
   go_ret
   refine⟨_,rfl,?_,aF⟩;rw[Hr.o,←He.o,bV.o];exact(A3 (A3 A2)).mono (fun b hb=>⟨by have:=hb.1;omega,hb.2⟩) aC.o
theorem VV(v v2:Value)(xs ys:List Int)(w:World)(hv:Ab w v xs)(aW:Ab w v2 ys):Calls Tryz.prog 189 #[v,v2] w (M7 32 (A4 3 A7) w (BT xs ys)):=by
 have Hv:=Z hv;have aj:=Z aW;obtain⟨a,cap,rfl,-⟩:=hv;obtain⟨a2,cap2,rfl,-⟩:=aW;cases bR:Bu xs ys
 ·have Hr:=Z (show BT xs ys=[] from by unfold BT;rw[bR];rfl);have Hi:=Z (GU bR);have dk:=Z bR;clear bR;go_enter Tryz.func189,Tryz.ntmps189;go_wp2_with (fail);refine(DA _ _ _ _ _ Hv.o aj.o).mono ?_;rintro e w1 ⟨rfl,b1⟩;rw[dk.o];go_wp2
  go_ret
  exact⟨_,rfl,by rw[Hr.o];exact A4.nil _ _ _ _,b1⟩
 have aD:=Fy bR;obtain⟨x1,x5,y1,y5,-,-,-⟩:=BC aD;have Hr:=Z (show BT xs ys=Rw xs.length ys.length (AZ xs ys) from by unfold BT;rw[bR];rfl);have aO:=H0 bR;have vA:=DQ xs ys;have bA:=Ik (xs:=xs) (ys:=ys);have fQ:=EH aD;rw[←Cu aD] at fQ;obtain⟨h5,h6⟩:=Lx aD;obtain⟨L,hL⟩:∃L,L=AZ xs ys:=⟨_,rfl⟩;rw[←hL] at aO vA bA Hr fQ;have s7:0<L.length:=List.length_pos_iff.2 aO;obtain⟨g0,hU⟩:∃g0,L[0]? =some g0:=⟨_,List.getElem?_eq_getElem s7⟩;have vB:=Z hU;have oz:=Z bA;have HL:=Z hL;have dk:=Z bR;have nC:=Z fQ;have nD:=Z (bA g0 (List.mem_of_getElem? hU)).1;have H56:=Z (And.intro h5 h6);have xb:((L.length:Int)==0)=false:=by rw[beq_eq_false_iff_ne];omega
 clear bR aD aO bA hU hL fQ h5 h6;go_enter Tryz.func189,Tryz.ntmps189;go_wp2_with (fail);refine(DA _ _ _ _ _ Hv.o aj.o).mono ?_;rintro e w0 ⟨rfl,b0⟩;rw[dk.o];have bU:=Z (Ob xs ys (.slice none 0 0) (.slice none 0 0) (.slice a xs.length cap) (.slice a2 ys.length cap2) [] (fun _=>False) [] w0 x5 y1 y5 H56.o.1 H56.o.2 (fun _ h=>h.elim) (A4.nil _ _ _ _) ⟨none,0,rfl,by simp,by simp,fun _=>rfl,fun h=>by simp at h⟩ ((BY A2).mono (fun b hb=>⟨hb,fun h=>h⟩) (Hv.o.keep b0)) ((BY A2).mono (fun b hb=>⟨hb,fun h=>h⟩) (aj.o.keep b0)) (by simpa using x5) (fun row hr=>by cases hr) (by rw[nC.o];simp;omega));go_wp2_with (fail);refine(bU.o).mono ?_;rintro e w1 ⟨v1,S3,rfl,o3,ki,O3⟩;have ce:=b0.size;have o1:=(A3 (A3 (A3 A2))).mono (S':=Iv w.heap.size w1.heap.size) (fun b hb=>⟨by have:=(ki b hb).1;simp at this;omega,(ki b hb).2⟩) o3;rw[List.nil_append,show(BF xs ys).map ([]++ ·)=BF xs ys from by simp,nC.o] at o1;have b1:=b0.trans_pure (O3.below (Nat.le_refl _) fun _ h=>h.elim) (Nat.le_refl _);clear o3 ki O3 bU;obtain⟨gL,cL,rfl,-,-,-,-⟩:=o1.inv_ne s7;have iX:=Z (o1.sl (R':=Sl (Sl A7)) (fun _ _ _ _ h=>h.sl (fun _ _ _ _ h=>h.sl (fun _ _ _ _ h=>h) A2) (BY A2)) (BY (BY A2)));obtain⟨u0,cF,eL⟩:=Sl.at iX.o vB.o;rw[Nat.add_zero] at cF;have oX:Ak w1 u0 g0:=(BY (BY A2)).rd eL;obtain⟨m1,m2,rfl,-⟩:=id oX;have cX:=b1.size;have HG0:=Z oX;have bJ:g0.length≤1048576:=by rw[nD.o.1];omega
 have HR:=Z (show ∀p∈g0,p.length≤1048576 from fun p hp=>by have:=(nD.o.2 p hp).1;omega);clear o1 eL oX;go_wp2_with (fail);refine(DG _ g0 _ (by exact HG0.o) bJ HR.o).mono ?_;rintro e w2 ⟨v2,rfl,o2,b2⟩;obtain⟨g,c2,rfl,hg,cH,-,-⟩:=o2.inv_ne (by rw[nD.o.1];omega);rw[nD.o.1] at o2 cH⊢;have hs2:=b2.size;have cu:=Z o2;have nf:=Z ((BY (BY (BY A2))).same (A5 b2 fun b hb=>hb.2) iX.o);have l9:=Z (b1.trans_pure b2 (Nat.le_refl _));clear o2 cF;go_wp2;go_loopw [26] (fun i wr=>∃k:Nat,k≤L.length∧i=.int .i64 k∧Hid (A4 32 (A4 3 A7) (Iv w1.heap.size w2.heap.size) wr (.slice (some ⟨g,0,none⟩) xs.length c2) (CA xs.length ys.length g0 L k 0 0))∧Hid (Below w1.heap.size w2 wr)∧wr.heap.size=w2.heap.size) (fun i _=>L.length-(intOf i).toNat)
 case atStart=>exact⟨0,Nat.zero_le _,rfl,by rw[PM nD.o];exact cu.o,Below.refl _ _,rfl⟩
 case round=>
  obtain⟨k,hk,rfl,aC,bI,aI⟩:=hrel;have bV:=Z aI;clear aI;by_cases aH:k<L.length
  ·obtain⟨m,hm⟩:∃m,L[k]? =some m:=⟨_,List.getElem?_eq_getElem aH⟩;have lj:=Z (oz.o m (List.mem_of_getElem? hm)).1;have vC:=Z ((BY (BY (BY A2))).same (fun b hb=>bI.o.block b hb.2) nf.o);obtain⟨um,e9,hum⟩:=Sl.at vC.o hm;rw[Nat.zero_add] at e9;obtain⟨am,cm,rfl,-⟩:=id hum;have Hm:=Z hm;have mR:=Z hum;have bJ:m.length=xs.length:=lj.o.1;rw[bJ] at e9;obtain⟨wo,hwo⟩:∃wo,wo=wr:=⟨_,rfl⟩;rw[←hwo] at mR;have vD:=Z (show Below w1.heap.size wo wr from by rw[hwo];exact Below.refl _ _);have r6:=Z (show Below w1.heap.size w2 wo from by rw[hwo];exact bI.o);clear hm hum hwo bJ;go_wp2;go_loopw [32] (fun i wr=>∃y:Nat,y≤xs.length∧i=.int .i64 y∧Hid (A4 32 (A4 3 A7) (Iv w1.heap.size w2.heap.size) wr (.slice (some ⟨g,0,none⟩) xs.length c2) (CA xs.length ys.length g0 L k y 0))∧Hid (Below w1.heap.size wo wr)∧wr.heap.size=w2.heap.size) (fun i _=>xs.length-(intOf i).toNat)
   case atStart=>exact⟨0,Nat.zero_le _,rfl,aC,vD,bV.o⟩
   case round=>
    clear aC bI bV vC e9 vD;obtain⟨y,hy,rfl,aC,bI,aI⟩:=hrel;have bV:=Z aI;clear aI;by_cases hlty:y<xs.length
    ·obtain⟨jB,kP⟩:∃row,m[y]? =some row:=⟨_,(Cv lj.o hlty).1⟩;have kX:jB.length=ys.length:=(lj.o.2 jB (List.mem_of_getElem? kP)).1;obtain⟨bm,offm,cpm,he,oe,-⟩:=mR.o.inv_ne (by rw[lj.o.1];omega);obtain⟨rfl,-⟩:am=some ⟨bm,offm,none⟩∧cm=cpm:=by simpa using he
     obtain⟨ur,jI,pB⟩:=Sl.at ((BY (BY A2)).same (fun b hb=>bI.o.block b hb.2) mR.o) kP;obtain⟨ar,crr,rfl,-⟩:=id pB;rw[kX] at jI;have r7:=Z pB;have oZ:=Z (show ∀x,jB.getD x 0=Al m y x from fun x=>by unfold Al;rw[AL kP]);have nE:=Z kX;obtain⟨wp,hwp⟩:∃wp,wp=wr:=⟨_,rfl⟩;rw[←hwp] at r7;have vE:=Z (show Below w1.heap.size wp wr from by rw[hwp];exact Below.refl _ _);have r8:=Z (show Below w1.heap.size wo wp from by rw[hwp];exact bI.o);clear kP pB he hwp kX;go_wp2;go_loopw [39] (fun i wr=>∃x:Nat,x≤ys.length∧i=.int .i64 x∧Hid (A4 32 (A4 3 A7) (Iv w1.heap.size w2.heap.size) wr (.slice (some ⟨g,0,none⟩) xs.length c2) (CA xs.length ys.length g0 L k y x))∧Hid (Below w1.heap.size wp wr)∧wr.heap.size=w2.heap.size) (fun i _=>ys.length-(intOf i).toNat)
     case atStart=>exact⟨0,Nat.zero_le _,rfl,aC,vE,bV.o⟩
     case round=>
      clear aC bI bV jI vE;obtain⟨x,hx,rfl,aC,bI,aI⟩:=hrel;have bV:=Z aI;clear aI;by_cases hltx:x<ys.length
      ·obtain⟨z,hz⟩:∃z,jB[x]? =some z:=⟨_,List.getElem?_eq_getElem (by rw[nE.o];exact hltx)⟩;obtain⟨br,offr,cpr,he,dL,-⟩:=r7.o.inv_ne (by rw[nE.o];omega);obtain⟨rfl,-⟩:ar=some ⟨br,offr,none⟩∧crr=cpr:=by simpa using he
       obtain⟨uz,mD,rfl,-⟩:=Sl.at ((BY A2).same (fun b hb=>bI.o.block b hb.2) r7.o) hz;have fL:z=Al m y x:=by rw[←oZ.o x,AL hz]
       have ii:=AE lj.o y x;rw[←fL] at ii;obtain⟨row,aG⟩:∃row,(CA xs.length ys.length g0 L k y x)[y]? =some row:=⟨_,FI _ hlty⟩;obtain⟨-,aw,hrx⟩:=Nr hlty hltx aG;obtain⟨q,cq,aM,-,hq,-,di,cP,bP,ap⟩:=AC aC.o aG (by rw[aw];omega);rw[aw] at aM di;obtain⟨o,ho⟩:∃o,o=(if ∀q∈L.take k,Al q y x=Al g0 y x then Al g0 y x else-1):=⟨_,rfl⟩;rw[←ho] at hrx;have ke:=bP x o hrx;obtain⟨-,gN⟩:=cP x (by rw[aw];exact hltx);have vF:=hq.1;by_cases dJ:o=z
       ·have aO:(o !=z)=false:=by simp[dJ]
        have gf:=Z (show CA xs.length ys.length g0 L k y (x+1)=CA xs.length ys.length g0 L k y x from Rc Hm.o lj.o (by rw[←ho,dJ,fL]));clear hz fL aG hrx bP ap cP ho dJ he;go_wp2;go_roundw
        case rel=>exact⟨x+1,by omega,by go_num,by rw[gf.o];exact aC.o,bI,bV.o⟩
        case measure=>simp[intOf];omega
       ·have aO:(o !=z)=true:=by simp[dJ]
        have fG:=Z (show A4 32 (A4 3 A7) (Iv w1.heap.size w2.heap.size) (wr.setCell ⟨q,x,none⟩ (.int .i64 (-1))) (.slice (some ⟨g,0,none⟩) xs.length c2) (CA xs.length ys.length g0 L k y (x+1)) from by
         have h:=ap wr (fun _ _=>rfl) x (-1) (by rw[aw];exact hltx) (BV.small (by decide) (by decide));rwa[PH hlty hltx Hm.o aG (by rw[←ho,←fL];exact dJ)] at h)
        clear hz fL aG hrx bP ap cP ho dJ he;go_wp2;go_roundw
        case rel=>exact⟨x+1,by omega,by go_num,fG,bI.o.setCell (show w1.heap.size≤(⟨q,x,none⟩:Addr).block from vF) _,by rw[A9];exact bV.o⟩
        case measure=>simp[intOf];omega
      ·have e:x=ys.length:=by omega
       have He:=Z (show CA xs.length ys.length g0 L k (y+1) 0=CA xs.length ys.length g0 L k y x from by rw[e,Ui]);clear e;go_wp2;go_roundw
       case rel=>exact⟨y+1,by omega,by go_num,by rw[He.o];exact aC.o,r8.o.trans bI.o,bV.o⟩
       case measure=>simp[intOf];omega
    ·have e:y=xs.length:=by omega
     have He:=Z (show CA xs.length ys.length g0 L (k+1) 0 0=CA xs.length ys.length g0 L k y 0 from by rw[e,Us Hm.o]);clear e;go_wp2;go_roundw
     case rel=>exact⟨k+1,by omega,by go_num,by rw[He.o];exact aC.o,r6.o.trans bI.o,bV.o⟩
     case measure=>simp[intOf];omega
  ·have He:=Z (show CA xs.length ys.length g0 L k 0 0=Rw xs.length ys.length L from Uw vB.o (by omega));have aF:Below w.heap.size w wr:=l9.o.trans (bI.o.mono cX);go_wp2
   go_ret
   refine⟨_,rfl,?_,aF⟩;rw[Hr.o,←He.o,bV.o];exact(A3 (A3 A2)).mono (fun b hb=>⟨by have:=hb.1;omega,hb.2⟩) aC.o
theorem Jq(xs ys:List Int):XY (BT xs ys):=by
 unfold BT;cases h:Bu xs ys
 ·exact⟨by simp,by simp⟩
 ·rw[if_pos rfl];have aD:=Fy h;obtain⟨-,x5,-,y5,-⟩:=BC aD;refine⟨by rw[Rw,Iw];exact x5,fun row hr=>?_⟩;unfold Rw ED at hr;obtain⟨i,hi,rfl⟩:=List.mem_map.1 hr;refine⟨by simpa using y5,fun z hz=>?_⟩;obtain⟨j,hj,rfl⟩:=List.mem_map.1 hz;have hb:0≤Al ((AZ xs ys).headD []) i j∧Al ((AZ xs ys).headD []) i j≤1:=by
   obtain⟨g0,hU⟩:∃g0,(AZ xs ys)[0]? =some g0:=⟨_,List.getElem?_eq_getElem (List.length_pos_iff.2 (H0 h))⟩;rw[LL hU];exact AE (Ik g0 (List.mem_of_getElem? hU)).1 i j
  dsimp only
  split<;>omega
def DE(xs ys:List Int):ByteArray:=EG (BT xs ys)
theorem Za(v v2:Value)(xs ys:List Int)(w:World)(hv:Ab w v xs)(aW:Ab w v2 ys):Calls Tryz.prog 50 #[v,v2] w fun e w'=>e=.returned (.string (DE xs ys))∧Below w.heap.size w w':=by
 have Hv:=Z hv;have aj:=Z aW;obtain⟨a,cap,rfl,-⟩:=hv;obtain⟨a2,cap2,rfl,-⟩:=aW;go_enter Tryz.func50,Tryz.ntmps50;go_wp2_with (fail);refine(NO _ _ _ _ _ Hv.o aj.o).mono ?_;rintro e w1 ⟨v1,rfl,o1,b1⟩;have Hg:=Z o1.grid;obtain⟨p1,p2,p3,rfl⟩:=o1.shape;clear o1;go_wp2_with (fail);refine(A1f _ _ _ Hg.o (Jq xs ys)).mono ?_;rintro e w2 ⟨rfl,b2⟩;have hb:=b1.trans_pure b2 (Nat.le_refl _);have Hr:=Z (show DE xs ys=EG (BT xs ys) from rfl);rw[←Hr.o];go_wp2
 go_ret
 exact⟨rfl,hb⟩
theorem A6b:WC 0=⟨#[46]⟩:=rfl
theorem A64:WC 1=⟨#[35]⟩:=rfl
theorem A6p{x:Int}(h0:x≠0)(h1:x≠1):WC x=⟨#[63]⟩:=by unfold WC;rw[if_neg h0,if_neg h1]
theorem Xs(v v2:Value)(xs ys:List Int)(w:World)(hv:Ab w v xs)(aW:Ab w v2 ys):Calls Tryz.prog 131 #[v,v2] w fun e w'=>e=.returned (.string (DE xs ys))∧Below w.heap.size w w':=by
 have Hv:=Z hv;have aj:=Z aW;obtain⟨a,cap,rfl,-⟩:=hv;obtain⟨a2,cap2,rfl,-⟩:=aW;have er:=Z (Below.pureAlloc w (.cells #[] 9));have Ho0:=Z (Bq w 9 w.heap.size C1);have dB:(w.alloc (.cells #[] 9)).heap.size=w.heap.size+1:=by simp
 have lZ:=Z dB;have Hr:=Z (show DE xs ys=BK ⟨#[47]⟩ ((BT xs ys).map Bd) from rfl);have hm:=Jq xs ys;obtain⟨m,rV⟩:∃m,m=BT xs ys:=⟨_,rfl⟩;rw[←rV] at Hr hm;have Hmm:=Z rV;have wn:=hm.1;clear dB rV;go_enter Tryz.func131,Tryz.ntmps131;go_wp2_with (fail);refine(VV _ _ xs ys _ (Hv.o.keep er.o) (aj.o.keep er.o)).mono ?_;rintro e w1 ⟨v1,rfl,o1,b1⟩;rw[←Hmm.o] at o1;have cX:=b1.size;rw[lZ.o] at o1 cX;have HG:=Z (o1.sl (R':=Sl A7) (fun _ _ _ _ h=>h.sl (fun _ _ _ _ h=>h) A2) (BY A2));obtain⟨am,cm,rfl,-⟩:=id HG.o;have fe:=Z ((A3 C1).same (A5 b1 fun b hb=>hb.2) Ho0.o);have l9:=Z (er.o.trans_pure b1 (Nat.le_refl _));clear o1;go_wp2;go_loopw [5,7,8,10,16] (fun v _ _ _ i wr=>∃k:Nat,k≤m.length∧i=.int .i64 k∧∃S,Hid (A4 9 Gd S wr v ((m.take k).map Bd))∧Hid (∀b,S b→(b=w.heap.size∨w1.heap.size≤b)∧b<wr.heap.size)∧Hid (Ar (fun b=>b=w.heap.size) w1 wr)) (fun _ _ _ _ i _=>m.length-(intOf i).toNat)
 case atStart=>exact⟨0,Nat.zero_le _,rfl,Iv w.heap.size (w.alloc (.cells #[] 9)).heap.size,by rw[List.take_zero,List.map_nil];exact fe.o,fun b hb=>⟨.inl (by have h1:=hb.1;have h2:=hb.2;rw[lZ.o] at h2;omega),by have h2:=hb.2;rw[lZ.o] at h2;omega⟩,Ar.refl _ _⟩
 case round=>
  obtain⟨k,hk,rfl,S,aC,HS,Honly⟩:=hrel;obtain⟨wo,rfl⟩:∃wo:World,wo=wr:=⟨_,rfl⟩;have aV:=Honly.o.size;have HGo:=Z ((BY (BY A2)).same (fun b hb=>Honly.o.block b hb.2 (fun e=>by have:=hb.1;omega)) HG.o);by_cases aH:k<m.length
  ·obtain⟨row,aG⟩:∃row,m[k]? =some row:=⟨_,List.getElem?_eq_getElem aH⟩;obtain⟨b,off,cpr,he,hb,-⟩:=HGo.o.inv_ne (by omega);obtain⟨rfl,-⟩:am=some ⟨b,off,none⟩∧cm=cpr:=by simpa using he
   obtain⟨u,aQ,hu⟩:=Sl.at HGo.o aG;obtain⟨ar,cpr,rfl,-⟩:=id hu;obtain⟨aw,eG⟩:=hm.2 row (List.mem_of_getElem? aG);have aJ:=Z (JH aG);have Hu:=Z (show Ab wo (.slice ar row.length cpr) row from(BY A2).rd hu);have ah:((m.take k).map Bd).length<1099511627776:=by simp;omega
   have dW:decide ((k:Int)<(m.length:Int))=true:=by simp;omega
   obtain⟨p1,p2,p3,rfl⟩:=aC.o.shape;clear aG hu he;go_wp2;clear aQ
   go_loop [8,10,22] (fun s _ i=>∃j:Nat,j≤row.length∧i=.int .i64 j∧s=.string (Bd (row.take j))) (fun _ _ i=>row.length-(intOf i).toNat)
   case atStart=>exact⟨0,Nat.zero_le _,rfl,rfl⟩
   case round=>
    obtain⟨j,hj,rfl,rfl⟩:=hrel;obtain⟨t,ht⟩:∃t,t=Bd (row.take j):=⟨_,rfl⟩;rw[←ht];have xV:t.size≤5:=by rw[ht,EY,List.length_take];omega
    have Ht:=Z ht;clear ht;by_cases hltj:j<row.length
    ·obtain⟨x,hx⟩:∃x,row[j]? =some x:=⟨_,List.getElem?_eq_getElem hltj⟩;obtain⟨br,offr,cpr2,dh,dL,-⟩:=Hu.o.inv_ne (by omega);obtain⟨rfl,-⟩:ar=some ⟨br,offr,none⟩∧cpr=cpr2:=by simpa using dh
     have fW:=Ab.at Hu.o hx;have Hs:=Z (show Bd (row.take (j+1))=t++WC x from by rw[KA hx,←Ht.o]);clear hx dh;by_cases h0:x=0
     ·subst h0;have Hg:=Z A6b;go_wp2
      go_round
      case rel=>exact⟨j+1,by omega,by go_num,by rw[Hs.o,Hg.o]⟩
      case measure=>simp[intOf];omega
     by_cases h1:x=1
     ·subst h1;have Hg:=Z A64;go_wp2
      go_round
      case rel=>exact⟨j+1,by omega,by go_num,by rw[Hs.o,Hg.o]⟩
      case measure=>simp[intOf];omega
     ·have Hg:=Z (A6p h0 h1);have dY:(x==0)=false:=by simpa using h0
      have eA:(x==1)=false:=by simpa using h1
      clear h0 h1;go_wp2
      go_round
      case rel=>exact⟨j+1,by omega,by go_num,by rw[Hs.o,Hg.o]⟩
      case measure=>simp[intOf];omega
    ·have Hf:=Z (show t=Bd row from by rw[Ht.o,List.take_of_length_le (by omega)]);have hx:t.size≤9223372036854775807:=by omega
     have Hk:=Z (Aw.new wo #[.string t] 9);have f9:=Z (Below.pureAlloc wo (.cells #[.string t] 9));have HoX:=Z ((A3 C1).same (A5 f9.o fun b hb=>(HS.o b hb).2) aC.o);have hzx:(wo.alloc (.cells #[.string t] 9)).heap.size=wo.heap.size+1:=by simp
     have Hzx:=Z hzx;clear hzx;go_wp2_with (first|(at_builtin;(refine F4 (w:=wo.alloc (.cells #[.string t] 9)) (v:=.slice p1 p2 p3) (u:=.string t) (x:=t) (gb:=wo.heap.size) (c:=1) rfl _ _ 27 rfl C1 9 Tryz.underlying27 Fp rfl (by decide) S (fun _=>False) rfl rfl (by exact Hk.o.cell 0) (by exact HoX.o) (by exact⟨rfl,hx⟩) (fun _ _ h=>h) (fun b hb=>by have:=(HS.o b hb).2;have:=Hzx.o;omega) (fun _ h=>h.elim) ah ?_);intro v2 w2 hown2 honly2;obtain⟨t1,t2,t3,rfl⟩:=hown2.shape)|fail);have ae:=Z hown2;have HO:=Z ((Honly.o.trans' (Ar.of_pure f9.o _)).trans' (honly2.mono fun b hb _=>(HS.o b (aC.o.ownBlock' b hb)).1));clear hown2 honly2;go_wp2;go_roundw
     case rel=>exact⟨k+1,by omega,by go_num,fun b=>(S b∨False∨(wo.alloc (.cells #[.string t] 9)).heap.size≤b)∧b<w2.heap.size,by rw[aJ.o,←Hf.o];exact ae.o,fun b hb=>⟨hb.1.elim (fun h=>(HS.o b h).1) (fun h=>h.elim (fun h=>h.elim) (fun h=>.inr (by have:=Hzx.o;omega))),hb.2⟩,HO.o⟩
     case measure=>simp[intOf];omega
  ·have aF:=aC.o;rw[List.take_of_length_le (by omega)] at aF;have aJ:=Z (show AM wo _ (m.map Bd) from(BY C1).rd (aF.sl (fun _ _ _ _ h=>h) C1));have il:=Z hm.bulk;obtain⟨p1,p2,p3,rfl⟩:=aC.o.shape;have aA:Below w.heap.size w wo:=l9.o.trans (Honly.o.below (by omega) fun b hb=>by have hb:b=w.heap.size:=hb;omega);clear aF;go_wp2_with (fail);refine(Si _ _ _ _ aJ.o (by have:=il.o;omega)).mono ?_;rintro e w2 ⟨rfl,rfl⟩;go_wp2
   go_ret
   exact⟨Fl Hr.o.symm,aA⟩
def E4(l:List Int):Nat:=(l.filter fun x=>decide (x<0)).length
def Gk(F:List (List Int)):Nat:=(F.map E4).sum
theorem Qn{l:List Int}{k:Nat}{x:Int}(h:l[k]? =some x):E4 (l.take (k+1))=E4 (l.take k)+if x<0 then 1 else 0:=by
 unfold E4;rw[List.take_add_one,h,Option.toList_some,List.filter_append,List.length_append];by_cases hx:x<0<;>simp[hx]
theorem A2h(l:List Int):E4 l≤l.length:=List.length_filter_le _ _
theorem Pa{F:List (List Int)}{k:Nat}{l:List Int}(h:F[k]? =some l):Gk (F.take (k+1))=Gk (F.take k)+E4 l:=by
 unfold Gk;rw[List.take_add_one,h,Option.toList_some,List.map_append,List.sum_append];simp
theorem PO{l:List Int}:E4 l=0↔∀x∈l,0≤x:=by
 unfold E4;rw[List.length_eq_zero_iff,List.filter_eq_nil_iff];constructor
 ·intro h x hx;have:=h x hx;simp at this;exact this
 ·intro h x hx;have:=h x hx;simp;exact this
theorem A2q{F:List (List Int)}:Gk F=0↔∀l∈F,∀x∈l,0≤x:=by
 induction F with
 |nil=>simp[Gk]
 |cons l F ih=>
  have e:Gk (l::F)=E4 l+Gk F:=by simp[Gk]
  rw[e];constructor
  ·intro h k hk;rcases List.mem_cons.1 hk with rfl|hk
   ·exact PO.1 (by omega)
   ·exact ih.1 (by omega) k hk
  ·intro h;have h1:=PO.2 (h l (by simp));have h2:=ih.2 fun k hk=>h k (by simp[hk]);omega
structure A5e(r c:Nat)(m F:List (List Int)):Prop where
 len:F.length=r
 row:∀y,y<r→∃l,F[y]? =some l∧l.length=c∧∀x,x<c→∃f,l[x]? =some f∧(f=-1∨f=Al m y x)
 zero:Gk F=0↔AX r c m=[]
 text:0<(EG F).size
theorem A2r{F:List (List Int)}{c:Nat}(hF:F≠[])(hc:1≤c)(hl:∀l∈F,l.length=c):0<(EG F).size:=by
 obtain⟨G,x,rfl⟩:∃G x,F=G++[x]:=⟨F.dropLast,F.getLast hF,(List.dropLast_concat_getLast hF).symm⟩;have hx:=hl x (by simp);unfold EG;rw[List.map_append];by_cases hG:G.map Bd=[]
 ·rw[hG];simp only[List.map_cons,List.map_nil,List.nil_append];rw[In,EY];omega
 ·simp only[List.map_cons,List.map_nil];rw[II _ _ hG,ByteArray.size_append,EY];omega
theorem QU{r c:Nat}{m:List (List Int)}(hs:Ac r c m)(hr1:1≤r)(hr5:r≤5)(hc1:1≤c)(hc5:c≤5):A5e r c m (BT (A6 m) (A8 m)):=by
 have hS:=Dq hs hr1 hr5 hc1 hc5;have aw:=(Ch hs hr1 hr5 hc1 hc5).1;have az:=(Cl hs hr1 hr5 hc1 hc5).1;have aD:AF (A6 m) (A8 m)=true:=Ip (by omega) (by omega) (by omega) (by omega) (by rw[aw,az];exact hS);have bR:Bu (A6 m) (A8 m)=true:=(IZ aD).2 ⟨m,by rw[aw,az];exact hS⟩;have dG:∀g,g∈AZ (A6 m) (A8 m)↔CY (A6 m) (A8 m) r c g:=fun g=>by
  rw[Cu aD,Dp aD,aw,az]
 have hm:=(dG m).2 hS;obtain⟨L,hL⟩:∃L,L=AZ (A6 m) (A8 m):=⟨_,rfl⟩;rw[←hL] at hm dG;have hh:L.headD []∈L:=by
  cases L with
  |nil=>cases hm
  |cons a l=>simp
 have hF:BT (A6 m) (A8 m)=ED r c fun i j=>if ∀g∈L,Al g i j=Al m i j then Al m i j else-1:=by
  unfold BT;rw[if_pos bR,aw,az,←hL];unfold Rw;refine Eh fun i j _ _=>?_;by_cases h:∀g∈L,Al g i j=Al (L.headD []) i j
  ·rw[if_pos h,if_pos fun g hg=>(h g hg).trans (h m hm).symm,h m hm]
  ·rw[if_neg h,if_neg fun h'=>h fun g hg=>(h' g hg).trans (h' _ hh).symm]
 rw[hF];have aG:=fun y (hy:y<r)=>FI (c:=c) (fun i j=>if ∀g∈L,Al g i j=Al m i j then Al m i j else-1) hy;refine⟨Iw _ _ _,fun y hy=>⟨_,aG y hy,by simp,fun x hx=>⟨if ∀g∈L,Al g y x=Al m y x then Al m y x else-1,?_,?_⟩⟩,?_,?_⟩
 ·rw[List.getElem?_map,List.getElem?_range hx];rfl
 ·split
  ·exact .inr rfl
  ·exact .inl rfl
 ·rw[A2q];have hu:=A0S hS;constructor
  ·intro h;have aR:∀g,CY (A6 m) (A8 m) r c g→g=m:=fun g hg=>by
    refine hg.1.ext hs fun i j hi hj=>?_;have h1:=h _ (List.mem_of_getElem? (aG i hi)) _ (List.mem_map.2 ⟨j,List.mem_range.2 hj,rfl⟩)
    split at h1
    ·rename_i h2;exact h2 g ((dG g).2 hg)
    ·omega
   have:=hu.1 aR;rw[List.eq_nil_iff_forall_not_mem];exact fun s dj=>this s (CZ.1 dj)
  ·intro h l hl x hx;have aR:=hu.2 fun s dj=>by
    have:=CZ.2 dj;rw[h] at this;cases this
   unfold ED at hl;obtain⟨i,hi,rfl⟩:=List.mem_map.1 hl;obtain⟨j,hj,rfl⟩:=List.mem_map.1 hx;dsimp only;rw[if_pos fun g hg=>by rw[aR g ((dG g).1 hg)]];exact(AE hs i j).1
 ·refine A2r (c:=c) (fun e=>?_) hc1 fun l hl=>?_
  ·have:=Iw r c (fun i j=>if ∀g∈L,Al g i j=Al m i j then Al m i j else-1);rw[e] at this;simp at this;omega
  ·unfold ED at hl;obtain⟨i,hi,rfl⟩:=List.mem_map.1 hl;simp
theorem A0w(v:Value)(m:List (List Int))(r c:Nat)(w:World)(hv:Ak w v m)(hs:Ac r c m)(hr1:1≤r)(hr5:r≤5)(hc1:1≤c)(hc5:c≤5):Calls Tryz.prog 103 #[v] w fun e w'=>e=.returned (.bool (decide (AX r c m=[])))∧Below w.heap.size w w':=by
 have Hv:=Z hv;have aS:=Z (hs.ok hr1 hr5 hc1 hc5);obtain⟨a,cap,rfl,-⟩:=hv;go_enter Tryz.func103,Tryz.ntmps103;go_wp2_with (fail);refine(AP _ _ _ Hv.o).mono ?_;rintro e w' ⟨rfl,rfl⟩;rw[aS.o];go_wp2_with (fail);refine(KN _ m r c _ Hv.o hs hr1 hr5 hc1 hc5).mono ?_;rintro e w1 ⟨v1,rfl,o1,b1⟩;obtain⟨a1,c1,rfl⟩:=o1.shape;obtain⟨l,hl⟩:∃l,l=AX r c m:=⟨_,rfl⟩;rw[←hl];clear o1;cases l with
 |nil=>
  have He:=Z (show true=decide (AX r c m=[]) from by rw[←hl];rfl);clear hl;go_wp2
  go_ret
  exact⟨AI He.o,b1⟩
 |cons s l=>
  have hd:(((s::l).length:Int)==0)=false:=by rw[beq_eq_false_iff_ne,List.length_cons];omega
  obtain⟨n,hn⟩:∃n,n=(s::l).length:=⟨_,rfl⟩;rw[←hn] at hd⊢;have He:=Z (show false=decide (AX r c m=[]) from by rw[←hl];simp);clear hn hl;go_wp2
  go_ret
  exact⟨AI He.o,b1⟩
theorem Ze(v:Value)(m:List (List Int))(r c:Nat)(w:World)(hv:Ak w v m)(hs:Ac r c m)(hr1:1≤r)(hr5:r≤5)(hc1:1≤c)(hc5:c≤5):Calls Tryz.prog 104 #[v] w fun e w'=>e=.returned (.int .i64 (Gk (BT (A6 m) (A8 m))))∧Below w.heap.size w w':=by
 have Hv:=Z hv;have aS:=Z (hs.ok hr1 hr5 hc1 hc5);have r9:=QU hs hr1 hr5 hc1 hc5;obtain⟨F,hF⟩:∃F,F=BT (A6 m) (A8 m):=⟨_,rfl⟩;rw[←hF] at r9⊢;have HF:=Z hF;clear hF;have pC:=Z r9;clear r9;obtain⟨a,cap,rfl,-⟩:=hv;go_enter Tryz.func104,Tryz.ntmps104;go_wp2_with (fail);refine(AP _ _ _ Hv.o).mono ?_;rintro e w' ⟨rfl,rfl⟩;rw[aS.o];go_wp2_with (fail);refine(E7 _ _ _ Hv.o).mono ?_;rintro e w1 ⟨v1,rfl,o1,b1⟩;have fe:=Z o1.ints;clear o1;go_wp2_with (fail);refine(EA _ _ _ (Hv.o.keep b1)).mono ?_;rintro e w2 ⟨v2,rfl,o2,b2⟩;go_wp2_with (fail);refine(NO _ _ _ _ _ (fe.o.keep b2) o2.ints).mono ?_;rintro e w3 ⟨v3,rfl,o3,b3⟩;rw[←HF.o] at o3;have bb:Below w.heap.size w w3:=b1.trans_pure (b2.trans_pure b3 (Nat.le_refl _)) (Nat.le_refl _);obtain⟨g,gc,rfl,-,-,ai,-⟩:=o3.inv_ne (by rw[pC.o.len];omega);have Hg:=Z o3.grid;have p9:=pC.o.len;rw[p9] at Hg⊢;clear o2 o3 p9;go_wp2;go_loopw [3,5,7,17] (fun n _ _ i wr=>∃k:Nat,k≤r∧i=.int .i64 k∧n=.int .i64 (Gk (F.take k))∧Gk (F.take k)≤5*k∧w3=wr) (fun _ _ _ i _=>r-(intOf i).toNat)
 case atStart=>exact⟨0,Nat.zero_le _,rfl,by simp[Gk],by simp[Gk],rfl⟩
 case round=>
  obtain⟨k,hk,rfl,rfl,hn,rfl⟩:=hrel;by_cases aH:k<r
  ·obtain⟨l,hl,dX,hlc⟩:=pC.o.row k aH;obtain⟨u,aQ,hu⟩:=Sl.at Hg.o hl;have hu:Ab w3 u l:=hu;obtain⟨br,offr,cpr,rfl,dL,-⟩:=hu.inv_ne (by omega);rw[Nat.zero_add] at aQ;have Hu:=Z hu;have Hl:=Z hl;have eo:=Z dX;rw[dX] at aQ;clear hu hl hlc;obtain⟨N,hN⟩:∃N,N=Gk (F.take k):=⟨_,rfl⟩;rw[←hN] at hn⊢;go_wp2;go_loopw [3,7,23] (fun n _ i wr=>∃x:Nat,x≤c∧i=.int .i64 x∧n=.int .i64 ((N+E4 (l.take x):Nat):Int)∧E4 (l.take x)≤x∧w3=wr) (fun _ _ i _=>c-(intOf i).toNat)
   case atStart=>exact⟨0,Nat.zero_le _,rfl,by simp[E4],by simp[E4],rfl⟩
   case round=>
    obtain⟨x,hx,rfl,rfl,hnx,rfl⟩:=hrel;by_cases bt:x<c
    ·obtain⟨z,hz⟩:∃z,l[x]? =some z:=⟨_,List.getElem?_eq_getElem (by have:=eo.o;omega)⟩;have mD:=Ab.at Hu.o hz;have Hn:=Z (Qn hz);clear hz;obtain⟨N2,hN2⟩:∃N2,N2=E4 (l.take x):=⟨_,rfl⟩;rw[←hN2] at hnx⊢Hn;clear hN2;by_cases dB:z<0
     ·have tS:decide (z<0)=true:=by simpa using dB
      go_wp2;go_roundw
      case rel=>exact⟨x+1,by omega,by go_num,by rw[Hn.o,if_pos dB];go_num,by rw[Hn.o,if_pos dB];omega,trivial⟩
      case measure=>simp[intOf];omega
     ·have tS:decide (z<0)=false:=by simpa using dB
      go_wp2;go_roundw
      case rel=>exact⟨x+1,by omega,by go_num,by rw[Hn.o,if_neg dB,Nat.add_zero],by rw[Hn.o,if_neg dB];omega,trivial⟩
      case measure=>simp[intOf];omega
    ·obtain rfl:x=c:=by omega
     have fN:l.take x=l:=List.take_of_length_le (Nat.le_of_eq eo.o);rw[fN] at hnx⊢;have Hs:=Z (Pa Hl.o);go_wp2;go_roundw
     case rel=>exact⟨k+1,by omega,by go_num,by rw[Hs.o,←hN],by rw[Hs.o,←hN];omega,trivial⟩
     case measure=>simp[intOf];omega
  ·obtain rfl:k=r:=by omega
   rw[List.take_of_length_le (Nat.le_of_eq pC.o.len)] at hn⊢;go_wp2
   go_ret
   exact⟨rfl,bb⟩
