/- Base. -/
import Derived.Test.YthmocomfjgmjoaaGreatDoorQ12
set_option maxHeartbeats 4000000
set_option maxRecDepth 100000
namespace Go.Proofs.YthmocomfjgmjoaaGreatDoor
def Gz(R m:List (List Int))(k:Nat):List (List Int):=FW R m k++m.drop k
theorem Yc(R m:List (List Int)):Gz R m 0=m:=by simp[Gz,FW]
theorem P4{R m:List (List Int)}{k:Nat}(h:k<m.length):(Gz R m k)[k]? =some (m.getD k []):=by
 unfold Gz;rw[List.getElem?_append_right (by rw[Gn];exact Nat.le_refl _),Gn,Nat.sub_self,List.getElem?_drop,Nat.add_zero];exact BE [] h
theorem A0E{R m:List (List Int)}{k:Nat}(h:k<m.length):(Gz R m k).set k ((sl R m k).getD [])=Gz R m (k+1):=by
 unfold Gz;rw[List.set_append_right _ _ (by rw[Gn];exact Nat.le_refl _),Gn,Nat.sub_self,List.drop_eq_getElem_cons h,List.set_cons_zero,Qm];simp
theorem A0G{R m:List (List Int)}{k:Nat}(h:k=m.length):Gz R m k=EF R m:=by
 subst h;unfold Gz EF;simp
def YU(C A:List (List Int))(j i:Nat):Int:=((sl C (tr A) j).getD []).getD i 0
def I4(C A:List (List Int))(r c x k:Nat)(g:List (List Int)):Prop:=CC r c g∧∀i j,i<r→j<c→Al g i j=if j<x∨(j=x∧i<k) then YU C A j i else Al A i j
theorem X7{C A:List (List Int)}{r c:Nat}(h:CC r c A):I4 C A r c 0 0 A:=⟨h,fun i j _ _=>by rw[if_neg (by omega)]⟩
theorem I4.step{C A g:List (List Int)}{r c x k:Nat}(h:I4 C A r c x k g)(hk:k<r)(hx:x<c){v:Int}(hv:v=YU C A x k)(h0:-1≤v)(h1:v≤1):I4 C A r c x (k+1) (g.set k ((g.getD k []).set x v)):=by
 refine⟨h.1.setC hk h0 h1,fun i j hi hj=>?_⟩;have:=YE h.1 hk hx v i j;unfold setC at this;rw[this,h.2 i j hi hj];by_cases he:i=k∧j=x
 ·rw[if_pos he,if_pos (by omega),hv,he.1,he.2]
 ·rw[if_neg he];by_cases h1:j<x∨(j=x∧i<k)
  ·rw[if_pos h1,if_pos (by omega)]
  ·rw[if_neg h1,if_neg (by omega)]
theorem I4.next{C A g:List (List Int)}{r c x:Nat}(h:I4 C A r c x r g):I4 C A r c (x+1) 0 g:=by
 refine⟨h.1,fun i j hi hj=>?_⟩;rw[h.2 i j hi hj];by_cases h1:j<x∨(j=x∧i<r)
 ·rw[if_pos h1,if_pos (by omega)]
 ·rw[if_neg h1,if_neg (by omega)]
theorem I4.done{C A g:List (List Int)}{r c:Nat}(h1:1≤r)(h2:1≤c)(hA:CC r c A)(h:I4 C A r c c 0 g)(aD:CU C (tr A)=true):g=tr (EF C (tr A)):=by
 have hT:=hA.tr h1;have hB:=(JJ hT aD).1;refine h.1.ext (hB.tr h2) fun i j hi hj=>?_;rw[h.2 i j hi hj,if_pos (.inl hj),VZ hB h2 hj hi];unfold Al YU EF;rw[AL (U6 (by rw[hT.1];exact hj))]
theorem A5E{A:List (List Int)}{r c x i:Nat}(h:CC r c A)(h1:1≤r)(hx:x<c)(hi:i<r):((tr A).getD x [])[i]? =some (Al A i x):=by
 obtain⟨-,hl,-⟩:=(h.tr h1).row hx;rw[←VZ h h1 hi hx];unfold Al;exact BE 0 (by omega)
theorem A4E{C A:List (List Int)}{x:Nat}{o:List Int}(h:sl C (tr A) x=some o)(k:Nat):-1≤YU C A x k∧YU C A x k≤1:=by
 unfold YU;rw[h,Option.getD_some];by_cases hk:k<o.length
 ·exact(Pq h).2.1 _ (List.mem_of_getElem? (BE 0 hk))
 ·rw[FX (by omega)];decide
def Gap(lo p q hi:Nat):Bk:=fun b=>(lo≤b∧b<hi)∧¬(p≤b∧b<q)
theorem WP{lo p q hi hi':Nat}(h:hi≤hi'):∀b,Gap lo p q hi b→Gap lo p q hi' b:=fun _ hb=>⟨⟨hb.1.1,Nat.lt_of_lt_of_le hb.1.2 h⟩,hb.2⟩
theorem V2{R m:List (List Int)}{k:Nat}(hk:k<m.length)(h:(sl R m k).isSome=false):CU R m=false:=by
 rw[←Bool.not_eq_true];intro hp;unfold CU at hp;have:=List.all_eq_true.1 hp k (List.mem_range.2 hk);rw[h] at this;cases this
theorem Rj{R m:List (List Int)}(h:∀y,y<m.length→(sl R m y).isSome=true):CU R m=true:=by
 unfold CU;rw[List.all_eq_true];exact fun y hy=>h y (List.mem_range.1 hy)
end Go.Proofs.YthmocomfjgmjoaaGreatDoor
namespace Go.Proofs.YthmocomfjgmjoaaGreatDoor
open Go.RowKit
theorem A3p{α:Type}{D:Option α}(h:D=none):D.isSome=false:=by rw[h];rfl
theorem A4b(a b:Value)(R C:List (List Int))(w:World)(h1:Ak w a R)(h2:Ak w b C)(fJ:∀r∈R,r.length≤1048576)(i7:∀r∈C,r.length≤1048576):
  Calls Tryz.prog 180 #[.agg #[a,b]] w fun e w'=>∃v',e=.returned (.tuple #[v',.bool (G9 R C).isSome])∧A4 32 (A4 3 A7) (Iv w.heap.size w'.heap.size) w' v' ((G9 R C).getD [])∧Below w.heap.size w w':=by
 obtain⟨aa,ca,rfl,-⟩:=id h1;obtain⟨ab,cb,rfl,-⟩:=id h2;obtain⟨D,hD⟩:∃D,D=G9 R C:=⟨_,rfl⟩;have ej:=Z fJ;have mF:=Z i7;clear fJ i7;rw[←hD];obtain⟨W1,hW1⟩:∃W1,W1=w.alloc (.cells #[.slice aa R.length ca,.slice ab C.length cb] 85):=⟨_,rfl⟩;have dg:Below w.heap.size w W1:=by rw[hW1];exact Below.pureAlloc _ _
 have jM:W1.heap.size=w.heap.size+1:=by rw[hW1];simp
 have kB:Aw W1 w.heap.size #[.slice aa R.length ca,.slice ab C.length cb] 85:=by rw[hW1];exact Aw.new _ _ _
 have G1:=Z (h1.keep dg);have G2:=Z (h2.keep dg);have cj:=Z dg;have iZ:=Z kB;have ey:=Z jM;clear h1 h2 dg jM kB;cases aD:Ba R C
 ·have Hn:=Z (A3p (hD.trans (JT aD)));have mb:=Z (show D.getD []=[] from by rw[hD,JT aD];rfl);have aS:=Z aD;clear aD hD;go_enter Tryz.func180,Tryz.ntmps180;subst hW1;go_wp2_with (fail);refine(KQ _ _ _ _ _ G1.o G2.o ej.o mF.o).mono ?_;rintro e w2 ⟨rfl,dc⟩;have b2:=cj.o.trans_pure (show Below _ _ w2 from by rw[dc];exact Below.pureAlloc _ _) (Nat.le_refl _);rw[aS.o];clear dc;go_wp2;rw[Hn.o,mb.o]
  go_ret2
  exact⟨_,rfl,A4.nil _ _ _ _,b2⟩
 have HD:=Z (hD.trans (N8 aD));obtain⟨hr1,hr5,hc1,hc5⟩:=FO aD;have aS:=Z aD;clear aD hD;go_enter Tryz.func180,Tryz.ntmps180;subst hW1;go_wp2_with (fail);refine(KQ _ _ _ _ _ G1.o G2.o ej.o mF.o).mono ?_;rintro e w2 ⟨rfl,dc⟩;have b2:Below (w.alloc (.cells #[.slice aa R.length ca,.slice ab C.length cb] 85)).heap.size (w.alloc (.cells #[.slice aa R.length ca,.slice ab C.length cb] 85)) w2:=by rw[dc];exact Below.pureAlloc _ _
 rw[aS.o];clear dc;have fH:=Z (cj.o.trans_pure b2 (Nat.le_refl _));have fj:=Z (iZ.o.keep b2);have x6:=Z (G1.o.keep b2);have ng:=Z (G2.o.keep b2);have mL:w.heap.size<w2.heap.size:=by have:=b2.size;rw[ey.o] at this;omega
 clear G1 G2 cj iZ ey b2;have k0:w2.cell? ⟨w.heap.size,0,none⟩=some (.slice aa R.length ca):=fj.o.cell 0;have k1:w2.cell? ⟨w.heap.size,1,none⟩=some (.slice ab C.length cb):=fj.o.cell 1;go_wp2_with (fail);refine(K9 R.length C.length _ (by omega) (by omega)).mono ?_;rintro e w3 ⟨v3,rfl,o3,b3⟩;obtain⟨G,cap,rfl,hG,hcapG,hGs,-⟩:=o3.inv_ne (by simp[Bv];omega);have gM:(Bv R.length C.length).length=R.length:=by simp[Bv]
 rw[gM] at o3 hcapG⊢;have cn:=Z o3;have bM:=Z b3;have s3:w2.heap.size≤w3.heap.size:=b3.size;clear o3 b3 gM k0 k1;go_wp2;go_loopw [32] (fun i wr=>∃(k:Nat)(g:List (List Int)),k≤R.length∧i=.int .i64 k∧Hid (Fx R.length C.length k 0 g)∧A4 32 (A4 3 A7) (Iv w2.heap.size w3.heap.size) wr (.slice (some ⟨G,0,none⟩) R.length cap) g∧Below w2.heap.size w2 wr∧w3.heap.size≤wr.heap.size) (fun i _=>R.length-(intOf i).toNat)
 case atStart=>exact⟨0,_,Nat.zero_le _,rfl,OY _ _,cn.o,bM.o,Nat.le_refl _⟩
 case round=>
  clear cn bM;obtain⟨k,g,hk,rfl,Hg,aB,aA,aI⟩:=hrel;obtain⟨wo,rfl⟩:∃wo:World,wo=wr:=⟨_,rfl⟩;by_cases aH:k<R.length
  ·obtain⟨aG,aw,-⟩:=Hg.o.1.row aH;obtain⟨q,cq,aM,-,hSq,hqG,di,hx,-,ap⟩:=AC aB aG (by omega);rw[aw] at aM;have aC:=Z aB;have dW:decide ((k:Int)<(R.length:Int))=true:=by simp;omega
   have bI:=Z aA;have eF:=Z aM;clear aB aG hx ap aA;go_wp2;clear aM;go_loopw [38] (fun i wr=>∃(j:Nat)(g:List (List Int)),j≤C.length∧i=.int .i64 j∧Hid (Fx R.length C.length k j g)∧A4 32 (A4 3 A7) (Iv w2.heap.size w3.heap.size) wr (.slice (some ⟨G,0,none⟩) R.length cap) g∧Below w2.heap.size w2 wr∧w3.heap.size≤wr.heap.size∧wr.cell? ⟨G,k,none⟩=some (.slice (some ⟨q,0,none⟩) C.length cq)) (fun i _=>C.length-(intOf i).toNat)
   case atStart=>exact⟨0,g,Nat.zero_le _,rfl,Hg,aC.o,bI.o,aI,eF.o⟩
   case round=>
    clear aC bI aI aw Hg;obtain⟨j,g',hj,rfl,Hg,aB,aA,aI,hcq0⟩:=hrel;obtain⟨wi,rfl⟩:∃wi:World,wi=wr:=⟨_,rfl⟩;by_cases hltj:j<C.length
    ·obtain⟨aG,aw,-⟩:=Hg.o.1.row aH;obtain⟨q',cq',aM,-,hSq,hqG,di,hx,-,ap⟩:=AC aB aG (by omega);obtain rfl:q'=q:=by rw[aw,hcq0] at aM;injection aM with e1;injection e1 with e2;injection e2 with e3;injection e3 with e4;exact e4.symm
     obtain⟨⟨o,ke⟩,gN⟩:=hx j (by omega);have cJ:=Z (ap wi (fun _ _=>rfl) j (-1) (by omega) (BV.small (by decide) (by decide)));have gG:=Z (Hg.o.step aH hltj);have bj:=Z (aA.setCell (p:=⟨q',j,none⟩) hSq.1 (.int .i64 (-1)));have wM:(wi.setCell ⟨q',j,none⟩ (.int .i64 (-1))).cell? ⟨G,k,none⟩=some (.slice (some ⟨q',0,none⟩) C.length cq):=by
      rw[World.cell?_of_block (w:=wi) (a:=⟨G,k,none⟩) (Below.heap_setCell wi ⟨q',j,none⟩ (.int .i64 (-1)) G (by simpa using fun e=>hqG e.symm))];exact hcq0
     have Hcq1:=Z wM;have zv:decide ((j:Int)<(C.length:Int))=true:=by simp;omega
     clear aB aG aw hx ap aA di aM hcq0 wM;go_wp2;go_roundw
     case rel=>exact⟨j+1,_,by omega,by go_num,gG,cJ.o,bj.o,by rw[A9];exact aI,Hcq1.o⟩
     case measure=>simp[intOf];omega
    ·have zv:decide ((j:Int)<(C.length:Int))=false:=by simp;omega
     have rP:j=C.length:=by omega
     have gG:=Z (show Fx R.length C.length (k+1) 0 g' from by have:=Hg.o;rw[rP] at this;exact this.next);have aC:=Z aB;clear aB rP;go_wp2;go_roundw
     case rel=>exact⟨k+1,g',by omega,by go_num,gG,aC.o,aA,aI⟩
     case measure=>simp[intOf];omega
  ·have lh:k=R.length:=by omega
   have hg:g=Eu R.length C.length:=by have:=Hg.o;rw[lh] at this;exact this.done
   have aC:=Z (show A4 32 (A4 3 A7) (Iv w2.heap.size wo.heap.size) wo (.slice (some ⟨G,0,none⟩) R.length cap) (Eu R.length C.length) from by
    rw[←hg];exact(A3 (A3 A2)).mono (fun b hb=>⟨hb.1,Nat.lt_of_lt_of_le hb.2 aI⟩) aB)
   have bI:=Z aA;have dW:decide ((k:Int)<(R.length:Int))=false:=by simp;omega
   clear aB aA hg Hg lh;go_wp2
   go_loopg [8] (R.length*C.length) (fun gk _ wr=>∃m:List (List Int),Hid (CC R.length C.length m)∧Hid (V6 m≤gk)∧Hid (D=ID R C gk m)∧A4 32 (A4 3 A7) (Iv w2.heap.size wr.heap.size) wr (.slice (some ⟨G,0,none⟩) R.length cap) m∧Below w2.heap.size w2 wr)
   case atStart=>exact⟨_,GK _ _,Nat.le_of_eq (Xi _ _),HD.o,aC.o,bI.o⟩
   case round=>
    clear aC bI HD;obtain⟨m,Hm,Hu,HD,aB,aA⟩:=hrel;obtain⟨wi,rfl⟩:∃wi:World,wi=wr:=⟨_,rfl⟩;have bJ:m.length≤R.length:=Nat.le_of_eq Hm.o.1;have zw:R.length≤m.length:=Nat.le_of_eq Hm.o.1.symm;have rQ:m.length≤1048576:=by omega
    have oZ:=Z (show ∀x∈m,x.length≤1048576 from fun x hx=>by have:=(Hm.o.2 x hx).1;omega);have aC:=Z aB;have bI:=Z aA;have hsi:w2.heap.size≤wi.heap.size:=aA.size;clear aB aA;go_wp2_with (fail);refine(EO _ m _ aC.o.grid rQ oZ.o).mono ?_;rintro e wb ⟨v8,rfl,o8,b8⟩;obtain⟨p1,p2,p3,rfl⟩:=o8.shape;have hs8:wi.heap.size≤wb.heap.size:=b8.size;have iZ:=Z ((fj.o.keep bI.o).keep b8);have qD:=Z (bI.o.trans_pure b8 (Nat.le_refl _));have lw:=Z o8;have qE:=Z (show A4 32 (A4 3 A7) (Gap w2.heap.size wi.heap.size wb.heap.size wb.heap.size) wb (.slice (some ⟨G,0,none⟩) R.length cap) (Gz R m 0) from by
     rw[Yc];exact(A3 (A3 A2)).mono (fun b hb=>⟨⟨hb.1,Nat.lt_of_lt_of_le hb.2 hs8⟩,fun h=>by have:=hb.2;omega⟩) (A4.keep (A3 A2) aC.o b8 (Nat.le_refl _)))
    have k0:wb.cell? ⟨w.heap.size,0,none⟩=some (.slice aa R.length ca):=iZ.o.cell 0;clear o8 b8;go_wp2;clear k0;go_loopw [51] (fun i wr=>∃k:Nat,k≤R.length∧i=.int .i64 k∧Hid (∀y,y<k→(sl R m y).isSome=true)∧A4 32 (A4 3 A7) (Gap w2.heap.size wi.heap.size wb.heap.size wr.heap.size) wr (.slice (some ⟨G,0,none⟩) R.length cap) (Gz R m k)∧A4 32 (A4 3 A7) (Iv wi.heap.size wb.heap.size) wr (.slice p1 p2 p3) m∧Below w2.heap.size w2 wr∧wb.heap.size≤wr.heap.size) (fun i _=>R.length-(intOf i).toNat)
    case atStart=>exact⟨0,Nat.zero_le _,rfl,fun y hy=>by omega,qE.o,lw.o,qD.o,Nat.le_refl _⟩
    case round=>
     clear qE lw qD;obtain⟨k,hk,rfl,aY,aB,hcop,aA,aI⟩:=hrel;obtain⟨wo,rfl⟩:∃wo:World,wo=wr:=⟨_,rfl⟩;by_cases aH:k<R.length
     ·obtain⟨b,off,cpr,he,hb,-⟩:=x6.o.inv_ne (by omega);obtain⟨rfl,-⟩:aa=some ⟨b,off,none⟩∧ca=cpr:=by simpa using he
      obtain⟨u,aQ,hu⟩:=Sl.at x6.o (BE [] aH);have hu:Ab w2 u (R.getD k []):=hu;have Hu1:=Z (hu.keep aA);rw[←aA.cell (p:=⟨b,off+k,none⟩) hb] at aQ;obtain⟨q1,q2,rfl,-⟩:=hu;have bB:(Gz R m k)[k]? =some (m.getD k []):=P4 (by omega);obtain⟨hGg,-,-,-,T,u2,eP,fD,-⟩:=aB.focus (A3 A2) bB;have jv:=Z fD.ints;obtain⟨r1,r2,r3,rfl⟩:=fD.shape;obtain⟨x1,cM⟩:∃x,x=R.getD k []:=⟨_,rfl⟩;obtain⟨x2,hx2⟩:∃x,x=m.getD k []:=⟨_,rfl⟩;have ni:=Z (show sl R m k=Bh x1 x2 from by rw[cM,hx2];rfl);rw[←cM] at aQ Hu1;rw[←hx2] at jv;have aC:=Z aB;have ka:=Z hcop;have bI:=Z aA;have dW:decide ((k:Int)<(R.length:Int))=true:=by simp;omega
      have HGg:=Z hGg;clear aB hcop aA he bB fD cM hx2 hGg;go_wp2_with (fail);refine(On _ _ _ _ _ Hu1.o jv.o).mono ?_;rintro e w1 ⟨v1,rfl,o1,b1⟩;obtain⟨s1,s2,s3,rfl⟩:=o1.shape;have cX:wo.heap.size≤w1.heap.size:=b1.size;have fe:=Z o1;have fu:=Z (bI.o.trans_pure b1 (Nat.le_refl _));have dp:=Z b1;clear o1 b1 aQ eP;cases hsol:(Bh x1 x2).isSome
      ·have Hn:=Z (show D=none from by rw[HD.o];exact KF (Um (V2 (k:=k) (by omega) (by rw[ni.o];exact hsol))));have bf:=fH.o.trans_pure fu.o (Nat.le_refl _);clear hsol;go_wp2;rw[Hn.o]
       go_ret2
       exact⟨_,rfl,A4.nil _ _ _ _,bf⟩
      ·have bH:A4 32 (A4 3 A7) (Gap w2.heap.size wi.heap.size wb.heap.size wo.heap.size) w1 (.slice (some ⟨G,0,none⟩) R.length cap) (Gz R m k):=(A3 (A3 A2)).same (A5 dp.o fun b hb=>hb.1.2) aC.o;obtain⟨-,-,-,hf,T1,u3,aM,-,-,hupd,-⟩:=bH.focus (A3 A2) (P4 (by omega));have bN:=hupd (.slice s1 s2 s3) ((Bh x1 x2).getD []) (Iv wo.heap.size w1.heap.size) (Gap w2.heap.size wi.heap.size wb.heap.size w1.heap.size) fe.o (fun b hb=>⟨⟨⟨by have h1:=bI.o.size;have:=hb.1;omega,hb.2⟩,fun h=>by have:=hb.1;omega⟩,fun h=>by have h1:=HGg.o.1.2;have:=hb.1;omega⟩)
        (fun b h1 h2=>by have:=h1.1;have:=h2.1.2;omega) (WP cX)
       rw[←ni.o,A0E (by omega)] at bN;have cJ:=Z bN;have qF:A4 32 (A4 3 A7) (Iv wi.heap.size wb.heap.size) w1 (.slice p1 p2 p3) m:=A4.keep (A3 A2) ka.o dp.o aI;have wN:=Z (show A4 32 (A4 3 A7) (Iv wi.heap.size wb.heap.size) (w1.setCell ⟨G,k,none⟩ (.slice s1 s2 s3)) (.slice p1 p2 p3) m from(A3 (A3 A2)).same (fun b hb=>Below.heap_setCell w1 _ _ b (by show b≠G;exact fun h=>HGg.o.2 (h▸hb))) qF);have wO:=Z (fu.o.setCell (p:=⟨G,k,none⟩) HGg.o.1.1 (.slice s1 s2 s3));have eR:=Z hsol;obtain⟨y1,y2,y3,rfl⟩:∃a b c,u3=.slice a b c:=by
        have h1:=bH.focus (A3 A2) (P4 (R:=R) (m:=m) (k:=k) (by omega));obtain⟨-,-,-,-,T2,u4,hc4,hr4,-⟩:=h1;rw[aM] at hc4;obtain rfl:=Option.some.inj hc4;exact hr4.shape
       clear bH hupd bN qF hsol;go_wp2;go_roundw
       case rel=>
        refine⟨k+1,by omega,by go_num,fun y hy=>?_,by rw[A9];exact cJ.o,wN.o,wO.o,by rw[A9];omega⟩;by_cases iQ:y<k
        ·exact aY.o y iQ
        ·obtain rfl:y=k:=by omega
         rw[ni.o];exact eR.o
       case measure=>simp[intOf];omega
     ·have lh:k=m.length:=by omega
      obtain⟨A,hA⟩:∃A,A=EF R m:=⟨_,rfl⟩;have hp:CU R m=true:=Rj fun y hy=>aY.o y (by omega);have ou:=(JJ Hm.o hp).1;rw[A0G lh,←hA] at aB;rw[←hA] at ou;have rR:=Z ou;have HA:=Z hA;have Hp:=Z hp;have aC:=Z aB;have ka:=Z hcop;have bI:=Z aA;have dW:decide ((k:Int)<(R.length:Int))=false:=by simp;omega
      have k1:wo.cell? ⟨w.heap.size,1,none⟩=some (.slice ab C.length cb):=(fj.o.keep aA).cell 1;clear aB hcop aA hA hp ou lh aY iZ;go_wp2;clear k1;go_loopw [75] (fun i wr=>∃(x:Nat)(g:List (List Int)),x≤C.length∧i=.int .i64 x∧Hid (I4 C A R.length C.length x 0 g)∧Hid (∀j,j<x→(sl C (tr A) j).isSome=true)∧A4 32 (A4 3 A7) (Gap w2.heap.size wi.heap.size wb.heap.size wr.heap.size) wr (.slice (some ⟨G,0,none⟩) R.length cap) g∧A4 32 (A4 3 A7) (Iv wi.heap.size wb.heap.size) wr (.slice p1 p2 p3) m∧Below w2.heap.size w2 wr∧wb.heap.size≤wr.heap.size) (fun i _=>C.length-(intOf i).toNat)
      case atStart=>exact⟨0,A,Nat.zero_le _,rfl,X7 rR.o,fun j hj=>by omega,aC.o,ka.o,bI.o,aI⟩
      case round=>
       clear aC ka bI aI;obtain⟨x,g,hx,rfl,Hg,aY,aB,hcop,aA,aI⟩:=hrel;obtain⟨wx,rfl⟩:∃wx:World,wx=wr:=⟨_,rfl⟩;have aC:=Z aB;have ka:=Z hcop;have bI:=Z aA;have hHT:=Z (rR.o.tr (by omega));by_cases hltx:x<C.length
       ·obtain⟨bc,offc,cpr,he,hbc,-⟩:=ng.o.inv_ne (by omega);obtain⟨rfl,-⟩:ab=some ⟨bc,offc,none⟩∧cb=cpr:=by simpa using he
        obtain⟨uc,ct,xg⟩:=Sl.at ng.o (BE [] hltx);have xg:Ab w2 uc (C.getD x []):=xg;have Huc:=Z (xg.keep aA);rw[←aA.cell (p:=⟨bc,offc+x,none⟩) hbc] at ct;obtain⟨q1,q2,rfl,-⟩:=xg;obtain⟨x1,cM⟩:∃z,z=C.getD x []:=⟨_,rfl⟩;rw[←cM] at ct Huc;obtain⟨x2,hx2⟩:∃z,z=(tr A).getD x []:=⟨_,rfl⟩;have ni:=Z (show sl C (tr A) x=Bh x1 x2 from by rw[cM,hx2];rfl);have wP:x2.length=R.length:=by rw[hx2];exact(hHT.o.row hltx).2.1
        have wQ:=Z wP;have oU:=Z hx2;have hdx:decide ((x:Int)<(C.length:Int))=true:=by simp;omega
        clear aB hcop aA he cM hx2 wP;go_wp2;clear ct;go_loopw [15,82] (fun v i wr=>∃k:Nat,k≤R.length∧i=.int .i64 k∧A4 3 A7 (Iv wx.heap.size wr.heap.size) wr v (x2.take k)∧Below wx.heap.size wx wr) (fun _ i _=>R.length-(intOf i).toNat)
        case atStart=>exact⟨0,Nat.zero_le _,rfl,by simpa using A4.nil _ _ _ _,Below.refl _ _⟩
        case round=>
         obtain⟨k,hk,rfl,j6,hbx⟩:=hrel;obtain⟨wk,rfl⟩:∃wk:World,wk=wr:=⟨_,rfl⟩;have aV:=hbx.size;have lE:A4 32 (A4 3 A7) (Gap w2.heap.size wi.heap.size wb.heap.size wx.heap.size) wk (.slice (some ⟨G,0,none⟩) R.length cap) g:=(A3 (A3 A2)).same (A5 hbx fun b hb=>hb.1.2) aC.o;have wR:=Z lE;have Hcol:=Z j6;have f9:=Z hbx;obtain⟨c1,c2,c3,rfl⟩:=j6.shape;by_cases hltk:k<R.length
         ·obtain⟨aG,aw,-⟩:=Hg.o.1.row hltk;obtain⟨q,cq,aM,-,hSq,hqG,di,dz,lp,-⟩:=AC lE aG (by omega);rw[aw] at aM;obtain⟨z,hz⟩:∃z,z=Al A k x:=⟨_,rfl⟩;have fL:Al g k x=z:=by rw[Hg.o.2 k x hltk hltx,if_neg (by omega),hz]
          have mD:wk.cell? ⟨q,x,none⟩=some (.int .i64 z):=lp x z (by rw[←fL];exact BE 0 (by omega));have ii:BV z:=by
           obtain⟨-,hl,hb⟩:=rR.o.row hltk;have:=hb z (by rw[hz];exact List.mem_of_getElem? (BE 0 (by omega)));exact BV.small (by omega) (by omega)
          have aJ:=Z (show x2.take (k+1)=x2.take k++[z] from by
           rw[List.take_add_one,oU.o,A5E rR.o (by omega) hltx hltk,hz];rfl)
          have ah:(x2.take k).length<1099511627776:=by rw[List.length_take];omega
          have dW:decide ((k:Int)<(R.length:Int))=true:=by simp;omega
          have uB:=Z ii;clear j6 hbx lE aG aw dz lp hz fL ii di;go_wp2_with (first|(at_builtin;(refine Aa rfl _ _ 32 rfl A2 3 Tryz.underlying32 As rfl (by decide) wx.heap.size wk.heap.size aV (Nat.le_refl _) rfl rfl (by exact Hcol.o) (by exact⟨rfl,uB.o⟩) ah ?_);intro v2 w6 hown6 hbel6 _)|fail);have wT:=Z hown6;have oJ:=Z (f9.o.trans hbel6);clear hown6 hbel6 aM mD;go_wp2;go_roundw
          case rel=>exact⟨k+1,by omega,by go_num,by rw[aJ.o];exact wT.o,oJ.o⟩
          case measure=>simp[intOf];omega
         ·have lh:k=R.length:=by omega
          have wU:=Z (show A4 3 A7 (Iv wx.heap.size wk.heap.size) wk (.slice c1 c2 c3) x2 from by
           have h:=j6;rw[List.take_of_length_le (by rw[wQ.o];omega)] at h;exact h)
          have wV:=Z (bI.o.trans_pure hbx (Nat.le_refl _));have dW:decide ((k:Int)<(R.length:Int))=false:=by simp;omega
          clear j6 hbx lE lh;go_wp2_with (fail);refine(On _ _ _ _ _ (Huc.o.keep f9.o) wU.o.ints).mono ?_;rintro e w5 ⟨v5,rfl,o5,b5⟩;obtain⟨s1,s2,s3,rfl⟩:=o5.shape;have qN:wk.heap.size≤w5.heap.size:=b5.size;have iA:=Z o5;have hZ:=Z b5;have nS:=Z (wV.o.trans_pure b5 (Nat.le_refl _));clear o5 b5;cases hsol:(Bh x1 x2).isSome
          ·have Hn:=Z (show D=none from by rw[HD.o];exact KF (U7 Hp.o (by rw[←HA.o];exact V2 (k:=x) (by rw[hHT.o.1];exact hltx) (by rw[ni.o];exact hsol))));have bf:=fH.o.trans_pure nS.o (Nat.le_refl _);clear hsol;go_wp2;rw[Hn.o]
           go_ret2
           exact⟨_,rfl,A4.nil _ _ _ _,bf⟩
          ·obtain⟨o,ho⟩:=Option.isSome_iff_exists.1 hsol;have wW:sl C (tr A) x=some o:=ni.o.trans ho;have iL:o.length=R.length:=by have:=(Pq ho).1;rw[this,wQ.o]
           have n8:=iA.o;rw[ho,Option.getD_some] at n8;obtain⟨gL,cL,heL,hgL,-⟩:=n8.inv_ne (by omega);simp only[Value.slice.injEq] at heL;obtain⟨rfl,rfl,rfl⟩:=heL;rw[iL] at n8;have nT:A4 32 (A4 3 A7) (Gap w2.heap.size wi.heap.size wb.heap.size wx.heap.size) w5 (.slice (some ⟨G,0,none⟩) R.length cap) g:=(A3 (A3 A2)).same (A5 hZ.o fun b hb=>Nat.lt_of_lt_of_le hb.1.2 aV) wR.o;have qG:A4 32 (A4 3 A7) (Iv wi.heap.size wb.heap.size) w5 (.slice p1 p2 p3) m:=A4.keep (A3 A2) (A4.keep (A3 A2) ka.o f9.o aI) hZ.o (Nat.le_trans aI aV);have nU:=Z nT;have qH:=Z qG;have iX:=Z n8;have sA:=Z wW;have hol1:o.length≤R.length:=by omega
           have m8:R.length≤o.length:=by omega
           have Hsolv:=Z hsol;clear ho n8 nT qG wW iA hsol dW;rw[iL];clear iL;go_wp2;go_loopw [106] (fun i wr=>∃(k:Nat)(g':List (List Int)),k≤R.length∧i=.int .i64 k∧Hid (I4 C A R.length C.length x k g')∧A4 32 (A4 3 A7) (Gap w2.heap.size wi.heap.size wb.heap.size wx.heap.size) wr (.slice (some ⟨G,0,none⟩) R.length cap) g'∧A4 32 (A4 3 A7) (Iv wi.heap.size wb.heap.size) wr (.slice p1 p2 p3) m∧A4 3 A7 (Iv wk.heap.size w5.heap.size) wr (.slice (some ⟨gL,0,none⟩) R.length s3) o∧Below w2.heap.size w2 wr∧w5.heap.size≤wr.heap.size) (fun i _=>R.length-(intOf i).toNat)
           case atStart=>exact⟨0,g,Nat.zero_le _,rfl,Hg,nU.o,qH.o,iX.o,nS.o,Nat.le_refl _⟩
           case round=>
            clear nU qH iX nS;obtain⟨k,g',hk,rfl,Hg',bY,hcop',hol',hbel',hsz'⟩:=hrel;obtain⟨wl,rfl⟩:∃wl:World,wl=wr:=⟨_,rfl⟩;by_cases hltk:k<R.length
            ·obtain⟨aG,aw,-⟩:=Hg'.o.1.row hltk;obtain⟨q,cq,aM,hGS,hSq,hqG,di,dz,-,ap⟩:=AC bY aG (by omega);obtain⟨⟨o0,ke⟩,gN⟩:=dz x (by omega);obtain⟨v,hv⟩:∃v,v=o.getD k 0:=⟨_,rfl⟩;have aD:o[k]? =some v:=by rw[hv];exact BE 0 (by omega)
             obtain⟨az,-,hI⟩:=hol'.ints_cell aD;have sD:v=YU C A x k:=by unfold YU;rw[sA.o,hv];rfl
             have mB:=A4E sA.o k;rw[←sD] at mB;have cJ:=Z (ap wl (fun _ _=>rfl) x v (by omega) hI);have gG:=Z (Hg'.o.step hltk hltx sD mB.1 mB.2);have bj:=Z (hbel'.setCell (p:=⟨q,x,none⟩) hSq.1.1 (.int .i64 v));have iy:=Z (show A4 32 (A4 3 A7) (Iv wi.heap.size wb.heap.size) (wl.setCell ⟨q,x,none⟩ (.int .i64 v)) (.slice p1 p2 p3) m from(A3 (A3 A2)).same (fun b hb=>Below.heap_setCell wl _ _ b (by show b≠q;exact fun h=>hSq.2 (h▸hb))) hcop');have cu:=Z (show A4 3 A7 (Iv wk.heap.size w5.heap.size) (wl.setCell ⟨q,x,none⟩ (.int .i64 v)) (.slice (some ⟨gL,0,none⟩) R.length s3) o from(A3 A2).same (fun b hb=>Below.heap_setCell wl _ _ b (by show b≠q;have h1:=hSq.1.2;have h2:=hb.1;omega)) hol');rw[aw] at aM;have dW:decide ((k:Int)<(R.length:Int))=true:=by simp;omega
             clear bY hcop' hol' hbel' aG aw dz ap hv aD sD mB di Hg' hI;go_wp2
             go_region
             all_goals go_wp2
             all_goals go_roundw
             all_goals first
              |(case measure=>simp[intOf];omega)
              |(case rel=>exact⟨k+1,_,by omega,by go_num,gG,by exact cJ.o,by exact iy.o,by exact cu.o,by first|exact bj.o|exact bj.o.drew|exact bj.o.drewN 1|exact⟨bj.o.os,bj.o.tape,bj.o.output,bj.o.size,bj.o.block⟩,by first|(rw[A9];exact hsz')|exact hsz'|(simp;exact hsz')⟩)
            ·have lh:k=R.length:=by omega
             have gG:=Z (show I4 C A R.length C.length (x+1) 0 g' from by have:=Hg'.o;rw[lh] at this;exact this.next);have dW:decide ((k:Int)<(R.length:Int))=false:=by simp;omega
             have lq:wx.heap.size≤wl.heap.size:=by omega
             have fP:=Z ((A3 (A3 A2)).mono (WP lq) bY);have wX:=Z hcop';have wY:=Z hbel';clear bY hcop' hol' hbel' lh;go_wp2;go_roundw
             case rel=>
              refine⟨x+1,g',by omega,by go_num,gG,fun j hj=>?_,fP.o,wX.o,wY.o,by omega⟩;by_cases hjx:j<x
              ·exact aY.o j hjx
              ·obtain rfl:j=x:=by omega
               rw[sA.o];rfl
             case measure=>simp[intOf];omega
       ·have xh:x=C.length:=by omega
        have jN:CU C (tr A)=true:=Rj fun j hj=>aY.o j (by rw[hHT.o.1] at hj;omega);have xy:g=tr (EF C (tr A)):=by have:=Hg.o;rw[xh] at this;exact this.done (by omega) (by omega) rR.o jN
        have Hs:=Z (show I9 R C m=some g from by rw[xy,HA.o];exact UZ Hp.o (by rw[←HA.o];exact jN));have hdx:decide ((x:Int)<(C.length:Int))=false:=by simp;omega
        clear aB hcop aA xh jN xy;go_wp2_with (fail);refine(ML _ _ m g _ ka.o.grid aC.o.grid).mono ?_;rintro e w11 ⟨rfl,b11⟩;have uf:wx.heap.size≤w11.heap.size:=b11.size;have g7:=Z (bI.o.trans_pure b11 (Nat.le_refl _));have jA:=Z (show A4 32 (A4 3 A7) (Iv w2.heap.size w11.heap.size) w11 (.slice (some ⟨G,0,none⟩) R.length cap) g from(A3 (A3 A2)).mono (fun b hb=>⟨hb.1.1,Nat.lt_of_lt_of_le hb.1.2 uf⟩) ((A3 (A3 A2)).same (A5 b11 fun b hb=>hb.1.2) aC.o));by_cases he:m=g
        ·have Hn:=Z (show D=some g from by rw[HD.o,←he];exact SW (by rw[Hs.o,←he]));rw[decide_eq_true he];have bf:=fH.o.trans_pure g7.o (Nat.le_refl _);clear he b11;go_wp2;rw[Hn.o]
         go_ret2
         exact⟨_,rfl,(A3 (A3 A2)).mono (fun b hb=>⟨by have:=hb.1;omega,by have:=hb.2;omega⟩) jA.o,bf⟩
        ·obtain⟨k',kS,hu',hd',ht'⟩:=R7 (by omega) (by omega) Hm.o Hu.o Hs.o (fun h=>he h.symm);have zx:=Z hu';have zy:=Z (HD.o.trans hd');have zz:=Z ht';rw[decide_eq_false he];clear he hd' hu' ht' b11;go_wp2
         go_roundg k'
         case measure=>exact kS
         case rel=>exact⟨g,zz,zx,zy,jA.o,g7.o⟩
def Cr(R C:List (List Int)):Bool:=match G9 R C with|none=>false|some m=>Af m
theorem YZ{R C m:List (List Int)}(h:G9 R C=some m):CC R.length C.length m∧1≤R.length∧R.length≤5∧1≤C.length∧C.length≤5:=by
 cases aD:Ba R C
 ·rw[JT aD] at h;cases h
 ·rw[N8 aD] at h;obtain⟨h1,h2,h3,h4⟩:=FO aD;exact⟨A0f h1 h3 _ _ _ (GK _ _) h,h1,h2,h3,h4⟩
theorem ZI{m:List (List Int)}{r c:Nat}(h:CC r c m)(h1:1≤r)(h2:r≤5)(h3:1≤c)(h4:c≤5):Af m=m.all fun row=>!row.any fun x=>x==-1:=by
 cases hb:m.all fun row=>!row.any fun x=>x==-1
 ·rw[←Bool.not_eq_true] at hb⊢;intro aD;apply hb;obtain⟨r',c',-,-,-,-,hs⟩:=Ad aD;rw[List.all_eq_true];intro row aG;rw[Bool.not_eq_true',←Bool.not_eq_true];intro ha;obtain⟨x,hx,he⟩:=List.any_eq_true.1 ha;rw[beq_iff_eq] at he;have:=(hs.2 row aG).2 x hx;omega
 ·refine Ac.ok (r:=r) (c:=c) ⟨h.1,fun row aG=>?_⟩ h1 h2 h3 h4;obtain⟨e1,e2⟩:=h.2 row aG;refine⟨e1,fun x hx=>?_⟩;have h5:=List.all_eq_true.1 hb row aG;have h6:x≠-1:=by
   intro he;rw[Bool.not_eq_true',←Bool.not_eq_true] at h5;exact h5 (List.any_eq_true.2 ⟨x,hx,by rw[he];rfl⟩)
  have:=e2 x hx;omega
theorem PI(a b:Value)(R C:List (List Int))(w:World)(h1:Ak w a R)(h2:Ak w b C)(fJ:∀r∈R,r.length≤1048576)(i7:∀r∈C,r.length≤1048576):
  Calls Tryz.prog 118 #[.agg #[a,b]] w fun e w'=>e=.returned (.bool (Cr R C))∧Below w.heap.size w w':=by
 have ej:=Z fJ;have mF:=Z i7;obtain⟨aa,ca,rfl,-⟩:=id h1;obtain⟨ab,cb,rfl,-⟩:=id h2;obtain⟨W1,hW1⟩:∃W1,W1=w.alloc (.cells #[.slice aa R.length ca,.slice ab C.length cb] 85):=⟨_,rfl⟩;have dg:Below w.heap.size w W1:=by rw[hW1];exact Below.pureAlloc _ _
 have G1:=Z (h1.keep dg);have G2:=Z (h2.keep dg);have cj:=Z dg;clear h1 h2 fJ i7 dg;go_enter Tryz.func118,Tryz.ntmps118;subst hW1;go_wp2_with (fail);refine(A4b _ _ R C _ G1.o G2.o ej.o mF.o).mono ?_;rintro e w2 ⟨v2,rfl,o2,b2⟩;obtain⟨p1,p2,p3,rfl⟩:=o2.shape;have bj:=Z (cj.o.trans_pure b2 (Nat.le_refl _));have gG:=Z o2.grid;clear o2 b2;cases hd:G9 R C with
 |none=>
  have Hr:=Z (show Cr R C=false from by unfold Cr;rw[hd]);clear hd;go_wp2
  go_ret
  exact⟨AI Hr.o.symm,bj.o⟩
 |some m=>
  have Hr:=Z (show Cr R C=Af m from by unfold Cr;rw[hd]);have hg:=gG.o;rw[hd] at hg;have Hg:=Z (show Ak w2 (.slice p1 p2 p3) m from hg);clear hd hg;go_wp2_with (fail);refine(AP _ _ _ Hg.o).mono ?_;rintro e w' ⟨rfl,rfl⟩;go_wp2
  go_ret
  exact⟨AI Hr.o.symm,bj.o⟩
theorem A4t(v:Value)(xs:List Int)(n:Int)(w:World)(hv:Ab w v xs):Calls Tryz.prog 270 #[v,.int .i64 n] w fun e w'=>e=.returned (.bool (xs.any fun x=>x==n))∧w=w':=by
 have Hv:=Z hv;obtain⟨a,cap,rfl,-,cY,-⟩:=hv;go_enter Tryz.func270,Tryz.ntmps270;go_wp2
 go_loop [9] (fun i=>∃k:Nat,k≤xs.length∧i=.int .i64 k∧Hid (∀j,j<k→(xs.getD j 0==n)=false)) (fun i=>xs.length-(intOf i).toNat)
 case atStart=>exact⟨0,Nat.zero_le _,rfl,fun j hj=>by omega⟩
 case round=>
  obtain⟨k,hk,rfl,aY⟩:=hrel;by_cases aH:k<xs.length
  ·obtain⟨b,off,cpr,he,hb,-⟩:=Hv.o.inv_ne (by omega);obtain⟨rfl,-⟩:a=some ⟨b,off,none⟩∧cap=cpr:=by simpa using he
   have fW:=Ab.at Hv.o (BE 0 aH);obtain⟨x,hx⟩:∃x,x=xs.getD k 0:=⟨_,rfl⟩;rw[←hx] at fW;have Hx:=Z hx;clear he hx;cases hc:(x==n)
   ·have Hc:=Z hc;go_wp2
    go_round
    case rel=>
     refine⟨k+1,by omega,by go_num,fun j hj=>?_⟩;by_cases kV:j<k
     ·exact aY.o j kV
     ·obtain rfl:j=k:=by omega
      rw[←Hx.o];exact Hc.o
    case measure=>simp[intOf];omega
   ·have Hr:=Z (show(xs.any fun x=>x==n)=true from List.any_eq_true.2 ⟨x,by rw[Hx.o];exact List.mem_of_getElem? (BE 0 aH),hc⟩);go_wp2
    go_ret
    exact⟨AI Hr.o.symm,rfl⟩
  ·have Hr:=Z (show(xs.any fun x=>x==n)=false from by
    rw[←Bool.not_eq_true];intro h;obtain⟨x,hx,he⟩:=List.any_eq_true.1 h;obtain⟨j,hj⟩:=List.getElem?_of_mem hx;have gC:=(List.getElem?_eq_some_iff.1 hj).1;have:=aY.o j (by omega);rw[AL hj,he] at this;cases this)
   go_wp2
   go_ret
   exact⟨AI Hr.o.symm,rfl⟩
theorem PN(a b:Value)(R C:List (List Int))(w:World)(h1:Ak w a R)(h2:Ak w b C):
  Calls Tryz.prog 200 #[.agg #[a,b]] w fun e w'=>e=.returned (.bool (Cr R C))∧Below w.heap.size w w':=by
 obtain⟨aa,ca,rfl,-⟩:=id h1;obtain⟨ab,cb,rfl,-⟩:=id h2;obtain⟨W1,hW1⟩:∃W1,W1=w.alloc (.cells #[.slice aa R.length ca,.slice ab C.length cb] 85):=⟨_,rfl⟩;have dg:Below w.heap.size w W1:=by rw[hW1];exact Below.pureAlloc _ _
 have G1:=Z (h1.keep dg);have G2:=Z (h2.keep dg);have cj:=Z dg;clear h1 h2 dg;go_enter Tryz.func200,Tryz.ntmps200;subst hW1;go_wp2_with (fail);refine(A3R _ _ R C _ G1.o G2.o).mono ?_;rintro e w2 ⟨v2,rfl,o2,b2⟩;have bj:=Z (cj.o.trans_pure b2 (Nat.le_refl _));have gG:=Z o2.grid;obtain⟨p1,p2,p3,bA⟩:=o2.shape;clear b2 o2;cases hd:G9 R C with
 |none=>
  have Hr:=Z (show Cr R C=false from by unfold Cr;rw[hd]);subst bA;clear hd;go_wp2
  go_ret
  exact⟨AI Hr.o.symm,bj.o⟩
 |some m=>
  obtain⟨hT,e1,e2,e3,e4⟩:=YZ hd;have Hr:=Z (show Cr R C=m.all fun row=>!row.any fun x=>x==-1 from by unfold Cr;rw[hd];exact ZI hT e1 e2 e3 e4);have hg:=gG.o;rw[hd] at hg;have Hg:=Z (show Ak w2 v2 m from hg);obtain⟨am,cm,rfl,-,hlem,-⟩:=id Hg.o;clear hd hg bA gG hT;go_wp2
  go_loop [16] (fun i=>∃k:Nat,k≤m.length∧i=.int .i64 k∧Hid (∀j,j<k→((m.getD j []).any fun x=>x==-1)=false)) (fun i=>m.length-(intOf i).toNat)
  case atStart=>exact⟨0,Nat.zero_le _,rfl,fun j hj=>by omega⟩
  case round=>
   obtain⟨k,hk,rfl,aY⟩:=hrel;by_cases aH:k<m.length
   ·obtain⟨b,off,cpr,he,hb,-⟩:=Hg.o.inv_ne (by omega);obtain⟨rfl,-⟩:am=some ⟨b,off,none⟩∧cm=cpr:=by simpa using he
    obtain⟨u,aQ,hu⟩:=Sl.at Hg.o (BE [] aH);have hu:Ab w2 u (m.getD k []):=hu;obtain⟨row,aG⟩:∃row,row=m.getD k []:=⟨_,rfl⟩;rw[←aG] at hu;obtain⟨q1,q2,rfl,-⟩:=id hu;have Hu:=Z hu;have da:=Z aG;clear he hu aG;go_wp2_with (fail);refine(A4t _ _ _ _ Hu.o).mono ?_;rintro e w' ⟨rfl,rfl⟩;cases hc:row.any fun x=>x==-1
    ·have Hc:=Z hc;go_wp2
     go_round
     case rel=>
      refine⟨k+1,by omega,by go_num,fun j hj=>?_⟩;by_cases kV:j<k
      ·exact aY.o j kV
      ·obtain rfl:j=k:=by omega
       rw[←da.o];exact Hc.o
     case measure=>simp[intOf];omega
    ·have eJ:=Z (show Cr R C=false from by
      rw[Hr.o,←Bool.not_eq_true];intro h;have:=List.all_eq_true.1 h _ (List.mem_of_getElem? (BE [] aH));rw[←da.o,hc] at this;cases this)
     go_wp2
     go_ret
     exact⟨AI eJ.o.symm,bj.o⟩
   ·have eJ:=Z (show Cr R C=true from by
     rw[Hr.o,List.all_eq_true];intro row aG;obtain⟨j,hj⟩:=List.getElem?_of_mem aG;have gC:=(List.getElem?_eq_some_iff.1 hj).1;have:=aY.o j (by omega);rw[AL hj] at this;rw[this];rfl)
    go_wp2
    go_ret
    exact⟨AI eJ.o.symm,bj.o⟩
