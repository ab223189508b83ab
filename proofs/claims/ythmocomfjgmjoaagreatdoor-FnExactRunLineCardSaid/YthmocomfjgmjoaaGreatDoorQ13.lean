/- Base. -/
import Derived.Test.YthmocomfjgmjoaaGreatDoorQ12
set_option maxHeartbeats 4000000
set_option maxRecDepth 100000
namespace Go.Proofs.YthmocomfjgmjoaaGreatDoor
variable {A C R:I}{c:Nat}{g:I}{k:Nat}{m:I}{r x:Nat}
def GT(R m:I)(k:Nat):I:=Gl R m k++m.drop k
theorem Yg(R m:I):GT R m 0=m:=by simp[GT,Gl]
theorem Py(h:k<m.length):(GT R m k)[k]? =some (m.getD k []):=by
 unfold GT;rw[List.getElem?_append_right (by rw[GR];exact A2 _),GR,Nat.sub_self,List.getElem?_drop,AF];exact BO [] h
theorem ZF(h:k<m.length):(GT R m k).set k ((sl R m k).getD [])=GT R m (k+1):=by
 unfold GT;rw[List.set_append_right _ _ (by rw[GR];exact A2 _),GR,Nat.sub_self,List.drop_eq_getElem_cons h,List.set_cons_zero,Ql];simp
theorem Zx(h:k=m.length):GT R m k=ES R m:=by
 subst h;unfold GT ES;simp
def XJ(C A:I)(j i:Nat):Int:=((sl C (tr A) j).getD []).getD i 0
def Ig(C A:I)(r c x k:Nat)(g:I):Prop:=CO r c g∧∀i j,i<r→j<c→AJ g i j=if j<x∨(j=x∧i<k)then XJ C A j i else AJ A i j
theorem Yb(h:CO r c A):Ig C A r c 0 0 A:=⟨h,fun i j _ _=>by rw[if_neg J]⟩
theorem Ig.step{C A g:I}{r c x k:Nat}(h:Ig C A r c x k g)(hk:k<r)(hx:x<c){v:Int}(hv:v=XJ C A x k)(h0:-1≤v)(h1:v≤1):Ig C A r c x (k+1) (g.set k ((g.getD k []).set x v)):=by
 refine⟨h.1.setC hk h0 h1,fun i j hi hj=>?_⟩;have:=XA h.1 hk hx v i j;unfold setC at this;rw[this,h.2 i j hi hj];by_cases he:i=k∧j=x
 ·rw[if_pos he,if_pos J,hv,he.1,he.2]
 ·rw[if_neg he];by_cases h1:j<x∨(j=x∧i<k)
  ·rw[if_pos h1,if_pos J]
  ·rw[if_neg h1,if_neg J]
theorem Ig.next(h:Ig C A r c x r g):Ig C A r c (x+1) 0 g:=by
 refine⟨h.1,fun i j hi hj=>?_⟩;rw[h.2 i j hi hj];by_cases h1:j<x∨(j=x∧i<r)
 ·rw[if_pos h1,if_pos J]
 ·rw[if_neg h1,if_neg J]
theorem Ig.done(h1:1≤r)(h2:1≤c)(hA:CO r c A)(h:Ig C A r c c 0 g)(hok:D3 C (tr A)=true):g=tr (ES C (tr A)):=by
 have hT:=hA.tr h1;have hB:=(Kl hT hok).1;refine h.1.ext (hB.tr h2) fun i j hi hj=>?_;rw[h.2 i j hi hj,if_pos (.inl hj),Wd hB h2 hj hi];unfold AJ XJ ES;rw[B7 (Uf (by rw[hT.1];exact hj))]
theorem A42{i:Nat}(h:CO r c A)(h1:1≤r)(hx:x<c)(hi:i<r):((tr A).getD x [])[i]? =some (AJ A i x):=by
 obtain⟨-,hl,-⟩:=(h.tr h1).row hx;rw[←Wd h h1 hi hx];unfold AJ;exact BO 0 J
theorem A3Q{o:U}(h:sl C (tr A) x=some o)(k:Nat):-1≤XJ C A x k∧XJ C A x k≤1:=by
 unfold XJ;rw[h,Option.getD_some];by_cases hk:k<o.length
 ·exact(PR h).2.1 _ (A4 (BO 0 hk))
 ·rw[Gk J];decide
def Gap(lo p q hi:Nat):Bk:=fun b=>(lo≤b∧b<hi)∧¬(p≤b∧b<q)
theorem XZ{lo p q hi hi':Nat}(h:hi≤hi'):∀b,Gap lo p q hi b→Gap lo p q hi' b:=fun _ hb=>⟨⟨hb.1.1,Aa hb.1.2 h⟩,hb.2⟩
theorem Ue(hk:k<m.length)(h:(sl R m k).isSome=false):D3 R m=false:=by
 rw[←Bool.not_eq_true];intro hp;unfold D3 at hp;have:=Ar.1 hp k (AG.2 hk);rw[h]at this;cases this
theorem SI(h:∀y,y<m.length→(sl R m y).isSome=true):D3 R m=true:=by
 unfold D3;rw[Ar];exact fun y hy=>h y (AG.1 hy)
end Go.Proofs.YthmocomfjgmjoaaGreatDoor
namespace Go.Proofs.YthmocomfjgmjoaaGreatDoor
open Go.RowKit
theorem A2k{α:Type}{D:Option α}(h:D=none):D.isSome=false:=by rw[h];rfl
theorem A32(a b:Value)(R C:I)(w:World)(h1:AI w a R)(h2:AI w b C)(fJ:∀r∈R,r.length≤1048576)(jT:∀r∈C,r.length≤1048576):
  Calls Tryz.prog 180 #[.agg #[a,b]] w fun e w'=>∃v',e=.returned (.tuple #[v',.bool (Gr R C).isSome])∧Ag 32 (Ag 3 Ap) (Iv w.heap.size w'.heap.size) w' v' ((Gr R C).getD [])∧Below w.heap.size w w':=by
 obtain⟨aa,ca,rfl,-⟩:=id h1;obtain⟨ab,cb,rfl,-⟩:=id h2;obtain⟨D,hD⟩:∃D,D=Gr R C:=⟨_,rfl⟩;have e8:=Z fJ;have nE:=Z jT;clear fJ jT;rw[←hD];obtain⟨W1,hW1⟩:∃W1,W1=w.alloc (.cells #[.slice aa R.length ca,.slice ab C.length cb] 85):=⟨_,rfl⟩;have dV:Below w.heap.size w W1:=by rw[hW1];exact Below.qab _ _
 have iz:W1.heap.size=w.heap.size+1:=by rw[hW1];simp
 have kB:B9 W1 w.heap.size #[.slice aa R.length ca,.slice ab C.length cb] 85:=by rw[hW1];exact B9.new _ _ _
 have G1:=Z (h1.keep dV);have G2:=Z (h2.keep dV);have cN:=Z dV;have iJ:=Z kB;have e9:=Z iz;clear h1 h2 dV iz kB;cases hok:Bv R C
 ·have Hn:=Z (A2k (hD.trans (KB hok)));have mH:=Z (show D.getD []=[]from by rw[hD,KB hok];rfl);have aR:=Z hok;clear hok hD;go_enter Tryz.func180,Tryz.ntmps180;subst hW1;go_wp2_with fail;refine(Lb _ _ _ _ _ G1.o G2.o e8.o nE.o).mono ?_;rintro e w2 ⟨rfl,hw2⟩;have b2:=cN.o.qaa (show Below _ _ w2 from by rw[hw2];exact Below.qab _ _) (A2 _);rw[aR.o];clear hw2;go_wp2;rw[Hn.o,mH.o]
  go_ret2
  exact⟨_,rfl,Ag.nil _ _ _ _,b2⟩
 have HD:=Z (hD.trans (Oc hok));obtain⟨hr1,hr5,hc1,hc5⟩:=FO hok;have aR:=Z hok;clear hok hD;go_enter Tryz.func180,Tryz.ntmps180;subst hW1;go_wp2_with fail;refine(Lb _ _ _ _ _ G1.o G2.o e8.o nE.o).mono ?_;rintro e w2 ⟨rfl,hw2⟩;have b2:Below (w.alloc (.cells #[.slice aa R.length ca,.slice ab C.length cb] 85)).heap.size (w.alloc (.cells #[.slice aa R.length ca,.slice ab C.length cb] 85)) w2:=by rw[hw2];exact Below.qab _ _
 rw[aR.o];clear hw2;have ej:=Z (cN.o.qaa b2 (A2 _));have fX:=Z (iJ.o.keep b2);have xf:=Z (G1.o.keep b2);have nX:=Z (G2.o.keep b2);have mA:w.heap.size<w2.heap.size:=by have:=b2.size;rw[e9.o]at this;omega
 clear G1 G2 cN iJ e9 b2;have k0:w2.cell? ⟨w.heap.size,0,none⟩=some (.slice aa R.length ca):=fX.o.cell 0;have k1:w2.cell? ⟨w.heap.size,1,none⟩=some (.slice ab C.length cb):=fX.o.cell 1;go_wp2_with fail;refine(Kx R.length C.length _ J J).mono ?_;rintro e w3 ⟨v3,rfl,o3,b3⟩;obtain⟨G,cap,rfl,hG,hcapG,hGs,-⟩:=o3.qac (by simp[BJ];omega);have iA:(BJ R.length C.length).length=R.length:=by simp[BJ]
 rw[iA]at o3 hcapG⊢;have cY:=Z o3;have bN:=Z b3;have s3:w2.heap.size≤w3.heap.size:=b3.size;clear o3 b3 iA k0 k1;go_wp2;go_loopw [32] (fun i wr=>∃(k:Nat)(g:I),k≤R.length∧i=.int .i64 k∧Hid (FN R.length C.length k 0 g)∧Ag 32 (Ag 3 Ap) (Iv w2.heap.size w3.heap.size) wr (.slice (some ⟨G,0,none⟩) R.length cap) g∧Below w2.heap.size w2 wr∧w3.heap.size≤wr.heap.size) (fun i _=>R.length-(intOf i).toNat);exact⟨0,_,A7 _,rfl,P6 _ _,cY.o,bN.o,A2 _⟩;clear cY bN;obtain⟨k,g,hk,rfl,Hg,aB,aA,aM⟩:=hrel;obtain⟨wo,rfl⟩:∃wo:World,wo=wr:=⟨_,rfl⟩;by_cases aF:k<R.length
 ·obtain⟨aD,aj,-⟩:=Hg.o.1.row aF;obtain⟨q,cq,aH,-,hSq,hqG,dj,hx,-,ai⟩:=AV aB aD J;rw[aj]at aH;have aC:=Z aB;have dM:decide ((k:Int)<(R.length:Int))=true:=by simp;omega
  have az:=Z aA;have de:=Z aH;clear aB aD hx ai aA;go_wp2;clear aH;go_loopw [38] (fun i wr=>∃(j:Nat)(g:I),j≤C.length∧i=.int .i64 j∧Hid (FN R.length C.length k j g)∧Ag 32 (Ag 3 Ap) (Iv w2.heap.size w3.heap.size) wr (.slice (some ⟨G,0,none⟩) R.length cap) g∧Below w2.heap.size w2 wr∧w3.heap.size≤wr.heap.size∧wr.cell? ⟨G,k,none⟩=some (.slice (some ⟨q,0,none⟩) C.length cq)) (fun i _=>C.length-(intOf i).toNat);exact⟨0,g,A7 _,rfl,Hg,aC.o,az.o,aM,de.o⟩;clear aC az aM aj Hg;obtain⟨j,g',hj,rfl,Hg,aB,aA,aM,hcq0⟩:=hrel;obtain⟨wi,rfl⟩:∃wi:World,wi=wr:=⟨_,rfl⟩;by_cases hltj:j<C.length
  ·obtain⟨aD,aj,-⟩:=Hg.o.1.row aF;obtain⟨q',cq',aH,-,hSq,hqG,dj,hx,-,ai⟩:=AV aB aD J;obtain rfl:q'=q:=by rw[aj,hcq0]at aH;injection aH with e1;injection e1 with e2;injection e2 with e3;injection e3 with e4;exact e4.symm
   obtain⟨⟨o,kv⟩,g8⟩:=hx j J;have bq:=Z (ai wi (fun _ _=>rfl) j (-1) J (Cc.small Jq Jq));have fr:=Z (Hg.o.step aF hltj);have be:=Z (aA.setCell (p:=⟨q',j,none⟩) hSq.1 (.int .i64 (-1)));have wV:(wi.setCell ⟨q',j,none⟩ (.int .i64 (-1))).cell? ⟨G,k,none⟩=some (.slice (some ⟨q',0,none⟩) C.length cq):=by
    rw[World.cell?_of_block (w:=wi) (a:=⟨G,k,none⟩) (Below.heap_setCell wi ⟨q',j,none⟩ (.int .i64 (-1)) G (by simpa using fun e=>hqG e.symm))];exact hcq0
   have Hcq1:=Z wV;have hdj:decide ((j:Int)<(C.length:Int))=true:=by simp;omega
   clear aB aD aj hx ai aA dj aH hcq0 wV;go_wp2;go_roundw;exact⟨j+1,_,J,by go_num,fr,bq.o,be.o,by rw[As];exact aM,Hcq1.o⟩;exact Jv
  ·have hdj:decide ((j:Int)<(C.length:Int))=false:=by simp;omega
   have rD:j=C.length:=J;have fr:=Z (show FN R.length C.length (k+1) 0 g' from by have:=Hg.o;rw[rD]at this;exact this.next);have aC:=Z aB;clear aB rD;go_wp2;go_roundw;exact⟨k+1,g',J,by go_num,fr,aC.o,aA,aM⟩;exact Jv
 ·have lU:k=R.length:=J;have hg:g=EE R.length C.length:=by have:=Hg.o;rw[lU]at this;exact this.done
  have aC:=Z (show Ag 32 (Ag 3 Ap) (Iv w2.heap.size wo.heap.size) wo (.slice (some ⟨G,0,none⟩) R.length cap) (EE R.length C.length)from by
   rw[←hg];exact(Ab (Ab A8)).mono (fun b hb=>⟨hb.1,Aa hb.2 aM⟩) aB)
  have az:=Z aA;have dM:decide ((k:Int)<(R.length:Int))=false:=by simp;omega
  clear aB aA hg Hg lU;go_wp2
  go_loopg [8] (R.length*C.length) (fun gk _ wr=>∃m:I,Hid (CO R.length C.length m)∧Hid (U2 m≤gk)∧Hid (D=J1 R C gk m)∧Ag 32 (Ag 3 Ap) (Iv w2.heap.size wr.heap.size) wr (.slice (some ⟨G,0,none⟩) R.length cap) m∧Below w2.heap.size w2 wr)
  case atStart=>exact⟨_,H0 _ _,Nat.le_of_eq (Xg _ _),HD.o,aC.o,az.o⟩
  clear aC az HD;obtain⟨m,Hm,Hu,HD,aB,aA⟩:=hrel;obtain⟨wi,rfl⟩:∃wi:World,wi=wr:=⟨_,rfl⟩;have bF:m.length≤R.length:=Nat.le_of_eq Hm.o.1;have hml2:R.length≤m.length:=Nat.le_of_eq Hm.o.1.symm;have rE:m.length≤1048576:=J;have pX:=Z (show ∀x∈m,x.length≤1048576 from fun x hx=>by have:=(Hm.o.2 x hx).1;omega);have aC:=Z aB;have az:=Z aA;have hsi:w2.heap.size≤wi.heap.size:=aA.size;clear aB aA;go_wp2_with fail;refine(F5 _ m _ aC.o.qag rE pX.o).mono ?_;rintro e wb ⟨v8,rfl,o8,b8⟩;obtain⟨p1,p2,p3,rfl⟩:=o8.shape;have hs8:wi.heap.size≤wb.heap.size:=b8.size;have iJ:=Z ((fX.o.keep az.o).keep b8);have pq:=Z (az.o.qaa b8 (A2 _));have lf:=Z o8;have pr:=Z (show Ag 32 (Ag 3 Ap) (Gap w2.heap.size wi.heap.size wb.heap.size wb.heap.size) wb (.slice (some ⟨G,0,none⟩) R.length cap) (GT R m 0)from by
   rw[Yg];exact(Ab (Ab A8)).mono (fun b hb=>⟨⟨hb.1,Aa hb.2 hs8⟩,fun h=>by have:=hb.2;omega⟩) (Ag.keep (Ab A8) aC.o b8 (A2 _)))
  have k0:wb.cell? ⟨w.heap.size,0,none⟩=some (.slice aa R.length ca):=iJ.o.cell 0;clear o8 b8;go_wp2;clear k0;go_loopw [51] (fun i wr=>∃k:Nat,k≤R.length∧i=.int .i64 k∧Hid (∀y,y<k→(sl R m y).isSome=true)∧Ag 32 (Ag 3 Ap) (Gap w2.heap.size wi.heap.size wb.heap.size wr.heap.size) wr (.slice (some ⟨G,0,none⟩) R.length cap) (GT R m k)∧Ag 32 (Ag 3 Ap) (Iv wi.heap.size wb.heap.size) wr (.slice p1 p2 p3) m∧Below w2.heap.size w2 wr∧wb.heap.size≤wr.heap.size) (fun i _=>R.length-(intOf i).toNat);exact⟨0,A7 _,rfl,fun y hy=>by omega,pr.o,lf.o,pq.o,A2 _⟩;clear pr lf pq;obtain⟨k,hk,rfl,aT,aB,hcop,aA,aM⟩:=hrel;obtain⟨wo,rfl⟩:∃wo:World,wo=wr:=⟨_,rfl⟩;by_cases aF:k<R.length
  ·obtain⟨b,off,cpr,he,hb,-⟩:=xf.o.qac J;obtain⟨rfl,-⟩:aa=some ⟨b,off,none⟩∧ca=cpr:=by simpa using he
   obtain⟨u,aW,hu⟩:=Sl.at xf.o (BO [] aF);have hu:Au w2 u (R.getD k []):=hu;have Hu1:=Z (hu.keep aA);rw[←aA.cell (p:=⟨b,off+k,none⟩) hb]at aW;obtain⟨q1,q2,rfl,-⟩:=hu;have bA:(GT R m k)[k]? =some (m.getD k []):=Py J;obtain⟨hGg,-,-,-,T,u2,dw,eH,-⟩:=aB.qal (Ab A8) bA;have jk:=Z eH.ints;obtain⟨r1,r2,r3,rfl⟩:=eH.shape;obtain⟨x1,bj⟩:∃x,x=R.getD k []:=⟨_,rfl⟩;obtain⟨x2,dZ⟩:∃x,x=m.getD k []:=⟨_,rfl⟩;have nZ:=Z (show sl R m k=BA x1 x2 from by rw[bj,dZ];rfl);rw[←bj]at aW Hu1;rw[←dZ]at jk;have aC:=Z aB;have kR:=Z hcop;have az:=Z aA;have dM:decide ((k:Int)<(R.length:Int))=true:=by simp;omega
   have HGg:=Z hGg;clear aB hcop aA he bA eH bj dZ hGg;go_wp2_with fail;refine(P8 _ _ _ _ _ Hu1.o jk.o).mono ?_;rintro e w1 ⟨v1,rfl,o1,b1⟩;obtain⟨s1,s2,s3,rfl⟩:=o1.shape;have cQ:wo.heap.size≤w1.heap.size:=b1.size;have fS:=Z o1;have fh:=Z (az.o.qaa b1 (A2 _));have dm:=Z b1;clear o1 b1 aW dw;cases hsol:(BA x1 x2).isSome
   ·have Hn:=Z (show D=none from by rw[HD.o];exact Lf (US (Ue (k:=k) J (by rw[nZ.o];exact hsol))));have bf:=ej.o.qaa fh.o (A2 _);clear hsol;go_wp2;rw[Hn.o]
    go_ret2
    exact⟨_,rfl,Ag.nil _ _ _ _,bf⟩
   ·have aw:Ag 32 (Ag 3 Ap) (Gap w2.heap.size wi.heap.size wb.heap.size wo.heap.size) w1 (.slice (some ⟨G,0,none⟩) R.length cap) (GT R m k):=(Ab (Ab A8)).same (Ac dm.o fun b hb=>hb.1.2) aC.o;obtain⟨-,-,-,hf,T1,u3,aH,-,-,hupd,-⟩:=aw.qal (Ab A8) (Py J);have bH:=hupd (.slice s1 s2 s3) ((BA x1 x2).getD []) (Iv wo.heap.size w1.heap.size) (Gap w2.heap.size wi.heap.size wb.heap.size w1.heap.size) fS.o (fun b hb=>⟨⟨⟨by have h1:=az.o.size;have:=hb.1;omega,hb.2⟩,fun h=>by have:=hb.1;omega⟩,fun h=>by have h1:=HGg.o.1.2;have:=hb.1;omega⟩)
     (fun b h1 h2=>by have:=h1.1;have:=h2.1.2;omega) (XZ cQ)
    rw[←nZ.o,ZF J]at bH;have bq:=Z bH;have pt:Ag 32 (Ag 3 Ap) (Iv wi.heap.size wb.heap.size) w1 (.slice p1 p2 p3) m:=Ag.keep (Ab A8) kR.o dm.o aM;have wW:=Z (show Ag 32 (Ag 3 Ap) (Iv wi.heap.size wb.heap.size) (w1.setCell ⟨G,k,none⟩ (.slice s1 s2 s3)) (.slice p1 p2 p3) m from(Ab (Ab A8)).same (fun b hb=>Below.heap_setCell w1 _ _ b (by show b≠G;exact fun h=>HGg.o.2 (h▸hb))) pt);have wX:=Z (fh.o.setCell (p:=⟨G,k,none⟩) HGg.o.1.1 (.slice s1 s2 s3));have eA:=Z hsol;obtain⟨y1,y2,y3,rfl⟩:∃a b c,u3=.slice a b c:=by
     have h1:=aw.qal (Ab A8) (Py (R:=R) (m:=m) (k:=k) J);obtain⟨-,-,-,-,T2,u4,hc4,hr4,-⟩:=h1;rw[aH]at hc4;obtain rfl:=Option.some.inj hc4;exact hr4.shape
    clear aw hupd bH pt hsol;go_wp2;go_roundw
    case rel=>
     refine⟨k+1,J,by go_num,fun y hy=>?_,by rw[As];exact bq.o,wW.o,wX.o,by rw[As];omega⟩;by_cases hZ:y<k
     ·exact aT.o y hZ
     ·obtain rfl:y=k:=J;rw[nZ.o];exact eA.o
    case measure=>exact Jv
  ·have lU:k=m.length:=J;obtain⟨A,hA⟩:∃A,A=ES R m:=⟨_,rfl⟩;have hp:D3 R m=true:=SI fun y hy=>aT.o y J;have oO:=(Kl Hm.o hp).1;rw[Zx lU,←hA]at aB;rw[←hA]at oO;have rF:=Z oO;have HA:=Z hA;have Hp:=Z hp;have aC:=Z aB;have kR:=Z hcop;have az:=Z aA;have dM:decide ((k:Int)<(R.length:Int))=false:=by simp;omega
   have k1:wo.cell? ⟨w.heap.size,1,none⟩=some (.slice ab C.length cb):=(fX.o.keep aA).cell 1;clear aB hcop aA hA hp oO lU aT iJ;go_wp2;clear k1;go_loopw [75] (fun i wr=>∃(x:Nat)(g:I),x≤C.length∧i=.int .i64 x∧Hid (Ig C A R.length C.length x 0 g)∧Hid (∀j,j<x→(sl C (tr A) j).isSome=true)∧Ag 32 (Ag 3 Ap) (Gap w2.heap.size wi.heap.size wb.heap.size wr.heap.size) wr (.slice (some ⟨G,0,none⟩) R.length cap) g∧Ag 32 (Ag 3 Ap) (Iv wi.heap.size wb.heap.size) wr (.slice p1 p2 p3) m∧Below w2.heap.size w2 wr∧wb.heap.size≤wr.heap.size) (fun i _=>C.length-(intOf i).toNat);exact⟨0,A,A7 _,rfl,Yb rF.o,fun j hj=>by omega,aC.o,kR.o,az.o,aM⟩;clear aC kR az aM;obtain⟨x,g,hx,rfl,Hg,aT,aB,hcop,aA,aM⟩:=hrel;obtain⟨wx,rfl⟩:∃wx:World,wx=wr:=⟨_,rfl⟩;have aC:=Z aB;have kR:=Z hcop;have az:=Z aA;have hHT:=Z (rF.o.tr J);by_cases hltx:x<C.length
   ·obtain⟨bc,offc,cpr,he,hbc,-⟩:=nX.o.qac J;obtain⟨rfl,-⟩:ab=some ⟨bc,offc,none⟩∧cb=cpr:=by simpa using he
    obtain⟨uc,cP,xu⟩:=Sl.at nX.o (BO [] hltx);have xu:Au w2 uc (C.getD x []):=xu;have Huc:=Z (xu.keep aA);rw[←aA.cell (p:=⟨bc,offc+x,none⟩) hbc]at cP;obtain⟨q1,q2,rfl,-⟩:=xu;obtain⟨x1,bj⟩:∃z,z=C.getD x []:=⟨_,rfl⟩;rw[←bj]at cP Huc;obtain⟨x2,dZ⟩:∃z,z=(tr A).getD x []:=⟨_,rfl⟩;have nZ:=Z (show sl C (tr A) x=BA x1 x2 from by rw[bj,dZ];rfl);have wY:x2.length=R.length:=by rw[dZ];exact(hHT.o.row hltx).2.1
    have wZ:=Z wY;have no:=Z dZ;have hdx:decide ((x:Int)<(C.length:Int))=true:=by simp;omega
    clear aB hcop aA he bj dZ wY;go_wp2;clear cP;go_loopw [15,82] (fun v i wr=>∃k:Nat,k≤R.length∧i=.int .i64 k∧Ag 3 Ap (Iv wx.heap.size wr.heap.size) wr v (x2.take k)∧Below wx.heap.size wx wr) (fun _ i _=>R.length-(intOf i).toNat);exact⟨0,A7 _,rfl,by simpa using Ag.nil _ _ _ _,A6 _ _⟩;obtain⟨k,hk,rfl,jN,hbx⟩:=hrel;obtain⟨wk,rfl⟩:∃wk:World,wk=wr:=⟨_,rfl⟩;have bD:=hbx.size;have km:Ag 32 (Ag 3 Ap) (Gap w2.heap.size wi.heap.size wb.heap.size wx.heap.size) wk (.slice (some ⟨G,0,none⟩) R.length cap) g:=(Ab (Ab A8)).same (Ac hbx fun b hb=>hb.1.2) aC.o;have we:=Z km;have Hcol:=Z jN;have fO:=Z hbx;obtain⟨c1,c2,c3,rfl⟩:=jN.shape;by_cases hltk:k<R.length
    ·obtain⟨aD,aj,-⟩:=Hg.o.1.row hltk;obtain⟨q,cq,aH,-,hSq,hqG,dj,eX,l8,-⟩:=AV km aD J;rw[aj]at aH;obtain⟨z,hz⟩:∃z,z=AJ A k x:=⟨_,rfl⟩;have er:AJ g k x=z:=by rw[Hg.o.2 k x hltk hltx,if_neg J,hz]
     have oI:wk.cell? ⟨q,x,none⟩=some (.int .i64 z):=l8 x z (by rw[←er];exact BO 0 J);have ik:Cc z:=by
      obtain⟨-,hl,hb⟩:=rF.o.row hltk;have:=hb z (by rw[hz];exact A4 (BO 0 J));exact Cc.small J J
     have aG:=Z (show x2.take (k+1)=x2.take k++[z]from by
      rw[Ao,no.o,A42 rF.o J hltx hltk,hz];rfl)
     have au:(x2.take k).length<1099511627776:=by rw[At];omega
     have dM:decide ((k:Int)<(R.length:Int))=true:=by simp;omega
     have uD:=Z ik;clear jN hbx km aD aj eX l8 hz er ik dj;go_wp2_with (first|(at_builtin;(refine AH rfl _ _ 32 rfl A8 3 Tryz.underlying32 Bg rfl Jq wx.heap.size wk.heap.size bD (A2 _) rfl rfl (by exact Hcol.o) (by exact⟨rfl,uD.o⟩) au ?_);intro v2 w6 hown6 hbel6 _)|fail);have wg:=Z hown6;have nw:=Z (fO.o.trans hbel6);clear hown6 hbel6 aH oI;go_wp2;go_roundw;exact⟨k+1,J,by go_num,by rw[aG.o];exact wg.o,nw.o⟩;exact Jv
    ·have lU:k=R.length:=J;have wh:=Z (show Ag 3 Ap (Iv wx.heap.size wk.heap.size) wk (.slice c1 c2 c3) x2 from by
      have h:=jN;rw[A9 (by rw[wZ.o];omega)]at h;exact h)
     have wj:=Z (az.o.qaa hbx (A2 _));have dM:decide ((k:Int)<(R.length:Int))=false:=by simp;omega
     clear jN hbx km lU;go_wp2_with fail;refine(P8 _ _ _ _ _ (Huc.o.keep fO.o) wh.o.ints).mono ?_;rintro e w5 ⟨v5,rfl,o5,b5⟩;obtain⟨s1,s2,s3,rfl⟩:=o5.shape;have py:wk.heap.size≤w5.heap.size:=b5.size;have ge:=Z o5;have gd:=Z b5;have nM:=Z (wj.o.qaa b5 (A2 _));clear o5 b5;cases hsol:(BA x1 x2).isSome
     ·have Hn:=Z (show D=none from by rw[HD.o];exact Lf (UE Hp.o (by rw[←HA.o];exact Ue (k:=x) (by rw[hHT.o.1];exact hltx) (by rw[nZ.o];exact hsol))));have bf:=ej.o.qaa nM.o (A2 _);clear hsol;go_wp2;rw[Hn.o]
      go_ret2
      exact⟨_,rfl,Ag.nil _ _ _ _,bf⟩
     ·obtain⟨o,ho⟩:=Option.isSome_iff_exists.1 hsol;have wm:sl C (tr A) x=some o:=nZ.o.trans ho;have gt:o.length=R.length:=by have:=(PR ho).1;rw[this,wZ.o]
      have sB:=ge.o;rw[ho,Option.getD_some]at sB;obtain⟨gL,cL,heL,hgL,-⟩:=sB.qac J;simp only[Value.slice.injEq]at heL;obtain⟨rfl,rfl,rfl⟩:=heL;rw[gt]at sB;have nN:Ag 32 (Ag 3 Ap) (Gap w2.heap.size wi.heap.size wb.heap.size wx.heap.size) w5 (.slice (some ⟨G,0,none⟩) R.length cap) g:=(Ab (Ab A8)).same (Ac gd.o fun b hb=>Aa hb.1.2 bD) we.o;have pu:Ag 32 (Ag 3 Ap) (Iv wi.heap.size wb.heap.size) w5 (.slice p1 p2 p3) m:=Ag.keep (Ab A8) (Ag.keep (Ab A8) kR.o fO.o aM) gd.o (Aj aM bD);have nO:=Z nN;have pw:=Z pu;have iH:=Z sB;have rv:=Z wm;have hol1:o.length≤R.length:=J;have mU:R.length≤o.length:=J;have Hsolv:=Z hsol;clear ho sB nN pu wm ge hsol dM;rw[gt];clear gt;go_wp2;go_loopw [106] (fun i wr=>∃(k:Nat)(g':I),k≤R.length∧i=.int .i64 k∧Hid (Ig C A R.length C.length x k g')∧Ag 32 (Ag 3 Ap) (Gap w2.heap.size wi.heap.size wb.heap.size wx.heap.size) wr (.slice (some ⟨G,0,none⟩) R.length cap) g'∧Ag 32 (Ag 3 Ap) (Iv wi.heap.size wb.heap.size) wr (.slice p1 p2 p3) m∧Ag 3 Ap (Iv wk.heap.size w5.heap.size) wr (.slice (some ⟨gL,0,none⟩) R.length s3) o∧Below w2.heap.size w2 wr∧w5.heap.size≤wr.heap.size) (fun i _=>R.length-(intOf i).toNat);exact⟨0,g,A7 _,rfl,Hg,nO.o,pw.o,iH.o,nM.o,A2 _⟩;clear nO pw iH nM;obtain⟨k,g',hk,rfl,Hg',bI,hcop',hol',hbel',hsz'⟩:=hrel;obtain⟨wl,rfl⟩:∃wl:World,wl=wr:=⟨_,rfl⟩;by_cases hltk:k<R.length
      ·obtain⟨aD,aj,-⟩:=Hg'.o.1.row hltk;obtain⟨q,cq,aH,hGS,hSq,hqG,dj,eX,-,ai⟩:=AV bI aD J;obtain⟨⟨o0,kv⟩,g8⟩:=eX x J;obtain⟨v,hv⟩:∃v,v=o.getD k 0:=⟨_,rfl⟩;have hok:o[k]? =some v:=by rw[hv];exact BO 0 J
       obtain⟨ah,-,hI⟩:=hol'.qaf hok;have sA:v=XJ C A x k:=by unfold XJ;rw[rv.o,hv];rfl
       have lk:=A3Q rv.o k;rw[←sA]at lk;have bq:=Z (ai wl (fun _ _=>rfl) x v J hI);have fr:=Z (Hg'.o.step hltk hltx sA lk.1 lk.2);have be:=Z (hbel'.setCell (p:=⟨q,x,none⟩) hSq.1.1 (.int .i64 v));have kD:=Z (show Ag 32 (Ag 3 Ap) (Iv wi.heap.size wb.heap.size) (wl.setCell ⟨q,x,none⟩ (.int .i64 v)) (.slice p1 p2 p3) m from(Ab (Ab A8)).same (fun b hb=>Below.heap_setCell wl _ _ b (by show b≠q;exact fun h=>hSq.2 (h▸hb))) hcop');have dB:=Z (show Ag 3 Ap (Iv wk.heap.size w5.heap.size) (wl.setCell ⟨q,x,none⟩ (.int .i64 v)) (.slice (some ⟨gL,0,none⟩) R.length s3) o from(Ab A8).same (fun b hb=>Below.heap_setCell wl _ _ b (by show b≠q;have h1:=hSq.1.2;have h2:=hb.1;omega)) hol');rw[aj]at aH;have dM:decide ((k:Int)<(R.length:Int))=true:=by simp;omega
       clear bI hcop' hol' hbel' aD aj eX ai hv hok sA lk dj Hg' hI;go_wp2
       go_region
       all_goals go_wp2
       all_goals go_roundw
       all_goals first
        |(case measure=>exact Jv)
        |(case rel=>exact⟨k+1,_,J,by go_num,fr,by exact bq.o,by exact kD.o,by exact dB.o,by first|exact be.o|exact be.o.drew|exact be.o.drewN 1|exact⟨be.o.os,be.o.tape,be.o.output,be.o.size,be.o.block⟩,by first|(rw[As];exact hsz')|exact hsz'|(simp;exact hsz')⟩)
      ·have lU:k=R.length:=J;have fr:=Z (show Ig C A R.length C.length (x+1) 0 g' from by have:=Hg'.o;rw[lU]at this;exact this.next);have dM:decide ((k:Int)<(R.length:Int))=false:=by simp;omega
       have l9:wx.heap.size≤wl.heap.size:=J;have fB:=Z ((Ab (Ab A8)).mono (XZ l9) bI);have wn:=Z hcop';have wq:=Z hbel';clear bI hcop' hol' hbel' lU;go_wp2;go_roundw
       case rel=>
        refine⟨x+1,g',J,by go_num,fr,fun j hj=>?_,fB.o,wn.o,wq.o,J⟩;by_cases hjx:j<x
        ·exact aT.o j hjx
        ·obtain rfl:j=x:=J;rw[rv.o];rfl
       case measure=>exact Jv
   ·have xv:x=C.length:=J;have jj:D3 C (tr A)=true:=SI fun j hj=>aT.o j (by rw[hHT.o.1]at hj;omega);have yN:g=tr (ES C (tr A)):=by have:=Hg.o;rw[xv]at this;exact this.done J J rF.o jj
    have Hs:=Z (show Ip R C m=some g from by rw[yN,HA.o];exact V6 Hp.o (by rw[←HA.o];exact jj));have hdx:decide ((x:Int)<(C.length:Int))=false:=by simp;omega
    clear aB hcop aA xv jj yN;go_wp2_with fail;refine(Nb _ _ m g _ kR.o.qag aC.o.qag).mono ?_;rintro e w11 ⟨rfl,b11⟩;have ug:wx.heap.size≤w11.heap.size:=b11.size;have gJ:=Z (az.o.qaa b11 (A2 _));have i8:=Z (show Ag 32 (Ag 3 Ap) (Iv w2.heap.size w11.heap.size) w11 (.slice (some ⟨G,0,none⟩) R.length cap) g from(Ab (Ab A8)).mono (fun b hb=>⟨hb.1.1,Aa hb.1.2 ug⟩) ((Ab (Ab A8)).same (Ac b11 fun b hb=>hb.1.2) aC.o));by_cases he:m=g
    ·have Hn:=Z (show D=some g from by rw[HD.o,←he];exact Rl (by rw[Hs.o,←he]));rw[decide_eq_true he];have bf:=ej.o.qaa gJ.o (A2 _);clear he b11;go_wp2;rw[Hn.o]
     go_ret2
     exact⟨_,rfl,(Ab (Ab A8)).mono (fun b hb=>⟨by have:=hb.1;omega,by have:=hb.2;omega⟩) i8.o,bf⟩
    ·obtain⟨k',kI,hu',hd',ht'⟩:=Sd J J Hm.o Hu.o Hs.o (fun h=>he h.symm);have Hu':=Z hu';have Hd':=Z (HD.o.trans hd');have Ht':=Z ht';rw[decide_eq_false he];clear he hd' hu' ht' b11;go_wp2
     go_roundg k'
     case measure=>exact kI
     case rel=>exact⟨g,Ht',Hu',Hd',i8.o,gJ.o⟩
def D4(R C:I):Bool:=match Gr R C with|none=>false|some m=>AC m
theorem XT{R C m:I}(h:Gr R C=some m):CO R.length C.length m∧1≤R.length∧R.length≤5∧1≤C.length∧C.length≤5:=by
 cases hok:Bv R C
 ·rw[KB hok]at h;cases h
 ·rw[Oc hok]at h;obtain⟨h1,h2,h3,h4⟩:=FO hok;exact⟨YV h1 h3 _ _ _ (H0 _ _) h,h1,h2,h3,h4⟩
theorem Ze{m:I}{r c:Nat}(h:CO r c m)(h1:1≤r)(h2:r≤5)(h3:1≤c)(h4:c≤5):AC m=m.all fun row=>!row.any fun x=>x==-1:=by
 cases hb:m.all fun row=>!row.any fun x=>x==-1
 ·rw[←Bool.not_eq_true]at hb⊢;intro hok;apply hb;obtain⟨r',c',-,-,-,-,hs⟩:=Az hok;rw[Ar];intro row aD;rw[Bool.not_eq_true',←Bool.not_eq_true];intro ha;obtain⟨x,hx,he⟩:=List.any_eq_true.1 ha;rw[beq_iff_eq]at he;have:=(hs.2 row aD).2 x hx;omega
 ·refine Ax.ok (r:=r) (c:=c) ⟨h.1,fun row aD=>?_⟩ h1 h2 h3 h4;obtain⟨e1,e2⟩:=h.2 row aD;refine⟨e1,fun x hx=>?_⟩;have h5:=Ar.1 hb row aD;have h6:x≠-1:=by
   intro he;rw[Bool.not_eq_true',←Bool.not_eq_true]at h5;exact h5 (List.any_eq_true.2 ⟨x,hx,by rw[he];rfl⟩)
  have:=e2 x hx;omega
theorem QG(a b:Value)(R C:I)(w:World)(h1:AI w a R)(h2:AI w b C)(fJ:∀r∈R,r.length≤1048576)(jT:∀r∈C,r.length≤1048576):
  Calls Tryz.prog 118 #[.agg #[a,b]] w fun e w'=>e=.returned (.bool (D4 R C))∧Below w.heap.size w w':=by
 have e8:=Z fJ;have nE:=Z jT;obtain⟨aa,ca,rfl,-⟩:=id h1;obtain⟨ab,cb,rfl,-⟩:=id h2;obtain⟨W1,hW1⟩:∃W1,W1=w.alloc (.cells #[.slice aa R.length ca,.slice ab C.length cb] 85):=⟨_,rfl⟩;have dV:Below w.heap.size w W1:=by rw[hW1];exact Below.qab _ _
 have G1:=Z (h1.keep dV);have G2:=Z (h2.keep dV);have cN:=Z dV;clear h1 h2 fJ jT dV;go_enter Tryz.func118,Tryz.ntmps118;subst hW1;go_wp2_with fail;refine(A32 _ _ R C _ G1.o G2.o e8.o nE.o).mono ?_;rintro e w2 ⟨v2,rfl,o2,b2⟩;obtain⟨p1,p2,p3,rfl⟩:=o2.shape;have be:=Z (cN.o.qaa b2 (A2 _));have fr:=Z o2.qag;clear o2 b2;cases hd:Gr R C with
 |none=>
  have Hr:=Z (show D4 R C=false from by unfold D4;rw[hd]);clear hd;go_wp2
  go_ret
  exact⟨AW Hr.o.symm,be.o⟩
 |some m=>
  have Hr:=Z (show D4 R C=AC m from by unfold D4;rw[hd]);have hg:=fr.o;rw[hd]at hg;have Hg:=Z (show AI w2 (.slice p1 p2 p3) m from hg);clear hd hg;go_wp2_with fail;refine(B8 _ _ _ Hg.o).mono ?_;rintro e w' ⟨rfl,rfl⟩;go_wp2
  go_ret
  exact⟨AW Hr.o.symm,be.o⟩
theorem A2X(v:Value)(xs:U)(n:Int)(w:World)(hv:Au w v xs):Calls Tryz.prog 270 #[v,.int .i64 n] w fun e w'=>e=.returned (.bool (xs.any fun x=>x==n))∧w=w':=by
 have Hv:=Z hv;obtain⟨a,cap,rfl,-,cJ,-⟩:=hv;go_enter Tryz.func270,Tryz.ntmps270;go_wp2;go_loop [9] (fun i=>∃k:Nat,k≤xs.length∧i=.int .i64 k∧Hid (∀j,j<k→(xs.getD j 0==n)=false)) (fun i=>xs.length-(intOf i).toNat);exact⟨0,A7 _,rfl,fun j hj=>by omega⟩;obtain⟨k,hk,rfl,aT⟩:=hrel;by_cases aF:k<xs.length
 ·obtain⟨b,off,cpr,he,hb,-⟩:=Hv.o.qac J;obtain⟨rfl,-⟩:a=some ⟨b,off,none⟩∧cap=cpr:=by simpa using he
  have fK:=Au.at Hv.o (BO 0 aF);obtain⟨x,hx⟩:∃x,x=xs.getD k 0:=⟨_,rfl⟩;rw[←hx]at fK;have Hx:=Z hx;clear he hx;cases hc:(x==n)
  ·have Hc:=Z hc;go_wp2
   go_round
   case rel=>
    refine⟨k+1,J,by go_num,fun j hj=>?_⟩;by_cases kL:j<k
    ·exact aT.o j kL
    ·obtain rfl:j=k:=J;rw[←Hx.o];exact Hc.o
   case measure=>exact Jv
  ·have Hr:=Z (show(xs.any fun x=>x==n)=true from List.any_eq_true.2 ⟨x,by rw[Hx.o];exact A4 (BO 0 aF),hc⟩);go_wp2
   go_ret
   exact⟨AW Hr.o.symm,rfl⟩
 ·have Hr:=Z (show(xs.any fun x=>x==n)=false from by
   rw[←Bool.not_eq_true];intro h;obtain⟨x,hx,he⟩:=List.any_eq_true.1 h;obtain⟨j,hj⟩:=List.getElem?_of_mem hx;have gY:=(A5.1 hj).1;have:=aT.o j J;rw[B7 hj,he]at this;cases this)
  go_wp2
  go_ret
  exact⟨AW Hr.o.symm,rfl⟩
theorem Qb(a b:Value)(R C:I)(w:World)(h1:AI w a R)(h2:AI w b C):
  Calls Tryz.prog 200 #[.agg #[a,b]] w fun e w'=>e=.returned (.bool (D4 R C))∧Below w.heap.size w w':=by
 obtain⟨aa,ca,rfl,-⟩:=id h1;obtain⟨ab,cb,rfl,-⟩:=id h2;obtain⟨W1,hW1⟩:∃W1,W1=w.alloc (.cells #[.slice aa R.length ca,.slice ab C.length cb] 85):=⟨_,rfl⟩;have dV:Below w.heap.size w W1:=by rw[hW1];exact Below.qab _ _
 have G1:=Z (h1.keep dV);have G2:=Z (h2.keep dV);have cN:=Z dV;clear h1 h2 dV;go_enter Tryz.func200,Tryz.ntmps200;subst hW1;go_wp2_with fail;refine(A33 _ _ R C _ G1.o G2.o).mono ?_;rintro e w2 ⟨v2,rfl,o2,b2⟩;have be:=Z (cN.o.qaa b2 (A2 _));have fr:=Z o2.qag;obtain⟨p1,p2,p3,an⟩:=o2.shape;clear b2 o2;cases hd:Gr R C with
 |none=>
  have Hr:=Z (show D4 R C=false from by unfold D4;rw[hd]);subst an;clear hd;go_wp2
  go_ret
  exact⟨AW Hr.o.symm,be.o⟩
 |some m=>
  obtain⟨hT,e1,e2,e3,e4⟩:=XT hd;have Hr:=Z (show D4 R C=m.all fun row=>!row.any fun x=>x==-1 from by unfold D4;rw[hd];exact Ze hT e1 e2 e3 e4);have hg:=fr.o;rw[hd]at hg;have Hg:=Z (show AI w2 v2 m from hg);obtain⟨am,cm,rfl,-,hlem,-⟩:=id Hg.o;clear hd hg an fr hT;go_wp2;go_loop [16] (fun i=>∃k:Nat,k≤m.length∧i=.int .i64 k∧Hid (∀j,j<k→((m.getD j []).any fun x=>x==-1)=false)) (fun i=>m.length-(intOf i).toNat);exact⟨0,A7 _,rfl,fun j hj=>by omega⟩;obtain⟨k,hk,rfl,aT⟩:=hrel;by_cases aF:k<m.length
  ·obtain⟨b,off,cpr,he,hb,-⟩:=Hg.o.qac J;obtain⟨rfl,-⟩:am=some ⟨b,off,none⟩∧cm=cpr:=by simpa using he
   obtain⟨u,aW,hu⟩:=Sl.at Hg.o (BO [] aF);have hu:Au w2 u (m.getD k []):=hu;obtain⟨row,aD⟩:∃row,row=m.getD k []:=⟨_,rfl⟩;rw[←aD]at hu;obtain⟨q1,q2,rfl,-⟩:=id hu;have Hu:=Z hu;have da:=Z aD;clear he hu aD;go_wp2_with fail;refine(A2X _ _ _ _ Hu.o).mono ?_;rintro e w' ⟨rfl,rfl⟩;cases hc:row.any fun x=>x==-1
   ·have Hc:=Z hc;go_wp2
    go_round
    case rel=>
     refine⟨k+1,J,by go_num,fun j hj=>?_⟩;by_cases kL:j<k
     ·exact aT.o j kL
     ·obtain rfl:j=k:=J;rw[←da.o];exact Hc.o
    case measure=>exact Jv
   ·have dh:=Z (show D4 R C=false from by
     rw[Hr.o,←Bool.not_eq_true];intro h;have:=Ar.1 h _ (A4 (BO [] aF));rw[←da.o,hc]at this;cases this)
    go_wp2
    go_ret
    exact⟨AW dh.o.symm,be.o⟩
  ·have dh:=Z (show D4 R C=true from by
    rw[Hr.o,Ar];intro row aD;obtain⟨j,hj⟩:=List.getElem?_of_mem aD;have gY:=(A5.1 hj).1;have:=aT.o j J;rw[B7 hj]at this;rw[this];rfl)
   go_wp2
   go_ret
   exact⟨AW dh.o.symm,be.o⟩
