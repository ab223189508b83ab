/- Contract: RunSession of the program. -/
import Derived.Test.YthmocomfjgmjoaaGreatDoorKZ1
set_option maxHeartbeats 4000000
set_option maxRecDepth 100000
namespace Go.Proofs.YthmocomfjgmjoaaGreatDoor
open Go.RowKit
theorem Kc(s:ByteArray)(w:World)(ht:Bg w)(hs:s.size≤1048576):Calls Tryz.prog 9 #[.string s] w fun e w'=>e=.returned (.tuple #[.string (Eb s).1,.int .i64 (Eb s).2])∧Below w.heap.size w w':=by
 have fp:=Qk s;obtain⟨r,hr⟩:∃r,Eb s=r:=⟨_,rfl⟩;rw[hr];have Hr:=Z hr;have Ht:=Z ht;clear hr ht;go_enter Tryz.func9,Tryz.ntmps9;go_wp2_with (fail);refine(KL s _ hs).mono ?_;rintro e w1 ⟨vl,rfl,ol,y1⟩;obtain⟨ls,db⟩:∃ls,Dd s=ls:=⟨_,rfl⟩;rw[db] at fp ol;have HS:=Z (show ∀x∈ls,x.size≤1048576 from fun x hx=>Nat.le_trans (fp x hx) hs);have dX:ls.length≤1048577:=by have:=Sh s;rw[db] at this;omega
 clear fp;have HL:=Z ol;obtain⟨a0,cap0,rfl,-⟩:=id ol;clear ol;by_cases h40':40<ls.length
 ·have ox:¬ls.length≤40:=by omega
  have Hf:=Z (show r=(ByteArray.empty,-1) from by rw[←Hr.o];unfold Eb;rw[db,if_neg ox]);have hd:decide ((40:Int)<(ls.length:Int))=true:=by simp;omega
  clear db;go_wp2;refine bodyPost_ret (v:=.tuple #[.string ByteArray.empty,.int .i64 (-1)]) (by simp[results,Tryz.results9,go_sem];rfl) rfl ⟨?_,y1⟩;rw[Hf.o]
 have ox:ls.length≤40:=by omega
 have Hf:=Z (show r=((DS ls).2,(ls.length:Int)) from by rw[←Hr.o];unfold Eb;rw[db,if_pos ox]);have hd:decide ((40:Int)<(ls.length:Int))=false:=by simp;omega
 clear db;go_wp2_with (fail);refine(NewConsole_impl.NewConsole _).mono ?_;rintro e w2 ⟨va,vb,vc,rfl,o2,y2⟩;replace o2:Cj (Iv w1.heap.size w2.heap.size) w2 va vb vc Ka:=o2;obtain⟨⟨p1,p2,p3,rfl⟩,⟨q1,q2,q3,rfl⟩,⟨r1,r2,r3,rfl⟩⟩:=o2.rd.shape;have HY:=Z (y1.trans_pure y2 (Nat.le_refl _));have oy:=Z y2;clear y1 y2;have j5:=Z (PU.start ls o2);have er:=Z (Below.pureAlloc w2 (.cells #[.slice p1 p2 p3,.slice q1 q2 q3,.slice r1 r2 r3] 34));clear o2;go_wp2;go_loopw [6,8,9,10,19] (fun o _ _ _ i wr=>∃(j:Nat)(O:ByteArray)(a b c:Value)(k:B9),j≤ls.length∧i=.int .i64 j∧o=.string O∧Hid (PU ls w2.heap.size wr a b c j O k)∧Hid (Below w2.heap.size w2 wr)) (fun _ _ _ _ i _=>ls.length-(intOf i).toNat)
 case atStart=>exact⟨0,ByteArray.empty,_,_,_,Ka,Nat.zero_le _,rfl,rfl,j5,er⟩
 case round=>
  clear j5 er;obtain⟨j,O,a,b,c,k,hj,rfl,rfl,bB,aA⟩:=hrel;obtain⟨wo,rfl⟩:∃wo:World,wo=wr:=⟨_,rfl⟩;obtain⟨⟨a1,a2,a3,rfl⟩,⟨b1,b2,b3,rfl⟩,⟨d1,d2,d3,rfl⟩⟩:=bB.o.st.own.rd.shape;by_cases aH:j<ls.length
  ·obtain⟨s,hq⟩:∃s,ls[j]? =some s:=⟨_,List.getElem?_eq_getElem aH⟩;obtain⟨gl,off,cc,he,ai,ct⟩:=HL.o.inv_ne (by omega);obtain⟨rfl,rfl⟩:a0=some ⟨gl,off,none⟩∧cap0=cc:=by simpa using he
   obtain⟨u,aQ,rfl,-⟩:=Sl.at HL.o hq;have lN:gl<w2.heap.size:=by have:=oy.o.size;omega
   rw[←oy.o.cell (p:=⟨gl,off+j,none⟩) ai,←aA.o.cell (p:=⟨gl,off+j,none⟩) lN] at aQ;have gS:=HS.o s (List.mem_of_getElem? hq);have gC:=bB.o.so;have un:j<40:=by omega
   obtain⟨k',T,aw⟩:∃k' T,CJ k s=(k',T):=⟨_,_,rfl⟩;have lB:=A48 bB.o.sk gS;rw[aw] at lB;have aI:=A43 (O:=O) (T:=T) (by omega) lB.2;have Hq:=Z hq;have gJ:=Z aw;have pl:=Z lB;have lU:=Z gS;obtain⟨k0,k1,k2⟩:=bB.o.st.blk.c3;clear hq aw lB gS he;go_wp2_with (fail);refine(U5 _ _ _ k s _ bB.o.st.own.rd bB.o.sk.sz (Ht.o.keep (HY.o.trans_pure aA.o (Nat.le_refl _))) lU.o).mono ?_;rw[gJ.o];rintro e w5 ⟨a',b',c',rfl,o5,y5⟩;obtain⟨⟨u1,u2,u3,rfl⟩,⟨v1,v2,v3,rfl⟩,⟨z1,z2,z3,rfl⟩⟩:=o5.rd.shape;have aJ:=Z (bB.o.st.next y5 o5);have pm:=Z (bB.o.st.below (B:=w2.heap.size) (a':=.slice u1 u2 u3) (b':=.slice v1 v2 v3) (c':=.slice z1 z2 z3) (Nat.le_refl _) aA.o y5);have i6:=(bB.o.st.blk.keep y5);obtain⟨k0,k1,k2⟩:=i6.c3;have uo:w2.heap.size<w5.heap.size:=i6.lt;have h0w:=i6.frozen 0;have h1w:=i6.frozen 1;have h2w:=i6.frozen 2;obtain⟨zo,zt,ztn,zotn,zot,zotn2⟩:=aI;clear o5 i6;by_cases hT:T=ByteArray.empty
   ·have Hn:=Z (P9 Hq.o bB.o.at_ gJ.o hT);subst hT;go_wp2;go_roundw
    case rel=>exact⟨j+1,O,_,_,_,k',by omega,by go_num,rfl,Z ⟨aJ.o,Hn.o,pl.o.1,by omega⟩,pm⟩
    case measure=>simp[intOf];omega
   ·have Hn:=Z (Pc Hq.o bB.o.at_ gJ.o hT);have hTe:=C7 hT;have zs:(O++T++⟨#[10]⟩:ByteArray).size≤4398046511104*(j+1:Nat):=by
     have e:(⟨#[10]⟩:ByteArray).size=1:=rfl;simp only[Au,e];omega
    have Zs:=Z zs;clear hT zs;go_wp2;go_roundw
    case rel=>exact⟨j+1,O++T++⟨#[10]⟩,_,_,_,k',by omega,by go_num,by rw[SP],Z ⟨aJ.o,Hn.o,pl.o.1,Zs.o⟩,pm⟩
    case measure=>simp[intOf];omega
  ·have gC:j=ls.length:=by omega
   have ek:=Z (show DS ls=(k,O) from by have h:=bB.o.at_;rwa[gC,List.take_length] at h);have HO:=Z (show O.size≤175921860444160 from by have:=bB.o.so;omega);go_wp2;refine bodyPost_ret (v:=.tuple #[.string O,.int .i64 ls.length]) (by simp[results,Tryz.results9,go_sem]) rfl ⟨?_,HY.o.trans_pure aA.o (Nat.le_refl _)⟩;rw[Hf.o,ek.o]
