/- FnConsole: the walk of the law. -/
import Derived.Test.YthmocomfjgmjoaaGreatDoorKZr
import Derived.Test.YthmocomfjgmjoaaGreatDoorKDl
set_option maxHeartbeats 4000000
set_option maxRecDepth 100000
namespace Go.Proofs.YthmocomfjgmjoaaGreatDoor
open Go.RowKit
theorem A0h{s:ByteArray}(h:s∈L0):(CJ Ka s).2≠ByteArray.empty:=by
 have key:∀(s t:ByteArray),AH s=false→Ae s 32=[Ca,t]→B4 t=true→(CJ Ka s).2≠ByteArray.empty:=by
  intro s t h1 h2 h3;rw[FSa h1 h2 (by simp),Ew (by decide+kernel),if_pos h3];unfold CL;rw[if_pos rfl];show okB≠ByteArray.empty;decide+kernel
 unfold L0 at h;simp only[List.mem_cons,List.not_mem_nil,or_false] at h;rcases h with rfl|rfl|rfl|rfl
 ·exact key _ ⟨#[35,46,47,46,35]⟩ (by rfl) (by decide+kernel) (by decide+kernel)
 ·exact key _ ⟨#[35,35,46,47,46,35,35,47,35,46,46]⟩ (by rfl) (by decide+kernel) (by decide+kernel)
 ·exact key _ ⟨#[46,35,46,47,35,35,35,47,46,35,46]⟩ (by rfl) (by decide+kernel) (by decide+kernel)
 ·exact key _ ⟨#[35,46,35,47,46,35,46]⟩ (by rfl) (by decide+kernel) (by decide+kernel)
theorem Y4{v:Value}{bs:List Int}{w:World}(hv:Qa w v bs)(ht:Bg w):
  Calls Tryz.prog 4 #[v] w fun e w'=>e=.returned (.bool true)∧Below w.heap.size w w':=by
 obtain⟨a,cap,rfl,-,-,-,-⟩:=id hv;rcases Nat.lt_or_ge 1048576 bs.length with h1|h1
 ·go_enter Tryz.func4,Tryz.ntmps4;go_wp2
  go_ret
  exact⟨rfl,Below.refl _ _⟩
 have mQ:decide ((1048576:Int)<(bs.length:Int))=false:=by simp;omega
 have Ht:=Z ht;clear ht;go_enter Tryz.func4,Tryz.ntmps4;go_wp2_with (fail);refine(X4 _ bs w hv).mono ?_;rintro e w1 ⟨vl,s0,rest,rfl,ce,hl8,hnice,ol,y1⟩;obtain⟨ls,db⟩:∃ls,s0::rest=ls:=⟨_,rfl⟩;have ji:∀t∈ls,Ev t:=by rw[←db];intro t ht;rcases List.mem_cons.1 ht with rfl|ht;exact A0q _ ce;exact hnice t ht
 have ox:ls.length≤40:=by rw[←db,List.length_cons];omega
 have bF:1≤ls.length:=by rw[←db,List.length_cons];omega
 have HP:=Z (show 0<(DS ls).2.size from by rw[←db];exact A3l (A0h ce));rw[db] at ol;have HS:=Z (show ∀x∈ls,x.size≤1048576 from fun x hx=>by have:=(ji x hx).1;omega);have HN:=Z (show ∀x∈ls,(10:UInt8)∉x.data.toList from fun x hx=>(ji x hx).2);have HB:=Z (show Dt ⟨#[10]⟩ ls≤1048576 from by
  have h:=OD ⟨#[10]⟩ (xs:=ls) (m:=100) (fun x hx=>(ji x hx).1);have e:(⟨#[10]⟩:ByteArray).size=1:=rfl;rw[e] at h;omega)
 have HL:=Z ol.strs;obtain⟨a0,cap0,rfl,-⟩:=id ol.strs;clear ol hnice ji db ce hv hl8;go_wp2_with (fail);refine(NewConsole_impl.NewConsole _).mono ?_;rintro e w2 ⟨va,vb,vc,rfl,o2,y2⟩;replace o2:Cj (Iv w1.heap.size w2.heap.size) w2 va vb vc Ka:=o2;obtain⟨⟨p1,p2,p3,rfl⟩,⟨q1,q2,q3,rfl⟩,⟨r1,r2,r3,rfl⟩⟩:=o2.rd.shape;have HY:=Z (y1.trans_pure y2 (Nat.le_refl _));have oy:=Z y2;clear y1 y2;have j5:=Z (PU.start ls o2);have er:=Z (Below.pureAlloc w2 (.cells #[.slice p1 p2 p3,.slice q1 q2 q3,.slice r1 r2 r3] 34));clear o2;go_wp2;go_loopw [5,7,8,9,20] (fun o _ _ _ i wr=>∃(j:Nat)(O:ByteArray)(a b c:Value)(k:B9),j≤ls.length∧i=.int .i64 j∧o=.string O∧Hid (PU ls w2.heap.size wr a b c j O k)∧Hid (Below w2.heap.size w2 wr)) (fun _ _ _ _ i _=>ls.length-(intOf i).toNat)
 case atStart=>exact⟨0,ByteArray.empty,_,_,_,Ka,Nat.zero_le _,rfl,rfl,j5,er⟩
 case round=>
  clear j5 er;obtain⟨j,O,a,b,c,k,hj,rfl,rfl,bB,aA⟩:=hrel;obtain⟨wo,rfl⟩:∃wo:World,wo=wr:=⟨_,rfl⟩;obtain⟨⟨a1,a2,a3,rfl⟩,⟨b1,b2,b3,rfl⟩,⟨d1,d2,d3,rfl⟩⟩:=bB.o.st.own.rd.shape;by_cases aH:j<ls.length
  ·obtain⟨s,hq⟩:∃s,ls[j]? =some s:=⟨_,List.getElem?_eq_getElem aH⟩;obtain⟨gl,off,cc,he,ai,ct⟩:=HL.o.inv_ne (by omega);obtain⟨rfl,rfl⟩:a0=some ⟨gl,off,none⟩∧cap0=cc:=by simpa using he
   obtain⟨u,aQ,rfl,-⟩:=Sl.at HL.o hq;have lN:gl<w2.heap.size:=by have:=oy.o.size;omega
   rw[←oy.o.cell (p:=⟨gl,off+j,none⟩) ai,←aA.o.cell (p:=⟨gl,off+j,none⟩) lN] at aQ;have gS:=HS.o s (List.mem_of_getElem? hq);have gC:=bB.o.so;have un:j<40:=by omega
   obtain⟨k',T,aw⟩:∃k' T,CJ k s=(k',T):=⟨_,_,rfl⟩;have lB:=A48 bB.o.sk gS;rw[aw] at lB;have aI:=A43 (O:=O) (T:=T) (by omega) lB.2;have Hq:=Z hq;have gJ:=Z aw;have pl:=Z lB;have lU:=Z gS;obtain⟨k0,k1,k2⟩:=bB.o.st.blk.c3;clear hq aw lB gS he;go_wp2_with (fail);refine(U5 _ _ _ k s _ bB.o.st.own.rd bB.o.sk.sz (Ht.o.keep (HY.o.trans_pure aA.o (Nat.le_refl _))) lU.o).mono ?_;rw[gJ.o];rintro e w5 ⟨a',b',c',rfl,o5,y5⟩;obtain⟨⟨u1,u2,u3,rfl⟩,⟨v1,v2,v3,rfl⟩,⟨z1,z2,z3,rfl⟩⟩:=o5.rd.shape;have aJ:=Z (bB.o.st.next y5 o5);have pm:=Z (bB.o.st.below (B:=w2.heap.size) (a':=.slice u1 u2 u3) (b':=.slice v1 v2 v3) (c':=.slice z1 z2 z3) (Nat.le_refl _) aA.o y5);have i6:=(bB.o.st.blk.keep y5);obtain⟨k0,k1,k2⟩:=i6.c3;have uo:w2.heap.size<w5.heap.size:=i6.lt;have h0w:=i6.frozen 0;have h1w:=i6.frozen 1;have h2w:=i6.frozen 2;obtain⟨zo,zt,ztn,zotn,zot,zotn2⟩:=aI;clear o5 i6;by_cases hT:T=ByteArray.empty
   ·have Hn:=Z (P9 Hq.o bB.o.at_ gJ.o hT);subst hT;go_wp2;go_roundw
    case rel=>exact⟨j+1,O,_,_,_,k',by omega,by go_num,rfl,Z ⟨aJ.o,Hn.o,pl.o.1,by omega⟩,pm⟩
    case measure=>simp[intOf];omega
   ·have Hn:=Z (Pc Hq.o bB.o.at_ gJ.o hT);have hTe:=C7 hT;have zs:(O++T++⟨#[10]⟩:ByteArray).size≤4398046511104*(j+1:Nat):=by
     have e:(⟨#[10]⟩:ByteArray).size=1:=rfl;simp only[Au,e];omega
    have Zs:=Z zs;clear hT zs;go_wp2;go_roundw
    case rel=>exact⟨j+1,O++T++⟨#[10]⟩,_,_,_,k',by omega,by go_num,rfl,Z ⟨aJ.o,Hn.o,pl.o.1,Zs.o⟩,pm⟩
    case measure=>simp[intOf];omega
  ·have gC:j=ls.length:=by omega
   have ek:=Z (show DS ls=(k,O) from by have h:=bB.o.at_;rwa[gC,List.take_length] at h);have HO:=Z (show O.size≤175921860444160 from by have:=bB.o.so;omega);have hOne:O.toList.isEmpty=false:=C7 (by intro e;have:=HP.o;rw[ek.o,e] at this;simp at this);have iT:=HY.o.trans_pure aA.o (Nat.le_refl _);obtain⟨e1,e2,e3⟩:=YX (ls:=ls) (by intro e;rw[e] at bF;simp at bF) ox HN.o;obtain⟨r,hr⟩:∃r,Eb (BK ⟨#[10]⟩ ls)=r:=⟨_,rfl⟩;rw[hr,ek.o] at e1;rw[hr] at e2 e3;obtain⟨r1',r2'⟩:=r;replace e1:r1'=O:=e1;subst e1;replace e2:(ls.length:Int)-1≤r2':=e2;replace e3:r2'≤(ls.length:Int):=e3;have Hr:=Z hr;have bV:=Z (show(BK ⟨#[10]⟩ ls).size≤1048576 from Nat.le_trans (DP _ _) HB.o);have HLw:=Z ((HL.o.keep (BY C1) oy.o).keep (BY C1) aA.o);have g1:decide ((ls.length:Int)-1≤r2')=true:=by simp;omega
   have g2:decide (r2'≤(ls.length:Int))=true:=by simp;omega
   have gb:=HB.o;clear hr mQ;go_wp2_with (first
    |(go_at_call 14;refine(PC _ ls _ _ HLw.o (by omega) (by omega)).mono ?_;rintro e w6 ⟨rfl,y6⟩)
    |(go_at_call 9;refine(Kc _ _ (Ht.o.keep (iT.trans_pure y6 (Nat.le_refl _))) bV.o).mono ?_;rw[Hr.o];rintro e w7 ⟨rfl,y7⟩)
    |fail)
   go_wp2
   go_ret
   exact⟨rfl,(iT.trans_pure y6 (Nat.le_refl _)).trans_pure y7 (Nat.le_refl _)⟩
