/- Base. -/
import Derived.Test.YthmocomfjgmjoaaGreatDoorQ06
import Derived.Test.YthmocomfjgmjoaaGreatDoorQ09
import Derived.Test.YthmocomfjgmjoaaGreatDoorQ10
set_option maxHeartbeats 3200000
set_option maxRecDepth 100000
namespace Go.Proofs.YthmocomfjgmjoaaGreatDoor
open Go.RowKit
def MQ(v:Int):U→Nat→Int
 |[],_=> -1
 |a::l,k=>if v=a then(k:Int)else MQ v l (k+1)
def idx(v:Int)(l:U):Int:=MQ v l 0
theorem V9{v:Int}{l:U}{k:Nat}{x:Int}(h:l[k]? =some x):MQ v (l.drop k) k=if v=x then(k:Int)else MQ v (l.drop (k+1)) (k+1):=by
 obtain⟨h1,rfl⟩:=A5.1 h;rw[List.drop_eq_getElem_cons h1];rfl
def Iz(row:U):Int:=max 0 (idx 1 row)
def Im(row:U):U:=(row.drop (Iz row).toNat).take (AP row).toNat
def BZ(row:U):Bool:=row.all (C1 0 1)&&decide (AP (Im row)=AP row)
theorem A3p(v:Value)(xs:U)(n:Int)(w:World)(hv:Au w v xs):Calls Tryz.prog 288 #[v,.int .i64 n] w fun e w'=>e=.returned (.int .i64 (idx n xs))∧w=w':=by
 have Hv:=Z hv;obtain⟨a,cap,rfl,-,cJ,-⟩:=hv;go_enter Tryz.func288,Tryz.ntmps288;go_wp2;go_loop [5,8] (fun _ i=>∃k:Nat,k≤xs.length∧i=.int .i64 k∧MQ n (xs.drop k) k=idx n xs) (fun _ i=>xs.length-(intOf i).toNat);exact⟨0,A7 _,rfl,rfl⟩;obtain⟨k,hk,rfl,hi⟩:=hrel;have Hi:=Z hi;clear hi;by_cases aF:k<xs.length
 ·obtain⟨x,hx⟩:∃x,xs[k]? =some x:=⟨_,A3 aF⟩;obtain⟨b,off,cpr,he,hb,-⟩:=Hv.o.qac J;obtain⟨rfl,-⟩:a=some ⟨b,off,none⟩∧cap=cpr:=by simpa using he
  have fK:=Au.at Hv.o hx;have aG:=Z (V9 (v:=n) hx);clear hx he;by_cases hnx:n=x
  ·subst hnx;have Hr:=Z (show idx n xs=k from by rw[←Hi.o,aG.o,if_pos rfl]);go_wp2
   go_ret
   exact⟨CY Hr.o.symm,rfl⟩
  ·have aK:(n==x)=false:=by simpa using hnx
   have Hr:=Z (show MQ n (xs.drop (k+1)) (k+1)=idx n xs from by rw[←Hi.o,aG.o,if_neg hnx]);go_wp2
   go_round
   exact⟨k+1,J,by go_num,Hr.o⟩;exact Jv
 ·have Hr:=Z (show idx n xs=-1 from by rw[←Hi.o,List.drop_of_length_le J];rfl);go_wp2
  go_ret
  exact⟨CY Hr.o.symm,rfl⟩
end Go.Proofs.YthmocomfjgmjoaaGreatDoor
namespace Go.Proofs.YthmocomfjgmjoaaGreatDoor
def T0(row:U):Bool:=
 decide (0≤Iz row)&&decide (Iz row+AP row≤row.length)&&decide (0≤AP row)&&(BZ row==decide ((C3 row).length≤1))&&
  (!BZ row||decide (AP row=AP (C3 row)))&&(!BZ row||decide (AP row≤0)||(decide (Iz row<row.length)&&decide (row.getD (Iz row).toNat 0=1)))&&
  (decide (row.length=0)||decide (Iz row<row.length))
theorem A2q:((List.range 6).all fun n=>(List.range (2^n)).all fun key=>T0 (B6 n key))=true:=by decide+kernel
theorem A0H{row:U}(hl:row.length≤5)(hb:∀x∈row,0≤x∧x≤1):T0 row=true:=by
 obtain⟨h1,h2⟩:=WV row hb;have h:=A2q;rw[Ar]at h;have h3:=h row.length (AG.2 J);rw[Ar]at h3;have h4:=h3 (Dz row) (AG.2 h1);rwa[h2]at h4
end Go.Proofs.YthmocomfjgmjoaaGreatDoor
namespace Go.Proofs.YthmocomfjgmjoaaGreatDoor
set_option linter.unusedSimpArgs false
open Go.RowKit
theorem A2b{w:World}{b off n c:Nat}{l:U}(h:Au w (.slice (some ⟨b,off,none⟩) n c) l){i k:Nat}(xm:i+k≤l.length)(cap:Nat)(hc:k≤cap)(hb:b<w.heap.size):Au w (.slice (some ⟨b,off+i,none⟩) k cap) ((l.drop i).take k):=by
 have hl:((l.drop i).take k).length=k:=by simp;omega
 refine⟨some ⟨b,off+i,none⟩,cap,by rw[hl],by rw[hl];exact hc,by rw[hl];obtain⟨a',cap',he,h1,h2,-⟩:=h;omega,fun h=>by simp at h,fun _=>⟨b,off+i,rfl,hb,fun j x hx=>?_⟩⟩;have hj:=(A5.1 hx).1;rw[hl]at hj;rw[List.getElem?_take,if_pos hj,List.getElem?_drop]at hx;obtain⟨u,hu,hr⟩:=Sl.at h hx;exact⟨u,by rw[Nat.add_assoc];exact hu,hr⟩
def EZ(row:U):Value:=.tuple #[.int .i64 (if BZ row then Iz row else 0),.int .i64 (if BZ row then AP row else 0),.bool (BZ row)]
theorem OG(v:Value)(row:U)(w:World)(hv:Au w v row)(h1:1≤row.length)(h5:row.length≤5)(hb:∀x∈row,0≤x∧x≤1):
  Calls Tryz.prog 231 #[v] w fun e w'=>e=.returned (EZ row)∧w=w':=by
 have hf:=A0H h5 hb;unfold T0 at hf;simp only[Af,Ah]at hf;obtain⟨⟨⟨⟨⟨⟨hf0,hf1⟩,hf2⟩,-⟩,-⟩,-⟩,hf6⟩:=hf;have vF:Iz row<row.length:=by simp at hf6;rcases hf6 with h|h
                                                                                                                                    ·subst h;simp at h1
                                                                                                                                    ·exact h
 have aQ:row.all (C1 0 1)=true:=by rw[Ar];exact fun x hx=>Ft (hb x hx).1 (hb x hx).2
 have gp:IP row:=⟨J,fun x hx=>by have:=hb x hx;omega⟩;have Hv:=Z hv;obtain⟨b,off,cap,rfl,eU,-⟩:=hv.qac J;have ae:row.length≤cap:=by obtain⟨a',cap',he,h1,-⟩:=hv;simp at he;omega
 obtain⟨F,hF⟩:=Int.eq_ofNat_of_zero_le hf0;obtain⟨N,hN⟩:=Int.eq_ofNat_of_zero_le hf2;rw[hF,hN]at hf1;rw[hF]at vF;have hFc:F<cap:=J;have hFN:F+N≤row.length:=J;have mm:Im row=(row.drop F).take N:=by unfold Im;rw[hF,hN];rfl
 have rQ:=A2b hv (i:=F) (k:=N) hFN (cap-F) J eU;rw[←mm]at rQ;have vG:IP (Im row):=by
  rw[mm];exact⟨by simp;omega,fun x hx=>by have:=hb x (List.mem_of_mem_drop (List.mem_of_mem_take hx));omega⟩
 have jB:max 0 (idx 1 row)=(F:Int):=hF;have Hsub:=Z rQ;have HsmS:=Z vG;have aT:=Z aQ;have mS:=Z gp;have HN:=Z hN;have HF:=Z hF;have hI:Hid (BZ row=decide (AP (Im row)=AP row)):=Z (by unfold BZ;rw[aQ];rfl);clear hv hb aQ gp hN hF mm rQ vG hf0 hf1 hf2;go_enter Tryz.func231,Tryz.ntmps231;go_wp2_with fail;refine(C8 _ _ _ _ _ Hv.o).mono ?_;rintro e w' ⟨rfl,rfl⟩;rw[aT.o];go_wp2_with fail;refine(Gm _ _ _ Hv.o mS.o).mono ?_;rintro e w' ⟨rfl,rfl⟩;rw[HN.o];go_wp2_with fail;refine(A3p _ _ _ _ Hv.o).mono ?_;rintro e w' ⟨rfl,rfl⟩;clear hf6 vF;have aE:Calls Tryz.prog 87 #[.slice (some ⟨b,off+F,none⟩) N (cap-F)] w fun e w'=>e=.returned (.int .i64 (AP (Im row)))∧w=w':=Gm _ _ _ Hsub.o HsmS.o;have aU:=Z aE;clear aE;generalize idx 1 row=i at jB⊢;rcases Nat.eq_zero_or_pos F with h0|h0
 ·subst h0;have gD:i≤0:=J;rw[AF,Nat.sub_zero]at aU;rcases Int.lt_or_le i 0 with hi|hi
  ·go_wp2_with fail;refine aU.o.mono ?_;rintro e w' ⟨rfl,rfl⟩;by_cases he:AP (Im row)=(N:Int)
   ·have Hr:=Z (show BZ row=true from by rw[hI.o,HN.o];simpa using he);rw[he];go_wp2;refine Jz #[.int .i64 0,.int .i64 N,.bool true] (by simp[results,Tryz.results231,go_sem]) ⟨by unfold EZ;rw[Hr.o];simp[HF.o,HN.o],rfl⟩
   ·have Hr:=Z (show BZ row=false from by rw[hI.o,HN.o];simpa using he);have aK:(AP (Im row)==(N:Int))=false:=by simpa using he
    go_wp2;refine Jz #[.int .i64 0,.int .i64 0,.bool false] (by simp[results,Tryz.results231,go_sem]) ⟨by unfold EZ;rw[Hr.o];simp[HF.o,HN.o],rfl⟩
  ·obtain rfl:i=0:=J;go_wp2_with fail;refine aU.o.mono ?_;rintro e w' ⟨rfl,rfl⟩;by_cases he:AP (Im row)=(N:Int)
   ·have Hr:=Z (show BZ row=true from by rw[hI.o,HN.o];simpa using he);rw[he];go_wp2;refine Jz #[.int .i64 0,.int .i64 N,.bool true] (by simp[results,Tryz.results231,go_sem]) ⟨by unfold EZ;rw[Hr.o];simp[HF.o,HN.o],rfl⟩
   ·have Hr:=Z (show BZ row=false from by rw[hI.o,HN.o];simpa using he);have aK:(AP (Im row)==(N:Int))=false:=by simpa using he
    go_wp2;refine Jz #[.int .i64 0,.int .i64 0,.bool false] (by simp[results,Tryz.results231,go_sem]) ⟨by unfold EZ;rw[Hr.o];simp[HF.o,HN.o],rfl⟩
 ·obtain rfl:i=(F:Int):=J;have hmx':max (0:Int) (F:Int)=(F:Int):=jB;go_wp2_with fail;refine aU.o.mono ?_;rintro e w' ⟨rfl,rfl⟩;by_cases he:AP (Im row)=(N:Int)
  ·have Hr:=Z (show BZ row=true from by rw[hI.o,HN.o];simpa using he);rw[he];go_wp2;refine Jz #[.int .i64 F,.int .i64 N,.bool true] (by simp[results,Tryz.results231,go_sem]) ⟨by unfold EZ;rw[Hr.o];simp[HF.o,HN.o],rfl⟩
  ·have Hr:=Z (show BZ row=false from by rw[hI.o,HN.o];simpa using he);have aK:(AP (Im row)==(N:Int))=false:=by simpa using he
   go_wp2;refine Jz #[.int .i64 0,.int .i64 0,.bool false] (by simp[results,Tryz.results231,go_sem]) ⟨by unfold EZ;rw[Hr.o];simp[HF.o,HN.o],rfl⟩
def Dl(m:I):Bool:=AC m&&m.all BZ
theorem MC(v:Value)(m:I)(w:World)(hv:AI w v m):Calls Tryz.prog 166 #[v] w fun e w'=>e=.returned (.bool (Dl m))∧w=w':=by
 have Hv:=Z hv;obtain⟨a,cap0,rfl,ae,cJ,-,-⟩:=hv;cases hok:AC m
 ·have Hr:=Z (show Dl m=false from by simp[Dl,hok]);have aR:=Z hok;clear hok;go_enter Tryz.func166,Tryz.ntmps166;go_wp2_with fail;refine(B8 _ _ _ Hv.o).mono ?_;rintro e w' ⟨rfl,rfl⟩;rw[aR.o];go_wp2
  go_ret
  exact⟨AW Hr.o.symm,rfl⟩
 obtain⟨r,c,hr1,hr5,hc1,hc5,an⟩:=Az hok;have rR:1≤m.length:=by have:=an.1;omega
 have aR:=Z hok;clear hok;go_enter Tryz.func166,Tryz.ntmps166;go_wp2_with fail;refine(B8 _ _ _ Hv.o).mono ?_;rintro e w' ⟨rfl,rfl⟩;rw[aR.o];go_wp2;go_loop [4,5,6,7,13] (fun _ _ _ _ i=>∃k:Nat,k≤m.length∧i=.int .i64 k∧(m.take k).all BZ=true) (fun _ _ _ _ i=>m.length-(intOf i).toNat);exact⟨0,A7 _,rfl,rfl⟩;obtain⟨k,hk,rfl,aQ⟩:=hrel;have aT:=Z aQ;clear aQ;by_cases aF:k<m.length
 ·obtain⟨row,aD⟩:∃row,m[k]? =some row:=⟨_,A3 aF⟩;obtain⟨b,off,cpr,he,hb,-⟩:=Hv.o.qac J;obtain⟨rfl,-⟩:a=some ⟨b,off,none⟩∧cap0=cpr:=by simpa using he
  obtain⟨u,aW,hu⟩:=Sl.at Hv.o aD;have hu:Au w u row:=hu;obtain⟨br,cpr,rfl,-⟩:=id hu;obtain⟨aj,eE⟩:=an.2 row (A4 aD);have rS:1≤row.length:=J;have fp:row.length≤5:=J;have i7:=Z (BX BZ aD);have da:=Z aD;have Hu:=Z hu;have jb:=Z eE;clear aD he hu eE aj;cases hi:BZ row
  ·have Hi:=Z hi;clear hi;have Hf:=Z (show Dl m=false from by unfold Dl;rw[BM _ da.o Hi.o];simp);have mn:EZ row=.tuple #[.int .i64 0,.int .i64 0,.bool false]:=by unfold EZ;rw[Hi.o];rfl
   have iZ:=Z mn;clear mn;go_wp2_with fail;refine(OG _ _ _ Hu.o rS fp jb.o).mono ?_;rintro e w' ⟨rfl,rfl⟩;rw[iZ.o];go_wp2
   go_ret
   exact⟨AW Hf.o.symm,rfl⟩
  ·have Hi:=Z hi;clear hi;have mn:EZ row=.tuple #[.int .i64 (Iz row),.int .i64 (AP row),.bool true]:=by unfold EZ;rw[Hi.o];rfl
   have iZ:=Z mn;clear mn;go_wp2_with fail;refine(OG _ _ _ Hu.o rS fp jb.o).mono ?_;rintro e w' ⟨rfl,rfl⟩;rw[iZ.o];go_wp2
   go_round
   exact⟨k+1,J,by go_num,by rw[i7.o,aT.o,Hi.o];rfl⟩;exact Jv
 ·have Hf:=Z (show Dl m=true from by unfold Dl;rw[aR.o,DR aT.o J];rfl);go_wp2
  go_ret
  exact⟨AW Hf.o.symm,rfl⟩
theorem X0(v:Value)(m:I)(w:World)(hv:AI w v m):Calls Tryz.prog 167 #[v] w fun e w'=>e=.returned (.bool (Dl (Mq m)))∧Below w.heap.size w w':=by
 go_enter Tryz.func167,Tryz.ntmps167;go_wp2_with fail;refine(Fu 88 (.inl rfl) _ _ _ hv).mono ?_;rintro e w1 ⟨v1,rfl,ho,aA⟩;go_wp2_with fail;refine(MC _ _ _ ho.qag).mono ?_;rintro e w2 ⟨rfl,rfl⟩;go_wp2
 go_ret
 exact⟨rfl,aA⟩
end Go.Proofs.YthmocomfjgmjoaaGreatDoor
namespace Go.Proofs.YthmocomfjgmjoaaGreatDoor
open Go.RowKit
variable {Bl Bw:Nat}{C:Nat→Nat}{F:Value}{G:Nat}{Q:Nat→Nat}{W0:World}{c cap g0 g1 k:Nat}{m:I}{n r:Nat}{row:U}{w:World}{y:Nat}{z:Int}
def isc:U→Nat→Int→Int→Bool
 |[],_,_,_=>true
 |x::l,i,f,n=>if x=1 then(if f<0 then(if(i:Int)=i+n then isc l (i+1) i (n+1)else false)else(if(i:Int)=f+n then isc l (i+1) f (n+1)else false))else isc l (i+1) f n
theorem A3q:((List.range 6).all fun n=>(List.range (2^n)).all fun key=>isc (B6 n key) 0 (-1) 0==BZ (B6 n key))=true:=by decide+kernel
theorem A3F(hl:row.length≤5)(hb:∀x∈row,0≤x∧x≤1):isc row 0 (-1) 0=BZ row:=by
 obtain⟨h1,h2⟩:=WV row hb;have h:=A3q;rw[Ar]at h;have h3:=h row.length (AG.2 J);rw[Ar]at h3;have h4:=h3 (Dz row) (AG.2 h1);rw[h2]at h4;exact eq_of_beq h4
theorem A2a{x:Int}(h:row[k]? =some x)(f n:Int):isc (row.drop k) k f n=if x=1 then(if f<0 then(if(k:Int)=k+n then isc (row.drop (k+1)) (k+1) k (n+1)else false)else(if(k:Int)=f+n then isc (row.drop (k+1)) (k+1) f (n+1)else false))else isc (row.drop (k+1)) (k+1) f n:=by
 obtain⟨h1,rfl⟩:=A5.1 h;rw[List.drop_eq_getElem_cons h1];rfl
theorem A1W(hs:Ax r c m)(hr:1≤r)(h:AC m=true)(y x:Int):isB r c m y x=(Kn m y x==1):=by
 rw[ZS hs hr h];unfold A2T isB;cases hb:R6 r c y x
 ·have:¬(0≤y∧y<r∧0≤x∧x<c):=by rw[←FB,hb];simp
  simp only[Bool.false_eq_true,if_false];rw[show((-1:Int)==1)=false from rfl,Bool.eq_false_iff];intro h1;simp only[Af,Ah]at h1;exact this ⟨h1.1.1.1.1,h1.1.1.1.2,h1.1.1.2,h1.1.2⟩
 ·rw[FB]at hb;simp only[if_true];rw[decide_eq_true hb.1,decide_eq_true hb.2.1,decide_eq_true hb.2.2.1,decide_eq_true hb.2.2.2];show decide (AJ m y.toNat x.toNat=1)=_;rw[show(m.getD y.toNat []).getD x.toNat 0=AJ m y.toNat x.toNat from rfl];rfl
structure Um(n g0 g1 r c G cap:Nat)(Q C:Nat→Nat)(W0 w:World)(m:I):Prop where
 base:Below n W0 w
 sh:Ax r c m
 own:Ag 32 (Ag 3 Ap) (Iv g0 g1) w (.slice (some ⟨G,0,none⟩) r cap) m
 rows:∀k,k<r→w.cell? ⟨G,k,none⟩=some (.slice (some ⟨Q k,0,none⟩) c (C k))
 hg:g1≤w.heap.size
theorem Um.set(hn:n≤g0)(h:Um n g0 g1 r c G cap Q C W0 w m){x:Nat}(hy:y<r)(hx:x<c)(cT:0≤z)(bL:z≤1):
  w.cell? ⟨Q y,x,none⟩=some (.int .i64 (AJ m y x))∧w.frozen? ⟨Q y,x,none⟩=false∧(g0≤Q y∧Q y<g1)∧
  Um n g0 g1 r c G cap Q C W0 (w.setCell ⟨Q y,x,none⟩ (.int .i64 z)) (setC m y x z):=by
 obtain⟨aD,aj⟩:=CM h.sh hy;obtain⟨q,cq,aH,hG,hq,hqG,dj,eX,l8,ai⟩:=AV h.own aD J;have hQ:=h.rows y hy;rw[aH]at hQ;have e:=Option.some.inj hQ;have e2:q=Q y:=by injection e with e1 e3 e4;injection e1 with e5;injection e5
 subst e2;have kv:=l8 x (AJ m y x) (BO 0 J);have g8:=(eX x J).2;have q1:=hq.1;have q2:=hq.2;refine⟨kv,g8,⟨q1,q2⟩,⟨h.base.setCell (by show n≤Q y;omega) _,EA h.sh hy cT bL,ai w (fun _ _=>rfl) x z J (Cc.small J J),fun k hk=>?_,by rw[As];exact h.hg⟩⟩;rw[World.cell?_of_block (w:=w) (a:=⟨G,k,none⟩) (Below.heap_setCell w ⟨Q y,x,none⟩ (.int .i64 z) G (by simpa using fun e=>hqG e.symm))];exact h.rows k hk
theorem Um.cell(h:Um n g0 g1 r c G cap Q C W0 w m){x:Nat}(hy:y<r)(hx:x<c):w.cell? ⟨Q y,x,none⟩=some (.int .i64 (AJ m y x)):=by
 obtain⟨aD,aj⟩:=CM h.sh hy;obtain⟨q,cq,aH,hG,hq,hqG,dj,eX,l8,ai⟩:=AV h.own aD J;have hQ:=h.rows y hy;rw[aH]at hQ;have e:=Option.some.inj hQ;have e2:q=Q y:=by injection e with e1 e3 e4;injection e1 with e5;injection e5
 subst e2;exact l8 x (AJ m y x) (BO 0 J)
theorem Um.make(hb:Below n W0 w)(hs:Ax r c m)(hc1:1≤c)(ho:Ag 32 (Ag 3 Ap) (Iv g0 g1) w (.slice (some ⟨G,0,none⟩) r cap) m)(hg:g1≤w.heap.size):
  ∃Q C:Nat→Nat,Um n g0 g1 r c G cap Q C W0 w m:=by
 refine⟨fun k=>match w.cell? ⟨G,k,none⟩with|some (.slice (some p) _ _)=>p.block|_=>0,fun k=>match w.cell? ⟨G,k,none⟩with|some (.slice _ _ q)=>q|_=>0,⟨hb,hs,ho,fun k hk=>?_,hg⟩⟩;have aD:=CM hs hk;obtain⟨q,cq,aH,-⟩:=AV ho aD.1 (by rw[aD.2];omega);rw[aD.2]at aH;rw[aH]
structure WSt(n Bl Bw g0 g1 r c G cap:Nat)(F:Value)(Q C:Nat→Nat)(W0 w:World)(m:I):Prop where
 p:Um n g0 g1 r c G cap Q C W0 w m
 bl:B9 w Bl #[.slice (some ⟨G,0,none⟩) r cap] 31
 bw:B9 w Bw #[F] 182
theorem WSt.set(hn:n≤g0)(h2:g1≤Bl)(h3:g1≤Bw)(h:WSt n Bl Bw g0 g1 r c G cap F Q C W0 w m){x:Nat}(hy:y<r)(hx:x<c)(cT:0≤z)(bL:z≤1):
  w.cell? ⟨Q y,x,none⟩=some (.int .i64 (AJ m y x))∧w.frozen? ⟨Q y,x,none⟩=false∧WSt n Bl Bw g0 g1 r c G cap F Q C W0 (w.setCell ⟨Q y,x,none⟩ (.int .i64 z)) (setC m y x z):=by
 obtain⟨a1,a2,⟨a3,a4⟩,a5⟩:=h.p.set hn hy hx cT bL;exact⟨a1,a2,⟨a5,h.bl.qah J _,h.bw.qah J _⟩⟩
theorem A44(h1:n≤g0)(h2:g1≤Bl)(h3:g1≤Bw)
  (hF:F=.func (.func 232) #[] #[.pointer (some ⟨Bl,0,none⟩),.pointer (some ⟨Bw,0,none⟩)])(hr1:1≤r)(hr5:r≤5)(hc1:1≤c)(hc5:c≤5)(N:Nat):
  ∀(y x:Int)(m:I)(w:World),WSt n Bl Bw g0 g1 r c G cap F Q C W0 w m→blk m<N→-1≤y→y≤5→-1≤x→x≤5→
   Calls Tryz.prog 232 #[.int .i64 y,.int .i64 x,.pointer (some ⟨Bl,0,none⟩),.pointer (some ⟨Bw,0,none⟩)] w fun e w'=>e=.returned (.tuple #[])∧WSt n Bl Bw g0 g1 r c G cap F Q C W0 w' (ED r c N m y x):=by
 subst hF;induction N with
 |zero=>intro y x m w _ hb;omega
 |succ N ih=>
  intro y x m w bB hb ja dU eR bj;have IH:=Z ih;have aG:=Z bB;have cl:w.cell? ⟨Bl,0,none⟩=some (.slice (some ⟨G,0,none⟩) r cap):=bB.bl.cell 0;have HG:=Z bB.p.own.qag;have nz:=Z bB.p.sh;have pQ:=A1W bB.p.sh hr1 (bB.p.sh.ok hr1 hr5 hc1 hc5) y x;have Hb:=Z hb;obtain⟨z,hz⟩:∃z,z=Kn m y x:=⟨_,rfl⟩;rw[←hz]at pQ;have Hz:=Z hz;clear ih bB hz hb;cases hB:isB r c m y x
  ·have Hr:=Z (show ED r c (N+1) m y x=m from MW (by rw[hB];simp) _);have aK:(z !=1)=true:=by rw[hB]at pQ;simp[bne,←pQ]
   clear hB pQ;go_enter Tryz.func232,Tryz.ntmps232;go_wp2_with fail;refine(Pd 39 (.inl rfl) _ _ _ _ _ HG.o).mono ?_;rintro e w' ⟨rfl,rfl⟩;rw[←Hz.o];go_wp2;exact Jz #[] (by simp[results,Tryz.results232,go_sem]) ⟨rfl,by rw[Hr.o];exact aG.o⟩
  ·have aK:(z !=1)=false:=by rw[hB]at pQ;simp[bne,←pQ]
   have Hr:=Z (WU hB N);obtain⟨b1,b2,b3,b4,-⟩:=PG hB;have lF:=VZ nz.o hB;obtain⟨Y,rfl⟩:∃Y:Nat,y=Y:=⟨y.toNat,J⟩;obtain⟨X,rfl⟩:∃X:Nat,x=X:=⟨x.toNat,J⟩;rw[Int.toNat_natCast]at b2 b4;rw[Int.toNat_natCast,Int.toNat_natCast]at lF;have aH:=aG.o.p.rows Y b2;obtain⟨ho,g8,st1⟩:=aG.o.set h1 h2 h3 b2 b4 (z:=0) Jq Jq;have c1:=st1.bw.cell 0;simp only[Av,Aw]at c1;have jC:Hid (blk (setC m Y X 0)<N):=Z (by have:=Hb.o;omega);have vH:=Z st1;have dh:=Hr;rw[Int.toNat_natCast,Int.toNat_natCast]at dh;clear hB pQ lF st1 b1 b3 Hr;go_enter Tryz.func232,Tryz.ntmps232;go_wp2_with fail;refine(Pd 39 (.inl rfl) _ _ _ _ _ HG.o).mono ?_;rintro e w' ⟨rfl,rfl⟩;rw[←Hz.o];go_wp2_with fail;refine(IH.o ((Y:Int)-1) X _ _ vH.o jC.o J J J J).mono ?_;rintro e w2 ⟨rfl,st2⟩;have c2:=st2.bw.cell 0;simp only[Av,Aw]at c2;have dW:=Z (Nat.lt_of_le_of_lt (FQ N ((Y:Int)-1) X vH.o.p.sh).2 jC.o);have ec:=Z st2;clear st2 c1 ho g8 aH cl;go_wp2_with fail;refine(IH.o ((Y:Int)+1) X _ _ ec.o dW.o J J J J).mono ?_;rintro e w3 ⟨rfl,kW⟩;have c3:=kW.bw.cell 0;simp only[Av,Aw]at c3;have iD:=Z (Nat.lt_of_le_of_lt (FQ N ((Y:Int)+1) X ec.o.p.sh).2 dW.o);have gI:=Z kW;clear kW c2;go_wp2_with fail;refine(IH.o Y ((X:Int)-1) _ _ gI.o iD.o J J J J).mono ?_;rintro e w4 ⟨rfl,st4⟩;have c4:=st4.bw.cell 0;simp only[Av,Aw]at c4;have ni:=Z (Nat.lt_of_le_of_lt (FQ N Y ((X:Int)-1) gI.o.p.sh).2 iD.o);have oH:=Z st4;clear st4 c3;go_wp2_with fail;refine(IH.o Y ((X:Int)+1) _ _ oH.o ni.o J J J J).mono ?_;rintro e w5 ⟨rfl,st5⟩;have St5:=Z st5;clear st5 c4;go_wp2;exact bodyPost_end (results_none rfl _ _ _) rfl ⟨rfl,by rw[dh.o];exact St5.o⟩
theorem A01(h1:n≤g0)(hr1:1≤r)(hr5:r≤5)(hc1:1≤c)(hc5:c≤5)(N:Nat):
  ∀(y x:Int)(m:I)(w:World),Um n g0 g1 r c G cap Q C W0 w m→blk m<N→-1≤y→y≤5→-1≤x→x≤5→
   Calls Tryz.prog 296 #[.slice (some ⟨G,0,none⟩) r cap,.int .i64 y,.int .i64 x] w fun e w'=>e=.returned (.tuple #[])∧Um n g0 g1 r c G cap Q C W0 w' (ED r c N m y x):=by
 induction N with
 |zero=>intro y x m w _ hb;omega
 |succ N ih=>
  intro y x m w bB hb ja dU eR bj;have IH:=Z ih;have aG:=Z bB;have Hb:=Z hb;have bZ:=bB.rows 0 J;clear ih bB hb;cases e1:C1 0 ((r:Int)-1) y
  ·have Hr:=Z (show ED r c (N+1) m y x=m from MW (by
    intro h;obtain⟨b1,b2,b3,b4,-⟩:=PG h;have:C1 0 ((r:Int)-1) y=true:=Ft J J;rw[e1]at this;exact absurd this Jq) _)
   have E1:=Z e1;clear e1;go_enter Tryz.func296,Tryz.ntmps296;go_wp2_with fail;refine(Bd _ _ _ _).mono ?_;rintro e w' ⟨rfl,rfl⟩;rw[E1.o];go_wp2;exact Jz #[] (by simp[results,Tryz.results296,go_sem]) ⟨rfl,by rw[Hr.o];exact aG.o⟩
  cases e2:C1 0 ((c:Int)-1) x
  ·have Hr:=Z (show ED r c (N+1) m y x=m from MW (by
    intro h;obtain⟨b1,b2,b3,b4,-⟩:=PG h;have:C1 0 ((c:Int)-1) x=true:=Ft J J;rw[e2]at this;exact absurd this Jq) _)
   have E1:=Z e1;have E2:=Z e2;clear e1 e2;go_enter Tryz.func296,Tryz.ntmps296;go_wp2_with fail;refine(Bd _ _ _ _).mono ?_;rintro e w' ⟨rfl,rfl⟩;rw[E1.o];go_wp2_with fail;refine(Bd _ _ _ _).mono ?_;rintro e w' ⟨rfl,rfl⟩;rw[E2.o];go_wp2;exact Jz #[] (by simp[results,Tryz.results296,go_sem]) ⟨rfl,by rw[Hr.o];exact aG.o⟩
  have e1':=(Bz ..).mp e1;have e2':=(Bz ..).mp e2;obtain⟨Y,rfl⟩:∃Y:Nat,y=Y:=⟨y.toNat,J⟩;obtain⟨X,rfl⟩:∃X:Nat,x=X:=⟨x.toNat,J⟩;have b2:Y<r:=J;have b4:X<c:=J;have E1:=Z e1;have E2:=Z e2;have aH:=aG.o.rows Y b2;have eC:=AS aG.o.sh Y X;obtain⟨ho,g8,-,st1⟩:=aG.o.set h1 b2 b4 (z:=0) Jq Jq;obtain⟨z,hz⟩:∃z,z=AJ m Y X:=⟨_,rfl⟩;rw[←hz]at ho eC;have Hz:=Z hz;have hbits1:=eC.1;have hbits2:=eC.2;clear e1 e2 e1' e2' hz eC;by_cases bL:z=0
  ·subst bL;have Hr:=Z (show ED r c (N+1) m Y X=m from MW (by
    intro h;obtain⟨-,-,-,-,h5⟩:=PG h;rw[Int.toNat_natCast,Int.toNat_natCast,←Hz.o]at h5;exact absurd h5 Jq) _)
   clear st1;go_enter Tryz.func296,Tryz.ntmps296;go_wp2_with fail;refine(Bd _ _ _ _).mono ?_;rintro e w' ⟨rfl,rfl⟩;rw[E1.o];go_wp2_with fail;refine(Bd _ _ _ _).mono ?_;rintro e w' ⟨rfl,rfl⟩;rw[E2.o];go_wp2;exact Jz #[] (by simp[results,Tryz.results296,go_sem]) ⟨rfl,by rw[Hr.o];exact aG.o⟩
  ·obtain rfl:z=1:=J;have hB:isB r c m Y X=true:=by
    unfold isB;rw[Int.toNat_natCast,Int.toNat_natCast,←Hz.o,decide_eq_true (show(0:Int)≤(Y:Int) by omega),decide_eq_true (show(Y:Int)<(r:Int) by omega),decide_eq_true (show(0:Int)≤(X:Int) by omega),decide_eq_true (show(X:Int)<(c:Int) by omega)];rfl
   have Hr:=Z (WU hB N);have lF:=VZ aG.o.sh hB;rw[Int.toNat_natCast,Int.toNat_natCast]at lF Hr;have jC:Hid (blk (setC m Y X 0)<N):=Z (by have:=Hb.o;omega);have vH:=Z st1;clear hB lF st1 bL;go_enter Tryz.func296,Tryz.ntmps296;go_wp2_with fail;refine(Bd _ _ _ _).mono ?_;rintro e w' ⟨rfl,rfl⟩;rw[E1.o];go_wp2_with fail;refine(Bd _ _ _ _).mono ?_;rintro e w' ⟨rfl,rfl⟩;rw[E2.o];go_wp2_with fail;refine(IH.o ((Y:Int)-1) X _ _ vH.o jC.o J J J J).mono ?_;rintro e w2 ⟨rfl,st2⟩;have dW:=Z (Nat.lt_of_le_of_lt (FQ N ((Y:Int)-1) X vH.o.sh).2 jC.o);have ec:=Z st2;clear st2 ho g8 aH bZ;go_wp2_with fail;refine(IH.o ((Y:Int)+1) X _ _ ec.o dW.o J J J J).mono ?_;rintro e w3 ⟨rfl,kW⟩;have iD:=Z (Nat.lt_of_le_of_lt (FQ N ((Y:Int)+1) X ec.o.sh).2 dW.o);have gI:=Z kW;clear kW;go_wp2_with fail;refine(IH.o Y ((X:Int)-1) _ _ gI.o iD.o J J J J).mono ?_;rintro e w4 ⟨rfl,st4⟩;have ni:=Z (Nat.lt_of_le_of_lt (FQ N Y ((X:Int)-1) gI.o.sh).2 iD.o);have oH:=Z st4;clear st4;go_wp2_with fail;refine(IH.o Y ((X:Int)+1) _ _ oH.o ni.o J J J J).mono ?_;rintro e w5 ⟨rfl,st5⟩;have St5:=Z st5;clear st5;go_wp2;exact bodyPost_end (results_none rfl _ _ _) rfl ⟨rfl,by rw[Hr.o];exact St5.o⟩
theorem Tv(v:Value)(m:I)(w:World)(hv:AI w v m):Calls Tryz.prog 168 #[v] w fun e w'=>e=.returned (.int .i64 (Cz m))∧Below w.heap.size w w':=by
 have Hv:=Z hv;obtain⟨a,cap0,rfl,-⟩:=id hv;cases hok:AC m
 ·have Hr:=Z (show Cz m=-1 from by unfold Cz;rw[hok];rfl);have aR:=Z hok;clear hok hv;go_enter Tryz.func168,Tryz.ntmps168;go_wp2_with fail;refine(B8 _ _ _ Hv.o).mono ?_;rintro e w' ⟨rfl,rfl⟩;rw[aR.o];go_wp2
  go_ret
  exact⟨CY Hr.o.symm,A6 _ _⟩
 obtain⟨r,c,hr1,hr5,hc1,hc5,hs⟩:=Az hok;have HP:=Z (show Cz m=(Et r c r (m,0)).2 from by obtain⟨e1,e2⟩:=J9 hs hr1;unfold Cz;rw[if_pos hok,e1,e2]);have aR:=Z hok;have kX:=Z (show m.length≤1048576 from by have:=hs.1;omega);have HR:=Z (show ∀p∈m,p.length≤1048576 from fun p hp=>by have:=(hs.2 p hp).1;omega);clear hok hv;go_enter Tryz.func168,Tryz.ntmps168;go_wp2_with fail;refine(B8 _ _ _ Hv.o).mono ?_;rintro e w' ⟨rfl,rfl⟩;rw[aR.o];go_wp2_with fail;refine(F5 _ m _ Hv.o kX.o HR.o).mono ?_;rintro e w2 ⟨v2,rfl,o2,b2⟩;have bF:=hs.1;obtain⟨G,cap,rfl,hG,ae,hGl,-⟩:=o2.qac J;rw[bF]at o2 ae⊢;have oV:=b2.size;obtain⟨F,hF⟩:∃F:Value,F=.func (.func 232) #[] #[.pointer (some ⟨w2.heap.size,0,none⟩),.pointer (some ⟨w2.heap.size+1,0,none⟩)]:=⟨_,rfl⟩;obtain⟨W6,hW6⟩:∃W6,W6=(w2.alloc (.cells #[.slice (some ⟨G,0,none⟩) r cap] 31)).alloc (.cells #[F] 182):=⟨_,rfl⟩;have p9:Below w2.heap.size w2 W6:=by rw[hW6];exact((A6 _ _).alloc (A2 _) _).alloc Jj _
 have z6:W6.heap.size=w2.heap.size+2:=by rw[hW6];simp
 have kl:B9 W6 w2.heap.size #[.slice (some ⟨G,0,none⟩) r cap] 31:=by rw[hW6];exact(B9.new w2 _ _).keep (Below.qab _ _)
 have kw:B9 W6 (w2.heap.size+1) #[F] 182:=by
  rw[hW6];have:=B9.new (w2.alloc (.cells #[.slice (some ⟨G,0,none⟩) r cap] 31)) #[F] 182;simpa using this
 obtain⟨Q,C,hp⟩:=Um.make (n:=w.heap.size) (g0:=w.heap.size) (g1:=w2.heap.size) (b2.qaa p9 (A2 _)) hs hc1 (Ag.keep (Ab A8) o2 p9 (A2 _)) J;have aG:Hid (WSt w.heap.size w2.heap.size (w2.heap.size+1) w.heap.size w2.heap.size r c G cap F Q C w W6 m):=Z ⟨hp,kl,kw⟩;have mo:=Z (A44 (W0:=w) (n:=w.heap.size) (Bl:=w2.heap.size) (Bw:=w2.heap.size+1) (g0:=w.heap.size) (g1:=w2.heap.size) (G:=G) (cap:=cap) (Q:=Q) (C:=C) (A2 _) (A2 _) J hF hr1 hr5 hc1 hc5 (r*c+1));clear o2 b2 p9 z6 kl kw hp bF hG ae hGl;subst hF;subst hW6;go_wp2;go_loopw [5,6,7,8,9,18] (fun n _ _ _ _ i wr=>∃(k cnt:Nat)(g:I),k≤r∧i=.int .i64 k∧n=.int .i64 cnt∧cnt≤5*k∧Hid ((Et r c (r-k) (g,(cnt:Int))).2=Cz m)∧Hid (WSt w.heap.size w2.heap.size (w2.heap.size+1) w.heap.size w2.heap.size r c G cap (.func (.func 232) #[] #[.pointer (some ⟨w2.heap.size,0,none⟩),.pointer (some ⟨w2.heap.size+1,0,none⟩)]) Q C w wr g)) (fun _ _ _ _ _ i _=>r-(intOf i).toNat);exact⟨0,0,m,A7 _,rfl,rfl,A2 _,Z (by rw[HP.o,Nat.sub_zero];rfl),aG⟩;clear aG;obtain⟨k,cnt,g,hk,rfl,rfl,hcnt,Hc,aG⟩:=hrel;by_cases aF:k<r
 ·have aD:=aG.o.p.rows k aF;have dM:decide ((k:Int)<(r:Int))=true:=by simp;omega
  have kD:=Z (show(Et r c (r-(k+1)) (Gq r c k c (g,(cnt:Int)))).2=Cz m from by rw[←Qm aF];exact Hc.o);go_wp2;clear aD;go_loopw [5,8,9,25] (fun n _ _ j wr=>∃(x dH:Nat)(g2:I),x≤c∧j=.int .i64 x∧n=.int .i64 dH∧dH≤5*k+x∧Hid ((Et r c (r-(k+1)) (Gq r c k (c-x) (g2,(dH:Int)))).2=Cz m)∧Hid (WSt w.heap.size w2.heap.size (w2.heap.size+1) w.heap.size w2.heap.size r c G cap (.func (.func 232) #[] #[.pointer (some ⟨w2.heap.size,0,none⟩),.pointer (some ⟨w2.heap.size+1,0,none⟩)]) Q C w wr g2)) (fun _ _ _ j _=>c-(intOf j).toNat);exact⟨0,cnt,g,A7 _,rfl,rfl,J,Z (by rw[Nat.sub_zero];exact kD.o),aG⟩;clear aG Hc kD;obtain⟨x,dH,g2,hx,rfl,rfl,hcnt2,Hc,aG⟩:=hrel;by_cases bW:x<c
  ·have aD:=aG.o.p.rows k aF;have aH:=aG.o.p.cell aF bW;have bT:=Z (Qu (r:=r) (y:=k) bW (g2,(dH:Int)));obtain⟨z,hz⟩:∃z,z=AJ g2 k x:=⟨_,rfl⟩;rw[←hz]at aH;have Hz:=Z hz;clear hz;by_cases bL:z=1
   ·subst bL;have mq:=Z (show(Et r c (r-(k+1)) (Gq r c k (c-(x+1)) (ED r c (r*c+1) g2 k x,((dH+1:Nat):Int)))).2=Cz m from by
     have h:=Hc.o;rw[bT.o,if_pos Hz.o.symm]at h;exact h)
    have iS:=Z (Nat.lt_succ_of_le (A2f aG.o.p.sh));have c4:wr.cell? ⟨w2.heap.size+1,0,none⟩=some (.func (.func 232) #[] #[.pointer (some ⟨w2.heap.size,0,none⟩),.pointer (some ⟨w2.heap.size+1,0,none⟩)]):=aG.o.bw.cell 0;clear bT;go_wp2_with fail;refine(mo.o (k:Int) (x:Int) g2 _ aG.o iS.o J J J J).mono ?_;rintro e w5 ⟨rfl,st5⟩;have rT:=Z st5;clear st5;go_wp2;go_roundw;exact⟨x+1,dH+1,_,J,by go_num,by go_num,J,mq,rT⟩;exact Jv
   ·have aK:(z==1)=false:=by rw[Ai];exact bL
    have mq:=Z (show(Et r c (r-(k+1)) (Gq r c k (c-(x+1)) (g2,(dH:Int)))).2=Cz m from by
     have h:=Hc.o;rw[bT.o,if_neg (by rw[←Hz.o];exact bL)]at h;exact h)
    clear bT bL;go_wp2;go_roundw;exact⟨x+1,dH,g2,J,by go_num,rfl,J,mq,aG⟩;exact Jv
  ·obtain rfl:x=c:=J;have mq:=Z (show(Et r x (r-(k+1)) (g2,(dH:Int))).2=Cz m from by
    have h:=Hc.o;rw[Nat.sub_self]at h;exact h)
   go_wp2;go_roundw;exact⟨k+1,dH,g2,J,by go_num,rfl,J,mq,aG⟩;exact Jv
 ·obtain rfl:k=r:=J;have aU:=Z (show(cnt:Int)=Cz m from by
   have h:=Hc.o;rw[Nat.sub_self]at h;exact h)
  have Hb:=Z aG.o.p.base;go_wp2
  go_ret
  exact⟨CY aU.o,Hb.o⟩
theorem Tn(v:Value)(m:I)(w:World)(hv:AI w v m):Calls Tryz.prog 260 #[v] w fun e w'=>e=.returned (.int .i64 (Cz m))∧Below w.heap.size w w':=by
 have Hv:=Z hv;obtain⟨a,cap0,rfl,-⟩:=id hv;cases hok:AC m
 ·have Hr:=Z (show Cz m=-1 from by unfold Cz;rw[hok];rfl);have aR:=Z hok;clear hok hv;go_enter Tryz.func260,Tryz.ntmps260;go_wp2_with fail;refine(Bh _ _ _ Hv.o).mono ?_;rintro e w' ⟨rfl,rfl⟩;rw[aR.o];go_wp2
  go_ret
  exact⟨CY Hr.o.symm,A6 _ _⟩
 obtain⟨r,c,hr1,hr5,hc1,hc5,hs⟩:=Az hok;have HP:=Z (show Cz m=(Et r c r (m,0)).2 from by obtain⟨e1,e2⟩:=J9 hs hr1;unfold Cz;rw[if_pos hok,e1,e2]);have aR:=Z hok;have kX:=Z (show m.length≤1048576 from by have:=hs.1;omega);have HR:=Z (show ∀p∈m,p.length≤1048576 from fun p hp=>by have:=(hs.2 p hp).1;omega);clear hok hv;go_enter Tryz.func260,Tryz.ntmps260;go_wp2_with fail;refine(Bh _ _ _ Hv.o).mono ?_;rintro e w' ⟨rfl,rfl⟩;rw[aR.o];go_wp2_with fail;refine(D5 _ m _ Hv.o kX.o HR.o).mono ?_;rintro e w2 ⟨v2,rfl,o2,b2⟩;have bF:=hs.1;obtain⟨G,cap,rfl,hG,ae,hGl,-⟩:=o2.qac J;rw[bF]at o2 ae⊢;have oV:=b2.size;obtain⟨Q,C,hp⟩:=Um.make (n:=w.heap.size) (g0:=w.heap.size) (g1:=w2.heap.size) b2 hs hc1 o2 (A2 _);have aG:Hid (Um w.heap.size w.heap.size w2.heap.size r c G cap Q C w w2 m):=Z hp;have mo:=Z (A01 (W0:=w) (n:=w.heap.size) (g0:=w.heap.size) (g1:=w2.heap.size) (G:=G) (cap:=cap) (Q:=Q) (C:=C) (A2 _) hr1 hr5 hc1 hc5 (r*c+1));clear o2 b2 hp bF hG ae hGl;go_wp2;go_loopw [4,5,6,14] (fun n _ _ i wr=>∃(k cnt:Nat)(g:I),k≤r∧i=.int .i64 k∧n=.int .i64 cnt∧cnt≤5*k∧Hid ((Et r c (r-k) (g,(cnt:Int))).2=Cz m)∧Hid (Um w.heap.size w.heap.size w2.heap.size r c G cap Q C w wr g)) (fun _ _ _ i _=>r-(intOf i).toNat);exact⟨0,0,m,A7 _,rfl,rfl,A2 _,Z (by rw[HP.o,Nat.sub_zero];rfl),aG⟩;clear aG;obtain⟨k,cnt,g,hk,rfl,rfl,hcnt,Hc,aG⟩:=hrel;by_cases aF:k<r
 ·have aD:=aG.o.rows k aF;have dM:decide ((k:Int)<(r:Int))=true:=by simp;omega
  have kD:=Z (show(Et r c (r-(k+1)) (Gq r c k c (g,(cnt:Int)))).2=Cz m from by rw[←Qm aF];exact Hc.o);go_wp2;clear aD;go_loopw [4,6,22] (fun n _ j wr=>∃(x dH:Nat)(g2:I),x≤c∧j=.int .i64 x∧n=.int .i64 dH∧dH≤5*k+x∧Hid ((Et r c (r-(k+1)) (Gq r c k (c-x) (g2,(dH:Int)))).2=Cz m)∧Hid (Um w.heap.size w.heap.size w2.heap.size r c G cap Q C w wr g2)) (fun _ _ j _=>c-(intOf j).toNat);exact⟨0,cnt,g,A7 _,rfl,rfl,J,Z (by rw[Nat.sub_zero];exact kD.o),aG⟩;clear aG Hc kD;obtain⟨x,dH,g2,hx,rfl,rfl,hcnt2,Hc,aG⟩:=hrel;by_cases bW:x<c
  ·have aD:=aG.o.rows k aF;have aH:=aG.o.cell aF bW;have bT:=Z (Qu (r:=r) (y:=k) bW (g2,(dH:Int)));obtain⟨z,hz⟩:∃z,z=AJ g2 k x:=⟨_,rfl⟩;rw[←hz]at aH;have Hz:=Z hz;clear hz;by_cases bL:z=1
   ·subst bL;have mq:=Z (show(Et r c (r-(k+1)) (Gq r c k (c-(x+1)) (ED r c (r*c+1) g2 k x,((dH+1:Nat):Int)))).2=Cz m from by
     have h:=Hc.o;rw[bT.o,if_pos Hz.o.symm]at h;exact h)
    have iS:=Z (Nat.lt_succ_of_le (A2f aG.o.sh))
    skip
    clear bT;go_wp2_with fail;refine(mo.o (k:Int) (x:Int) g2 _ aG.o iS.o J J J J).mono ?_;rintro e w5 ⟨rfl,st5⟩;have rT:=Z st5;clear st5;go_wp2;go_roundw;exact⟨x+1,dH+1,_,J,by go_num,by go_num,J,mq,rT⟩;exact Jv
   ·have aK:(z==1)=false:=by rw[Ai];exact bL
    have mq:=Z (show(Et r c (r-(k+1)) (Gq r c k (c-(x+1)) (g2,(dH:Int)))).2=Cz m from by
     have h:=Hc.o;rw[bT.o,if_neg (by rw[←Hz.o];exact bL)]at h;exact h)
    clear bT bL;go_wp2;go_roundw;exact⟨x+1,dH,g2,J,by go_num,rfl,J,mq,aG⟩;exact Jv
  ·obtain rfl:x=c:=J;have mq:=Z (show(Et r x (r-(k+1)) (g2,(dH:Int))).2=Cz m from by
    have h:=Hc.o;rw[Nat.sub_self]at h;exact h)
   go_wp2;go_roundw;exact⟨k+1,dH,g2,J,by go_num,rfl,J,mq,aG⟩;exact Jv
 ·obtain rfl:k=r:=J;have aU:=Z (show(cnt:Int)=Cz m from by
   have h:=Hc.o;rw[Nat.sub_self]at h;exact h)
  have Hb:=Z aG.o.base;go_wp2
  go_ret
  exact⟨CY aU.o,Hb.o⟩
def A4L(row:U)(w:World)(e:Ending)(w':World):Prop:=∃p q:Int,e=.returned (.tuple #[.int .i64 p,.int .i64 q,.bool (BZ row)])∧w=w'
theorem OT(v:Value)(row:U)(w:World)(hv:Au w v row)(h5:row.length≤5)(hb:∀x∈row,0≤x∧x≤1):Calls Tryz.prog 295 #[v] w (A4L row w):=by
 have Hv:=Z hv;have Hi:=Z (A3F h5 hb);have Hb:=Z hb;obtain⟨a,cap,rfl,-⟩:=hv;clear hb;go_enter Tryz.func295,Tryz.ntmps295;go_wp2;go_loop [5,6,7,8,11] (fun f n _ _ i=>∃(k:Nat)(F N:Int),k≤row.length∧i=.int .i64 k∧f=.int .i64 F∧n=.int .i64 N∧-1≤F∧F≤5∧0≤N∧N≤k∧Hid (isc (row.drop k) k F N=BZ row)) (fun _ _ _ _ i=>row.length-(intOf i).toNat);exact⟨0,-1,0,A7 _,rfl,rfl,rfl,J,J,J,J,Hi⟩;clear Hi;obtain⟨k,F,N,hk,rfl,rfl,rfl,eS,hF1,lN,lu,Hi⟩:=hrel;by_cases aF:k<row.length
 ·obtain⟨x,hx⟩:∃x,row[k]? =some x:=⟨_,A3 aF⟩;obtain⟨b,off,cpr,he,eU,-⟩:=Hv.o.qac J;obtain⟨rfl,-⟩:a=some ⟨b,off,none⟩∧cap=cpr:=by simpa using he
  have fK:=Au.at Hv.o hx;have fq:=Hb.o x (A4 hx);have aG:=Z (A2a hx F N);clear hx he;by_cases bj:x=1
  ·subst bj;by_cases hF:F<0
   ·have hdF:decide (F<0)=true:=by simpa using hF
    by_cases hn:N=0
    ·subst hn;have Hn:=Z (show isc (row.drop (k+1)) (k+1) k (0+1)=BZ row from by
      have h:=Hi.o;rw[aG.o,if_pos rfl,if_pos hF,if_pos J]at h;exact h)
     have aK:((k:Int) !=k+0)=false:=Jj;have gh:((k:Int) !=k)=false:=Jj;clear hF;go_wp2
     go_round
     exact⟨k+1,k,1,J,by go_num,rfl,by go_num,J,J,J,J,Hn⟩;exact Jv
    ·have Hr:=Z (show BZ row=false from by
      have h:=Hi.o;rw[aG.o,if_pos rfl,if_pos hF,if_neg J]at h;exact h.symm)
     have aK:((k:Int) !=k+N)=true:=by rw[bne_iff_ne];omega
     clear hF;go_wp2;refine Jz #[.int .i64 0,.int .i64 0,.bool false] (by simp[results,Tryz.results295,go_sem]) ⟨0,0,by rw[Hr.o],rfl⟩
   ·have hdF:decide (F<0)=false:=by simpa using hF
    by_cases hn:(k:Int)=F+N
    ·have Hn:=Z (show isc (row.drop (k+1)) (k+1) F (N+1)=BZ row from by
      have h:=Hi.o;rw[aG.o,if_pos rfl,if_neg hF,if_pos hn]at h;exact h)
     have aK:((k:Int) !=F+N)=false:=by rw[hn];simp
     clear hF hn;go_wp2
     go_round
     exact⟨k+1,F,N+1,J,by go_num,rfl,rfl,J,J,J,J,Hn⟩;exact Jv
    ·have Hr:=Z (show BZ row=false from by
      have h:=Hi.o;rw[aG.o,if_pos rfl,if_neg hF,if_neg hn]at h;exact h.symm)
     have aK:((k:Int) !=F+N)=true:=by rw[bne_iff_ne];exact hn
     clear hF hn;go_wp2;refine Jz #[.int .i64 0,.int .i64 0,.bool false] (by simp[results,Tryz.results295,go_sem]) ⟨0,0,by rw[Hr.o],rfl⟩
  ·obtain rfl:x=0:=J;have Hn:=Z (show isc (row.drop (k+1)) (k+1) F N=BZ row from by
    have h:=Hi.o;rw[aG.o,if_neg Jq]at h;exact h)
   clear bj;go_wp2
   go_round
   exact⟨k+1,F,N,J,by go_num,rfl,rfl,J,J,J,J,Hn⟩;exact Jv
 ·have Hr:=Z (show BZ row=true from by rw[←Hi.o,List.drop_of_length_le J];rfl);go_wp2
  all_goals first
   |(refine bodyPost_ret (v:=.tuple #[.int .i64 (max F 0),.int .i64 N,.bool true]) ?_ rfl ⟨(max F 0),N,by rw[Hr.o],rfl⟩;simp[results,Tryz.results295,go_sem];done)
   |(refine bodyPost_ret (v:=.tuple #[.int .i64 0,.int .i64 N,.bool true]) ?_ rfl ⟨0,N,by rw[Hr.o],rfl⟩;simp[results,Tryz.results295,go_sem];done)
   |(refine bodyPost_ret (v:=.tuple #[.int .i64 F,.int .i64 N,.bool true]) ?_ rfl ⟨F,N,by rw[Hr.o],rfl⟩;simp[results,Tryz.results295,go_sem];done)
theorem MB(v:Value)(m:I)(w:World)(hv:AI w v m):Calls Tryz.prog 258 #[v] w fun e w'=>e=.returned (.bool (Dl m))∧w=w':=by
 have Hv:=Z hv;obtain⟨a,cap0,rfl,ae,cJ,-,-⟩:=hv;cases hok:AC m
 ·have Hr:=Z (show Dl m=false from by simp[Dl,hok]);have aR:=Z hok;clear hok;go_enter Tryz.func258,Tryz.ntmps258;go_wp2_with fail;refine(Bh _ _ _ Hv.o).mono ?_;rintro e w' ⟨rfl,rfl⟩;rw[aR.o];go_wp2
  go_ret
  exact⟨AW Hr.o.symm,rfl⟩
 obtain⟨r,c,hr1,hr5,hc1,hc5,an⟩:=Az hok;have rR:1≤m.length:=by have:=an.1;omega
 have aR:=Z hok;clear hok;go_enter Tryz.func258,Tryz.ntmps258;go_wp2_with fail;refine(Bh _ _ _ Hv.o).mono ?_;rintro e w' ⟨rfl,rfl⟩;rw[aR.o];go_wp2;go_loop [4,5,6,7,13] (fun _ _ _ _ i=>∃k:Nat,k≤m.length∧i=.int .i64 k∧(m.take k).all BZ=true) (fun _ _ _ _ i=>m.length-(intOf i).toNat);exact⟨0,A7 _,rfl,rfl⟩;obtain⟨k,hk,rfl,aQ⟩:=hrel;have aT:=Z aQ;clear aQ;by_cases aF:k<m.length
 ·obtain⟨row,aD⟩:∃row,m[k]? =some row:=⟨_,A3 aF⟩;obtain⟨b,off,cpr,he,hb,-⟩:=Hv.o.qac J;obtain⟨rfl,-⟩:a=some ⟨b,off,none⟩∧cap0=cpr:=by simpa using he
  obtain⟨u,aW,hu⟩:=Sl.at Hv.o aD;have hu:Au w u row:=hu;obtain⟨br,cpr,rfl,-⟩:=id hu;obtain⟨aj,eE⟩:=an.2 row (A4 aD);have fp:row.length≤5:=J;have i7:=Z (BX BZ aD);have da:=Z aD;have Hu:=Z hu;have jb:=Z eE;clear aD he hu eE aj;cases hi:BZ row
  ·have Hi:=Z hi;clear hi;have Hf:=Z (show Dl m=false from by unfold Dl;rw[BM _ da.o Hi.o];simp);go_wp2_with fail;refine(OT _ _ _ Hu.o fp jb.o).mono ?_;rintro e w' ⟨p,q,rfl,rfl⟩;rw[Hi.o];go_wp2
   go_ret
   exact⟨AW Hf.o.symm,rfl⟩
  ·have Hi:=Z hi;clear hi;go_wp2_with fail;refine(OT _ _ _ Hu.o fp jb.o).mono ?_;rintro e w' ⟨p,q,rfl,rfl⟩;rw[Hi.o];go_wp2
   go_round
   exact⟨k+1,J,by go_num,by rw[i7.o,aT.o,Hi.o];rfl⟩;exact Jv
 ·have Hf:=Z (show Dl m=true from by unfold Dl;rw[aR.o,DR aT.o J];rfl);go_wp2
  go_ret
  exact⟨AW Hf.o.symm,rfl⟩
theorem Yf(v:Value)(m:I)(w:World)(hv:AI w v m):Calls Tryz.prog 259 #[v] w fun e w'=>e=.returned (.bool (Dl (Mq m)))∧Below w.heap.size w w':=by
 go_enter Tryz.func259,Tryz.ntmps259;go_wp2_with fail;refine(Fu 198 (.inr rfl) _ _ _ hv).mono ?_;rintro e w1 ⟨v1,rfl,ho,aA⟩;go_wp2_with fail;refine(MB _ _ _ ho.qag).mono ?_;rintro e w2 ⟨rfl,rfl⟩;go_wp2
 go_ret
 exact⟨rfl,aA⟩
def Mt(m:I):Bool:=Dl m&&Dl (Mq m)
theorem NK(F0:Nat)(eS:F0=110∨F0=190)(v:Value)(m:I)(w:World)(hv:AI w v m):Calls Tryz.prog F0 #[v] w fun e w'=>e=.returned (.bool (Mt m))∧Below w.heap.size w w':=by
 rcases eS with rfl|rfl
 all_goals
  have Hv:=Z hv;obtain⟨a,cap0,rfl,-⟩:=hv;cases h:Dl m
  ·have Hr:=Z (show Mt m=false from by unfold Mt;rw[h];rfl);have H:=Z h;clear h
   first|go_enter Tryz.func110,Tryz.ntmps110|go_enter Tryz.func190,Tryz.ntmps190
   go_wp2_with fail
   first|(go_at_call 166;refine(MC _ _ _ Hv.o).mono ?_)|(refine(MB _ _ _ Hv.o).mono ?_)
   rintro e w' ⟨rfl,rfl⟩;rw[H.o];go_wp2
   go_ret
   exact⟨AW Hr.o.symm,A6 _ _⟩
  ·have Hr:=Z (show Mt m=Dl (Mq m)from by unfold Mt;rw[h];rfl);have H:=Z h;clear h
   first|go_enter Tryz.func110,Tryz.ntmps110|go_enter Tryz.func190,Tryz.ntmps190
   go_wp2_with fail
   first|(go_at_call 166;refine(MC _ _ _ Hv.o).mono ?_)|(refine(MB _ _ _ Hv.o).mono ?_)
   rintro e w' ⟨rfl,rfl⟩;rw[H.o];go_wp2_with fail
   first|(go_at_call 167;refine(X0 _ _ _ Hv.o).mono ?_)|(refine(Yf _ _ _ Hv.o).mono ?_)
   rintro e w2 ⟨rfl,b2⟩;go_wp2
   go_ret
   exact⟨AW Hr.o.symm,b2⟩
theorem Nw(v:Value)(m:I)(w:World)(hv:AI w v m):Calls Tryz.prog 111 #[v] w fun e w'=>e=.returned (.bool (Cz m==1))∧Below w.heap.size w w':=by
 have Hv:=Z hv;obtain⟨a,cap0,rfl,-⟩:=hv;obtain⟨z,hz⟩:∃z,z=Cz m:=⟨_,rfl⟩;have Hz:=Z hz;rw[←hz];clear hz;go_enter Tryz.func111,Tryz.ntmps111;go_wp2_with fail;refine(Tv _ _ _ Hv.o).mono ?_;rintro e w2 ⟨rfl,b2⟩;rw[←Hz.o];go_wp2
 go_ret
 exact⟨rfl,b2⟩
theorem Nt(v:Value)(m:I)(w:World)(hv:AI w v m):Calls Tryz.prog 191 #[v] w fun e w'=>e=.returned (.bool (Cz m==1))∧Below w.heap.size w w':=by
 have Hv:=Z hv;obtain⟨a,cap0,rfl,-⟩:=hv;obtain⟨z,hz⟩:∃z,z=Cz m:=⟨_,rfl⟩;have Hz:=Z hz;rw[←hz];clear hz;go_enter Tryz.func191,Tryz.ntmps191;go_wp2_with fail;refine(Tn _ _ _ Hv.o).mono ?_;rintro e w2 ⟨rfl,b2⟩;rw[←Hz.o];go_wp2
 go_ret
 exact⟨rfl,b2⟩
def M2(rows cols:U):List I:=(Bt rows cols).filter fun m=>Mt m&&(Cz m==1)
theorem A14:(Tryz.prog.info? 31).map (fun i=>(i.zero,i.size,i.bytes))=some (some (.slice none 0 0),1,24):=by kernel_rfl
def Jc(m:I):Bool:=Mt m&&(Cz m==1)
theorem Ud(rows cols:U):M2 rows cols=(Bt rows cols).filter Jc:=rfl
theorem VJ{α:Type}(p:α→Bool){l:List α}{x:α}(h:l[k]? =some x):(l.take (k+1)).filter p=(l.take k).filter p++(if p x then[x]else[]):=by
 rw[Ao,h,List.filter_append];cases hp:p x<;>simp[hp]
def A3r(w:World)(xs ys:U)(e:Ending)(w':World):Prop:=∃v',e=.returned (.tuple #[v',.bool (AT xs ys)])∧Gv w' v' (M2 xs ys)∧Below w.heap.size w w'
theorem A0Y(w:World):Gv w (.slice none 0 0) []:=⟨none,0,rfl,Jj,Jj,fun _=>rfl,fun h=>by simp at h⟩
theorem Mz(F0:Nat)(eS:F0=51∨F0=132)(vx vy:Value)(xs ys:U)(w:World)(hx:Au w vx xs)(hy:Au w vy ys):Calls Tryz.prog F0 #[vx,vy] w (A3r w xs ys):=by
 rcases eS with rfl|rfl
 all_goals
  have dG:=Eo xs ys;obtain⟨L,hL⟩:∃L,L=Bt xs ys:=⟨_,rfl⟩;have aU:=Z (show L.filter Jc=M2 xs ys from by rw[hL,Ud]);rw[←hL]at dG;have HL:=Z hL;have Hx:=Z hx;have Hy:=Z hy;obtain⟨ax,cx,rfl,-⟩:=hx;obtain⟨ay,cy,rfl,-⟩:=hy;clear hL
  first|go_enter Tryz.func51,Tryz.ntmps51|go_enter Tryz.func132,Tryz.ntmps132
  go_wp2_with fail
  first|(go_at_call 48;refine(El _ _ _ _ _ Hx.o Hy.o).mono ?_)|(refine(Jo _ _ _ _ _ Hx.o Hy.o).mono ?_)
  rintro e w1 ⟨v1,rfl,o1,b1⟩;rw[←HL.o]at o1;obtain⟨p1,p2,p3,rfl⟩:=o1.shape;have jj:=Sl.len o1.qan;subst jj;have Hg:=Z o1.qan;cases hok:AT xs ys
  ·have aR:=Z hok;have Hr:=Z (show M2 xs ys=[]from by rw[Ud,GB hok];rfl);clear o1 hok;go_wp2
   go_ret2
   exact⟨_,by rw[aR.o];rfl,by rw[Hr.o];exact A0Y _,b1⟩
  have aR:=Z hok;obtain⟨N,hN⟩:∃N,N=L.length:=⟨_,rfl⟩;rw[←hN]at Hg dG⊢;have HN:=Z hN;clear o1 hN hok;go_wp2
  first|go_loopw [8,10,21] (fun out _ i wr=>∃(k:Nat)(us:List Value),k≤N∧i=.int .i64 k∧Hid (Ag 31 PS (Iv w1.heap.size wr.heap.size) wr out us)∧Hid (In (Sl (Sl Ap)) w1 us ((L.take k).filter Jc))∧Hid (Below w1.heap.size w1 wr)) (fun _ _ i _=>N-(intOf i).toNat)|go_loopw [8,10,22] (fun out _ i wr=>∃(k:Nat)(us:List Value),k≤N∧i=.int .i64 k∧Hid (Ag 31 PS (Iv w1.heap.size wr.heap.size) wr out us)∧Hid (In (Sl (Sl Ap)) w1 us ((L.take k).filter Jc))∧Hid (Below w1.heap.size w1 wr)) (fun _ _ i _=>N-(intOf i).toNat)
  case atStart=>exact⟨0,[],A7 _,rfl,by first|exact Z (Ag.nil _ _ _ _)|exact Z (BK _ _ _ EW),In.nil _ _,by first|exact Z (A6 _ _)|exact Z (Below.qab _ _)⟩
  obtain⟨k,us,hk,rfl,Ho,Hh,Hb⟩:=hrel;by_cases aF:k<N
  ·obtain⟨x,hx⟩:∃x,L[k]? =some x:=⟨_,A3 (by rw[←HN.o];exact aF)⟩;obtain⟨gl,go,gc,he,bz,-⟩:=Hg.o.qac (by rw[←HN.o];omega);obtain⟨rfl,-⟩:p1=some ⟨gl,go,none⟩∧p3=gc:=by
    simp only[Value.slice.injEq]at he;exact⟨he.1,he.2.2⟩
   obtain⟨u,aW,hu⟩:=Sl.at Hg.o hx;have Hu:=Z (show AI w1 u x from hu);obtain⟨ua,uc,rfl,-⟩:=hu;have gy:=(Hb.o.cell (p:=⟨gl,go+k,none⟩) bz).trans aW;have nW:=Z (VJ Jc hx);have aN:=Hh.o.1;have pZ:((L.take k).filter Jc).length≤k:=Aj (List.length_filter_le _ _) (by rw[At];omega);have q8:us.length<1099511627776:=J;obtain⟨wo,rfl⟩:∃wo:World,wo=wr:=⟨_,rfl⟩;obtain⟨q1,q2,q3,rfl⟩:=Ho.o.shape;clear hx aW he aN pZ;cases hc1:Mt x
   ·have vI:=Z hc1;have oP:=Z (show(L.take (k+1)).filter Jc=(L.take k).filter Jc from by rw[nW.o];simp[Jc,hc1]);clear hc1;go_wp2_with fail;refine(NK _ Jq _ _ _ (Hu.o.keep Hb.o)).mono ?_;rintro e w2 ⟨rfl,b2⟩;rw[vI.o];have dB:=Z (Ag.grow EW Ho.o (A2 _) b2);have be:=Z (Hb.o.qaa b2 (A2 _));clear b2;go_wp2;go_roundw;exact⟨k+1,us,J,by go_num,dB,Z (by rw[oP.o];exact Hh.o),be⟩;exact Jv
   ·have vI:=Z hc1;cases cM:(Cz x==1)
    ·have kD:=Z cM;have oP:=Z (show(L.take (k+1)).filter Jc=(L.take k).filter Jc from by rw[nW.o];simp[Jc,hc1,cM]);clear hc1 cM;go_wp2_with fail;refine(NK _ Jq _ _ _ (Hu.o.keep Hb.o)).mono ?_;rintro e w2 ⟨rfl,b2⟩;rw[vI.o];go_wp2_with fail
     first|(go_at_call 111;refine(Nw _ _ _ ((Hu.o.keep Hb.o).keep b2)).mono ?_)|(refine(Nt _ _ _ ((Hu.o.keep Hb.o).keep b2)).mono ?_)
     rintro e w3 ⟨rfl,b3⟩;rw[kD.o];have rU:=b2.qaa b3 (A2 _);have dB:=Z (Ag.grow EW Ho.o (A2 _) rU);have be:=Z (Hb.o.qaa rU (A2 _));clear b2 b3 rU;go_wp2;go_roundw;exact⟨k+1,us,J,by go_num,dB,Z (by rw[oP.o];exact Hh.o),be⟩;exact Jv
    ·have kD:=Z cM;have oP:=Z (show(L.take (k+1)).filter Jc=(L.take k).filter Jc++[x]from by rw[nW.o];simp[Jc,hc1,cM]);clear hc1 cM;go_wp2_with fail;refine(NK _ Jq _ _ _ (Hu.o.keep Hb.o)).mono ?_;rintro e w2 ⟨rfl,b2⟩;rw[vI.o];go_wp2_with fail
     first|(go_at_call 111;refine(Nw _ _ _ ((Hu.o.keep Hb.o).keep b2)).mono ?_)|(refine(Nt _ _ _ ((Hu.o.keep Hb.o).keep b2)).mono ?_)
     rintro e w3 ⟨rfl,b3⟩;rw[kD.o];have rU:=b2.qaa b3 (A2 _);have dB:=Z (Ag.grow EW Ho.o (A2 _) rU);have be:=Z (Hb.o.qaa rU (A2 _));have hw4:=be.o.size;clear b2 b3 rU;go_wp2_with (first|(at_builtin;(refine AH rfl _ _ 77 rfl EW 31 Tryz.underlying77 A14 rfl Jq w1.heap.size w3.heap.size hw4 (A2 _) rfl rfl (by exact dB.o) (by exact⟨rfl,rfl⟩) q8 ?_);intro v2 w2 hown2 hbel2 _)|fail);have bN:=Z (be.o.trans hbel2);have lm:=Z (Hh.o.snoc (x:=x) Hu.o);exact⟨⟨k+1,_,J,by go_num,Z hown2,Z (by rw[oP.o];exact lm.o),bN⟩,by simp[intOf];omega⟩
  ·obtain rfl:k=N:=J;rw[A9 (by rw[←HN.o];exact A2 _)]at Hh;obtain⟨q1,q2,q3,rfl⟩:=Ho.o.shape;have kf:=Z ((Hh.o.keep (Cd (Cd A8)) Hb.o).list Ho.o);have js:=b1.qaa Hb.o (A2 _);go_wp2
   go_ret2
   exact⟨_,by rw[aR.o];rfl,by rw[←aU.o];exact kf.o,js⟩
