/- Base. -/
import Derived.Test.YthmocomfjgmjoaaGreatDoorQ06
import Derived.Test.YthmocomfjgmjoaaGreatDoorQ09
import Derived.Test.YthmocomfjgmjoaaGreatDoorQ10
set_option maxHeartbeats 2000000
set_option maxRecDepth 100000
namespace Go.Proofs.YthmocomfjgmjoaaGreatDoor
open Go.RowKit
def Mu(v:Int):List Int→Nat→Int
 |[],_=> -1
 |a::l,k=>if v=a then(k:Int) else Mu v l (k+1)
def idx(v:Int)(l:List Int):Int:=Mu v l 0
theorem Vg{v:Int}{l:List Int}{k:Nat}{x:Int}(h:l[k]? =some x):Mu v (l.drop k) k=if v=x then(k:Int) else Mu v (l.drop (k+1)) (k+1):=by
 obtain⟨h1,rfl⟩:=List.getElem?_eq_some_iff.1 h;rw[List.drop_eq_getElem_cons h1];rfl
def Ii(row:List Int):Int:=max 0 (idx 1 row)
def Hj(row:List Int):List Int:=(row.drop (Ii row).toNat).take (Ay row).toNat
def BP(row:List Int):Bool:=row.all (BR 0 1)&&decide (Ay (Hj row)=Ay row)
theorem A4K(v:Value)(xs:List Int)(n:Int)(w:World)(hv:Ab w v xs):Calls Tryz.prog 288 #[v,.int .i64 n] w fun e w'=>e=.returned (.int .i64 (idx n xs))∧w=w':=by
 have Hv:=Z hv;obtain⟨a,cap,rfl,-,cY,-⟩:=hv;go_enter Tryz.func288,Tryz.ntmps288;go_wp2
 go_loop [5,8] (fun _ i=>∃k:Nat,k≤xs.length∧i=.int .i64 k∧Mu n (xs.drop k) k=idx n xs) (fun _ i=>xs.length-(intOf i).toNat)
 case atStart=>exact⟨0,Nat.zero_le _,rfl,rfl⟩
 case round=>
  obtain⟨k,hk,rfl,hi⟩:=hrel;have Hi:=Z hi;clear hi;by_cases aH:k<xs.length
  ·obtain⟨x,hx⟩:∃x,xs[k]? =some x:=⟨_,List.getElem?_eq_getElem aH⟩;obtain⟨b,off,cpr,he,hb,-⟩:=Hv.o.inv_ne (by omega);obtain⟨rfl,-⟩:a=some ⟨b,off,none⟩∧cap=cpr:=by simpa using he
   have fW:=Ab.at Hv.o hx;have aJ:=Z (Vg (v:=n) hx);clear hx he;by_cases hnx:n=x
   ·subst hnx;have Hr:=Z (show idx n xs=k from by rw[←Hi.o,aJ.o,if_pos rfl]);go_wp2
    go_ret
    exact⟨CM Hr.o.symm,rfl⟩
   ·have aO:(n==x)=false:=by simpa using hnx
    have Hr:=Z (show Mu n (xs.drop (k+1)) (k+1)=idx n xs from by rw[←Hi.o,aJ.o,if_neg hnx]);go_wp2
    go_round
    case rel=>exact⟨k+1,by omega,by go_num,Hr.o⟩
    case measure=>simp[intOf];omega
  ·have Hr:=Z (show idx n xs=-1 from by rw[←Hi.o,List.drop_of_length_le (by omega)];rfl);go_wp2
   go_ret
   exact⟨CM Hr.o.symm,rfl⟩
end Go.Proofs.YthmocomfjgmjoaaGreatDoor
namespace Go.Proofs.YthmocomfjgmjoaaGreatDoor
def Rg(row:List Int):Bool:=
 decide (0≤Ii row)&&decide (Ii row+Ay row≤row.length)&&decide (0≤Ay row)&&(BP row==decide ((BQ row).length≤1))&&
  (!BP row||decide (Ay row=Ay (BQ row)))&&(!BP row||decide (Ay row≤0)||(decide (Ii row<row.length)&&decide (row.getD (Ii row).toNat 0=1)))&&
  (decide (row.length=0)||decide (Ii row<row.length))
theorem A35:((List.range 6).all fun n=>(List.range (2^n)).all fun key=>Rg (AO n key))=true:=by decide+kernel
theorem A2D{row:List Int}(hl:row.length≤5)(hb:∀x∈row,0≤x∧x≤1):Rg row=true:=by
 obtain⟨h1,h2⟩:=Yn row hb;have h:=A35;rw[List.all_eq_true] at h;have h3:=h row.length (List.mem_range.2 (by omega));rw[List.all_eq_true] at h3;have h4:=h3 (Du row) (List.mem_range.2 h1);rwa[h2] at h4
end Go.Proofs.YthmocomfjgmjoaaGreatDoor
namespace Go.Proofs.YthmocomfjgmjoaaGreatDoor
set_option linter.unusedSimpArgs false
open Go.RowKit
theorem A3i{w:World}{b off n c:Nat}{l:List Int}(h:Ab w (.slice (some ⟨b,off,none⟩) n c) l){i k:Nat}(x9:i+k≤l.length)(cap:Nat)(hc:k≤cap)(hb:b<w.heap.size):Ab w (.slice (some ⟨b,off+i,none⟩) k cap) ((l.drop i).take k):=by
 have hl:((l.drop i).take k).length=k:=by simp;omega
 refine⟨some ⟨b,off+i,none⟩,cap,by rw[hl],by rw[hl];exact hc,by rw[hl];obtain⟨a',cap',he,h1,h2,-⟩:=h;omega,fun h=>by simp at h,fun _=>⟨b,off+i,rfl,hb,fun j x hx=>?_⟩⟩;have hj:=(List.getElem?_eq_some_iff.1 hx).1;rw[hl] at hj;rw[List.getElem?_take,if_pos hj,List.getElem?_drop] at hx;obtain⟨u,hu,hr⟩:=Sl.at h hx;exact⟨u,by rw[Nat.add_assoc];exact hu,hr⟩
def ES(row:List Int):Value:=.tuple #[.int .i64 (if BP row then Ii row else 0),.int .i64 (if BP row then Ay row else 0),.bool (BP row)]
theorem OA(v:Value)(row:List Int)(w:World)(hv:Ab w v row)(h1:1≤row.length)(h5:row.length≤5)(hb:∀x∈row,0≤x∧x≤1):
  Calls Tryz.prog 231 #[v] w fun e w'=>e=.returned (ES row)∧w=w':=by
 have hf:=A2D h5 hb;unfold Rg at hf;simp only[Bool.and_eq_true,decide_eq_true_eq] at hf;obtain⟨⟨⟨⟨⟨⟨hf0,hf1⟩,hf2⟩,-⟩,-⟩,-⟩,hf6⟩:=hf;have uu:Ii row<row.length:=by simp at hf6;rcases hf6 with h|h
                                                                                                                                                                  ·subst h;simp at h1
                                                                                                                                                                  ·exact h
 have aR:row.all (BR 0 1)=true:=by rw[List.all_eq_true];exact fun x hx=>Fg (hb x hx).1 (hb x hx).2
 have iK:Ix row:=⟨by omega,fun x hx=>by have:=hb x hx;omega⟩;have Hv:=Z hv;obtain⟨b,off,cap,rfl,ep,-⟩:=hv.inv_ne (by omega);have ak:row.length≤cap:=by obtain⟨a',cap',he,h1,-⟩:=hv;simp at he;omega
 obtain⟨F,hF⟩:=Int.eq_ofNat_of_zero_le hf0;obtain⟨N,hN⟩:=Int.eq_ofNat_of_zero_le hf2;rw[hF,hN] at hf1;rw[hF] at uu;have hFc:F<cap:=by omega
 have hFN:F+N≤row.length:=by omega
 have my:Hj row=(row.drop F).take N:=by unfold Hj;rw[hF,hN];rfl
 have rW:=A3i hv (i:=F) (k:=N) hFN (cap-F) (by omega) ep;rw[←my] at rW;have uv:Ix (Hj row):=by
  rw[my];exact⟨by simp;omega,fun x hx=>by have:=hb x (List.mem_of_mem_drop (List.mem_of_mem_take hx));omega⟩
 have jO:max 0 (idx 1 row)=(F:Int):=hF;have Hsub:=Z rW;have HsmS:=Z uv;have aY:=Z aR;have m6:=Z iK;have HN:=Z hN;have HF:=Z hF;have hI:Hid (BP row=decide (Ay (Hj row)=Ay row)):=Z (by unfold BP;rw[aR];rfl);clear hv hb aR iK hN hF my rW uv hf0 hf1 hf2;go_enter Tryz.func231,Tryz.ntmps231;go_wp2_with (fail);refine(C6 _ _ _ _ _ Hv.o).mono ?_;rintro e w' ⟨rfl,rfl⟩;rw[aY.o];go_wp2_with (fail);refine(G7 _ _ _ Hv.o m6.o).mono ?_;rintro e w' ⟨rfl,rfl⟩;rw[HN.o];go_wp2_with (fail);refine(A4K _ _ _ _ Hv.o).mono ?_;rintro e w' ⟨rfl,rfl⟩;clear hf6 uu;have aF:Calls Tryz.prog 87 #[.slice (some ⟨b,off+F,none⟩) N (cap-F)] w fun e w'=>e=.returned (.int .i64 (Ay (Hj row)))∧w=w':=G7 _ _ _ Hsub.o HsmS.o;have aZ:=Z aF;clear aF;generalize idx 1 row=i at jO⊢;rcases Nat.eq_zero_or_pos F with h0|h0
 ·subst h0;have hi0:i≤0:=by omega
  rw[Nat.add_zero,Nat.sub_zero] at aZ;rcases Int.lt_or_le i 0 with hi|hi
  ·go_wp2_with (fail);refine aZ.o.mono ?_;rintro e w' ⟨rfl,rfl⟩;by_cases he:Ay (Hj row)=(N:Int)
   ·have Hr:=Z (show BP row=true from by rw[hI.o,HN.o];simpa using he);rw[he];go_wp2;refine bodyPost_ret (v:=.tuple #[.int .i64 0,.int .i64 N,.bool true]) (by simp[results,Tryz.results231,go_sem]) rfl ⟨by unfold ES;rw[Hr.o];simp[HF.o,HN.o],rfl⟩
   ·have Hr:=Z (show BP row=false from by rw[hI.o,HN.o];simpa using he);have aO:(Ay (Hj row)==(N:Int))=false:=by simpa using he
    go_wp2;refine bodyPost_ret (v:=.tuple #[.int .i64 0,.int .i64 0,.bool false]) (by simp[results,Tryz.results231,go_sem]) rfl ⟨by unfold ES;rw[Hr.o];simp[HF.o,HN.o],rfl⟩
  ·obtain rfl:i=0:=by omega
   go_wp2_with (fail);refine aZ.o.mono ?_;rintro e w' ⟨rfl,rfl⟩;by_cases he:Ay (Hj row)=(N:Int)
   ·have Hr:=Z (show BP row=true from by rw[hI.o,HN.o];simpa using he);rw[he];go_wp2;refine bodyPost_ret (v:=.tuple #[.int .i64 0,.int .i64 N,.bool true]) (by simp[results,Tryz.results231,go_sem]) rfl ⟨by unfold ES;rw[Hr.o];simp[HF.o,HN.o],rfl⟩
   ·have Hr:=Z (show BP row=false from by rw[hI.o,HN.o];simpa using he);have aO:(Ay (Hj row)==(N:Int))=false:=by simpa using he
    go_wp2;refine bodyPost_ret (v:=.tuple #[.int .i64 0,.int .i64 0,.bool false]) (by simp[results,Tryz.results231,go_sem]) rfl ⟨by unfold ES;rw[Hr.o];simp[HF.o,HN.o],rfl⟩
 ·obtain rfl:i=(F:Int):=by omega
  have hmx':max (0:Int) (F:Int)=(F:Int):=jO;go_wp2_with (fail);refine aZ.o.mono ?_;rintro e w' ⟨rfl,rfl⟩;by_cases he:Ay (Hj row)=(N:Int)
  ·have Hr:=Z (show BP row=true from by rw[hI.o,HN.o];simpa using he);rw[he];go_wp2;refine bodyPost_ret (v:=.tuple #[.int .i64 F,.int .i64 N,.bool true]) (by simp[results,Tryz.results231,go_sem]) rfl ⟨by unfold ES;rw[Hr.o];simp[HF.o,HN.o],rfl⟩
  ·have Hr:=Z (show BP row=false from by rw[hI.o,HN.o];simpa using he);have aO:(Ay (Hj row)==(N:Int))=false:=by simpa using he
   go_wp2;refine bodyPost_ret (v:=.tuple #[.int .i64 0,.int .i64 0,.bool false]) (by simp[results,Tryz.results231,go_sem]) rfl ⟨by unfold ES;rw[Hr.o];simp[HF.o,HN.o],rfl⟩
def CQ(m:List (List Int)):Bool:=Af m&&m.all BP
theorem LJ(v:Value)(m:List (List Int))(w:World)(hv:Ak w v m):Calls Tryz.prog 166 #[v] w fun e w'=>e=.returned (.bool (CQ m))∧w=w':=by
 have Hv:=Z hv;obtain⟨a,cap0,rfl,ak,cY,-,-⟩:=hv;cases aD:Af m
 ·have Hr:=Z (show CQ m=false from by simp[CQ,aD]);have aS:=Z aD;clear aD;go_enter Tryz.func166,Tryz.ntmps166;go_wp2_with (fail);refine(AP _ _ _ Hv.o).mono ?_;rintro e w' ⟨rfl,rfl⟩;rw[aS.o];go_wp2
  go_ret
  exact⟨AI Hr.o.symm,rfl⟩
 obtain⟨r,c,hr1,hr5,hc1,hc5,bA⟩:=Ad aD;have rX:1≤m.length:=by have:=bA.1;omega
 have aS:=Z aD;clear aD;go_enter Tryz.func166,Tryz.ntmps166;go_wp2_with (fail);refine(AP _ _ _ Hv.o).mono ?_;rintro e w' ⟨rfl,rfl⟩;rw[aS.o];go_wp2
 go_loop [4,5,6,7,13] (fun _ _ _ _ i=>∃k:Nat,k≤m.length∧i=.int .i64 k∧(m.take k).all BP=true) (fun _ _ _ _ i=>m.length-(intOf i).toNat)
 case atStart=>exact⟨0,Nat.zero_le _,rfl,rfl⟩
 case round=>
  obtain⟨k,hk,rfl,aR⟩:=hrel;have aY:=Z aR;clear aR;by_cases aH:k<m.length
  ·obtain⟨row,aG⟩:∃row,m[k]? =some row:=⟨_,List.getElem?_eq_getElem aH⟩;obtain⟨b,off,cpr,he,hb,-⟩:=Hv.o.inv_ne (by omega);obtain⟨rfl,-⟩:a=some ⟨b,off,none⟩∧cap0=cpr:=by simpa using he
   obtain⟨u,aQ,hu⟩:=Sl.at Hv.o aG;have hu:Ab w u row:=hu;obtain⟨br,cpr,rfl,-⟩:=id hu;obtain⟨aw,eG⟩:=bA.2 row (List.mem_of_getElem? aG);have rY:1≤row.length:=by omega
   have gE:row.length≤5:=by omega
   have iz:=Z (BO BP aG);have da:=Z aG;have Hu:=Z hu;have jn:=Z eG;clear aG he hu eG aw;cases hi:BP row
   ·have Hi:=Z hi;clear hi;have Hf:=Z (show CQ m=false from by unfold CQ;rw[BH _ da.o Hi.o];simp);have mz:ES row=.tuple #[.int .i64 0,.int .i64 0,.bool false]:=by unfold ES;rw[Hi.o];rfl
    have iw:=Z mz;clear mz;go_wp2_with (fail);refine(OA _ _ _ Hu.o rY gE jn.o).mono ?_;rintro e w' ⟨rfl,rfl⟩;rw[iw.o];go_wp2
    go_ret
    exact⟨AI Hf.o.symm,rfl⟩
   ·have Hi:=Z hi;clear hi;have mz:ES row=.tuple #[.int .i64 (Ii row),.int .i64 (Ay row),.bool true]:=by unfold ES;rw[Hi.o];rfl
    have iw:=Z mz;clear mz;go_wp2_with (fail);refine(OA _ _ _ Hu.o rY gE jn.o).mono ?_;rintro e w' ⟨rfl,rfl⟩;rw[iw.o];go_wp2
    go_round
    case rel=>exact⟨k+1,by omega,by go_num,by rw[iz.o,aY.o,Hi.o];rfl⟩
    case measure=>simp[intOf];omega
  ·have Hf:=Z (show CQ m=true from by unfold CQ;rw[aS.o,DK aY.o (by omega)];rfl);go_wp2
   go_ret
   exact⟨AI Hf.o.symm,rfl⟩
theorem XI(v:Value)(m:List (List Int))(w:World)(hv:Ak w v m):Calls Tryz.prog 167 #[v] w fun e w'=>e=.returned (.bool (CQ (HJ m)))∧Below w.heap.size w w':=by
 go_enter Tryz.func167,Tryz.ntmps167;go_wp2_with (fail);refine(JD _ _ _ hv).mono ?_;rintro e w1 ⟨v1,rfl,ho,aA⟩;go_wp2_with (fail);refine(LJ _ _ _ ho.grid).mono ?_;rintro e w2 ⟨rfl,rfl⟩;go_wp2
 go_ret
 exact⟨rfl,aA⟩
end Go.Proofs.YthmocomfjgmjoaaGreatDoor
namespace Go.Proofs.YthmocomfjgmjoaaGreatDoor
open Go.RowKit
def isc:List Int→Nat→Int→Int→Bool
 |[],_,_,_=>true
 |x::l,i,f,n=>if x=1 then(if f<0 then(if(i:Int)=i+n then isc l (i+1) i (n+1) else false) else(if(i:Int)=f+n then isc l (i+1) f (n+1) else false)) else isc l (i+1) f n
theorem A4Y:((List.range 6).all fun n=>(List.range (2^n)).all fun key=>isc (AO n key) 0 (-1) 0==BP (AO n key))=true:=by decide+kernel
theorem A4M{row:List Int}(hl:row.length≤5)(hb:∀x∈row,0≤x∧x≤1):isc row 0 (-1) 0=BP row:=by
 obtain⟨h1,h2⟩:=Yn row hb;have h:=A4Y;rw[List.all_eq_true] at h;have h3:=h row.length (List.mem_range.2 (by omega));rw[List.all_eq_true] at h3;have h4:=h3 (Du row) (List.mem_range.2 h1);rw[h2] at h4;exact eq_of_beq h4
theorem A3B{row:List Int}{k:Nat}{x:Int}(h:row[k]? =some x)(f n:Int):isc (row.drop k) k f n=if x=1 then(if f<0 then(if(k:Int)=k+n then isc (row.drop (k+1)) (k+1) k (n+1) else false) else(if(k:Int)=f+n then isc (row.drop (k+1)) (k+1) f (n+1) else false)) else isc (row.drop (k+1)) (k+1) f n:=by
 obtain⟨h1,rfl⟩:=List.getElem?_eq_some_iff.1 h;rw[List.drop_eq_getElem_cons h1];rfl
theorem A3A{m:List (List Int)}{r c:Nat}(hs:Ac r c m)(hr:1≤r)(h:Af m=true)(y x:Int):isB r c m y x=(I7 m y x==1):=by
 rw[A0V hs hr h];unfold A3L isB;cases hb:Q8 r c y x
 ·have:¬(0≤y∧y<r∧0≤x∧x<c):=by rw[←Fs,hb];simp
  simp only[Bool.false_eq_true,if_false];rw[show((-1:Int)==1)=false from rfl,Bool.eq_false_iff];intro h1;simp only[Bool.and_eq_true,decide_eq_true_eq] at h1;exact this ⟨h1.1.1.1.1,h1.1.1.1.2,h1.1.1.2,h1.1.2⟩
 ·rw[Fs] at hb;simp only[if_true];rw[decide_eq_true hb.1,decide_eq_true hb.2.1,decide_eq_true hb.2.2.1,decide_eq_true hb.2.2.2];show decide (Al m y.toNat x.toNat=1)=_;rw[show(m.getD y.toNat []).getD x.toNat 0=Al m y.toNat x.toNat from rfl];rfl
structure Uq(n g0 g1 r c G cap:Nat)(Q C:Nat→Nat)(W0 w:World)(m:List (List Int)):Prop where
 base:Below n W0 w
 sh:Ac r c m
 own:A4 32 (A4 3 A7) (Iv g0 g1) w (.slice (some ⟨G,0,none⟩) r cap) m
 rows:∀k,k<r→w.cell? ⟨G,k,none⟩=some (.slice (some ⟨Q k,0,none⟩) c (C k))
 hg:g1≤w.heap.size
theorem Uq.set{n g0 g1 r c G cap:Nat}{Q C:Nat→Nat}{W0 w:World}{m:List (List Int)}(hn:n≤g0)(h:Uq n g0 g1 r c G cap Q C W0 w m){y x:Nat}(hy:y<r)(hx:x<c){z:Int}(dB:0≤z)(bZ:z≤1):
  w.cell? ⟨Q y,x,none⟩=some (.int .i64 (Al m y x))∧w.frozen? ⟨Q y,x,none⟩=false∧(g0≤Q y∧Q y<g1)∧
  Uq n g0 g1 r c G cap Q C W0 (w.setCell ⟨Q y,x,none⟩ (.int .i64 z)) (setC m y x z):=by
 obtain⟨aG,aw⟩:=Cv h.sh hy;obtain⟨q,cq,aM,hG,hq,hqG,di,dz,lp,ap⟩:=AC h.own aG (by omega);have hQ:=h.rows y hy;rw[aM] at hQ;have e:=Option.some.inj hQ;have e2:q=Q y:=by injection e with e1 e3 e4;injection e1 with e5;injection e5
 subst e2;have ke:=lp x (Al m y x) (BE 0 (by omega));have gN:=(dz x (by omega)).2;have q1:=hq.1;have q2:=hq.2;refine⟨ke,gN,⟨q1,q2⟩,⟨h.base.setCell (by show n≤Q y;omega) _,El h.sh hy dB bZ,ap w (fun _ _=>rfl) x z (by omega) (BV.small (by omega) (by omega)),fun k hk=>?_,by rw[A9];exact h.hg⟩⟩;rw[World.cell?_of_block (w:=w) (a:=⟨G,k,none⟩) (Below.heap_setCell w ⟨Q y,x,none⟩ (.int .i64 z) G (by simpa using fun e=>hqG e.symm))];exact h.rows k hk
theorem Uq.cell{n g0 g1 r c G cap:Nat}{Q C:Nat→Nat}{W0 w:World}{m:List (List Int)}(h:Uq n g0 g1 r c G cap Q C W0 w m){y x:Nat}(hy:y<r)(hx:x<c):w.cell? ⟨Q y,x,none⟩=some (.int .i64 (Al m y x)):=by
 obtain⟨aG,aw⟩:=Cv h.sh hy;obtain⟨q,cq,aM,hG,hq,hqG,di,dz,lp,ap⟩:=AC h.own aG (by omega);have hQ:=h.rows y hy;rw[aM] at hQ;have e:=Option.some.inj hQ;have e2:q=Q y:=by injection e with e1 e3 e4;injection e1 with e5;injection e5
 subst e2;exact lp x (Al m y x) (BE 0 (by omega))
theorem Uq.make{g0 g1 r c G cap:Nat}{W0 w:World}{m:List (List Int)}{n:Nat}(hb:Below n W0 w)(hs:Ac r c m)(hc1:1≤c)(ho:A4 32 (A4 3 A7) (Iv g0 g1) w (.slice (some ⟨G,0,none⟩) r cap) m)(hg:g1≤w.heap.size):
  ∃Q C:Nat→Nat,Uq n g0 g1 r c G cap Q C W0 w m:=by
 refine⟨fun k=>match w.cell? ⟨G,k,none⟩ with|some (.slice (some p) _ _)=>p.block|_=>0,fun k=>match w.cell? ⟨G,k,none⟩ with|some (.slice _ _ q)=>q|_=>0,⟨hb,hs,ho,fun k hk=>?_,hg⟩⟩;have aG:=Cv hs hk;obtain⟨q,cq,aM,-⟩:=AC ho aG.1 (by rw[aG.2];omega);rw[aG.2] at aM;rw[aM]
structure WSt(n Bl Bw g0 g1 r c G cap:Nat)(F:Value)(Q C:Nat→Nat)(W0 w:World)(m:List (List Int)):Prop where
 p:Uq n g0 g1 r c G cap Q C W0 w m
 bl:Aw w Bl #[.slice (some ⟨G,0,none⟩) r cap] 31
 bw:Aw w Bw #[F] 182
theorem WSt.set{n Bl Bw g0 g1 r c G cap:Nat}{F:Value}{Q C:Nat→Nat}{W0 w:World}{m:List (List Int)}(hn:n≤g0)(h2:g1≤Bl)(h3:g1≤Bw)(h:WSt n Bl Bw g0 g1 r c G cap F Q C W0 w m){y x:Nat}(hy:y<r)(hx:x<c){z:Int}(dB:0≤z)(bZ:z≤1):
  w.cell? ⟨Q y,x,none⟩=some (.int .i64 (Al m y x))∧w.frozen? ⟨Q y,x,none⟩=false∧WSt n Bl Bw g0 g1 r c G cap F Q C W0 (w.setCell ⟨Q y,x,none⟩ (.int .i64 z)) (setC m y x z):=by
 obtain⟨a1,a2,⟨a3,a4⟩,a5⟩:=h.p.set hn hy hx dB bZ;exact⟨a1,a2,⟨a5,h.bl.set_ne (by omega) _,h.bw.set_ne (by omega) _⟩⟩
theorem A5z{n Bl Bw g0 g1 r c G cap:Nat}{F:Value}{Q C:Nat→Nat}{W0:World}(h1:n≤g0)(h2:g1≤Bl)(h3:g1≤Bw)
  (hF:F=.func (.func 232) #[] #[.pointer (some ⟨Bl,0,none⟩),.pointer (some ⟨Bw,0,none⟩)])(hr1:1≤r)(hr5:r≤5)(hc1:1≤c)(hc5:c≤5)(N:Nat):
  ∀(y x:Int)(m:List (List Int))(w:World),WSt n Bl Bw g0 g1 r c G cap F Q C W0 w m→blk m<N→-1≤y→y≤5→-1≤x→x≤5→
   Calls Tryz.prog 232 #[.int .i64 y,.int .i64 x,.pointer (some ⟨Bl,0,none⟩),.pointer (some ⟨Bw,0,none⟩)] w fun e w'=>e=.returned (.tuple #[])∧WSt n Bl Bw g0 g1 r c G cap F Q C W0 w' (Et r c N m y x):=by
 subst hF;induction N with
 |zero=>intro y x m w _ hb;omega
 |succ N ih=>
  intro y x m w bE hb jm d5 eu cM;have IH:=Z ih;have aJ:=Z bE;have cl:w.cell? ⟨Bl,0,none⟩=some (.slice (some ⟨G,0,none⟩) r cap):=bE.bl.cell 0;have HG:=Z bE.p.own.grid;have oz:=Z bE.p.sh;have p8:=A3A bE.p.sh hr1 (bE.p.sh.ok hr1 hr5 hc1 hc5) y x;have Hb:=Z hb;obtain⟨z,hz⟩:∃z,z=I7 m y x:=⟨_,rfl⟩;rw[←hz] at p8;have Hz:=Z hz;clear ih bE hz hb;cases hB:isB r c m y x
  ·have Hr:=Z (show Et r c (N+1) m y x=m from Mz (by rw[hB];simp) _);have aO:(z !=1)=true:=by rw[hB] at p8;simp[bne,←p8]
   clear hB p8;go_enter Tryz.func232,Tryz.ntmps232;go_wp2_with (fail);refine(SX _ _ _ _ _ HG.o).mono ?_;rintro e w' ⟨rfl,rfl⟩;rw[←Hz.o];go_wp2;exact bodyPost_ret (v:=.tuple #[]) (by simp[results,Tryz.results232,go_sem]) rfl ⟨rfl,by rw[Hr.o];exact aJ.o⟩
  ·have aO:(z !=1)=false:=by rw[hB] at p8;simp[bne,←p8]
   have Hr:=Z (Yt hB N);obtain⟨b1,b2,b3,b4,-⟩:=Px hB;have iG:=Vz oz.o hB;obtain⟨Y,rfl⟩:∃Y:Nat,y=Y:=⟨y.toNat,by omega⟩;obtain⟨X,rfl⟩:∃X:Nat,x=X:=⟨x.toNat,by omega⟩;rw[Int.toNat_natCast] at b2 b4;rw[Int.toNat_natCast,Int.toNat_natCast] at iG;have aM:=aJ.o.p.rows Y b2;obtain⟨ho,gN,st1⟩:=aJ.o.set h1 h2 h3 b2 b4 (z:=0) (by decide) (by decide);have c1:=st1.bw.cell 0;simp only[List.getElem?_toArray,List.getElem?_cons_zero] at c1;have gv:Hid (blk (setC m Y X 0)<N):=Z (by have:=Hb.o;omega);have uy:=Z st1;have eJ:=Hr;rw[Int.toNat_natCast,Int.toNat_natCast] at eJ;clear hB p8 iG st1 b1 b3 Hr;go_enter Tryz.func232,Tryz.ntmps232;go_wp2_with (fail);refine(SX _ _ _ _ _ HG.o).mono ?_;rintro e w' ⟨rfl,rfl⟩;rw[←Hz.o];go_wp2_with (fail);refine(IH.o ((Y:Int)-1) X _ _ uy.o gv.o (by omega) (by omega) (by omega) (by omega)).mono ?_;rintro e w2 ⟨rfl,st2⟩;have c2:=st2.bw.cell 0;simp only[List.getElem?_toArray,List.getElem?_cons_zero] at c2;have dT:=Z (Nat.lt_of_le_of_lt (FH N ((Y:Int)-1) X uy.o.p.sh).2 gv.o);have fB:=Z st2;clear st2 c1 ho gN aM cl;go_wp2_with (fail);refine(IH.o ((Y:Int)+1) X _ _ fB.o dT.o (by omega) (by omega) (by omega) (by omega)).mono ?_;rintro e w3 ⟨rfl,kg⟩;have c3:=kg.bw.cell 0;simp only[List.getElem?_toArray,List.getElem?_cons_zero] at c3;have gQ:=Z (Nat.lt_of_le_of_lt (FH N ((Y:Int)+1) X fB.o.p.sh).2 dT.o);have g6:=Z kg;clear kg c2;go_wp2_with (fail);refine(IH.o Y ((X:Int)-1) _ _ g6.o gQ.o (by omega) (by omega) (by omega) (by omega)).mono ?_;rintro e w4 ⟨rfl,st4⟩;have c4:=st4.bw.cell 0;simp only[List.getElem?_toArray,List.getElem?_cons_zero] at c4;have oA:=Z (Nat.lt_of_le_of_lt (FH N Y ((X:Int)-1) g6.o.p.sh).2 gQ.o);have oV:=Z st4;clear st4 c3;go_wp2_with (fail);refine(IH.o Y ((X:Int)+1) _ _ oV.o oA.o (by omega) (by omega) (by omega) (by omega)).mono ?_;rintro e w5 ⟨rfl,st5⟩;have St5:=Z st5;clear st5 c4;go_wp2;exact bodyPost_end (results_none rfl _ _ _) rfl ⟨rfl,by rw[eJ.o];exact St5.o⟩
theorem A0z{n g0 g1 r c G cap:Nat}{Q C:Nat→Nat}{W0:World}(h1:n≤g0)(hr1:1≤r)(hr5:r≤5)(hc1:1≤c)(hc5:c≤5)(N:Nat):
  ∀(y x:Int)(m:List (List Int))(w:World),Uq n g0 g1 r c G cap Q C W0 w m→blk m<N→-1≤y→y≤5→-1≤x→x≤5→
   Calls Tryz.prog 296 #[.slice (some ⟨G,0,none⟩) r cap,.int .i64 y,.int .i64 x] w fun e w'=>e=.returned (.tuple #[])∧Uq n g0 g1 r c G cap Q C W0 w' (Et r c N m y x):=by
 induction N with
 |zero=>intro y x m w _ hb;omega
 |succ N ih=>
  intro y x m w bE hb jm d5 eu cM;have IH:=Z ih;have aJ:=Z bE;have Hb:=Z hb;have cF:=bE.rows 0 (by omega);clear ih bE hb;cases e1:BR 0 ((r:Int)-1) y
  ·have Hr:=Z (show Et r c (N+1) m y x=m from Mz (by
    intro h;obtain⟨b1,b2,b3,b4,-⟩:=Px h;have:BR 0 ((r:Int)-1) y=true:=Fg (by omega) (by omega);rw[e1] at this;exact absurd this (by decide)) _)
   have E1:=Z e1;clear e1;go_enter Tryz.func296,Tryz.ntmps296;go_wp2_with (fail);refine(AR _ _ _ _).mono ?_;rintro e w' ⟨rfl,rfl⟩;rw[E1.o];go_wp2;exact bodyPost_ret (v:=.tuple #[]) (by simp[results,Tryz.results296,go_sem]) rfl ⟨rfl,by rw[Hr.o];exact aJ.o⟩
  cases e2:BR 0 ((c:Int)-1) x
  ·have Hr:=Z (show Et r c (N+1) m y x=m from Mz (by
    intro h;obtain⟨b1,b2,b3,b4,-⟩:=Px h;have:BR 0 ((c:Int)-1) x=true:=Fg (by omega) (by omega);rw[e2] at this;exact absurd this (by decide)) _)
   have E1:=Z e1;have E2:=Z e2;clear e1 e2;go_enter Tryz.func296,Tryz.ntmps296;go_wp2_with (fail);refine(AR _ _ _ _).mono ?_;rintro e w' ⟨rfl,rfl⟩;rw[E1.o];go_wp2_with (fail);refine(AR _ _ _ _).mono ?_;rintro e w' ⟨rfl,rfl⟩;rw[E2.o];go_wp2;exact bodyPost_ret (v:=.tuple #[]) (by simp[results,Tryz.results296,go_sem]) rfl ⟨rfl,by rw[Hr.o];exact aJ.o⟩
  have e1':=(AT ..).mp e1;have e2':=(AT ..).mp e2;obtain⟨Y,rfl⟩:∃Y:Nat,y=Y:=⟨y.toNat,by omega⟩;obtain⟨X,rfl⟩:∃X:Nat,x=X:=⟨x.toNat,by omega⟩;have b2:Y<r:=by omega
  have b4:X<c:=by omega
  have E1:=Z e1;have E2:=Z e2;have aM:=aJ.o.rows Y b2;have eS:=AE aJ.o.sh Y X;obtain⟨ho,gN,-,st1⟩:=aJ.o.set h1 b2 b4 (z:=0) (by decide) (by decide);obtain⟨z,hz⟩:∃z,z=Al m Y X:=⟨_,rfl⟩;rw[←hz] at ho eS;have Hz:=Z hz;have hbits1:=eS.1;have hbits2:=eS.2;clear e1 e2 e1' e2' hz eS;by_cases bZ:z=0
  ·subst bZ;have Hr:=Z (show Et r c (N+1) m Y X=m from Mz (by
    intro h;obtain⟨-,-,-,-,h5⟩:=Px h;rw[Int.toNat_natCast,Int.toNat_natCast,←Hz.o] at h5;exact absurd h5 (by decide)) _)
   clear st1;go_enter Tryz.func296,Tryz.ntmps296;go_wp2_with (fail);refine(AR _ _ _ _).mono ?_;rintro e w' ⟨rfl,rfl⟩;rw[E1.o];go_wp2_with (fail);refine(AR _ _ _ _).mono ?_;rintro e w' ⟨rfl,rfl⟩;rw[E2.o];go_wp2;exact bodyPost_ret (v:=.tuple #[]) (by simp[results,Tryz.results296,go_sem]) rfl ⟨rfl,by rw[Hr.o];exact aJ.o⟩
  ·obtain rfl:z=1:=by omega
   have hB:isB r c m Y X=true:=by
    unfold isB;rw[Int.toNat_natCast,Int.toNat_natCast,←Hz.o,decide_eq_true (show(0:Int)≤(Y:Int) by omega),decide_eq_true (show(Y:Int)<(r:Int) by omega),decide_eq_true (show(0:Int)≤(X:Int) by omega),decide_eq_true (show(X:Int)<(c:Int) by omega)];rfl
   have Hr:=Z (Yt hB N);have iG:=Vz aJ.o.sh hB;rw[Int.toNat_natCast,Int.toNat_natCast] at iG Hr;have gv:Hid (blk (setC m Y X 0)<N):=Z (by have:=Hb.o;omega);have uy:=Z st1;clear hB iG st1 bZ;go_enter Tryz.func296,Tryz.ntmps296;go_wp2_with (fail);refine(AR _ _ _ _).mono ?_;rintro e w' ⟨rfl,rfl⟩;rw[E1.o];go_wp2_with (fail);refine(AR _ _ _ _).mono ?_;rintro e w' ⟨rfl,rfl⟩;rw[E2.o];go_wp2_with (fail);refine(IH.o ((Y:Int)-1) X _ _ uy.o gv.o (by omega) (by omega) (by omega) (by omega)).mono ?_;rintro e w2 ⟨rfl,st2⟩;have dT:=Z (Nat.lt_of_le_of_lt (FH N ((Y:Int)-1) X uy.o.sh).2 gv.o);have fB:=Z st2;clear st2 ho gN aM cF;go_wp2_with (fail);refine(IH.o ((Y:Int)+1) X _ _ fB.o dT.o (by omega) (by omega) (by omega) (by omega)).mono ?_;rintro e w3 ⟨rfl,kg⟩;have gQ:=Z (Nat.lt_of_le_of_lt (FH N ((Y:Int)+1) X fB.o.sh).2 dT.o);have g6:=Z kg;clear kg;go_wp2_with (fail);refine(IH.o Y ((X:Int)-1) _ _ g6.o gQ.o (by omega) (by omega) (by omega) (by omega)).mono ?_;rintro e w4 ⟨rfl,st4⟩;have oA:=Z (Nat.lt_of_le_of_lt (FH N Y ((X:Int)-1) g6.o.sh).2 gQ.o);have oV:=Z st4;clear st4;go_wp2_with (fail);refine(IH.o Y ((X:Int)+1) _ _ oV.o oA.o (by omega) (by omega) (by omega) (by omega)).mono ?_;rintro e w5 ⟨rfl,st5⟩;have St5:=Z st5;clear st5;go_wp2;exact bodyPost_end (results_none rfl _ _ _) rfl ⟨rfl,by rw[Hr.o];exact St5.o⟩
theorem TW(v:Value)(m:List (List Int))(w:World)(hv:Ak w v m):Calls Tryz.prog 168 #[v] w fun e w'=>e=.returned (.int .i64 (Cf m))∧Below w.heap.size w w':=by
 have Hv:=Z hv;obtain⟨a,cap0,rfl,-⟩:=id hv;cases aD:Af m
 ·have Hr:=Z (show Cf m=-1 from by unfold Cf;rw[aD];rfl);have aS:=Z aD;clear aD hv;go_enter Tryz.func168,Tryz.ntmps168;go_wp2_with (fail);refine(AP _ _ _ Hv.o).mono ?_;rintro e w' ⟨rfl,rfl⟩;rw[aS.o];go_wp2
  go_ret
  exact⟨CM Hr.o.symm,Below.refl _ _⟩
 obtain⟨r,c,hr1,hr5,hc1,hc5,hs⟩:=Ad aD;have HP:=Z (show Cf m=(Eo r c r (m,0)).2 from by obtain⟨e1,e2⟩:=IB hs hr1;unfold Cf;rw[if_pos aD,e1,e2]);have aS:=Z aD;have jQ:=Z (show m.length≤1048576 from by have:=hs.1;omega);have HR:=Z (show ∀p∈m,p.length≤1048576 from fun p hp=>by have:=(hs.2 p hp).1;omega);clear aD hv;go_enter Tryz.func168,Tryz.ntmps168;go_wp2_with (fail);refine(AP _ _ _ Hv.o).mono ?_;rintro e w' ⟨rfl,rfl⟩;rw[aS.o];go_wp2_with (fail);refine(EO _ m _ Hv.o jQ.o HR.o).mono ?_;rintro e w2 ⟨v2,rfl,o2,b2⟩;have bJ:=hs.1;obtain⟨G,cap,rfl,hG,ak,hGl,-⟩:=o2.inv_ne (by omega);rw[bJ] at o2 ak⊢;have pA:=b2.size;obtain⟨F,hF⟩:∃F:Value,F=.func (.func 232) #[] #[.pointer (some ⟨w2.heap.size,0,none⟩),.pointer (some ⟨w2.heap.size+1,0,none⟩)]:=⟨_,rfl⟩;obtain⟨W6,hW6⟩:∃W6,W6=(w2.alloc (.cells #[.slice (some ⟨G,0,none⟩) r cap] 31)).alloc (.cells #[F] 182):=⟨_,rfl⟩;have po:Below w2.heap.size w2 W6:=by rw[hW6];exact((Below.refl _ _).alloc (Nat.le_refl _) _).alloc (by simp) _
 have z6:W6.heap.size=w2.heap.size+2:=by rw[hW6];simp
 have kl:Aw W6 w2.heap.size #[.slice (some ⟨G,0,none⟩) r cap] 31:=by rw[hW6];exact(Aw.new w2 _ _).keep (Below.pureAlloc _ _)
 have kw:Aw W6 (w2.heap.size+1) #[F] 182:=by
  rw[hW6];have:=Aw.new (w2.alloc (.cells #[.slice (some ⟨G,0,none⟩) r cap] 31)) #[F] 182;simpa using this
 obtain⟨Q,C,hp⟩:=Uq.make (n:=w.heap.size) (g0:=w.heap.size) (g1:=w2.heap.size) (b2.trans_pure po (Nat.le_refl _)) hs hc1 (A4.keep (A3 A2) o2 po (Nat.le_refl _)) (by omega);have aJ:Hid (WSt w.heap.size w2.heap.size (w2.heap.size+1) w.heap.size w2.heap.size r c G cap F Q C w W6 m):=Z ⟨hp,kl,kw⟩;have nA:=Z (A5z (W0:=w) (n:=w.heap.size) (Bl:=w2.heap.size) (Bw:=w2.heap.size+1) (g0:=w.heap.size) (g1:=w2.heap.size) (G:=G) (cap:=cap) (Q:=Q) (C:=C) (Nat.le_refl _) (Nat.le_refl _) (by omega) hF hr1 hr5 hc1 hc5 (r*c+1));clear o2 b2 po z6 kl kw hp bJ hG ak hGl;subst hF;subst hW6;go_wp2;go_loopw [5,6,7,8,9,18] (fun n _ _ _ _ i wr=>∃(k cnt:Nat)(g:List (List Int)),k≤r∧i=.int .i64 k∧n=.int .i64 cnt∧cnt≤5*k∧Hid ((Eo r c (r-k) (g,(cnt:Int))).2=Cf m)∧Hid (WSt w.heap.size w2.heap.size (w2.heap.size+1) w.heap.size w2.heap.size r c G cap (.func (.func 232) #[] #[.pointer (some ⟨w2.heap.size,0,none⟩),.pointer (some ⟨w2.heap.size+1,0,none⟩)]) Q C w wr g)) (fun _ _ _ _ _ i _=>r-(intOf i).toNat)
 case atStart=>exact⟨0,0,m,Nat.zero_le _,rfl,rfl,Nat.le_refl _,Z (by rw[HP.o,Nat.sub_zero];rfl),aJ⟩
 case round=>
  clear aJ;obtain⟨k,cnt,g,hk,rfl,rfl,hcnt,Hc,aJ⟩:=hrel;by_cases aH:k<r
  ·have aG:=aJ.o.p.rows k aH;have dW:decide ((k:Int)<(r:Int))=true:=by simp;omega
   have iy:=Z (show(Eo r c (r-(k+1)) (Gh r c k c (g,(cnt:Int)))).2=Cf m from by rw[←PK aH];exact Hc.o);go_wp2;clear aG;go_loopw [5,8,9,25] (fun n _ _ j wr=>∃(x dQ:Nat)(g2:List (List Int)),x≤c∧j=.int .i64 x∧n=.int .i64 dQ∧dQ≤5*k+x∧Hid ((Eo r c (r-(k+1)) (Gh r c k (c-x) (g2,(dQ:Int)))).2=Cf m)∧Hid (WSt w.heap.size w2.heap.size (w2.heap.size+1) w.heap.size w2.heap.size r c G cap (.func (.func 232) #[] #[.pointer (some ⟨w2.heap.size,0,none⟩),.pointer (some ⟨w2.heap.size+1,0,none⟩)]) Q C w wr g2)) (fun _ _ _ j _=>c-(intOf j).toNat)
   case atStart=>exact⟨0,cnt,g,Nat.zero_le _,rfl,rfl,by omega,Z (by rw[Nat.sub_zero];exact iy.o),aJ⟩
   case round=>
    clear aJ Hc iy;obtain⟨x,dQ,g2,hx,rfl,rfl,hcnt2,Hc,aJ⟩:=hrel;by_cases bt:x<c
    ·have aG:=aJ.o.p.rows k aH;have aM:=aJ.o.p.cell aH bt;have bu:=Z (Qd (r:=r) (y:=k) bt (g2,(dQ:Int)));obtain⟨z,hz⟩:∃z,z=Al g2 k x:=⟨_,rfl⟩;rw[←hz] at aM;have Hz:=Z hz;clear hz;by_cases bZ:z=1
     ·subst bZ;have nB:=Z (show(Eo r c (r-(k+1)) (Gh r c k (c-(x+1)) (Et r c (r*c+1) g2 k x,((dQ+1:Nat):Int)))).2=Cf m from by
       have h:=Hc.o;rw[bu.o,if_pos Hz.o.symm] at h;exact h)
      have il:=Z (Nat.lt_succ_of_le (A3M aJ.o.p.sh));have c4:wr.cell? ⟨w2.heap.size+1,0,none⟩=some (.func (.func 232) #[] #[.pointer (some ⟨w2.heap.size,0,none⟩),.pointer (some ⟨w2.heap.size+1,0,none⟩)]):=aJ.o.bw.cell 0;clear bu;go_wp2_with (fail);refine(nA.o (k:Int) (x:Int) g2 _ aJ.o il.o (by omega) (by omega) (by omega) (by omega)).mono ?_;rintro e w5 ⟨rfl,st5⟩;have rZ:=Z st5;clear st5;go_wp2;go_roundw
      case rel=>exact⟨x+1,dQ+1,_,by omega,by go_num,by go_num,by omega,nB,rZ⟩
      case measure=>simp[intOf];omega
     ·have aO:(z==1)=false:=by rw[beq_eq_false_iff_ne];exact bZ
      have nB:=Z (show(Eo r c (r-(k+1)) (Gh r c k (c-(x+1)) (g2,(dQ:Int)))).2=Cf m from by
       have h:=Hc.o;rw[bu.o,if_neg (by rw[←Hz.o];exact bZ)] at h;exact h)
      clear bu bZ;go_wp2;go_roundw
      case rel=>exact⟨x+1,dQ,g2,by omega,by go_num,rfl,by omega,nB,aJ⟩
      case measure=>simp[intOf];omega
    ·obtain rfl:x=c:=by omega
     have nB:=Z (show(Eo r x (r-(k+1)) (g2,(dQ:Int))).2=Cf m from by
      have h:=Hc.o;rw[Nat.sub_self] at h;exact h)
     go_wp2;go_roundw
     case rel=>exact⟨k+1,dQ,g2,by omega,by go_num,rfl,by omega,nB,aJ⟩
     case measure=>simp[intOf];omega
  ·obtain rfl:k=r:=by omega
   have aZ:=Z (show(cnt:Int)=Cf m from by
    have h:=Hc.o;rw[Nat.sub_self] at h;exact h)
   have Hb:=Z aJ.o.p.base;go_wp2
   go_ret
   exact⟨CM aZ.o,Hb.o⟩
theorem TS(v:Value)(m:List (List Int))(w:World)(hv:Ak w v m):Calls Tryz.prog 260 #[v] w fun e w'=>e=.returned (.int .i64 (Cf m))∧Below w.heap.size w w':=by
 have Hv:=Z hv;obtain⟨a,cap0,rfl,-⟩:=id hv;cases aD:Af m
 ·have Hr:=Z (show Cf m=-1 from by unfold Cf;rw[aD];rfl);have aS:=Z aD;clear aD hv;go_enter Tryz.func260,Tryz.ntmps260;go_wp2_with (fail);refine(AU _ _ _ Hv.o).mono ?_;rintro e w' ⟨rfl,rfl⟩;rw[aS.o];go_wp2
  go_ret
  exact⟨CM Hr.o.symm,Below.refl _ _⟩
 obtain⟨r,c,hr1,hr5,hc1,hc5,hs⟩:=Ad aD;have HP:=Z (show Cf m=(Eo r c r (m,0)).2 from by obtain⟨e1,e2⟩:=IB hs hr1;unfold Cf;rw[if_pos aD,e1,e2]);have aS:=Z aD;have jQ:=Z (show m.length≤1048576 from by have:=hs.1;omega);have HR:=Z (show ∀p∈m,p.length≤1048576 from fun p hp=>by have:=(hs.2 p hp).1;omega);clear aD hv;go_enter Tryz.func260,Tryz.ntmps260;go_wp2_with (fail);refine(AU _ _ _ Hv.o).mono ?_;rintro e w' ⟨rfl,rfl⟩;rw[aS.o];go_wp2_with (fail);refine(DG _ m _ Hv.o jQ.o HR.o).mono ?_;rintro e w2 ⟨v2,rfl,o2,b2⟩;have bJ:=hs.1;obtain⟨G,cap,rfl,hG,ak,hGl,-⟩:=o2.inv_ne (by omega);rw[bJ] at o2 ak⊢;have pA:=b2.size;obtain⟨Q,C,hp⟩:=Uq.make (n:=w.heap.size) (g0:=w.heap.size) (g1:=w2.heap.size) b2 hs hc1 o2 (Nat.le_refl _);have aJ:Hid (Uq w.heap.size w.heap.size w2.heap.size r c G cap Q C w w2 m):=Z hp;have nA:=Z (A0z (W0:=w) (n:=w.heap.size) (g0:=w.heap.size) (g1:=w2.heap.size) (G:=G) (cap:=cap) (Q:=Q) (C:=C) (Nat.le_refl _) hr1 hr5 hc1 hc5 (r*c+1));clear o2 b2 hp bJ hG ak hGl;go_wp2;go_loopw [4,5,6,14] (fun n _ _ i wr=>∃(k cnt:Nat)(g:List (List Int)),k≤r∧i=.int .i64 k∧n=.int .i64 cnt∧cnt≤5*k∧Hid ((Eo r c (r-k) (g,(cnt:Int))).2=Cf m)∧Hid (Uq w.heap.size w.heap.size w2.heap.size r c G cap Q C w wr g)) (fun _ _ _ i _=>r-(intOf i).toNat)
 case atStart=>exact⟨0,0,m,Nat.zero_le _,rfl,rfl,Nat.le_refl _,Z (by rw[HP.o,Nat.sub_zero];rfl),aJ⟩
 case round=>
  clear aJ;obtain⟨k,cnt,g,hk,rfl,rfl,hcnt,Hc,aJ⟩:=hrel;by_cases aH:k<r
  ·have aG:=aJ.o.rows k aH;have dW:decide ((k:Int)<(r:Int))=true:=by simp;omega
   have iy:=Z (show(Eo r c (r-(k+1)) (Gh r c k c (g,(cnt:Int)))).2=Cf m from by rw[←PK aH];exact Hc.o);go_wp2;clear aG;go_loopw [4,6,22] (fun n _ j wr=>∃(x dQ:Nat)(g2:List (List Int)),x≤c∧j=.int .i64 x∧n=.int .i64 dQ∧dQ≤5*k+x∧Hid ((Eo r c (r-(k+1)) (Gh r c k (c-x) (g2,(dQ:Int)))).2=Cf m)∧Hid (Uq w.heap.size w.heap.size w2.heap.size r c G cap Q C w wr g2)) (fun _ _ j _=>c-(intOf j).toNat)
   case atStart=>exact⟨0,cnt,g,Nat.zero_le _,rfl,rfl,by omega,Z (by rw[Nat.sub_zero];exact iy.o),aJ⟩
   case round=>
    clear aJ Hc iy;obtain⟨x,dQ,g2,hx,rfl,rfl,hcnt2,Hc,aJ⟩:=hrel;by_cases bt:x<c
    ·have aG:=aJ.o.rows k aH;have aM:=aJ.o.cell aH bt;have bu:=Z (Qd (r:=r) (y:=k) bt (g2,(dQ:Int)));obtain⟨z,hz⟩:∃z,z=Al g2 k x:=⟨_,rfl⟩;rw[←hz] at aM;have Hz:=Z hz;clear hz;by_cases bZ:z=1
     ·subst bZ;have nB:=Z (show(Eo r c (r-(k+1)) (Gh r c k (c-(x+1)) (Et r c (r*c+1) g2 k x,((dQ+1:Nat):Int)))).2=Cf m from by
       have h:=Hc.o;rw[bu.o,if_pos Hz.o.symm] at h;exact h)
      have il:=Z (Nat.lt_succ_of_le (A3M aJ.o.sh))
      skip
      clear bu;go_wp2_with (fail);refine(nA.o (k:Int) (x:Int) g2 _ aJ.o il.o (by omega) (by omega) (by omega) (by omega)).mono ?_;rintro e w5 ⟨rfl,st5⟩;have rZ:=Z st5;clear st5;go_wp2;go_roundw
      case rel=>exact⟨x+1,dQ+1,_,by omega,by go_num,by go_num,by omega,nB,rZ⟩
      case measure=>simp[intOf];omega
     ·have aO:(z==1)=false:=by rw[beq_eq_false_iff_ne];exact bZ
      have nB:=Z (show(Eo r c (r-(k+1)) (Gh r c k (c-(x+1)) (g2,(dQ:Int)))).2=Cf m from by
       have h:=Hc.o;rw[bu.o,if_neg (by rw[←Hz.o];exact bZ)] at h;exact h)
      clear bu bZ;go_wp2;go_roundw
      case rel=>exact⟨x+1,dQ,g2,by omega,by go_num,rfl,by omega,nB,aJ⟩
      case measure=>simp[intOf];omega
    ·obtain rfl:x=c:=by omega
     have nB:=Z (show(Eo r x (r-(k+1)) (g2,(dQ:Int))).2=Cf m from by
      have h:=Hc.o;rw[Nat.sub_self] at h;exact h)
     go_wp2;go_roundw
     case rel=>exact⟨k+1,dQ,g2,by omega,by go_num,rfl,by omega,nB,aJ⟩
     case measure=>simp[intOf];omega
  ·obtain rfl:k=r:=by omega
   have aZ:=Z (show(cnt:Int)=Cf m from by
    have h:=Hc.o;rw[Nat.sub_self] at h;exact h)
   have Hb:=Z aJ.o.base;go_wp2
   go_ret
   exact⟨CM aZ.o,Hb.o⟩
def A62(row:List Int)(w:World)(e:Ending)(w':World):Prop:=∃p q:Int,e=.returned (.tuple #[.int .i64 p,.int .i64 q,.bool (BP row)])∧w=w'
theorem NQ(v:Value)(row:List Int)(w:World)(hv:Ab w v row)(h5:row.length≤5)(hb:∀x∈row,0≤x∧x≤1):Calls Tryz.prog 295 #[v] w (A62 row w):=by
 have Hv:=Z hv;have Hi:=Z (A4M h5 hb);have Hb:=Z hb;obtain⟨a,cap,rfl,-⟩:=hv;clear hb;go_enter Tryz.func295,Tryz.ntmps295;go_wp2
 go_loop [5,6,7,8,11] (fun f n _ _ i=>∃(k:Nat)(F N:Int),k≤row.length∧i=.int .i64 k∧f=.int .i64 F∧n=.int .i64 N∧-1≤F∧F≤5∧0≤N∧N≤k∧Hid (isc (row.drop k) k F N=BP row)) (fun _ _ _ _ i=>row.length-(intOf i).toNat)
 case atStart=>exact⟨0,-1,0,Nat.zero_le _,rfl,rfl,rfl,by omega,by omega,by omega,by omega,Hi⟩
 case round=>
  clear Hi;obtain⟨k,F,N,hk,rfl,rfl,rfl,hF0,hF1,l7,mH,Hi⟩:=hrel;by_cases aH:k<row.length
  ·obtain⟨x,hx⟩:∃x,row[k]? =some x:=⟨_,List.getElem?_eq_getElem aH⟩;obtain⟨b,off,cpr,he,ep,-⟩:=Hv.o.inv_ne (by omega);obtain⟨rfl,-⟩:a=some ⟨b,off,none⟩∧cap=cpr:=by simpa using he
   have fW:=Ab.at Hv.o hx;have gF:=Hb.o x (List.mem_of_getElem? hx);have aJ:=Z (A3B hx F N);clear hx he;by_cases cM:x=1
   ·subst cM;by_cases hF:F<0
    ·have hdF:decide (F<0)=true:=by simpa using hF
     by_cases hn:N=0
     ·subst hn;have Hn:=Z (show isc (row.drop (k+1)) (k+1) k (0+1)=BP row from by
       have h:=Hi.o;rw[aJ.o,if_pos rfl,if_pos hF,if_pos (by omega)] at h;exact h)
      have aO:((k:Int) !=k+0)=false:=by simp
      have iD:((k:Int) !=k)=false:=by simp
      clear hF;go_wp2
      go_round
      case rel=>exact⟨k+1,k,1,by omega,by go_num,rfl,by go_num,by omega,by omega,by omega,by omega,Hn⟩
      case measure=>simp[intOf];omega
     ·have Hr:=Z (show BP row=false from by
       have h:=Hi.o;rw[aJ.o,if_pos rfl,if_pos hF,if_neg (by omega)] at h;exact h.symm)
      have aO:((k:Int) !=k+N)=true:=by rw[bne_iff_ne];omega
      clear hF;go_wp2;refine bodyPost_ret (v:=.tuple #[.int .i64 0,.int .i64 0,.bool false]) (by simp[results,Tryz.results295,go_sem]) rfl ⟨0,0,by rw[Hr.o],rfl⟩
    ·have hdF:decide (F<0)=false:=by simpa using hF
     by_cases hn:(k:Int)=F+N
     ·have Hn:=Z (show isc (row.drop (k+1)) (k+1) F (N+1)=BP row from by
       have h:=Hi.o;rw[aJ.o,if_pos rfl,if_neg hF,if_pos hn] at h;exact h)
      have aO:((k:Int) !=F+N)=false:=by rw[hn];simp
      clear hF hn;go_wp2
      go_round
      case rel=>exact⟨k+1,F,N+1,by omega,by go_num,rfl,rfl,by omega,by omega,by omega,by omega,Hn⟩
      case measure=>simp[intOf];omega
     ·have Hr:=Z (show BP row=false from by
       have h:=Hi.o;rw[aJ.o,if_pos rfl,if_neg hF,if_neg hn] at h;exact h.symm)
      have aO:((k:Int) !=F+N)=true:=by rw[bne_iff_ne];exact hn
      clear hF hn;go_wp2;refine bodyPost_ret (v:=.tuple #[.int .i64 0,.int .i64 0,.bool false]) (by simp[results,Tryz.results295,go_sem]) rfl ⟨0,0,by rw[Hr.o],rfl⟩
   ·obtain rfl:x=0:=by omega
    have Hn:=Z (show isc (row.drop (k+1)) (k+1) F N=BP row from by
     have h:=Hi.o;rw[aJ.o,if_neg (by decide)] at h;exact h)
    clear cM;go_wp2
    go_round
    case rel=>exact⟨k+1,F,N,by omega,by go_num,rfl,rfl,by omega,by omega,by omega,by omega,Hn⟩
    case measure=>simp[intOf];omega
  ·have Hr:=Z (show BP row=true from by rw[←Hi.o,List.drop_of_length_le (by omega)];rfl);go_wp2
   all_goals first
    |(refine bodyPost_ret (v:=.tuple #[.int .i64 (max F 0),.int .i64 N,.bool true]) ?_ rfl ⟨(max F 0),N,by rw[Hr.o],rfl⟩;simp[results,Tryz.results295,go_sem];done)
    |(refine bodyPost_ret (v:=.tuple #[.int .i64 0,.int .i64 N,.bool true]) ?_ rfl ⟨0,N,by rw[Hr.o],rfl⟩;simp[results,Tryz.results295,go_sem];done)
    |(refine bodyPost_ret (v:=.tuple #[.int .i64 F,.int .i64 N,.bool true]) ?_ rfl ⟨F,N,by rw[Hr.o],rfl⟩;simp[results,Tryz.results295,go_sem];done)
theorem LW(v:Value)(m:List (List Int))(w:World)(hv:Ak w v m):Calls Tryz.prog 258 #[v] w fun e w'=>e=.returned (.bool (CQ m))∧w=w':=by
 have Hv:=Z hv;obtain⟨a,cap0,rfl,ak,cY,-,-⟩:=hv;cases aD:Af m
 ·have Hr:=Z (show CQ m=false from by simp[CQ,aD]);have aS:=Z aD;clear aD;go_enter Tryz.func258,Tryz.ntmps258;go_wp2_with (fail);refine(AU _ _ _ Hv.o).mono ?_;rintro e w' ⟨rfl,rfl⟩;rw[aS.o];go_wp2
  go_ret
  exact⟨AI Hr.o.symm,rfl⟩
 obtain⟨r,c,hr1,hr5,hc1,hc5,bA⟩:=Ad aD;have rX:1≤m.length:=by have:=bA.1;omega
 have aS:=Z aD;clear aD;go_enter Tryz.func258,Tryz.ntmps258;go_wp2_with (fail);refine(AU _ _ _ Hv.o).mono ?_;rintro e w' ⟨rfl,rfl⟩;rw[aS.o];go_wp2
 go_loop [4,5,6,7,13] (fun _ _ _ _ i=>∃k:Nat,k≤m.length∧i=.int .i64 k∧(m.take k).all BP=true) (fun _ _ _ _ i=>m.length-(intOf i).toNat)
 case atStart=>exact⟨0,Nat.zero_le _,rfl,rfl⟩
 case round=>
  obtain⟨k,hk,rfl,aR⟩:=hrel;have aY:=Z aR;clear aR;by_cases aH:k<m.length
  ·obtain⟨row,aG⟩:∃row,m[k]? =some row:=⟨_,List.getElem?_eq_getElem aH⟩;obtain⟨b,off,cpr,he,hb,-⟩:=Hv.o.inv_ne (by omega);obtain⟨rfl,-⟩:a=some ⟨b,off,none⟩∧cap0=cpr:=by simpa using he
   obtain⟨u,aQ,hu⟩:=Sl.at Hv.o aG;have hu:Ab w u row:=hu;obtain⟨br,cpr,rfl,-⟩:=id hu;obtain⟨aw,eG⟩:=bA.2 row (List.mem_of_getElem? aG);have gE:row.length≤5:=by omega
   have iz:=Z (BO BP aG);have da:=Z aG;have Hu:=Z hu;have jn:=Z eG;clear aG he hu eG aw;cases hi:BP row
   ·have Hi:=Z hi;clear hi;have Hf:=Z (show CQ m=false from by unfold CQ;rw[BH _ da.o Hi.o];simp);go_wp2_with (fail);refine(NQ _ _ _ Hu.o gE jn.o).mono ?_;rintro e w' ⟨p,q,rfl,rfl⟩;rw[Hi.o];go_wp2
    go_ret
    exact⟨AI Hf.o.symm,rfl⟩
   ·have Hi:=Z hi;clear hi;go_wp2_with (fail);refine(NQ _ _ _ Hu.o gE jn.o).mono ?_;rintro e w' ⟨p,q,rfl,rfl⟩;rw[Hi.o];go_wp2
    go_round
    case rel=>exact⟨k+1,by omega,by go_num,by rw[iz.o,aY.o,Hi.o];rfl⟩
    case measure=>simp[intOf];omega
  ·have Hf:=Z (show CQ m=true from by unfold CQ;rw[aS.o,DK aY.o (by omega)];rfl);go_wp2
   go_ret
   exact⟨AI Hf.o.symm,rfl⟩
theorem YL(v:Value)(m:List (List Int))(w:World)(hv:Ak w v m):Calls Tryz.prog 259 #[v] w fun e w'=>e=.returned (.bool (CQ (HJ m)))∧Below w.heap.size w w':=by
 go_enter Tryz.func259,Tryz.ntmps259;go_wp2_with (fail);refine(Jx _ _ _ hv).mono ?_;rintro e w1 ⟨v1,rfl,ho,aA⟩;go_wp2_with (fail);refine(LW _ _ _ ho.grid).mono ?_;rintro e w2 ⟨rfl,rfl⟩;go_wp2
 go_ret
 exact⟨rfl,aA⟩
def G5(m:List (List Int)):Bool:=CQ m&&CQ (HJ m)
theorem NF(v:Value)(m:List (List Int))(w:World)(hv:Ak w v m):Calls Tryz.prog 110 #[v] w fun e w'=>e=.returned (.bool (G5 m))∧Below w.heap.size w w':=by
 have Hv:=Z hv;obtain⟨a,cap0,rfl,-⟩:=hv;cases h:CQ m
 ·have Hr:=Z (show G5 m=false from by unfold G5;rw[h];rfl);have H:=Z h;clear h;go_enter Tryz.func110,Tryz.ntmps110;go_wp2_with (fail);refine(LJ _ _ _ Hv.o).mono ?_;rintro e w' ⟨rfl,rfl⟩;rw[H.o];go_wp2
  go_ret
  exact⟨AI Hr.o.symm,Below.refl _ _⟩
 ·have Hr:=Z (show G5 m=CQ (HJ m) from by unfold G5;rw[h];rfl);have H:=Z h;clear h;go_enter Tryz.func110,Tryz.ntmps110;go_wp2_with (fail);refine(LJ _ _ _ Hv.o).mono ?_;rintro e w' ⟨rfl,rfl⟩;rw[H.o];go_wp2_with (fail);refine(XI _ _ _ Hv.o).mono ?_;rintro e w2 ⟨rfl,b2⟩;go_wp2
  go_ret
  exact⟨AI Hr.o.symm,b2⟩
theorem NJ(v:Value)(m:List (List Int))(w:World)(hv:Ak w v m):Calls Tryz.prog 190 #[v] w fun e w'=>e=.returned (.bool (G5 m))∧Below w.heap.size w w':=by
 have Hv:=Z hv;obtain⟨a,cap0,rfl,-⟩:=hv;cases h:CQ m
 ·have Hr:=Z (show G5 m=false from by unfold G5;rw[h];rfl);have H:=Z h;clear h;go_enter Tryz.func190,Tryz.ntmps190;go_wp2_with (fail);refine(LW _ _ _ Hv.o).mono ?_;rintro e w' ⟨rfl,rfl⟩;rw[H.o];go_wp2
  go_ret
  exact⟨AI Hr.o.symm,Below.refl _ _⟩
 ·have Hr:=Z (show G5 m=CQ (HJ m) from by unfold G5;rw[h];rfl);have H:=Z h;clear h;go_enter Tryz.func190,Tryz.ntmps190;go_wp2_with (fail);refine(LW _ _ _ Hv.o).mono ?_;rintro e w' ⟨rfl,rfl⟩;rw[H.o];go_wp2_with (fail);refine(YL _ _ _ Hv.o).mono ?_;rintro e w2 ⟨rfl,b2⟩;go_wp2
  go_ret
  exact⟨AI Hr.o.symm,b2⟩
theorem MV(v:Value)(m:List (List Int))(w:World)(hv:Ak w v m):Calls Tryz.prog 111 #[v] w fun e w'=>e=.returned (.bool (Cf m==1))∧Below w.heap.size w w':=by
 have Hv:=Z hv;obtain⟨a,cap0,rfl,-⟩:=hv;obtain⟨z,hz⟩:∃z,z=Cf m:=⟨_,rfl⟩;have Hz:=Z hz;rw[←hz];clear hz;go_enter Tryz.func111,Tryz.ntmps111;go_wp2_with (fail);refine(TW _ _ _ Hv.o).mono ?_;rintro e w2 ⟨rfl,b2⟩;rw[←Hz.o];go_wp2
 go_ret
 exact⟨rfl,b2⟩
theorem MF(v:Value)(m:List (List Int))(w:World)(hv:Ak w v m):Calls Tryz.prog 191 #[v] w fun e w'=>e=.returned (.bool (Cf m==1))∧Below w.heap.size w w':=by
 have Hv:=Z hv;obtain⟨a,cap0,rfl,-⟩:=hv;obtain⟨z,hz⟩:∃z,z=Cf m:=⟨_,rfl⟩;have Hz:=Z hz;rw[←hz];clear hz;go_enter Tryz.func191,Tryz.ntmps191;go_wp2_with (fail);refine(TS _ _ _ Hv.o).mono ?_;rintro e w2 ⟨rfl,b2⟩;rw[←Hz.o];go_wp2
 go_ret
 exact⟨rfl,b2⟩
def Jd(rows cols:List Int):List (List (List Int)):=(AZ rows cols).filter fun m=>G5 m&&(Cf m==1)
theorem US:(Tryz.prog.info? 31).map (fun i=>(i.zero,i.size,i.bytes))=some (some (.slice none 0 0),1,24):=by kernel_rfl
def Ed(m:List (List Int)):Bool:=G5 m&&(Cf m==1)
theorem Mp(rows cols:List Int):Jd rows cols=(AZ rows cols).filter Ed:=rfl
theorem Od{α:Type}(p:α→Bool){l:List α}{k:Nat}{x:α}(h:l[k]? =some x):(l.take (k+1)).filter p=(l.take k).filter p++(if p x then[x] else[]):=by
 rw[List.take_add_one,h,List.filter_append];cases hp:p x<;>simp[hp]
def A1q(w:World)(xs ys:List Int)(e:Ending)(w':World):Prop:=∃v',e=.returned (.tuple #[v',.bool (AF xs ys)])∧Gm w' v' (Jd xs ys)∧Below w.heap.size w w'
theorem UH(w:World):Gm w (.slice none 0 0) []:=⟨none,0,rfl,by simp,by simp,fun _=>rfl,fun h=>by simp at h⟩
theorem T5(vx vy:Value)(xs ys:List Int)(w:World)(hx:Ab w vx xs)(hy:Ab w vy ys):Calls Tryz.prog 51 #[vx,vy] w (A1q w xs ys):=by
 have cz:=DQ xs ys;obtain⟨L,hL⟩:∃L,L=AZ xs ys:=⟨_,rfl⟩;have aZ:=Z (show L.filter Ed=Jd xs ys from by rw[hL,Mp]);rw[←hL] at cz;have HL:=Z hL;have Hx:=Z hx;have Hy:=Z hy;obtain⟨ax,cx,rfl,-⟩:=hx;obtain⟨ay,cy,rfl,-⟩:=hy;clear hL;go_enter Tryz.func51,Tryz.ntmps51;go_wp2_with (fail);refine(Ef _ _ _ _ _ Hx.o Hy.o).mono ?_;rintro e w1 ⟨v1,rfl,o1,b1⟩;rw[←HL.o] at o1;obtain⟨p1,p2,p3,rfl⟩:=o1.shape;have jN:=Sl.len o1.grids;subst jN;have Hg:=Z o1.grids;cases aD:AF xs ys
 ·have aS:=Z aD;have Hr:=Z (show Jd xs ys=[] from by rw[Mp,GF aD];rfl);clear o1 aD;go_wp2
  go_ret2
  exact⟨_,by rw[aS.o];rfl,by rw[Hr.o];exact UH _,b1⟩
 have aS:=Z aD;obtain⟨N,hN⟩:∃N,N=L.length:=⟨_,rfl⟩;rw[←hN] at Hg cz⊢;have HN:=Z hN;clear o1 hN aD;go_wp2;go_loopw [8,10,21] (fun out _ i wr=>∃(k:Nat)(us:List Value),k≤N∧i=.int .i64 k∧Hid (A4 31 PA (Iv w1.heap.size wr.heap.size) wr out us)∧Hid (GV (Sl (Sl A7)) w1 us ((L.take k).filter Ed))∧Hid (Below w1.heap.size w1 wr)) (fun _ _ i _=>N-(intOf i).toNat)
 case atStart=>exact⟨0,[],Nat.zero_le _,rfl,by first|exact Z (A4.nil _ _ _ _)|exact Z (Bq _ _ _ DV),GV.nil _ _,by first|exact Z (Below.refl _ _)|exact Z (Below.pureAlloc _ _)⟩
 case round=>
  obtain⟨k,us,hk,rfl,Ho,Hh,Hb⟩:=hrel;by_cases aH:k<N
  ·obtain⟨x,hx⟩:∃x,L[k]? =some x:=⟨_,List.getElem?_eq_getElem (by rw[←HN.o];exact aH)⟩;obtain⟨gl,go,gc,he,ai,-⟩:=Hg.o.inv_ne (by rw[←HN.o];omega);obtain⟨rfl,-⟩:p1=some ⟨gl,go,none⟩∧p3=gc:=by
    simp only[Value.slice.injEq] at he;exact⟨he.1,he.2.2⟩
   obtain⟨u,aQ,hu⟩:=Sl.at Hg.o hx;have Hu:=Z (show Ak w1 u x from hu);obtain⟨ua,uc,rfl,-⟩:=hu;have gX:=(Hb.o.cell (p:=⟨gl,go+k,none⟩) ai).trans aQ;have kn:=Z (Od Ed hx);have aP:=Hh.o.1;have lA:((L.take k).filter Ed).length≤k:=Nat.le_trans (List.length_filter_le _ _) (by rw[List.length_take];omega);have oF:us.length<1099511627776:=by omega
   obtain⟨wo,rfl⟩:∃wo:World,wo=wr:=⟨_,rfl⟩;obtain⟨q1,q2,q3,rfl⟩:=Ho.o.shape;clear hx aQ he aP lA;cases hc1:G5 x
   ·have nj:=Z hc1;have kU:=Z (show(L.take (k+1)).filter Ed=(L.take k).filter Ed from by rw[kn.o];simp[Ed,hc1]);clear hc1;go_wp2_with (fail);refine(NF _ _ _ (Hu.o.keep Hb.o)).mono ?_;rintro e w2 ⟨rfl,b2⟩;rw[nj.o];have cu:=Z (A4.grow DV Ho.o (Nat.le_refl _) b2);have bj:=Z (Hb.o.trans_pure b2 (Nat.le_refl _));clear b2;go_wp2;go_roundw
    case rel=>exact⟨k+1,us,by omega,by go_num,cu,Z (by rw[kU.o];exact Hh.o),bj⟩
    case measure=>simp[intOf];omega
   ·have nj:=Z hc1;cases cH:(Cf x==1)
    ·have iy:=Z cH;have kU:=Z (show(L.take (k+1)).filter Ed=(L.take k).filter Ed from by rw[kn.o];simp[Ed,hc1,cH]);clear hc1 cH;go_wp2_with (fail);refine(NF _ _ _ (Hu.o.keep Hb.o)).mono ?_;rintro e w2 ⟨rfl,b2⟩;rw[nj.o];go_wp2_with (fail);refine(MV _ _ _ ((Hu.o.keep Hb.o).keep b2)).mono ?_;rintro e w3 ⟨rfl,b3⟩;rw[iy.o];have kW:=b2.trans_pure b3 (Nat.le_refl _);have cu:=Z (A4.grow DV Ho.o (Nat.le_refl _) kW);have bj:=Z (Hb.o.trans_pure kW (Nat.le_refl _));clear b2 b3 kW;go_wp2;go_roundw
     case rel=>exact⟨k+1,us,by omega,by go_num,cu,Z (by rw[kU.o];exact Hh.o),bj⟩
     case measure=>simp[intOf];omega
    ·have iy:=Z cH;have kU:=Z (show(L.take (k+1)).filter Ed=(L.take k).filter Ed++[x] from by rw[kn.o];simp[Ed,hc1,cH]);clear hc1 cH;go_wp2_with (fail);refine(NF _ _ _ (Hu.o.keep Hb.o)).mono ?_;rintro e w2 ⟨rfl,b2⟩;rw[nj.o];go_wp2_with (fail);refine(MV _ _ _ ((Hu.o.keep Hb.o).keep b2)).mono ?_;rintro e w3 ⟨rfl,b3⟩;rw[iy.o];have kW:=b2.trans_pure b3 (Nat.le_refl _);have cu:=Z (A4.grow DV Ho.o (Nat.le_refl _) kW);have bj:=Z (Hb.o.trans_pure kW (Nat.le_refl _));have fS:=bj.o.size;clear b2 b3 kW;go_wp2_with (first|(at_builtin;(refine Aa rfl _ _ 77 rfl DV 31 Tryz.underlying77 US rfl (by decide) w1.heap.size w3.heap.size fS (Nat.le_refl _) rfl rfl (by exact cu.o) (by exact⟨rfl,rfl⟩) oF ?_);intro v2 w2 hown2 aT _)|fail);have bM:=Z (bj.o.trans aT);have kv:=Z (Hh.o.snoc (x:=x) Hu.o);exact⟨⟨k+1,_,by omega,by go_num,Z hown2,Z (by rw[kU.o];exact kv.o),bM⟩,by simp[intOf];omega⟩
  ·obtain rfl:k=N:=by omega
   rw[List.take_of_length_le (by rw[←HN.o];exact Nat.le_refl _)] at Hh;obtain⟨q1,q2,q3,rfl⟩:=Ho.o.shape;have iW:=Z ((Hh.o.keep (BY (BY A2)) Hb.o).list Ho.o);have jV:=b1.trans_pure Hb.o (Nat.le_refl _);go_wp2
   go_ret2
   exact⟨_,by rw[aS.o];rfl,by rw[←aZ.o];exact iW.o,jV⟩
theorem RM(vx vy:Value)(xs ys:List Int)(w:World)(hx:Ab w vx xs)(hy:Ab w vy ys):Calls Tryz.prog 132 #[vx,vy] w (A1q w xs ys):=by
 have cz:=DQ xs ys;obtain⟨L,hL⟩:∃L,L=AZ xs ys:=⟨_,rfl⟩;have aZ:=Z (show L.filter Ed=Jd xs ys from by rw[hL,Mp]);rw[←hL] at cz;have HL:=Z hL;have Hx:=Z hx;have Hy:=Z hy;obtain⟨ax,cx,rfl,-⟩:=hx;obtain⟨ay,cy,rfl,-⟩:=hy;clear hL;go_enter Tryz.func132,Tryz.ntmps132;go_wp2_with (fail);refine(J5 _ _ _ _ _ Hx.o Hy.o).mono ?_;rintro e w1 ⟨v1,rfl,o1,b1⟩;rw[←HL.o] at o1;obtain⟨p1,p2,p3,rfl⟩:=o1.shape;have jN:=Sl.len o1.grids;subst jN;have Hg:=Z o1.grids;cases aD:AF xs ys
 ·have aS:=Z aD;have Hr:=Z (show Jd xs ys=[] from by rw[Mp,GF aD];rfl);clear o1 aD;go_wp2
  go_ret2
  exact⟨_,by rw[aS.o];rfl,by rw[Hr.o];exact UH _,b1⟩
 have aS:=Z aD;obtain⟨N,hN⟩:∃N,N=L.length:=⟨_,rfl⟩;rw[←hN] at Hg cz⊢;have HN:=Z hN;clear o1 hN aD;go_wp2;go_loopw [8,10,22] (fun out _ i wr=>∃(k:Nat)(us:List Value),k≤N∧i=.int .i64 k∧Hid (A4 31 PA (Iv w1.heap.size wr.heap.size) wr out us)∧Hid (GV (Sl (Sl A7)) w1 us ((L.take k).filter Ed))∧Hid (Below w1.heap.size w1 wr)) (fun _ _ i _=>N-(intOf i).toNat)
 case atStart=>exact⟨0,[],Nat.zero_le _,rfl,by first|exact Z (A4.nil _ _ _ _)|exact Z (Bq _ _ _ DV),GV.nil _ _,by first|exact Z (Below.refl _ _)|exact Z (Below.pureAlloc _ _)⟩
 case round=>
  obtain⟨k,us,hk,rfl,Ho,Hh,Hb⟩:=hrel;by_cases aH:k<N
  ·obtain⟨x,hx⟩:∃x,L[k]? =some x:=⟨_,List.getElem?_eq_getElem (by rw[←HN.o];exact aH)⟩;obtain⟨gl,go,gc,he,ai,-⟩:=Hg.o.inv_ne (by rw[←HN.o];omega);obtain⟨rfl,-⟩:p1=some ⟨gl,go,none⟩∧p3=gc:=by
    simp only[Value.slice.injEq] at he;exact⟨he.1,he.2.2⟩
   obtain⟨u,aQ,hu⟩:=Sl.at Hg.o hx;have Hu:=Z (show Ak w1 u x from hu);obtain⟨ua,uc,rfl,-⟩:=hu;have gX:=(Hb.o.cell (p:=⟨gl,go+k,none⟩) ai).trans aQ;have kn:=Z (Od Ed hx);have aP:=Hh.o.1;have lA:((L.take k).filter Ed).length≤k:=Nat.le_trans (List.length_filter_le _ _) (by rw[List.length_take];omega);have oF:us.length<1099511627776:=by omega
   obtain⟨wo,rfl⟩:∃wo:World,wo=wr:=⟨_,rfl⟩;obtain⟨q1,q2,q3,rfl⟩:=Ho.o.shape;clear hx aQ he aP lA;cases hc1:G5 x
   ·have nj:=Z hc1;have kU:=Z (show(L.take (k+1)).filter Ed=(L.take k).filter Ed from by rw[kn.o];simp[Ed,hc1]);clear hc1;go_wp2_with (fail);refine(NJ _ _ _ (Hu.o.keep Hb.o)).mono ?_;rintro e w2 ⟨rfl,b2⟩;rw[nj.o];have cu:=Z (A4.grow DV Ho.o (Nat.le_refl _) b2);have bj:=Z (Hb.o.trans_pure b2 (Nat.le_refl _));clear b2;go_wp2;go_roundw
    case rel=>exact⟨k+1,us,by omega,by go_num,cu,Z (by rw[kU.o];exact Hh.o),bj⟩
    case measure=>simp[intOf];omega
   ·have nj:=Z hc1;cases cH:(Cf x==1)
    ·have iy:=Z cH;have kU:=Z (show(L.take (k+1)).filter Ed=(L.take k).filter Ed from by rw[kn.o];simp[Ed,hc1,cH]);clear hc1 cH;go_wp2_with (fail);refine(NJ _ _ _ (Hu.o.keep Hb.o)).mono ?_;rintro e w2 ⟨rfl,b2⟩;rw[nj.o];go_wp2_with (fail);refine(MF _ _ _ ((Hu.o.keep Hb.o).keep b2)).mono ?_;rintro e w3 ⟨rfl,b3⟩;rw[iy.o];have kW:=b2.trans_pure b3 (Nat.le_refl _);have cu:=Z (A4.grow DV Ho.o (Nat.le_refl _) kW);have bj:=Z (Hb.o.trans_pure kW (Nat.le_refl _));clear b2 b3 kW;go_wp2;go_roundw
     case rel=>exact⟨k+1,us,by omega,by go_num,cu,Z (by rw[kU.o];exact Hh.o),bj⟩
     case measure=>simp[intOf];omega
    ·have iy:=Z cH;have kU:=Z (show(L.take (k+1)).filter Ed=(L.take k).filter Ed++[x] from by rw[kn.o];simp[Ed,hc1,cH]);clear hc1 cH;go_wp2_with (fail);refine(NJ _ _ _ (Hu.o.keep Hb.o)).mono ?_;rintro e w2 ⟨rfl,b2⟩;rw[nj.o];go_wp2_with (fail);refine(MF _ _ _ ((Hu.o.keep Hb.o).keep b2)).mono ?_;rintro e w3 ⟨rfl,b3⟩;rw[iy.o];have kW:=b2.trans_pure b3 (Nat.le_refl _);have cu:=Z (A4.grow DV Ho.o (Nat.le_refl _) kW);have bj:=Z (Hb.o.trans_pure kW (Nat.le_refl _));have fS:=bj.o.size;clear b2 b3 kW;go_wp2_with (first|(at_builtin;(refine Aa rfl _ _ 77 rfl DV 31 Tryz.underlying77 US rfl (by decide) w1.heap.size w3.heap.size fS (Nat.le_refl _) rfl rfl (by exact cu.o) (by exact⟨rfl,rfl⟩) oF ?_);intro v2 w2 hown2 aT _)|fail);have bM:=Z (bj.o.trans aT);have kv:=Z (Hh.o.snoc (x:=x) Hu.o);exact⟨⟨k+1,_,by omega,by go_num,Z hown2,Z (by rw[kU.o];exact kv.o),bM⟩,by simp[intOf];omega⟩
  ·obtain rfl:k=N:=by omega
   rw[List.take_of_length_le (by rw[←HN.o];exact Nat.le_refl _)] at Hh;obtain⟨q1,q2,q3,rfl⟩:=Ho.o.shape;have iW:=Z ((Hh.o.keep (BY (BY A2)) Hb.o).list Ho.o);have jV:=b1.trans_pure Hb.o (Nat.le_refl _);go_wp2
   go_ret2
   exact⟨_,by rw[aS.o];rfl,by rw[←aZ.o];exact iW.o,jV⟩
