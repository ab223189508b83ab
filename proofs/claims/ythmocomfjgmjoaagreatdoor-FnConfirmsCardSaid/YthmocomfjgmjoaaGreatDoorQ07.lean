/- Base. -/
import Derived.Test.YthmocomfjgmjoaaGreatDoorQ05
set_option maxHeartbeats 1600000
set_option maxRecDepth 100000
namespace Go.Proofs.YthmocomfjgmjoaaGreatDoor
open Go.RowKit
def Jh(lo hi:Nat)(w:World)(a b:Value)(x y:List (List Int)):Prop:=
 ∃M,lo≤M∧M≤hi∧A4 32 (A4 3 A7) (Iv lo M) w a x∧A4 32 (A4 3 A7) (Iv M hi) w b y
theorem Jh.keep{lo hi:Nat}{w w':World}{a b:Value}{x y:List (List Int)}(h:Jh lo hi w a b x y)(hb:Below w.heap.size w w')(hh:hi≤w.heap.size):Jh lo hi w' a b x y:=by
 obtain⟨M,h1,h2,o1,o2⟩:=h;exact⟨M,h1,h2,A4.keep (A3 A2) o1 hb (by omega),A4.keep (A3 A2) o2 hb hh⟩
theorem Jh.only{lo hi:Nat}{T:Bk}{w w':World}{a b:Value}{x y:List (List Int)}(h:Jh lo hi w a b x y)(ho:Ar T w w')(hh:hi≤w.heap.size)(hd:∀b,lo≤b→b<hi→¬T b):Jh lo hi w' a b x y:=by
 obtain⟨M,h1,h2,o1,o2⟩:=h;exact⟨M,h1,h2,(A3 (A3 A2)).same (ho.same (T:=Iv lo M) (fun b hb=>hd b hb.1 (by have:=hb.2;omega)) (fun b hb=>by have:=hb.2;omega)) o1,
  (A3 (A3 A2)).same (ho.same (T:=Iv M hi) (fun b hb=>hd b (by have:=hb.1;omega) hb.2) (fun b hb=>by have:=hb.2;omega)) o2⟩
theorem Jh.shape{lo hi:Nat}{w:World}{a b:Value}{x y:List (List Int)}(h:Jh lo hi w a b x y):(∃p q r,a=.slice p q r)∧(∃p q r,b=.slice p q r):=by
 obtain⟨M,h1,h2,o1,o2⟩:=h;exact⟨o1.shape,o2.shape⟩
theorem Jh.reads{lo hi:Nat}{w:World}{a b:Value}{x y:List (List Int)}(h:Jh lo hi w a b x y):Ak w a x∧Ak w b y:=by
 obtain⟨M,h1,h2,o1,o2⟩:=h;exact⟨o1.grid,o2.grid⟩
theorem Jh.wide{lo hi lo' hi':Nat}{w:World}{a b:Value}{x y:List (List Int)}(h:Jh lo hi w a b x y)(h1:lo'≤lo)(h2:hi≤hi'):Jh lo' hi' w a b x y:=by
 obtain⟨M,k1,k2,o1,o2⟩:=h;exact⟨M,by omega,by omega,(A3 (A3 A2)).mono (fun b hb=>⟨by have:=hb.1;omega,hb.2⟩) o1,(A3 (A3 A2)).mono (fun b hb=>⟨hb.1,by have:=hb.2;omega⟩) o2⟩
theorem KQ(a b:Value)(x y:List (List Int))(w:World)(h1:Ak w a x)(h2:Ak w b y)(fJ:∀r∈x,r.length≤1048576)(i7:∀r∈y,r.length≤1048576):
  Calls Tryz.prog 176 #[.agg #[a,b]] w fun e w'=>e=.returned (.bool (Ba x y))∧w'=w.alloc (.cells #[a,b] 85):=by
 obtain⟨aa,ca,rfl,-⟩:=id h1;obtain⟨ab,cb,rfl,-⟩:=id h2;have hb:∀o,Below w.heap.size w (w.alloc o):=fun o=>Below.pureAlloc w o;have Hb:=Z hb;clear hb;cases hx:BR 1 5 x.length
 ·have Hf:=Z (show Ba x y=false from by unfold Ba;rw[hx];rfl);have Hx:=Z hx;clear hx;go_enter Tryz.func176,Tryz.ntmps176;go_wp2_with (first|(go_at_call 95;refine(B6 _ _ _ _).mono ?_;rintro e w' ⟨rfl,rfl⟩;rw[Hx.o]))
  go_ret
  exact⟨AI Hf.o.symm,rfl⟩
 have gF:=(AT.1 hx).2;have Hx:=Z hx;clear hx;cases hy:BR 1 5 y.length
 ·have Hf:=Z (show Ba x y=false from by unfold Ba;rw[hy];simp);have Hy:=Z hy;clear hy;go_enter Tryz.func176,Tryz.ntmps176;go_wp2_with (first|(go_at_call 95;refine(B6 _ _ _ _).mono ?_;rintro e w' ⟨rfl,rfl⟩;(first|rw[Hx.o]|rw[Hy.o])))
  go_ret
  exact⟨AI Hf.o.symm,rfl⟩
 have fx:=(AT.1 hy).2;have Hy:=Z hy;clear hy;go_enter Tryz.func176,Tryz.ntmps176;go_wp2_with (fail);refine(B6 _ _ _ _).mono ?_;rintro e w' ⟨rfl,rfl⟩;rw[Hx.o];go_wp2_with (fail);refine(B6 _ _ _ _).mono ?_;rintro e w' ⟨rfl,rfl⟩;rw[Hy.o];go_wp2_with (fail);refine(Ut _ _ _ _ (h1.keep (Hb.o _)) (by omega) fJ).mono ?_;rintro e w' ⟨rfl,rfl⟩;cases hf:x.all (Gj y.length)
 ·have Hf:=Z (show Ba x y=false from by unfold Ba;rw[hf];simp);go_wp2
  go_ret
  exact⟨AI Hf.o.symm,rfl⟩
 have Hf:=Z hf;clear hf;go_wp2_with (fail);refine(Ut _ _ _ _ (h2.keep (Hb.o _)) (by omega) i7).mono ?_;rintro e w' ⟨rfl,rfl⟩;have Hg:=Z (show Ba x y=y.all (Gj x.length) from by unfold Ba;rw[Hx.o,Hy.o,Hf.o];rfl);go_wp2
 go_ret
 exact⟨AI Hg.o.symm,rfl⟩
theorem L2(a b:Value)(x y:List (List Int))(w:World)(h1:Ak w a x)(h2:Ak w b y):
  Calls Tryz.prog 267 #[.agg #[a,b]] w fun e w'=>e=.returned (.bool (Ba x y))∧w'=w.alloc (.cells #[a,b] 85):=by
 obtain⟨aa,ca,rfl,-⟩:=id h1;obtain⟨ab,cb,rfl,-⟩:=id h2;have hb:∀o,Below w.heap.size w (w.alloc o):=fun o=>Below.pureAlloc w o;have Hb:=Z hb;clear hb;cases hs:(BR 1 5 x.length&&BR 1 5 y.length)
 ·have Hf:=Z (show Ba x y=false from by unfold Ba;rw[hs];rfl);have Hs:=Z hs;clear hs;go_enter Tryz.func267,Tryz.ntmps267;go_wp2_with (fail);refine(Iq _ _ _).mono ?_;rintro e w' ⟨rfl,rfl⟩;rw[Hs.o];go_wp2
  go_ret
  exact⟨AI Hf.o.symm,rfl⟩
 have dj:=hs;rw[Bool.and_eq_true,AT,AT] at dj;obtain⟨⟨cM,jb⟩,⟨d5,lG⟩⟩:=dj;have Hs:=Z hs;clear hs;have uQ:1≤x.length:=by omega
 have uR:x.length≤5:=by omega
 have uS:1≤y.length:=by omega
 have uT:y.length≤5:=by omega
 go_enter Tryz.func267,Tryz.ntmps267;go_wp2_with (fail);refine(Iq _ _ _).mono ?_;rintro e w' ⟨rfl,rfl⟩;rw[Hs.o];have K1:=h1.keep (Hb.o (.cells #[.slice aa x.length ca,.slice ab y.length cb] 85));have K2:=h2.keep (Hb.o (.cells #[.slice aa x.length ca,.slice ab y.length cb] 85));have k0:=(Aw.new w #[.slice aa x.length ca,.slice ab y.length cb] 85).cell 0;have k1:=(Aw.new w #[.slice aa x.length ca,.slice ab y.length cb] 85).cell 1;obtain⟨W,hW⟩:∃W,W=w.alloc (.cells #[.slice aa x.length ca,.slice ab y.length cb] 85):=⟨_,rfl⟩;rw[←hW] at K1 K2 k0 k1⊢;have k0:W.cell? ⟨w.heap.size,0,none⟩=some (.slice aa x.length ca):=k0;have k1:W.cell? ⟨w.heap.size,1,none⟩=some (.slice ab y.length cb):=k1;have HW:=Z hW;clear hW;have K1:=Z K1;have K2:=Z K2;go_wp2
 go_loop [4,18] (fun _ i=>∃k:Nat,k≤x.length∧i=.int .i64 k∧(x.take k).all (Gj y.length)=true) (fun _ i=>x.length-(intOf i).toNat)
 case atStart=>exact⟨0,Nat.zero_le _,rfl,rfl⟩
 case round=>
  obtain⟨k,hk,rfl,aR⟩:=hrel;have aY:=Z aR;clear aR;by_cases aH:k<x.length
  ·obtain⟨r,hr⟩:∃r,x[k]? =some r:=⟨_,List.getElem?_eq_getElem aH⟩;obtain⟨bl,off,cpr,he,ep,-⟩:=K1.o.inv_ne (by omega);obtain⟨rfl,-⟩:aa=some ⟨bl,off,none⟩∧ca=cpr:=by simpa using he
   obtain⟨u,aQ,hu⟩:=Sl.at K1.o hr;have hu:Ab W u r:=hu;obtain⟨ar,cpr,rfl,-⟩:=id hu;have iz:=Z (BO (Gj y.length) hr);have Hr:=Z hr;have Hu:=Z hu;clear hr he hu;cases hf:Gj y.length r
   ·have Hf:=Z (show Ba x y=false from by unfold Ba;rw[BH _ Hr.o hf];simp);have oY:=Z hf;clear hf;go_wp2_with (first|(go_at_call 298;refine(Mi _ _ _ _ Hu.o uS uT).mono ?_;rintro e w' ⟨rfl,rfl⟩;rw[oY.o]))
    go_ret
    exact⟨AI Hf.o.symm,HW.o⟩
   ·have oY:=Z hf;clear hf;go_wp2_with (first|(go_at_call 298;refine(Mi _ _ _ _ Hu.o uS uT).mono ?_;rintro e w' ⟨rfl,rfl⟩;rw[oY.o]))
    go_round
    case rel=>exact⟨k+1,by omega,by go_num,by rw[iz.o,aY.o,oY.o];rfl⟩
    case measure=>simp[intOf];omega
  ·have ph:x.all (Gj y.length)=true:=DK aY.o (by omega);have uU:=Z ph;clear ph;have dW:decide ((k:Int)<(x.length:Int))=false:=by simp;omega
   go_wp2
   go_loop [6,32] (fun _ i=>∃j:Nat,j≤y.length∧i=.int .i64 j∧(y.take j).all (Gj x.length)=true) (fun _ i=>y.length-(intOf i).toNat)
   case atStart=>exact⟨0,Nat.zero_le _,rfl,rfl⟩
   case round=>
    obtain⟨j,hj,rfl,hall2⟩:=hrel;have et:=Z hall2;clear hall2;by_cases hltj:j<y.length
    ·obtain⟨r,hr⟩:∃r,y[j]? =some r:=⟨_,List.getElem?_eq_getElem hltj⟩;obtain⟨bl,off,cpr,he,ep,-⟩:=K2.o.inv_ne (by omega);obtain⟨rfl,-⟩:ab=some ⟨bl,off,none⟩∧cb=cpr:=by simpa using he
     obtain⟨u,aQ,hu⟩:=Sl.at K2.o hr;have hu:Ab W u r:=hu;obtain⟨ar,cpr,rfl,-⟩:=id hu;have iz:=Z (BO (Gj x.length) hr);have Hr:=Z hr;have Hu:=Z hu;clear hr he hu;cases hf:Gj x.length r
     ·have Hf:=Z (show Ba x y=false from by unfold Ba;rw[BH _ Hr.o hf];simp);have oY:=Z hf;clear hf;go_wp2_with (first|(go_at_call 298;refine(Mi _ _ _ _ Hu.o uQ uR).mono ?_;rintro e w' ⟨rfl,rfl⟩;rw[oY.o]))
      go_ret
      exact⟨AI Hf.o.symm,HW.o⟩
     ·have oY:=Z hf;clear hf;go_wp2_with (first|(go_at_call 298;refine(Mi _ _ _ _ Hu.o uQ uR).mono ?_;rintro e w' ⟨rfl,rfl⟩;rw[oY.o]))
      go_round
      case rel=>exact⟨j+1,by omega,by go_num,by rw[iz.o,et.o,oY.o];rfl⟩
      case measure=>simp[intOf];omega
    ·have Hf:=Z (show Ba x y=true from by unfold Ba;rw[Hs.o,uU.o,DK et.o (by omega)];rfl);go_wp2
     go_ret
     exact⟨AI Hf.o.symm,HW.o⟩
theorem A0e{l:List Nat}{m:Nat}(h:∀x∈l,x≤m):l.sum≤l.length*m:=by
 induction l with
 |nil=>simp
 |cons a l ih=>
  have h1:=h a (by simp);have h2:=ih (fun x hx=>h x (by simp[hx]));simp only[List.sum_cons,List.length_cons,Nat.succ_mul];omega
theorem LX{α β:Type}(f:α→β){m:List α}{k:Nat}{x:α}(h:m[k]? =some x):(m.take (k+1)).map f=(m.take k).map f++[f x]:=by
 rw[List.take_add_one,h];simp
theorem Qp(v:Value)(m:List (List Int))(w:World)(hv:Ak w v m)(hm:m.length≤1048576)(hr:∀x∈m,x.length≤1048576):Calls Tryz.prog 116 #[v] w (M7 32 (A4 3 A7) w (m.map BQ)):=by
 have Hv:=Z hv;obtain⟨a,cap0,rfl,-⟩:=hv;go_enter Tryz.func116,Tryz.ntmps116;go_wp2;go_loopw [3,5,8] (fun v _ i wr=>∃k:Nat,k≤m.length∧i=.int .i64 k∧A4 32 (A4 3 A7) (Iv w.heap.size wr.heap.size) wr v ((m.take k).map BQ)∧Below w.heap.size w wr) (fun _ _ i _=>m.length-(intOf i).toNat)
 case atStart=>exact⟨0,Nat.zero_le _,rfl,A4.nil _ _ _ _,Below.refl _ _⟩
 case round=>
  obtain⟨k,hk,rfl,aB,aA⟩:=hrel;obtain⟨wo,rfl⟩:∃wo:World,wo=wr:=⟨_,rfl⟩;have aV:=aA.size;by_cases aH:k<m.length
  ·obtain⟨row,aG⟩:∃row,m[k]? =some row:=⟨_,List.getElem?_eq_getElem aH⟩;obtain⟨b,off,cpr,he,hb,-⟩:=Hv.o.inv_ne (by omega);obtain⟨rfl,-⟩:a=some ⟨b,off,none⟩∧cap0=cpr:=by simpa using he
   obtain⟨u,aQ,hu⟩:=Sl.at Hv.o aG;have hu:Ab w u row:=hu;obtain⟨br,cpr,rfl,-⟩:=id hu;rw[←aA.cell (p:=⟨b,off+k,none⟩) hb] at aQ;have aw:=hr row (List.mem_of_getElem? aG);have aJ:=Z (LX BQ aG);have Hu:=Z (hu.keep aA);have ah:((m.take k).map BQ).length<1099511627776:=by simp;omega
   have aC:=Z aB;clear aG hu aB he;go_wp2_with (fail);refine(Xe _ _ _ Hu.o aw).mono ?_;rintro e w1 ⟨v1,rfl,bH,hbel1⟩;have cX:wo.heap.size≤w1.heap.size:=hbel1.size;obtain⟨p1,p2,p3,rfl⟩:=bH.shape;go_wp2_with (first|(at_builtin;(refine Aa rfl _ _ 31 rfl (A3 A2) 32 Tryz.underlying31 Es rfl (by decide) w.heap.size wo.heap.size aV cX rfl rfl (by exact A4.keep (A3 A2) aC.o hbel1 (Nat.le_refl _)) (by exact bH) ah ?_);intro v2 w2 hown2 aT _)|fail);have au:=(aA.trans (hbel1.mono aV)).trans aT;have ae:=Z hown2;clear hown2;go_wp2;go_roundw
   case rel=>exact⟨k+1,by omega,by go_num,by rw[aJ.o];exact ae.o,au⟩
   case measure=>simp[intOf];omega
  ·have aZ:=Z (show(m.take k).map BQ=m.map BQ from by rw[List.take_of_length_le (by omega)]);have aC:=Z aB;clear aB;go_wp2
   go_ret
   exact⟨_,rfl,by rw[←aZ.o];exact aC.o,aA⟩
theorem V4(v:Value)(m:List (List Int))(w:World)(hv:Ak w v m)(hm:m.length≤1048576)(hr:∀x∈m,x.length≤1048576):Calls Tryz.prog 197 #[v] w (M7 32 (A4 3 A7) w (m.map BQ)):=by
 have Hv:=Z hv;obtain⟨a,cap0,rfl,-⟩:=hv;go_enter Tryz.func197,Tryz.ntmps197;go_wp2;go_loopw [3,5,9] (fun v _ i wr=>∃k:Nat,k≤m.length∧i=.int .i64 k∧A4 32 (A4 3 A7) (Iv w.heap.size wr.heap.size) wr v ((m.take k).map BQ)∧Below w.heap.size w wr) (fun _ _ i _=>m.length-(intOf i).toNat)
 case atStart=>exact⟨0,Nat.zero_le _,rfl,Bq _ _ _ (A3 A2),Below.pureAlloc _ _⟩
 case round=>
  obtain⟨k,hk,rfl,aB,aA⟩:=hrel;obtain⟨wo,rfl⟩:∃wo:World,wo=wr:=⟨_,rfl⟩;have aV:=aA.size;by_cases aH:k<m.length
  ·obtain⟨row,aG⟩:∃row,m[k]? =some row:=⟨_,List.getElem?_eq_getElem aH⟩;obtain⟨b,off,cpr,he,hb,-⟩:=Hv.o.inv_ne (by omega);obtain⟨rfl,-⟩:a=some ⟨b,off,none⟩∧cap0=cpr:=by simpa using he
   obtain⟨u,aQ,hu⟩:=Sl.at Hv.o aG;have hu:Ab w u row:=hu;obtain⟨br,cpr,rfl,-⟩:=id hu;rw[←aA.cell (p:=⟨b,off+k,none⟩) hb] at aQ;have aw:=hr row (List.mem_of_getElem? aG);have aJ:=Z (LX BQ aG);have Hu:=Z (hu.keep aA);have ah:((m.take k).map BQ).length<1099511627776:=by simp;omega
   have aC:=Z aB;clear aG hu aB he;go_wp2_with (fail);refine(Y6 _ _ _ Hu.o aw).mono ?_;rintro e w1 ⟨v1,rfl,bH,hbel1⟩;have cX:wo.heap.size≤w1.heap.size:=hbel1.size;obtain⟨p1,p2,p3,rfl⟩:=bH.shape;go_wp2_with (first|(at_builtin;(refine Aa rfl _ _ 31 rfl (A3 A2) 32 Tryz.underlying31 Es rfl (by decide) w.heap.size wo.heap.size aV cX rfl rfl (by exact A4.keep (A3 A2) aC.o hbel1 (Nat.le_refl _)) (by exact bH) ah ?_);intro v2 w2 hown2 aT _)|fail);have au:=(aA.trans (hbel1.mono aV)).trans aT;have ae:=Z hown2;clear hown2;go_wp2;go_roundw
   case rel=>exact⟨k+1,by omega,by go_num,by rw[aJ.o];exact ae.o,au⟩
   case measure=>simp[intOf];omega
  ·have aZ:=Z (show(m.take k).map BQ=m.map BQ from by rw[List.take_of_length_le (by omega)]);have aC:=Z aB;clear aB;go_wp2
   go_ret
   exact⟨_,rfl,by rw[←aZ.o];exact aC.o,aA⟩
def DC(m:List (List Int)):List (List Int):=if Af m then m.map BQ else[]
def CT(m:List (List Int)):List (List Int):=if Af m then(tr m).map BQ else[]
theorem Qi{m:List (List Int)}(h:Af m=true):(m.map BQ).length≤5∧cells (m.map BQ)≤25:=by
 obtain⟨r,c,h1,h2,h3,h4,hs⟩:=Ad h;refine⟨by simp[hs.1,h2],?_⟩;unfold cells;have h5:∀x∈((m.map BQ).map List.length),x≤5:=by
  intro x hx;simp only[List.map_map,List.mem_map,Function.comp] at hx;obtain⟨r',hr,rfl⟩:=hx;have:=Nv r';have:=(hs.2 r' hr).1;omega
 have:=A0e h5;simp only[List.length_map,hs.1] at this;omega
theorem A5Z(m:List (List Int)):(DC m).length≤5∧cells (DC m)≤25∧(CT m).length≤5∧cells (CT m)≤25:=by
 unfold DC CT;cases h:Af m
 ·simp[cells]
 ·have h1:=Qi h;have h2:=Qi (ZV h);exact⟨h1.1,h1.2,h2.1,h2.2⟩
def A5j(w:World)(x y:List (List Int))(ok:Bool)(e:Ending)(w':World):Prop:=
 ∃a b,e=.returned (.tuple #[.agg #[a,b],.bool ok])∧Jh w.heap.size w'.heap.size w' a b x y∧Below w.heap.size w w'
theorem SS(v:Value)(m:List (List Int))(w:World)(hv:Ak w v m):Calls Tryz.prog 54 #[v] w (A5j w (DC m) (CT m) (Af m)):=by
 obtain⟨a,cap0,rfl,-⟩:=id hv;have b1:=Below.pureAlloc w (.cells #[.slice none 0 0,.slice none 0 0] 85);have B1:=Aw.new w #[.slice none 0 0,.slice none 0 0] 85;have Hv:=Z (hv.keep b1);clear hv;cases aD:Af m
 ·have Hr:=Z (show DC m=[] from by simp[DC,aD]);have Hc:=Z (show CT m=[] from by simp[CT,aD]);have aS:=Z aD;clear aD B1;go_enter Tryz.func54,Tryz.ntmps54;go_wp2_with (fail);refine(AP _ _ _ Hv.o).mono ?_;rintro e w' ⟨rfl,rfl⟩;rw[aS.o];go_wp2;have z1:(w.alloc (.cells #[.slice none 0 0,.slice none 0 0] 85)).heap.size=w.heap.size+1:=by simp
  refine bodyPost_ret (v:=.tuple #[.agg #[.slice none 0 0,.slice none 0 0],.bool false]) (by simp[results,Tryz.results54,go_sem]) rfl ⟨_,_,rfl,⟨w.heap.size,Nat.le_refl _,by rw[z1];omega,by rw[Hr.o];exact A4.nil _ _ _ _,by rw[Hc.o];exact A4.nil _ _ _ _⟩,b1⟩
 ·have Hr:=Z (show DC m=m.map BQ from by simp[DC,aD]);have Hc:=Z (show CT m=(tr m).map BQ from by simp[CT,aD]);have Ht:=Z (show HJ m=tr m from by simp[HJ,aD]);obtain⟨r,c,hr1,hr5,hc1,hc5,bA⟩:=Ad aD;have bJ:m.length≤1048576:=by have:=bA.1;omega
  have kP:∀x∈m,x.length≤1048576:=fun x hx=>by have:=(bA.2 x hx).1;omega
  have bE:=bA.tr hr1;have pi:(tr m).length≤1048576:=by have:=bE.1;omega
  have uV:∀x∈tr m,x.length≤1048576:=fun x hx=>by have:=(bE.2 x hx).1;omega
  have oZ:=Z kP;have zY:=Z uV;have aS:=Z aD;clear aD kP uV bE bA;go_enter Tryz.func54,Tryz.ntmps54;go_wp2_with (fail);refine(AP _ _ _ Hv.o).mono ?_;rintro e w' ⟨rfl,rfl⟩;rw[aS.o];obtain⟨W1,hW1⟩:∃W,W=w.alloc (.cells #[.slice none 0 0,.slice none 0 0] 85):=⟨_,rfl⟩;have z1:W1.heap.size=w.heap.size+1:=by rw[hW1];simp
  rw[←hW1] at Hv B1 b1⊢;have Z1:=Z z1;clear hW1 z1;go_wp2_with (fail);refine(Qp _ _ _ Hv.o bJ oZ.o).mono ?_;rintro e w2 ⟨v2,rfl,o2,b2⟩;have s2:W1.heap.size≤w2.heap.size:=b2.size;obtain⟨p1,p2,p3,rfl⟩:=o2.shape;have cI:=b1.trans_pure b2 (Nat.le_refl _);replace B1:=B1.keep b2;go_wp2_with (fail);refine(JD _ _ _ (Hv.o.keep b2)).mono ?_;rintro e w3 ⟨v3,rfl,o3,b3⟩;have s3:w2.heap.size≤w3.heap.size:=b3.size;have dd:=cI.trans_pure b3 (Nat.le_refl _);replace B1:=B1.keep b3;replace o2:=A4.keep (A3 A2) o2 b3 (Nat.le_refl _);rw[Ht.o] at o3;go_wp2_with (fail);refine(Qp _ _ _ o3.grid pi zY.o).mono ?_;rintro e w4 ⟨v4,rfl,o4,b4⟩;have s4:w3.heap.size≤w4.heap.size:=b4.size;obtain⟨q1,q2,q3,rfl⟩:=o4.shape;have eH:=dd.trans_pure b4 (Nat.le_refl _);replace B1:=B1.keep b4;replace o2:=A4.keep (A3 A2) o2 b4 (by omega);have c0:w4.cell? ⟨w.heap.size,0,none⟩=some (.slice none 0 0):=B1.cell 0;have c1:w4.cell? ⟨w.heap.size,1,none⟩=some (.slice none 0 0):=B1.cell 1;have f0:=B1.frozen 0;have f1:=B1.frozen 1;clear o3;go_wp2;obtain⟨W5,hW5⟩:∃W,W=(w4.setCell ⟨w.heap.size,0,none⟩ (.slice p1 p2 p3)).setCell ⟨w.heap.size,1,none⟩ (.slice q1 q2 q3):=⟨_,rfl⟩;have B5:=(B1.set (j:=0) (.slice p1 p2 p3)).set (j:=1) (.slice q1 q2 q3);have e8:Below w.heap.size w W5:=by rw[hW5];exact(eH.setCell (by simp) _).setCell (by simp) _
  have cR:∀b,W1.heap.size≤b→W5.heap[b]? =w4.heap[b]? :=by
   intro b hb;rw[Z1.o] at hb;rw[hW5,Below.heap_setCell _ _ _ b (by simp;omega),Below.heap_setCell _ _ _ b (by simp;omega)]
  have z5:W5.heap.size=w4.heap.size:=by rw[hW5,A9,A9]
  rw[←hW5] at B5⊢;clear hW5;replace o2:=(A3 (A3 A2)).same (w':=W5) (fun b hb=>cR b hb.1) o2;replace o4:=(A3 (A3 A2)).same (w':=W5) (fun b hb=>cR b (by have:=hb.1;omega)) o4;have d0:W5.cell? ⟨w.heap.size,0,none⟩=some (.slice p1 p2 p3):=B5.cell 0;have d1:W5.cell? ⟨w.heap.size,1,none⟩=some (.slice q1 q2 q3):=B5.cell 1;have bZ:=Z1.o;refine bodyPost_ret (v:=.tuple #[.agg #[.slice p1 p2 p3,.slice q1 q2 q3],.bool true]) (by simp[results,Tryz.results54,go_sem,d0,d1]) rfl ⟨_,_,rfl,⟨w3.heap.size,by omega,by omega,?_,?_⟩,e8⟩
  ·rw[Hr.o];exact(A3 (A3 A2)).mono (fun b hb=>⟨by have:=hb.1;omega,by have:=hb.2;omega⟩) o2
  ·rw[Hc.o];exact(A3 (A3 A2)).mono (fun b hb=>⟨hb.1,by have:=hb.2;omega⟩) o4
theorem R2(v:Value)(m:List (List Int))(w:World)(hv:Ak w v m):Calls Tryz.prog 136 #[v] w (A5j w (DC m) (CT m) (Af m)):=by
 obtain⟨a,cap0,rfl,-⟩:=id hv;have b1:=Below.pureAlloc w (.cells #[.slice none 0 0,.slice none 0 0] 85);have B1:=Aw.new w #[.slice none 0 0,.slice none 0 0] 85;have Hv:=Z (hv.keep b1);clear hv;cases aD:Af m
 ·have Hr:=Z (show DC m=[] from by simp[DC,aD]);have Hc:=Z (show CT m=[] from by simp[CT,aD]);have aS:=Z aD;clear aD B1;go_enter Tryz.func136,Tryz.ntmps136;go_wp2_with (fail);refine(AU _ _ _ Hv.o).mono ?_;rintro e w' ⟨rfl,rfl⟩;rw[aS.o];go_wp2;have z1:(w.alloc (.cells #[.slice none 0 0,.slice none 0 0] 85)).heap.size=w.heap.size+1:=by simp
  refine bodyPost_ret (v:=.tuple #[.agg #[.slice none 0 0,.slice none 0 0],.bool false]) (by simp[results,Tryz.results136,go_sem]) rfl ⟨_,_,rfl,⟨w.heap.size,Nat.le_refl _,by rw[z1];omega,by rw[Hr.o];exact A4.nil _ _ _ _,by rw[Hc.o];exact A4.nil _ _ _ _⟩,b1⟩
 ·have Hr:=Z (show DC m=m.map BQ from by simp[DC,aD]);have Hc:=Z (show CT m=(tr m).map BQ from by simp[CT,aD]);have Ht:=Z (show HJ m=tr m from by simp[HJ,aD]);obtain⟨r,c,hr1,hr5,hc1,hc5,bA⟩:=Ad aD;have bJ:m.length≤1048576:=by have:=bA.1;omega
  have kP:∀x∈m,x.length≤1048576:=fun x hx=>by have:=(bA.2 x hx).1;omega
  have bE:=bA.tr hr1;have pi:(tr m).length≤1048576:=by have:=bE.1;omega
  have uV:∀x∈tr m,x.length≤1048576:=fun x hx=>by have:=(bE.2 x hx).1;omega
  have oZ:=Z kP;have zY:=Z uV;have aS:=Z aD;clear aD kP uV bE bA;go_enter Tryz.func136,Tryz.ntmps136;go_wp2_with (fail);refine(AU _ _ _ Hv.o).mono ?_;rintro e w' ⟨rfl,rfl⟩;rw[aS.o];obtain⟨W1,hW1⟩:∃W,W=w.alloc (.cells #[.slice none 0 0,.slice none 0 0] 85):=⟨_,rfl⟩;have z1:W1.heap.size=w.heap.size+1:=by rw[hW1];simp
  rw[←hW1] at Hv B1 b1⊢;have Z1:=Z z1;clear hW1 z1;go_wp2_with (fail);refine(V4 _ _ _ Hv.o bJ oZ.o).mono ?_;rintro e w2 ⟨v2,rfl,o2,b2⟩;have s2:W1.heap.size≤w2.heap.size:=b2.size;obtain⟨p1,p2,p3,rfl⟩:=o2.shape;have cI:=b1.trans_pure b2 (Nat.le_refl _);replace B1:=B1.keep b2;go_wp2_with (fail);refine(Jx _ _ _ (Hv.o.keep b2)).mono ?_;rintro e w3 ⟨v3,rfl,o3,b3⟩;have s3:w2.heap.size≤w3.heap.size:=b3.size;have dd:=cI.trans_pure b3 (Nat.le_refl _);replace B1:=B1.keep b3;replace o2:=A4.keep (A3 A2) o2 b3 (Nat.le_refl _);rw[Ht.o] at o3;go_wp2_with (fail);refine(V4 _ _ _ o3.grid pi zY.o).mono ?_;rintro e w4 ⟨v4,rfl,o4,b4⟩;have s4:w3.heap.size≤w4.heap.size:=b4.size;obtain⟨q1,q2,q3,rfl⟩:=o4.shape;have eH:=dd.trans_pure b4 (Nat.le_refl _);replace B1:=B1.keep b4;replace o2:=A4.keep (A3 A2) o2 b4 (by omega);have c0:w4.cell? ⟨w.heap.size,0,none⟩=some (.slice none 0 0):=B1.cell 0;have c1:w4.cell? ⟨w.heap.size,1,none⟩=some (.slice none 0 0):=B1.cell 1;have f0:=B1.frozen 0;have f1:=B1.frozen 1;clear o3;go_wp2;obtain⟨W5,hW5⟩:∃W,W=(w4.setCell ⟨w.heap.size,0,none⟩ (.slice p1 p2 p3)).setCell ⟨w.heap.size,1,none⟩ (.slice q1 q2 q3):=⟨_,rfl⟩;have B5:=(B1.set (j:=0) (.slice p1 p2 p3)).set (j:=1) (.slice q1 q2 q3);have e8:Below w.heap.size w W5:=by rw[hW5];exact(eH.setCell (by simp) _).setCell (by simp) _
  have cR:∀b,W1.heap.size≤b→W5.heap[b]? =w4.heap[b]? :=by
   intro b hb;rw[Z1.o] at hb;rw[hW5,Below.heap_setCell _ _ _ b (by simp;omega),Below.heap_setCell _ _ _ b (by simp;omega)]
  have z5:W5.heap.size=w4.heap.size:=by rw[hW5,A9,A9]
  rw[←hW5] at B5⊢;clear hW5;replace o2:=(A3 (A3 A2)).same (w':=W5) (fun b hb=>cR b hb.1) o2;replace o4:=(A3 (A3 A2)).same (w':=W5) (fun b hb=>cR b (by have:=hb.1;omega)) o4;have d0:W5.cell? ⟨w.heap.size,0,none⟩=some (.slice p1 p2 p3):=B5.cell 0;have d1:W5.cell? ⟨w.heap.size,1,none⟩=some (.slice q1 q2 q3):=B5.cell 1;have bZ:=Z1.o;refine bodyPost_ret (v:=.tuple #[.agg #[.slice p1 p2 p3,.slice q1 q2 q3],.bool true]) (by simp[results,Tryz.results136,go_sem,d0,d1]) rfl ⟨_,_,rfl,⟨w3.heap.size,by omega,by omega,?_,?_⟩,e8⟩
  ·rw[Hr.o];exact(A3 (A3 A2)).mono (fun b hb=>⟨by have:=hb.1;omega,by have:=hb.2;omega⟩) o2
  ·rw[Hc.o];exact(A3 (A3 A2)).mono (fun b hb=>⟨hb.1,by have:=hb.2;omega⟩) o4
def Gq(x y z u:Int):ByteArray:=H8 ⟨#[58]⟩ [x,y,z,u]
theorem XR(w:World)(x y z u:Int)(hx:BV x)(hy:BV y)(hz:BV z)(hu:BV u)(E:TypeId):
  Ab (w.alloc (.cells #[.int .i64 x,.int .i64 y,.int .i64 z,.int .i64 u] E)) (.slice (some ⟨w.heap.size,0,none⟩) 4 4) [x,y,z,u]:=by
 refine⟨some ⟨w.heap.size,0,none⟩,4,rfl,by simp,by simp,fun h=>by simp at h,fun _=>⟨w.heap.size,0,rfl,by simp,fun k v hk=>?_⟩⟩
 match k,hk with
 |0,hk=>simp at hk;subst hk;exact⟨_,by simp,rfl,hx⟩
 |1,hk=>simp at hk;subst hk;exact⟨_,by simp,rfl,hy⟩
 |2,hk=>simp at hk;subst hk;exact⟨_,by simp,rfl,hz⟩
 |3,hk=>simp at hk;subst hk;exact⟨_,by simp,rfl,hu⟩
theorem QR(x y z u:Int)(hx:BV x)(hy:BV y)(hz:BV z)(hu:BV u)(w:World)(ht:Tab w):Calls Tryz.prog 97 #[.agg #[.int .i64 x,.int .i64 y,.int .i64 z,.int .i64 u]] w fun e w'=>e=.returned (.string (Gq x y z u))∧Below w.heap.size w w':=by
 have b1:=Below.pureAlloc w (.cells #[.int .i64 x,.int .i64 y,.int .i64 z,.int .i64 u] 65);have o:=XR (w.alloc (.cells #[.int .i64 x,.int .i64 y,.int .i64 z,.int .i64 u] 65)) x y z u hx hy hz hu 3;rw[show(w.alloc (.cells #[.int .i64 x,.int .i64 y,.int .i64 z,.int .i64 u] 65)).heap.size=w.heap.size+1 from by simp] at o;have b2:=b1.trans_pure (Below.pureAlloc _ (.cells #[.int .i64 x,.int .i64 y,.int .i64 z,.int .i64 u] 3)) (Nat.le_refl _);have T:=ht.keep b2;have H64:Ea [x,y,z,u]:=by intro n hn;simp at hn;rcases hn with rfl|rfl|rfl|rfl<;>assumption
 have jc:Dt ⟨#[58]⟩ ([x,y,z,u].map An)≤1099511627776:=by have:=Mm (sep:=⟨#[58]⟩) (by decide) H64;simp only[List.length_cons,List.length_nil] at this;omega
 have il:=Z jc;have Ho:=Z o;have HT:=Z T;clear o T jc H64;go_enter Tryz.func97,Tryz.ntmps97;go_wp2_with (fail);refine(A1c _ _ _ Ho.o (by simp) HT.o).mono ?_;rintro e w1 ⟨v1,rfl,o1,b3⟩;have aJ:=Z (WA o1);have bb:=b2.trans_pure b3 (Nat.le_refl _);go_wp2_with (fail);refine(PC _ _ _ _ aJ.o il.o (by simp)).mono ?_;rintro e w2 ⟨rfl,b4⟩;have cI:=bb.trans_pure b4 (Nat.le_refl _);go_wp2
 go_ret
 exact⟨rfl,cI⟩
theorem Rh(x y z u:Int)(hx:BV x)(hy:BV y)(hz:BV z)(hu:BV u)(w:World):Calls Tryz.prog 203 #[.agg #[.int .i64 x,.int .i64 y,.int .i64 z,.int .i64 u]] w fun e w'=>e=.returned (.string (Gq x y z u))∧Below w.heap.size w w':=by
 have b1:=Below.pureAlloc w (.cells #[.int .i64 x,.int .i64 y,.int .i64 z,.int .i64 u] 65);have o:=XR (w.alloc (.cells #[.int .i64 x,.int .i64 y,.int .i64 z,.int .i64 u] 65)) x y z u hx hy hz hu 3;rw[show(w.alloc (.cells #[.int .i64 x,.int .i64 y,.int .i64 z,.int .i64 u] 65)).heap.size=w.heap.size+1 from by simp] at o;have b2:=b1.trans_pure (Below.pureAlloc _ (.cells #[.int .i64 x,.int .i64 y,.int .i64 z,.int .i64 u] 3)) (Nat.le_refl _);have Ho:=Z o;clear o;go_enter Tryz.func203,Tryz.ntmps203;go_wp2_with (fail);refine(Uf _ _ _ _ Ho.o (by simp) (by decide)).mono ?_;rintro e w1 ⟨rfl,b3⟩;have bb:=b2.trans_pure b3 (Nat.le_refl _);go_wp2
 go_ret
 exact⟨rfl,bb⟩
def Ax(s:ByteArray):List (List Int):=(Ae s 47).map GZ
def B4(s:ByteArray):Bool:=(Ae s 47).all Gv&&Af (Ax s)
def BL(s:ByteArray):List (List Int):=if B4 s then Ax s else[]
def Ce(w:World)(s:ByteArray)(e:Ending)(w':World):Prop:=
 ∃v',e=.returned (.tuple #[v',.bool (B4 s)])∧A4 32 (A4 3 A7) (Iv w.heap.size w'.heap.size) w' v' (BL s)∧Below w.heap.size w w'
theorem P7(s:ByteArray):B4 s=(Af (Ax s)&&decide (Ag (Ax s)=s)):=by
 unfold B4 Ag;cases h:Af (Ax s)
 ·simp
 ·simp only[if_true,Bool.and_true,Bool.true_and];have:=XE s;unfold Ax;cases h2:(Ae s 47).all Gv
  ·rw[h2] at this;simp at this;simp[this]
  ·rw[h2] at this;simp at this;simp[this]
theorem UG{s:ByteArray}{k:Nat}{b:UInt8}(h:s.data.toList[k]? =some b):(GZ s).take (k+1)=(GZ s).take k++[Qh b]:=by
 unfold GZ;rw[List.take_add_one,List.getElem?_map,h];rfl
theorem A2G{s:ByteArray}{k:Nat}{b:UInt8}(h:s.data.toList[k]? =some b)(h1:b≠35)(h2:b≠46):Gv s=false:=by
 unfold Gv;rw[List.all_eq_false];exact⟨b,List.mem_of_getElem? h,by simp[h1,h2]⟩
theorem T7{s:ByteArray}{k:Nat}{b:UInt8}(h:s.data.toList[k]? =some b)(h1:b=35∨b=46)(hp:(s.data.toList.take k).all (fun b=>b==35||b==46)=true):(s.data.toList.take (k+1)).all (fun b=>b==35||b==46)=true:=by
 rw[List.take_add_one,h,List.all_append,hp];rcases h1 with rfl|rfl<;>rfl
theorem MO{ps:List ByteArray}{k:Nat}{p:ByteArray}(h:ps[k]? =some p):(ps.take (k+1)).map GZ=(ps.take k).map GZ++[GZ p]:=by
 rw[List.take_add_one,h];simp
theorem WY{a b:UInt8}(h:a=b):((a.toNat:Int)==(b.toNat:Int))=true:=by rw[h];simp
theorem Zb{a b:UInt8}(h:a≠b):((a.toNat:Int)==(b.toNat:Int))=false:=by
 rw[beq_eq_false_iff_ne];intro e;exact h (UInt8.toNat_inj.1 (by omega))
theorem TG{a b:ByteArray}(h:a.toList=b.toList):a=b:=Dm (by rw[ByteArray.toList_eq,ByteArray.toList_eq] at h;exact h)
theorem A5P{a b:ByteArray}(h:a≠b):(a.toList==b.toList)=false:=by rw[beq_eq_false_iff_ne];exact fun e=>h (TG e)
theorem UW(q:ByteArray):(GZ q).take q.size=GZ q:=List.take_of_length_le (by rw[D8];exact Nat.le_of_eq (List.length_map _))
def Iy(lo mid hi:Nat):Bk:=fun b=>(b=lo∨mid≤b)∧b<hi
def A2d(w:World)(s:ByteArray)(e:Ending)(w':World):Prop:=Ce w s e w'∧(B4 s=false→e=.returned (.tuple #[.slice none 0 0,.bool false]))
theorem CX(s:ByteArray)(w:World)(hs:s.size≤1048576):Calls Tryz.prog 32 #[.string s] w (A2d w s):=by
 go_enter Tryz.func32,Tryz.ntmps32;go_wp2_with (fail);refine(Am _ _ _ hs).mono ?_;rintro e w1 ⟨v1,rfl,own1,bel1⟩;have fp:=DO s 47;have aI:=CV s 47;obtain⟨ps,hpe⟩:∃ps,ps=Ae s 47:=⟨_,rfl⟩;have ky:=Z hpe;rw[←hpe] at own1 fp aI;have bE:AM w1 v1 ps:=(BY C1).rd (own1.sl (fun _ _ _ _ h=>h) C1);have Hv:=Z bE;have fV:=bel1.size;have bV:=Z aI;obtain⟨a,cap0,rfl,-⟩:=bE;clear hpe own1 aI;go_wp2;go_loopw [4,6,7,8,12] (fun v _ _ _ i wr=>∃k:Nat,k≤ps.length∧i=.int .i64 k∧(ps.take k).all Gv=true∧A4 32 (A4 3 A7) (Iv w1.heap.size wr.heap.size) wr v ((ps.take k).map GZ)∧Below w1.heap.size w1 wr) (fun _ _ _ _ i _=>ps.length-(intOf i).toNat)
 case atStart=>exact⟨0,Nat.zero_le _,rfl,rfl,A4.nil _ _ _ _,Below.refl _ _⟩
 case round=>
  obtain⟨k,hk,rfl,aR,aB,hbel1⟩:=hrel;obtain⟨wo,rfl⟩:∃wo:World,wo=wr:=⟨_,rfl⟩;have aA:=bel1.trans (hbel1.mono fV);have aV:=hbel1.size;have zZ:=aA.size;have aY:=Z aR;clear aR;by_cases aH:k<ps.length
  ·obtain⟨q,hq⟩:∃q,ps[k]? =some q:=⟨_,List.getElem?_eq_getElem aH⟩;obtain⟨b,off,cpr,he,hb,-⟩:=Hv.o.inv_ne (by omega);obtain⟨rfl,-⟩:a=some ⟨b,off,none⟩∧cap0=cpr:=by simpa using he
   obtain⟨u,aQ,rfl,-⟩:=Sl.at Hv.o hq;rw[←hbel1.cell (p:=⟨b,off+k,none⟩) hb] at aQ;have cD:q.size≤1048576:=by have:=bV.o q (List.mem_of_getElem? hq);omega
   have aJ:=Z (MO hq);have iz:=Z (BO Gv hq);have Hq:=Z hq;have ah:((ps.take k).map GZ).length<1099511627776:=by simp;omega
   have dW:decide ((k:Int)<(ps.length:Int))=true:=by simp;omega
   obtain⟨p1,p2,p3,rfl⟩:=aB.shape;have aC:=Z aB;clear hq aB he;go_wp2;clear aQ;go_loopw [7,8] (fun v i wr=>∃j:Nat,j≤q.size∧i=.int .i64 j∧(q.data.toList.take j).all (fun b=>b==35||b==46)=true∧A4 3 A7 (Iv wo.heap.size wr.heap.size) wr v ((GZ q).take j)∧Below wo.heap.size wo wr) (fun _ i _=>q.size-(intOf i).toNat)
   case atStart=>exact⟨0,Nat.zero_le _,rfl,rfl,A4.nil _ _ _ _,Below.refl _ _⟩
   case round=>
    obtain⟨j,hj,rfl,qp,bL,bK⟩:=hrel;obtain⟨wi,rfl⟩:∃wi:World,wi=wr:=⟨_,rfl⟩;have kI:=bK.size;have ze:=Z qp;clear qp;obtain⟨r1,r2,r3,rfl⟩:=bL.shape;have cV:=Z bL;have gC:((GZ q).take j).length<1099511627776:=by rw[List.length_take];omega
    clear bL;by_cases hltj:j<q.size
    ·have bB:=L8 hltj;have Hr:=Z (UG bB);have ek:=Z bB;clear bB;by_cases cZ:q[j]=35
     ·have eF:=Z (show Qh q[j]=1 from by rw[cZ];rfl);have zg:=Z (T7 ek.o (.inl cZ) ze.o);have dJ:((q[j].toNat:Int)==35)=true:=WY cZ;clear cZ;go_wp2_with (first|(at_builtin;(refine Aa rfl _ _ 32 rfl A2 3 Tryz.underlying32 As rfl (by decide) wo.heap.size wi.heap.size kI (Nat.le_refl _) rfl rfl (by exact cV.o) (by exact⟨rfl,BV.small (by decide) (by decide)⟩) gC ?_);intro v4 w4 hown4 hbel4 _)|fail);have cG:=bK.trans hbel4;have aU:=Z hown4;clear hown4;go_wp2;go_roundw
      case rel=>exact⟨j+1,by omega,by go_num,zg.o,by rw[Hr.o,eF.o];exact aU.o,cG⟩
      case measure=>simp[intOf];omega
     ·by_cases h46:q[j]=46
      ·have eF:=Z (show Qh q[j]=0 from by rw[h46];rfl);have zg:=Z (T7 ek.o (.inr h46) ze.o);have dJ:((q[j].toNat:Int)==35)=false:=Zb cZ;have zh:((q[j].toNat:Int)==46)=true:=WY h46;clear h46 cZ;go_wp2_with (first|(at_builtin;(refine Aa rfl _ _ 32 rfl A2 3 Tryz.underlying32 As rfl (by decide) wo.heap.size wi.heap.size kI (Nat.le_refl _) rfl rfl (by exact cV.o) (by exact⟨rfl,BV.small (by decide) (by decide)⟩) gC ?_);intro v4 w4 hown4 hbel4 _)|fail);have cG:=bK.trans hbel4;have aU:=Z hown4;clear hown4;go_wp2;go_roundw
       case rel=>exact⟨j+1,by omega,by go_num,zg.o,by rw[Hr.o,eF.o];exact aU.o,cG⟩
       case measure=>simp[intOf];omega
      ·have dJ:((q[j].toNat:Int)==35)=false:=Zb cZ;have zh:((q[j].toNat:Int)==46)=false:=Zb h46;have cU:(Ae s 47).all Gv=false:=by rw[←ky.o];exact BH _ Hq.o (A2G ek.o cZ h46)
       have aS:=Z (show B4 s=false from by unfold B4;rw[cU];rfl);have fy:=Z (show BL s=[] from by unfold BL;rw[aS.o];rfl);clear cZ h46 cU;go_wp2;have nh:=aA.trans (bK.mono zZ);refine bodyPost_ret (v:=.tuple #[.slice none 0 0,.bool false]) (by simp[results,Tryz.results32,go_sem]) rfl ⟨⟨_,by rw[aS.o],by rw[fy.o];exact A4.nil _ _ _ _,nh⟩,fun _=>rfl⟩
    ·obtain rfl:j=q.size:=by omega
     have Hpq:=Z (show Gv q=true from by have:=ze.o;rw[List.take_of_length_le (Nat.le_of_eq (D8 q).symm)] at this;exact this);have zi:=Z (UW q);have bn:=hbel1.trans (bK.mono aV);go_wp2_with (first|(at_builtin;(refine Aa rfl _ _ 31 rfl (A3 A2) 32 Tryz.underlying31 Es rfl (by decide) w1.heap.size wo.heap.size aV kI rfl rfl (by exact A4.keep (A3 A2) aC.o bK (Nat.le_refl _)) (by exact cV.o) ah ?_);intro v2 w2 hown2 aT _)|fail);have au:=bn.trans aT;have ae:=Z hown2;clear hown2;go_wp2;go_roundw
     case rel=>exact⟨k+1,by omega,by go_num,by rw[iz.o,aY.o,Hpq.o];rfl,by rw[aJ.o,←zi.o];exact ae.o,au⟩
     case measure=>simp[intOf];omega
  ·have xX:=Z (show(Ae s 47).all Gv=true from by rw[←ky.o];exact DK aY.o (by omega));have aF:=aB;rw[List.take_of_length_le (by omega)] at aF;have mq:ps.map GZ=Ax s:=by rw[ky.o];rfl
   rw[mq] at aF;have Hg:=Z (aF.grid);have aZ:=Z ((A3 (A3 A2)).mono (S':=Iv w.heap.size wo.heap.size) (fun b hb=>⟨by have:=hb.1;omega,hb.2⟩) aF);obtain⟨p1,p2,p3,rfl⟩:=aB.shape;clear aB aF mq;cases aD:Af (Ax s)
   ·have aS:=Z aD;have kQ:=Z (show B4 s=false from by unfold B4;rw[aS.o];simp);have fy:=Z (show BL s=[] from by unfold BL;rw[kQ.o];rfl);clear aD;go_wp2_with (fail);refine(AP _ _ _ Hg.o).mono ?_;rintro e w' ⟨rfl,rfl⟩;rw[aS.o];go_wp2;refine bodyPost_ret (v:=.tuple #[.slice none 0 0,.bool false]) (by simp[results,Tryz.results32,go_sem]) rfl ⟨⟨_,by rw[kQ.o],by rw[fy.o];exact A4.nil _ _ _ _,aA⟩,fun _=>rfl⟩
   ·have aS:=Z aD;have kQ:=Z (show B4 s=true from by unfold B4;rw[aS.o,xX.o];rfl);have fy:=Z (show BL s=Ax s from by unfold BL;rw[kQ.o];rfl);clear aD;go_wp2_with (fail);refine(AP _ _ _ Hg.o).mono ?_;rintro e w' ⟨rfl,rfl⟩;rw[aS.o];go_wp2;refine bodyPost_ret (v:=.tuple #[.slice p1 p2 p3,.bool true]) (by simp[results,Tryz.results32,go_sem]) rfl ⟨⟨_,by rw[kQ.o],by rw[fy.o];exact aZ.o,aA⟩,fun hz=>by rw[kQ.o] at hz;cases hz⟩
theorem Kx(s:ByteArray)(w:World)(hs:s.size≤1048576):Calls Tryz.prog 32 #[.string s] w (Ce w s):=(CX s w hs).mono fun _ _ h=>h.1
theorem ET(s:ByteArray)(w:World)(hs:s.size≤1048576):Calls Tryz.prog 64 #[.string s] w (Ce w s):=by
 have ep:=Below.pureAlloc w (.cells #[] 32);go_enter Tryz.func64,Tryz.ntmps64;go_wp2_with (fail);refine(CF _ _ _ hs).mono ?_;rintro e w1 ⟨v1,rfl,own1,bel1⟩;have fp:=DO s 47;have aI:=CV s 47;obtain⟨ps,hpe⟩:∃ps,ps=Ae s 47:=⟨_,rfl⟩;have ky:=Z hpe;rw[←hpe] at own1 fp aI;have eC:=Z own1;have bE:AM w1 v1 ps:=(BY C1).rd (own1.sl (fun _ _ _ _ h=>h) C1);have Hv:=Z bE;have fV:(w.alloc (.cells #[] 32)).heap.size≤w1.heap.size:=bel1.size;have bZ:w.heap.size+1≤w1.heap.size:=by have:(w.alloc (.cells #[] 32)).heap.size=w.heap.size+1:=by simp
                                                                                                                                                                                                                                                                                                                                                                                                                                                                                    omega
 have bV:=Z aI;have jY:=ep.trans_pure bel1 (Nat.le_refl _);have dC:A4 32 (A4 3 A7) (Iy w.heap.size w1.heap.size w1.heap.size) w1 (.slice (some ⟨w.heap.size,0,none⟩) 0 0) []:=by
  have h:A4 32 (A4 3 A7) (Iv w.heap.size (w.alloc (.cells #[] 32)).heap.size) w1 (.slice (some ⟨w.heap.size,0,none⟩) 0 0) []:=A4.keep (A3 A2) (Bq w 32 w.heap.size (A3 A2)) bel1 (Nat.le_refl _);refine(A3 (A3 A2)).mono (fun b hb=>?_) h;have h1:(w.alloc (.cells #[] 32)).heap.size=w.heap.size+1:=by simp
  have h2:=hb.1;have h3:=hb.2;exact⟨.inl (by omega),by omega⟩
 have iY:=Z dC;have zj:=jY.size;obtain⟨a,cap0,rfl,-⟩:=bE;clear hpe own1 aI dC;go_wp2;go_loopw [4,6,7,8,9,14] (fun v _ _ _ _ i wr=>∃k:Nat,k≤ps.length∧i=.int .i64 k∧A4 32 (A4 3 A7) (Iy w.heap.size w1.heap.size wr.heap.size) wr v ((ps.take k).map GZ)∧Below w.heap.size w wr∧IR (fun b=>w.heap.size<b∧b<w1.heap.size) w1 wr∧w1.heap.size≤wr.heap.size) (fun _ _ _ _ _ i _=>ps.length-(intOf i).toNat)
 case atStart=>exact⟨0,Nat.zero_le _,rfl,iY.o,jY,fun _ _=>rfl,Nat.le_refl _⟩
 case round=>
  obtain⟨k,hk,rfl,aB,aA,cR,dH⟩:=hrel;obtain⟨wo,rfl⟩:∃wo:World,wo=wr:=⟨_,rfl⟩;have aV:=aA.size;by_cases aH:k<ps.length
  ·obtain⟨q,hq⟩:∃q,ps[k]? =some q:=⟨_,List.getElem?_eq_getElem aH⟩;obtain⟨b,cpr,he,hb,-⟩:=eC.o.inv_ne (by omega);obtain⟨rfl,-⟩:a=some ⟨b,0,none⟩∧cap0=cpr:=by simpa using he
   obtain⟨u,aQ,rfl,-⟩:=Sl.at Hv.o hq;have oe:w.heap.size<b∧b<w1.heap.size:=⟨by have:=hb.1;have h1:(w.alloc (.cells #[] 32)).heap.size=w.heap.size+1:=by simp
                                                                               omega,hb.2⟩
   rw[←World.cell?_of_block (a:=⟨b,0+k,none⟩) (cR b oe),Nat.zero_add] at aQ;have cD:q.size≤1048576:=by have:=bV.o q (List.mem_of_getElem? hq);omega
   have aJ:=Z (MO hq);have ah:((ps.take k).map GZ).length<1099511627776:=by simp;omega
   have dW:decide ((k:Int)<(ps.length:Int))=true:=by simp;omega
   obtain⟨p1,p2,p3,rfl⟩:=aB.shape;have aC:=Z aB;clear hq aB he;go_wp2;clear aQ;go_loopw [7,8,9] (fun v i _ wr=>∃j:Nat,j≤q.size∧i=.int .i64 j∧A4 3 A7 (Iv wo.heap.size wr.heap.size) wr v ((GZ q).take j)∧Below wo.heap.size wo wr) (fun _ i _ _=>q.size-(intOf i).toNat)
   case atStart=>exact⟨0,Nat.zero_le _,rfl,Bq _ _ _ A2,Below.pureAlloc _ _⟩
   case round=>
    obtain⟨j,hj,rfl,bL,bK⟩:=hrel;obtain⟨wi,rfl⟩:∃wi:World,wi=wr:=⟨_,rfl⟩;have kI:=bK.size;obtain⟨r1,r2,r3,rfl⟩:=bL.shape;have cV:=Z bL;have gC:((GZ q).take j).length<1099511627776:=by rw[List.length_take];omega
    clear bL;by_cases hltj:j<q.size
    ·have bB:=L8 hltj;have Hr:=Z (UG bB);clear bB;by_cases cZ:q[j]=35
     ·have eF:=Z (show Qh q[j]=1 from by rw[cZ];rfl);have dJ:((q[j].toNat:Int)==35)=true:=WY cZ;clear cZ;go_wp2_with (first|(at_builtin;(refine Aa rfl _ _ 32 rfl A2 3 Tryz.underlying32 As rfl (by decide) wo.heap.size wi.heap.size kI (Nat.le_refl _) rfl rfl (by exact cV.o) (by exact⟨rfl,BV.small (by decide) (by decide)⟩) gC ?_);intro v4 w4 hown4 hbel4 _)|fail);have cG:=bK.trans hbel4;have aU:=Z hown4;clear hown4;go_wp2;go_roundw
      case rel=>exact⟨j+1,by omega,by go_num,by rw[Hr.o,eF.o];exact aU.o,cG⟩
      case measure=>simp[intOf];omega
     ·have eF:=Z (show Qh q[j]=0 from by unfold Qh;rw[if_neg cZ]);have dJ:((q[j].toNat:Int)==35)=false:=Zb cZ;clear cZ;go_wp2_with (first|(at_builtin;(refine Aa rfl _ _ 32 rfl A2 3 Tryz.underlying32 As rfl (by decide) wo.heap.size wi.heap.size kI (Nat.le_refl _) rfl rfl (by exact cV.o) (by exact⟨rfl,BV.small (by decide) (by decide)⟩) gC ?_);intro v4 w4 hown4 hbel4 _)|fail);have cG:=bK.trans hbel4;have aU:=Z hown4;clear hown4;go_wp2;go_roundw
      case rel=>exact⟨j+1,by omega,by go_num,by rw[Hr.o,eF.o];exact aU.o,cG⟩
      case measure=>simp[intOf];omega
    ·obtain rfl:j=q.size:=by omega
     have zi:=Z (UW q);have bn:=aA.trans (bK.mono aV);have HK:=Z ((A3 (A3 A2)).same (A5 bK (fun b (hb:Iy w.heap.size w1.heap.size wo.heap.size b)=>hb.2)) aC.o);have HST:=Z (show ∀b,Iy w.heap.size w1.heap.size wo.heap.size b→¬Iv wo.heap.size wi.heap.size b from fun b h1 h2=>by have:=h1.2;have:=h2.1;omega);have HS:=Z (show ∀b,Iy w.heap.size w1.heap.size wo.heap.size b→b<wi.heap.size from fun b h1=>by have:=h1.2;omega);have HT:=Z (show ∀b,Iv wo.heap.size wi.heap.size b→b<wi.heap.size from fun b h1=>h1.2);have zk:=Z (show ∀b,Iy w.heap.size w1.heap.size wo.heap.size b→(b=w.heap.size∨w1.heap.size≤b) from fun b h1=>h1.1);have oO:=Z (show ∀b,Iv wo.heap.size wi.heap.size b→(b=w.heap.size∨w1.heap.size≤b) from fun b h1=>.inr (by have:=h1.1;omega));have zl:=Z (show ∀b,wi.heap.size<b→(b=w.heap.size∨w1.heap.size≤b) from fun b h1=>.inr (by omega));go_wp2_with (first|(at_builtin;(refine Gw rfl _ _ 31 rfl (A3 A2) 32 Tryz.underlying31 Es rfl (by decide) (Iy w.heap.size w1.heap.size wo.heap.size) (Iv wo.heap.size wi.heap.size) (fun b=>b=w.heap.size∨w1.heap.size≤b) _ _ _ _ rfl rfl (by exact HK.o) (by exact cV.o) HST.o HS.o HT.o zk.o oO.o zl.o ah ?_);intro v2 w2 hown2 honly2)|fail);have uW:∀b,(Value.slice p1 p2 p3).ownBlock=some b→Iy w.heap.size w1.heap.size wo.heap.size b:=fun b hb=>A4.ownBlock' HK.o b hb;have au:Below w.heap.size w w2:=bn.trans (honly2.below (by omega) (fun b hb=>by rcases(uW b hb).1 with h|h<;>omega));have hs2:IR (fun b=>w.heap.size<b∧b<w1.heap.size) w1 w2:=fun b hb=>by
      rw[honly2.block b (by have:=hb.2;omega) (fun h=>by have:=hb.1;have:=hb.2;rcases(uW b h).1 with h|h<;>omega),bK.block b (by have:=hb.2;omega)];exact cR b hb
     have bT:w1.heap.size≤w2.heap.size:=by have:=honly2.size;omega
     have ae:=Z hown2;clear hown2;go_wp2;go_roundw
     case rel=>exact⟨k+1,by omega,by go_num,by rw[aJ.o,←zi.o];exact ae.o,au,hs2,bT⟩
     case measure=>simp[intOf];omega
  ·have aF:=aB;rw[List.take_of_length_le (by omega)] at aF;have mq:ps.map GZ=Ax s:=by rw[ky.o];rfl
   rw[mq] at aF;have Hg:=Z (aF.grid);have aZ:=Z ((A3 (A3 A2)).mono (S':=Iv w.heap.size wo.heap.size) (fun b hb=>⟨by rcases hb.1 with h|h<;>omega,hb.2⟩) aF);obtain⟨p1,p2,p3,rfl⟩:=aB.shape;clear aB aF mq;cases aD:Af (Ax s)
   ·have aS:=Z aD;have kQ:=Z (show B4 s=false from by rw[P7,aS.o];rfl);have fy:=Z (show BL s=[] from by unfold BL;rw[kQ.o];rfl);clear aD;go_wp2_with (fail);refine(AU _ _ _ Hg.o).mono ?_;rintro e w' ⟨rfl,rfl⟩;rw[aS.o];go_wp2;refine bodyPost_ret (v:=.tuple #[.slice none 0 0,.bool false]) (by simp[results,Tryz.results64,go_sem]) rfl ⟨_,by rw[kQ.o],by rw[fy.o];exact A4.nil _ _ _ _,aA⟩
   ·have aS:=Z aD;clear aD;go_wp2_with (fail);refine(AU _ _ _ Hg.o).mono ?_;rintro e w' ⟨rfl,rfl⟩;rw[aS.o];go_wp2_with (fail);refine(Ex _ _ _ Hg.o).mono ?_;rintro e w2 ⟨rfl,au⟩;have nh:=aA.trans (au.mono aV);by_cases hf:Ag (Ax s)=s
    ·have kQ:=Z (show B4 s=true from by rw[P7,aS.o,hf];simp);have fy:=Z (show BL s=Ax s from by unfold BL;rw[kQ.o];rfl);rw[hf];clear hf;have iw:=Z ((A4.keep (A3 A2) aZ.o au (Nat.le_refl _)).grow (A3 A2) au.size (Below.refl _ _));go_wp2;refine bodyPost_ret (v:=.tuple #[.slice p1 p2 p3,.bool true]) (by simp[results,Tryz.results64,go_sem]) rfl ⟨_,by rw[kQ.o],by rw[fy.o];exact iw.o,nh⟩
    ·have kQ:=Z (show B4 s=false from by rw[P7,aS.o];simp[hf]);have fy:=Z (show BL s=[] from by unfold BL;rw[kQ.o];rfl);have aO:=A5P hf;clear hf;go_wp2;refine bodyPost_ret (v:=.tuple #[.slice none 0 0,.bool false]) (by simp[results,Tryz.results64,go_sem]) rfl ⟨_,by rw[kQ.o],by rw[fy.o];exact A4.nil _ _ _ _,nh⟩
theorem RR(p:UInt8→Bool){l:List UInt8}{k:Nat}{x:UInt8}(h:l[k]? =some x):(l.take (k+1)).all p=((l.take k).all p&&p x):=by
 rw[List.take_add_one,h,List.all_append];simp
def EV(s:ByteArray):Bool:=s.data.toList.all KY&&decide (0<s.size)
theorem Fv(s:ByteArray)(w:World)(hs:s.size≤1048576):Calls Tryz.prog 147 #[.string s] w fun e w'=>e=.returned (.bool (EV s))∧w=w':=by
 go_enter Tryz.func147,Tryz.ntmps147;go_wp2
 go_loop [3] (fun i=>∃k:Nat,k≤s.size∧i=.int .i64 k∧(s.data.toList.take k).all KY=true) (fun i=>s.size-(intOf i).toNat)
 case atStart=>exact⟨0,Nat.zero_le _,rfl,rfl⟩
 case round=>
  obtain⟨k,hk,rfl,aR⟩:=hrel;have aY:=Z aR;clear aR;by_cases aH:k<s.size
  ·have bB:=L8 aH;have iz:=Z (RR KY bB);have ek:=Z bB;clear bB;have jZ:=Z (show KY s[k]=false→EV s=false from fun h=>by
    unfold EV;rw[Bool.and_eq_false_iff];left;rw[List.all_eq_false];exact⟨s[k],List.mem_of_getElem? ek.o,by simp[h]⟩)
   by_cases h1:s[k].toNat<48
   ·have Hr:=Z (jZ.o (by simp[KY];omega));have hd:decide (((s[k]).toNat:Int)<48)=true:=by simp;omega
    go_wp2
    go_ret
    exact⟨AI Hr.o.symm,rfl⟩
   ·have hd:decide (((s[k]).toNat:Int)<48)=false:=by simp;omega
    by_cases h2:57<s[k].toNat
    ·have Hr:=Z (jZ.o (by simp[KY];omega));have mA:decide ((57:Int)<((s[k]).toNat:Int))=true:=by simp;omega
     go_wp2
     go_ret
     exact⟨AI Hr.o.symm,rfl⟩
    ·have Hg:=Z (show KY s[k]=true from by simp[KY];omega);have mA:decide ((57:Int)<((s[k]).toNat:Int))=false:=by simp;omega
     go_wp2
     go_round
     case rel=>exact⟨k+1,by omega,by go_num,by rw[iz.o,aY.o,Hg.o];rfl⟩
     case measure=>simp[intOf];omega
  ·have Hr:=Z (show EV s=decide (0<s.size) from by
    have h:=aY.o;rw[List.take_of_length_le (by rw[←D8];omega)] at h;unfold EV;rw[h];simp)
   go_wp2
   go_ret
   exact⟨AI Hr.o.symm,rfl⟩
theorem OT{a b:ByteArray}(h:a≠b):(a.toList==b.toList)=false:=by
 rw[beq_eq_false_iff_ne];exact fun e=>h (Dm (by rw[ByteArray.toList_eq,ByteArray.toList_eq] at e;exact e))
def Sp(s:ByteArray):Bool:=s.data.toList.head?==some 45
def IM(s:ByteArray):ByteArray:=if Sp s then s.extract 1 s.size else s
theorem U8{s:ByteArray}{n:Int}(h:Fd s=some n):L5 s n∧(Sp s=true↔n<0)∧Jn (IM s).data.toList=n.natAbs∧(IM s).data.toList.all KY=true∧0<(IM s).size∧(IM s).size≤19:=by
 have k:=Kk h;refine⟨k,?_⟩;rcases Int.lt_or_le n 0 with h0|h0
 ·obtain⟨l,hl,a,b,c,d⟩:=k.neg h0;have hn:Sp s=true:=by unfold Sp;rw[hl];rfl
  have hb:(IM s).data.toList=l:=by
   unfold IM;rw[if_pos hn,En,hl,D8,hl];simp
  rw[D8,hb];exact⟨⟨fun _=>h0,fun _=>hn⟩,a,b,c,d⟩
 ·obtain⟨a,b,c,d⟩:=k.pos h0;have hn:Sp s=false:=by
   unfold Sp;cases hl:s.data.toList with
   |nil=>rfl
   |cons x l=>
    rw[hl] at b;rw[List.all_cons,Bool.and_eq_true] at b;have:=Lz.1 b.1;rw[List.head?_cons,beq_eq_false_iff_ne];intro e;injection e with e;subst e;simp at this
  have hb:IM s=s:=by unfold IM;rw[hn];rfl
  rw[hb];exact⟨⟨fun h=>absurd (hn.symm.trans h) (by decide),fun h=>absurd h (by omega)⟩,a,b,c,d⟩
theorem BN{s:ByteArray}(h:∀n,Fd s=some n→False):Fd s=none:=by
 cases hp:Fd s with
 |none=>rfl
 |some n=>exact(h n hp).elim
noncomputable def Aq (s:ByteArray):Int:=(Fd s).getD 0
noncomputable def Ai (s:ByteArray):Bool:=(Fd s).isSome
theorem O6{s:ByteArray}(h:Fd s=none):Aq s=0∧Ai s=false:=by unfold Aq Ai;rw[h];exact⟨rfl,rfl⟩
theorem Mh{s:ByteArray}{n:Int}(h:Fd s=some n):Aq s=n∧Ai s=true:=by unfold Aq Ai;rw[h];exact⟨rfl,rfl⟩
def Lk(w:World)(s:ByteArray)(e:Ending)(w':World):Prop:=e=.returned (.tuple #[.int .i64 (Aq s),.bool (Ai s)])∧Below w.heap.size w w'
theorem UJ{t:ByteArray}{k:Nat}{c:UInt8}(h:t.data.toList[k]? =some c):Jn (t.data.toList.take k)*10+(c.toNat-48)≤Jn t.data.toList:=by
 rw[←P3 h];exact Wu _ _
theorem KW(s:ByteArray)(w:World)(hs:s.size≤1048576):Calls Tryz.prog 67 #[.string s] w (Lk w s):=by
 have mr:=fun n (h:Fd s=some n)=>U8 h;have HF:=Z mr;clear mr;have fh:=Z (fun h=>O6 (s:=s) h);by_cases ce:s.size=0
 ·have zm:s=ByteArray.empty:=by apply Dm;have h:=D8 s;rw[ce] at h;exact List.eq_nil_of_length_eq_zero h.symm
  subst zm;have hp:=BN (s:=ByteArray.empty) (fun n h=>by
   obtain⟨-,-,-,-,b,-⟩:=HF.o n h;simp[IM,Sp] at b)
  obtain⟨r1,r2⟩:=fh.o hp;have Hr:=Z (show Lk w ByteArray.empty (.returned (.tuple #[.int .i64 0,.bool false])) w from⟨by rw[r1,r2],Below.refl _ _⟩);clear r1 r2;go_enter Tryz.func67,Tryz.ntmps67;go_wp2_with (fail);refine(Fv _ _ hs).mono ?_;rintro e w' ⟨rfl,rfl⟩;rw[show EV ByteArray.empty=false from by simp[EV]];go_wp2;refine bodyPost_ret (v:=.tuple #[.int .i64 0,.bool false]) (by simp[results,Tryz.results67,go_sem]) rfl Hr.o
 have bF:0<s.size:=by omega
 have oh:=L8 bF;have lg:s.data.toList.head?=some s[0]:=by rw[←List.head?_eq_getElem?] at oh;exact oh
 have hdz:decide ((0:Int)<(s.size:Int))=true:=by simp;omega
 cases hn:Sp s
 ·have uX:s[0]≠45:=by
   intro e;unfold Sp at hn;rw[lg,e] at hn;simp at hn
  have dJ:((s[0].toNat:Int)==45)=false:=by rw[beq_eq_false_iff_ne];intro e;exact uX (UInt8.toNat_inj.1 (by have:(45:UInt8).toNat=45:=rfl;omega))
  have hb:IM s=s:=by unfold IM;rw[hn];rfl
  rw[hb] at HF;have rM:=hs;have Hn:=Z hn;clear hb hn uX lg oh ce;cases hd:EV s
  ·have hp:=BN (s:=s) (fun n h=>by
    obtain⟨-,-,-,a,b,-⟩:=HF.o n h;unfold EV at hd;rw[a,Bool.true_and,decide_eq_false_iff_not] at hd;exact hd b)
   have Hd:=Z hd;obtain⟨r1,r2⟩:=fh.o hp;have Hr:=Z (show Lk w s (.returned (.tuple #[.int .i64 0,.bool false])) w from⟨by rw[r1,r2],Below.refl _ _⟩);clear r1 r2 hd;go_enter Tryz.func67,Tryz.ntmps67;go_wp2_with (fail);refine(Fv _ _ rM).mono ?_;rintro e w' ⟨rfl,rfl⟩;rw[Hd.o];go_wp2;refine bodyPost_ret (v:=.tuple #[.int .i64 0,.bool false]) (by simp[results,Tryz.results67,go_sem]) rfl Hr.o
  have Hd:=Z hd;unfold EV at hd;rw[Bool.and_eq_true] at hd;have zn:=Z hd.1;clear hd;by_cases h19:19<s.size
  ·have hp:=BN (s:=s) (fun n h=>by
    obtain⟨-,-,-,a,b,c⟩:=HF.o n h;omega)
   obtain⟨r1,r2⟩:=fh.o hp;have Hr:=Z (show Lk w s (.returned (.tuple #[.int .i64 0,.bool false])) w from⟨by rw[r1,r2],Below.refl _ _⟩);clear r1 r2;go_enter Tryz.func67,Tryz.ntmps67;go_wp2_with (fail);refine(Fv _ _ rM).mono ?_;rintro e w' ⟨rfl,rfl⟩;rw[Hd.o];go_wp2;refine bodyPost_ret (v:=.tuple #[.int .i64 0,.bool false]) (by simp[results,Tryz.results67,go_sem]) rfl Hr.o
  go_enter Tryz.func67,Tryz.ntmps67;go_wp2_with (fail);refine(Fv _ _ rM).mono ?_;rintro e w' ⟨rfl,rfl⟩;rw[Hd.o];go_wp2
  go_loop [6,7,8] (fun nv i _=>∃(k D:Nat),k≤s.size∧i=.int .i64 k∧D=Jn (s.data.toList.take k)∧nv=.int .i64 (-(D:Int))∧D≤9223372036854775808) (fun _ i _=>s.size-(intOf i).toNat)
  case atStart=>exact⟨0,0,Nat.zero_le _,rfl,rfl,rfl,by decide⟩
  case round=>
   obtain⟨k,D,hk,rfl,hD,rfl,hDb⟩:=hrel;have HD:=Z hD;clear hD;by_cases aH:k<s.size
   ·have bB:=L8 aH;have ek:=Z bB;have rN:=zn.o;rw[List.all_eq_true] at rN;have hc:=Lz.1 (rN _ (List.mem_of_getElem? bB));obtain⟨d,lT⟩:∃d:Nat,d=s[k].toNat-48:=⟨_,rfl⟩;have hd9:d≤9:=by omega
    have pK:((s[k]).toNat:Int)-48=(d:Int):=by omega
    have aJ:=Z (show Jn (s.data.toList.take (k+1))=D*10+d from by rw[P3 bB,HD.o,lT]);have zp:=Z (UJ bB);have dW:decide ((k:Int)<(s.size:Int))=true:=by simp;omega
    have uY:=T9 (n:=-9223372036854775808+(d:Int)) (by omega);clear bB rN hc;by_cases hov:9223372036854775808<D*10+d
    ·have hp:=BN (s:=s) (fun n h=>by
      obtain⟨k1,-,a,-,-,-⟩:=HF.o n h;have:=zp.o;have h3:=k1.1;rw[←HD.o,←lT,a] at this;omega)
     obtain⟨r1,r2⟩:=fh.o hp;have Hr:=Z (show Lk w s (.returned (.tuple #[.int .i64 0,.bool false])) w from⟨by rw[r1,r2],Below.refl _ _⟩);have zq:decide (-(D:Int)<(-9223372036854775808+(d:Int)).tdiv 10)=true:=by simp;omega
     have iI:IntKind.i64.wrap ((-9223372036854775808+(d:Int)).tdiv 10)=(-9223372036854775808+(d:Int)).tdiv 10:=by rw[IntKind.wrap_i64];omega
     clear r1 r2 lT uY;go_wp2;refine bodyPost_ret (v:=.tuple #[.int .i64 0,.bool false]) (by simp[results,Tryz.results67,go_sem]) rfl Hr.o
    ·have zq:decide (-(D:Int)<(-9223372036854775808+(d:Int)).tdiv 10)=false:=by simp;omega
     have iI:IntKind.i64.wrap ((-9223372036854775808+(d:Int)).tdiv 10)=(-9223372036854775808+(d:Int)).tdiv 10:=by rw[IntKind.wrap_i64];omega
     clear lT uY;go_wp2
     go_round
     case rel=>exact⟨k+1,D*10+d,by omega,by go_num,by rw[aJ.o],by go_num,by omega⟩
     case measure=>simp[intOf];omega
   ·have xY:=Z (show D=Jn s.data.toList from by rw[HD.o,List.take_of_length_le (by rw[←D8];omega)]);have dW:decide ((k:Int)<(s.size:Int))=false:=by simp;omega
    clear HD;by_cases hmin:D=9223372036854775808
    ·subst hmin;have hp:=BN (s:=s) (fun n h=>by
      obtain⟨k1,k2,a,-,-,-⟩:=HF.o n h;rw[←xY.o] at a;have h3:=k1.1;have h4:¬n<0:=fun aH=>by have:=k2.2 aH;rw[Hn.o] at this;cases this
      omega)
     obtain⟨r1,r2⟩:=fh.o hp;have Hr:=Z (show Lk w s (.returned (.tuple #[.int .i64 0,.bool false])) w from⟨by rw[r1,r2],Below.refl _ _⟩);clear r1 r2;go_wp2;refine bodyPost_ret (v:=.tuple #[.int .i64 0,.bool false]) (by simp[results,Tryz.results67,go_sem]) rfl Hr.o
    have hI:BV (D:Int):=⟨by omega,by omega⟩;have hmn:((-(D:Int))==-9223372036854775808)=false:=by rw[beq_eq_false_iff_ne];omega
    go_wp2_with (fail);refine(Dr _ hI _).mono ?_;rintro e w2 ⟨rfl,b2⟩;by_cases hf:An (D:Int)=s
    ·obtain⟨r1,r2⟩:=Mh (J4 (s:=s) (n:=(D:Int)) ⟨hI.o,hf⟩);have Hr:=Z (show Lk w s (.returned (.tuple #[.int .i64 (D:Int),.bool true])) w2 from⟨by rw[r1,r2],b2⟩);clear r1 r2;rw[hf];clear hf;go_wp2;refine bodyPost_ret (v:=.tuple #[.int .i64 (D:Int),.bool true]) (by simp[results,Tryz.results67,go_sem]) rfl Hr.o
    ·have hp:=BN (s:=s) (fun n h=>by
      obtain⟨k1,k2,a,-,-,-⟩:=HF.o n h;rw[←xY.o] at a;have h4:¬n<0:=fun aH=>by have:=k2.2 aH;rw[Hn.o] at this;cases this
      have h5:n=(D:Int):=by omega
      exact hf (by rw[←h5];exact k1.2))
     obtain⟨r1,r2⟩:=fh.o hp;have Hr:=Z (show Lk w s (.returned (.tuple #[.int .i64 0,.bool false])) w2 from⟨by rw[r1,r2],b2⟩);have aO:=OT hf;clear r1 r2 hf;go_wp2;refine bodyPost_ret (v:=.tuple #[.int .i64 0,.bool false]) (by simp[results,Tryz.results67,go_sem]) rfl Hr.o
 ·have uX:s[0]=45:=by
   unfold Sp at hn;rw[lg] at hn;simpa using hn
  have dJ:((s[0].toNat:Int)==45)=true:=by rw[uX];rfl
  have hb:IM s=s.extract 1 s.size:=by unfold IM;rw[hn];rfl
  obtain⟨t,ht⟩:∃t,t=s.extract 1 s.size:=⟨_,rfl⟩;rw[hb,←ht] at HF;have Ht:=Z ht;have rM:(s.extract 1 s.size).size≤1048576:=Nat.le_trans (Fo _ _ _) hs;have Hn:=Z hn;clear hb hn uX lg oh ce ht;cases hd:EV t
  ·have hp:=BN (s:=s) (fun n h=>by
    obtain⟨-,-,-,a,b,-⟩:=HF.o n h;unfold EV at hd;rw[a,Bool.true_and,decide_eq_false_iff_not] at hd;exact hd b)
   have Hd:=Z hd;obtain⟨r1,r2⟩:=fh.o hp;have Hr:=Z (show Lk w s (.returned (.tuple #[.int .i64 0,.bool false])) w from⟨by rw[r1,r2],Below.refl _ _⟩);clear r1 r2 hd;go_enter Tryz.func67,Tryz.ntmps67;go_wp2_with (fail);refine(Fv _ _ rM).mono ?_;rintro e w' ⟨rfl,rfl⟩;rw[←Ht.o,Hd.o];go_wp2;refine bodyPost_ret (v:=.tuple #[.int .i64 0,.bool false]) (by simp[results,Tryz.results67,go_sem]) rfl Hr.o
  have Hd:=Z hd;unfold EV at hd;rw[Bool.and_eq_true] at hd;have zn:=Z hd.1;clear hd;by_cases h19:19<t.size
  ·have hp:=BN (s:=s) (fun n h=>by
    obtain⟨-,-,-,a,b,c⟩:=HF.o n h;omega)
   obtain⟨r1,r2⟩:=fh.o hp;have Hr:=Z (show Lk w s (.returned (.tuple #[.int .i64 0,.bool false])) w from⟨by rw[r1,r2],Below.refl _ _⟩);clear r1 r2;go_enter Tryz.func67,Tryz.ntmps67;go_wp2_with (fail);refine(Fv _ _ rM).mono ?_;rintro e w' ⟨rfl,rfl⟩;rw[←Ht.o,Hd.o];go_wp2;refine bodyPost_ret (v:=.tuple #[.int .i64 0,.bool false]) (by simp[results,Tryz.results67,go_sem]) rfl Hr.o
  go_enter Tryz.func67,Tryz.ntmps67;go_wp2_with (fail);refine(Fv _ _ rM).mono ?_;rintro e w' ⟨rfl,rfl⟩;rw[←Ht.o,Hd.o];go_wp2
  go_loop [6,7,8] (fun nv i _=>∃(k D:Nat),k≤t.size∧i=.int .i64 k∧D=Jn (t.data.toList.take k)∧nv=.int .i64 (-(D:Int))∧D≤9223372036854775808) (fun _ i _=>t.size-(intOf i).toNat)
  case atStart=>exact⟨0,0,Nat.zero_le _,rfl,rfl,rfl,by decide⟩
  case round=>
   obtain⟨k,D,hk,rfl,hD,rfl,hDb⟩:=hrel;have HD:=Z hD;clear hD;by_cases aH:k<t.size
   ·have bB:=L8 aH;have ek:=Z bB;have rN:=zn.o;rw[List.all_eq_true] at rN;have hc:=Lz.1 (rN _ (List.mem_of_getElem? bB));obtain⟨d,lT⟩:∃d:Nat,d=t[k].toNat-48:=⟨_,rfl⟩;have hd9:d≤9:=by omega
    have pK:((t[k]).toNat:Int)-48=(d:Int):=by omega
    have aJ:=Z (show Jn (t.data.toList.take (k+1))=D*10+d from by rw[P3 bB,HD.o,lT]);have zp:=Z (UJ bB);have dW:decide ((k:Int)<(t.size:Int))=true:=by simp;omega
    have uY:=T9 (n:=-9223372036854775808+(d:Int)) (by omega);clear bB rN hc;by_cases hov:9223372036854775808<D*10+d
    ·have hp:=BN (s:=s) (fun n h=>by
      obtain⟨k1,-,a,-,-,-⟩:=HF.o n h;have:=zp.o;have h3:=k1.1;rw[←HD.o,←lT,a] at this;omega)
     obtain⟨r1,r2⟩:=fh.o hp;have Hr:=Z (show Lk w s (.returned (.tuple #[.int .i64 0,.bool false])) w from⟨by rw[r1,r2],Below.refl _ _⟩);have zq:decide (-(D:Int)<(-9223372036854775808+(d:Int)).tdiv 10)=true:=by simp;omega
     have iI:IntKind.i64.wrap ((-9223372036854775808+(d:Int)).tdiv 10)=(-9223372036854775808+(d:Int)).tdiv 10:=by rw[IntKind.wrap_i64];omega
     clear r1 r2 lT uY;go_wp2;refine bodyPost_ret (v:=.tuple #[.int .i64 0,.bool false]) (by simp[results,Tryz.results67,go_sem]) rfl Hr.o
    ·have zq:decide (-(D:Int)<(-9223372036854775808+(d:Int)).tdiv 10)=false:=by simp;omega
     have iI:IntKind.i64.wrap ((-9223372036854775808+(d:Int)).tdiv 10)=(-9223372036854775808+(d:Int)).tdiv 10:=by rw[IntKind.wrap_i64];omega
     clear lT uY;go_wp2
     go_round
     case rel=>exact⟨k+1,D*10+d,by omega,by go_num,by rw[aJ.o],by go_num,by omega⟩
     case measure=>simp[intOf];omega
   ·have xY:=Z (show D=Jn t.data.toList from by rw[HD.o,List.take_of_length_le (by rw[←D8];omega)]);have dW:decide ((k:Int)<(t.size:Int))=false:=by simp;omega
    clear HD;have hI:BV (-(D:Int)):=⟨by omega,by omega⟩;go_wp2_with (fail);refine(Dr _ hI _).mono ?_;rintro e w2 ⟨rfl,b2⟩;by_cases hf:An (-(D:Int))=s
    ·obtain⟨r1,r2⟩:=Mh (J4 (s:=s) (n:=-(D:Int)) ⟨hI.o,hf⟩);have Hr:=Z (show Lk w s (.returned (.tuple #[.int .i64 (-(D:Int)),.bool true])) w2 from⟨by rw[r1,r2],b2⟩);clear r1 r2;rw[hf];clear hf;go_wp2;refine bodyPost_ret (v:=.tuple #[.int .i64 (-(D:Int)),.bool true]) (by simp[results,Tryz.results67,go_sem]) rfl Hr.o
    ·have hp:=BN (s:=s) (fun n h=>by
      obtain⟨k1,k2,a,-,-,-⟩:=HF.o n h;rw[←xY.o] at a;have h4:n<0:=k2.1 Hn.o;have h5:n=-(D:Int):=by omega
      exact hf (by rw[←h5];exact k1.2))
     obtain⟨r1,r2⟩:=fh.o hp;have Hr:=Z (show Lk w s (.returned (.tuple #[.int .i64 0,.bool false])) w2 from⟨by rw[r1,r2],b2⟩);have aO:=OT hf;clear r1 r2 hf;go_wp2;refine bodyPost_ret (v:=.tuple #[.int .i64 0,.bool false]) (by simp[results,Tryz.results67,go_sem]) rfl Hr.o
theorem A40{l:List UInt8}{v:Int}(h:Lib.atoiAll l=.ok v):BV v:=by
 unfold Lib.atoiAll at h
 split at h
 ·cases h
 ·rename_i c r
  simp only at h
  split at h
  ·cases h
  ·cases h
  ·rename_i u hu
   split at h
   ·cases h
   ·split at h
    ·cases h
    ·rename_i h1 h2
     injection h with h;by_cases hn:c.toNat=45
     ·simp only[hn,if_true] at h;simp[hn] at h1 h2;subst h;exact⟨by omega,by omega⟩
     ·simp only[hn,if_false] at h;simp[hn] at h1 h2;subst h;exact⟨by omega,by omega⟩
def A1L(w:World):Prop:=(∃te pe,w.cell? ⟨2,0,none⟩=some (.iface te pe))∧(∃te pe,w.cell? ⟨3,0,none⟩=some (.iface te pe))
theorem A1L.keep{w w':World}(h:A1L w)(hb:Below w.heap.size w w'):A1L w':=by
 obtain⟨⟨a,b,h1⟩,⟨c,d,h2⟩⟩:=h;exact⟨⟨a,b,(hb.cell (block_lt_of_cell h1)).trans h1⟩,⟨c,d,(hb.cell (block_lt_of_cell h2)).trans h2⟩⟩
def Bg(w:World):Prop:=Tab w∧A1L w
theorem Bg.keep{w w':World}(h:Bg w)(hb:Below w.heap.size w w'):Bg w':=⟨h.1.keep hb,h.2.keep hb⟩
theorem YA{w w':World}{e:TypeId}(h:w'=w∨∃t,w'=Lib.bytesWorld w e t):Below w.heap.size w w':=by
 rcases h with rfl|⟨t,rfl⟩
 ·exact Below.refl _ _
 ·exact Lib.bytesWorld_below _ _ _
theorem AS(s:ByteArray)(w:World)(hs:s.size≤1048576)(ht:Bg w):Calls Tryz.prog 31 #[.string s] w (Lk w s):=by
 obtain⟨hT,⟨te,pe,he1⟩,⟨te2,pe2,dh⟩⟩:=ht;have HT:=Z hT;cases ha:Lib.atoiAll s.data.toList with
 |ok v=>
  have hI:=A40 ha;have Ha:=Z ha;clear ha he1 dh hT;go_enter Tryz.func31,Tryz.ntmps31;go_wp2_with (fail);refine(Tryz.strconv_Atoi_ok s (by omega) v Ha.o w).mono ?_;rintro e w1 ⟨rfl,hw⟩;have b1:=YA hw;clear hw;go_wp2_with (fail);refine(Cs v hI _ (HT.o.keep b1)).mono ?_;rintro e w2 ⟨rfl,b2⟩;have bb:=b1.trans_pure b2 (Nat.le_refl _);by_cases hf:An v=s
  ·obtain⟨r1,r2⟩:=Mh (J4 (s:=s) (n:=v) ⟨hI.o,hf⟩);have Hr:=Z (show Lk w s (.returned (.tuple #[.int .i64 v,.bool true])) w2 from⟨by rw[r1,r2],bb⟩);clear r1 r2;rw[hf];clear hf;go_wp2;refine bodyPost_ret (v:=.tuple #[.int .i64 v,.bool true]) (by simp[results,Tryz.results31,go_sem]) rfl Hr.o
  ·have hp:=BN (s:=s) (fun n h=>by
    have h2:=LN h;rw[Ha.o] at h2;injection h2 with h2;exact hf (by rw[h2];exact(Kk h).2))
   obtain⟨r1,r2⟩:=O6 hp;have Hr:=Z (show Lk w s (.returned (.tuple #[.int .i64 0,.bool false])) w2 from⟨by rw[r1,r2],bb⟩);have aO:=OT hf;clear r1 r2 hf;go_wp2;refine bodyPost_ret (v:=.tuple #[.int .i64 0,.bool false]) (by simp[results,Tryz.results31,go_sem]) rfl Hr.o
 |range=>
  have hp:=BN (s:=s) (fun n h=>by have h2:=LN h;rw[ha] at h2;cases h2);obtain⟨r1,r2⟩:=O6 hp;have Hr:=Z (fun w2 (bb:Below w.heap.size w w2)=>show Lk w s (.returned (.tuple #[.int .i64 0,.bool false])) w2 from⟨by rw[r1,r2],bb⟩);have Ha:=Z ha;clear ha hT r1 r2 he1;have He:=Z dh;clear dh;go_enter Tryz.func31,Tryz.ntmps31;go_wp2_with (fail);refine(Tryz.strconv_Atoi_range s (by omega) Ha.o _ w He.o (.inr ⟨te2,pe2,rfl⟩)).mono ?_;rintro e w1 ⟨N,rfl,-,-,b1⟩;go_wp2;refine bodyPost_ret (v:=.tuple #[.int .i64 0,.bool false]) (by simp[results,Tryz.results31,go_sem]) rfl (Hr.o _ b1)
 |_=>
  have hp:=BN (s:=s) (fun n h=>by have h2:=LN h;rw[ha] at h2;cases h2);obtain⟨r1,r2⟩:=O6 hp;have Hr:=Z (fun w2 (bb:Below w.heap.size w w2)=>show Lk w s (.returned (.tuple #[.int .i64 0,.bool false])) w2 from⟨by rw[r1,r2],bb⟩);have Ha:=Z ha;clear ha hT r1 r2 dh;have He:=Z he1;clear he1;go_enter Tryz.func31,Tryz.ntmps31;go_wp2_with (fail);refine(Tryz.strconv_Atoi_syntax s (by omega) Ha.o trivial _ w He.o (.inr ⟨te,pe,rfl⟩)).mono ?_;rintro e w1 ⟨N,rfl,-,-,b1⟩;go_wp2;refine bodyPost_ret (v:=.tuple #[.int .i64 0,.bool false]) (by simp[results,Tryz.results31,go_sem]) rfl (Hr.o _ b1)
theorem AD{p:ByteArray}(h:Ai p=true):An (Aq p)=p∧BV (Aq p):=by
 unfold Ai Aq at*;cases hp:Fd p with
 |none=>rw[hp] at h;cases h
 |some n=>have k:=Kk hp;exact⟨k.2,k.1⟩
noncomputable def Dv (s:ByteArray):List Int:=(Ae s 44).map Aq
noncomputable def BJ (s:ByteArray):Bool:=decide (s=⟨#[45]⟩)||(Ae s 44).all Ai
noncomputable def AB (s:ByteArray):List Int:=if s=⟨#[45]⟩ then[] else if(Ae s 44).all Ai then Dv s else[]
def C3(w:World)(s:ByteArray)(e:Ending)(w':World):Prop:=
 ∃v',e=.returned (.tuple #[v',.bool (BJ s)])∧A4 3 A7 (Iv w.heap.size w'.heap.size) w' v' (AB s)∧Below w.heap.size w w'
theorem A2I{s:ByteArray}(h:(Ae s 44).all Ai=true):Aj (Dv s)=s:=by
 unfold Aj Dv;rw[List.all_eq_true] at h;have aO:(Ae s 44).map Aq≠[]:=by
  intro e;have h1:=congrArg List.length e;have h2:=EJ s 44;rw[List.length_map] at h1;simp at h1;rw[h1] at h2;simp at h2
 rw[if_neg aO];unfold H8;rw[List.map_map];have e:(Ae s 44).map (An∘Aq)=Ae s 44:=
  (List.map_congr_left (f:=An∘Aq) (g:=id) (fun p hp=>(AD (h p hp)).1)).trans (List.map_id _)
 rw[e,EI]
theorem A0O:Fd (⟨#[45]⟩:ByteArray)=none:=by
 apply BN;intro n h;obtain⟨k,k2,a,b,c,d⟩:=U8 h;have hn:Sp ⟨#[45]⟩=true:=by decide
 have hb:IM ⟨#[45]⟩=(⟨#[45]⟩:ByteArray).extract 1 1:=by unfold IM;rw[hn];rfl
 rw[hb] at c;exact absurd c (by decide)
theorem SN{ps:List ByteArray}{k:Nat}{p:ByteArray}(h:ps[k]? =some p):(ps.take (k+1)).map Aq=(ps.take k).map Aq++[Aq p]:=by
 rw[List.take_add_one,h];simp
theorem Lm(f:ByteArray→Bool){l:List ByteArray}{k:Nat}{x:ByteArray}(h:l[k]? =some x):(l.take (k+1)).all f=((l.take k).all f&&f x):=by
 rw[List.take_add_one,h,List.all_append];simp
theorem FG(s:ByteArray)(w:World)(hs:s.size≤1048576)(ht:Bg w):Calls Tryz.prog 35 #[.string s] w (C3 w s):=by
 by_cases hdash:s=⟨#[45]⟩
 ·subst hdash;have Hy:=Z (show BJ ⟨#[45]⟩=true from by unfold BJ;simp);have Hv:=Z (show AB ⟨#[45]⟩=[] from by unfold AB;rw[if_pos rfl]);go_enter Tryz.func35,Tryz.ntmps35;go_wp2;refine bodyPost_ret (v:=.tuple #[.slice none 0 0,.bool true]) (by simp[results,Tryz.results35,go_sem]) rfl ⟨_,by rw[Hy.o],by rw[Hv.o];exact A4.nil _ _ _ _,Below.refl _ _⟩
 have aO:=OT hdash;rw[show(⟨#[45]⟩:ByteArray).toList=[45] from by rw[ByteArray.toList_eq]] at aO;have gT:decide (s=⟨#[45]⟩)=false:=by simpa using hdash
 have ms:=Z (show BJ s=(Ae s 44).all Ai from by unfold BJ;rw[gT,Bool.false_or]);have kR:=Z (show AB s=if(Ae s 44).all Ai then Dv s else[] from by unfold AB;rw[if_neg hdash]);have Ht:=Z ht;clear hdash gT ht;go_enter Tryz.func35,Tryz.ntmps35;go_wp2_with (fail);refine(Am _ _ _ hs).mono ?_;rintro e w1 ⟨v1,rfl,own1,bel1⟩;have fp:=DO s 44;have aI:=CV s 44;obtain⟨ps,hpe⟩:∃ps,ps=Ae s 44:=⟨_,rfl⟩;have ky:=Z hpe;rw[←hpe] at own1 fp aI;have bE:AM w1 v1 ps:=(BY C1).rd (own1.sl (fun _ _ _ _ h=>h) C1);have Hv:=Z bE;have fV:=bel1.size;have bV:=Z aI;obtain⟨a,cap0,rfl,-⟩:=bE;clear hpe own1 aI aO;go_wp2;go_loopw [4,6,7,8,14] (fun v _ _ _ i wr=>∃k:Nat,k≤ps.length∧i=.int .i64 k∧(ps.take k).all Ai=true∧A4 3 A7 (Iv w1.heap.size wr.heap.size) wr v ((ps.take k).map Aq)∧Below w1.heap.size w1 wr) (fun _ _ _ _ i _=>ps.length-(intOf i).toNat)
 case atStart=>exact⟨0,Nat.zero_le _,rfl,rfl,A4.nil _ _ _ _,Below.refl _ _⟩
 case round=>
  obtain⟨k,hk,rfl,aR,aB,hbel1⟩:=hrel;obtain⟨wo,rfl⟩:∃wo:World,wo=wr:=⟨_,rfl⟩;have aA:=bel1.trans (hbel1.mono fV);have aV:=hbel1.size;have zZ:=aA.size;have aY:=Z aR;clear aR;by_cases aH:k<ps.length
  ·obtain⟨q,hq⟩:∃q,ps[k]? =some q:=⟨_,List.getElem?_eq_getElem aH⟩;obtain⟨b,off,cpr,he,hb,-⟩:=Hv.o.inv_ne (by omega);obtain⟨rfl,-⟩:a=some ⟨b,off,none⟩∧cap0=cpr:=by simpa using he
   obtain⟨u,aQ,rfl,-⟩:=Sl.at Hv.o hq;rw[←hbel1.cell (p:=⟨b,off+k,none⟩) hb] at aQ;have cD:q.size≤1048576:=by have:=bV.o q (List.mem_of_getElem? hq);omega
   have aJ:=Z (SN hq);have iz:=Z (Lm Ai hq);have Hq:=Z hq;have ah:((ps.take k).map Aq).length<1099511627776:=by simp;omega
   have dW:decide ((k:Int)<(ps.length:Int))=true:=by simp;omega
   obtain⟨p1,p2,p3,rfl⟩:=aB.shape;have aC:=Z aB;clear hq aB he;go_wp2_with (fail);refine(AS _ _ cD (Ht.o.keep aA)).mono ?_;rintro e w2 ⟨rfl,b2⟩;have hs2:=b2.size;cases hy:Ai q
   ·have jZ:=Z (show(Ae s 44).all Ai=false from by rw[←ky.o,List.all_eq_false];exact⟨q,List.mem_of_getElem? Hq.o,by simp[hy]⟩);have Hy:=Z (show BJ s=false from by rw[ms.o,jZ.o]);have rO:=Z (show AB s=[] from by rw[kR.o,jZ.o];rfl);have nh:=aA.trans (b2.mono zZ);clear hy;go_wp2;refine bodyPost_ret (v:=.tuple #[.slice none 0 0,.bool false]) (by simp[results,Tryz.results35,go_sem]) rfl ⟨_,by rw[Hy.o],by rw[rO.o];exact A4.nil _ _ _ _,nh⟩
   ·have Hy:=Z hy;have hI:=(AD hy).2;have bn:=hbel1.trans (b2.mono aV);clear hy;go_wp2_with (first|(at_builtin;(refine Aa rfl _ _ 32 rfl A2 3 Tryz.underlying32 As rfl (by decide) w1.heap.size wo.heap.size aV hs2 rfl rfl (by exact A4.keep A2 aC.o b2 (Nat.le_refl _)) (by exact⟨rfl,hI⟩) ah ?_);intro v3 w3 bL bK _)|fail);have bW:=bn.trans bK;have cV:=Z bL;clear bL;go_wp2;go_roundw
    case rel=>exact⟨k+1,by omega,by go_num,by rw[iz.o,aY.o,Hy.o];rfl,by rw[aJ.o];exact cV.o,bW⟩
    case measure=>simp[intOf];omega
  ·have xX:=Z (show(Ae s 44).all Ai=true from by rw[←ky.o];have h:=aY.o;rwa[List.take_of_length_le (by omega)] at h);have Hy:=Z (show BJ s=true from by rw[ms.o,xX.o]);have rO:=Z (show AB s=ps.map Aq from by rw[kR.o,xX.o,ky.o];rfl);have aF:=aB;rw[List.take_of_length_le (by omega)] at aF;obtain⟨p1,p2,p3,rfl⟩:=aB.shape;have aZ:=Z ((A3 A2).mono (S':=Iv w.heap.size wo.heap.size) (fun b hb=>⟨by have:=hb.1;omega,hb.2⟩) aF);clear aB aF;go_wp2;refine bodyPost_ret (v:=.tuple #[.slice p1 p2 p3,.bool true]) (by simp[results,Tryz.results35,go_sem]) rfl ⟨_,by rw[Hy.o],by rw[rO.o];exact aZ.o,aA⟩
theorem Eg(s:ByteArray)(w:World)(hs:s.size≤1048576):Calls Tryz.prog 145 #[.string s] w (C3 w s):=by
 by_cases hdash:s=⟨#[45]⟩
 ·subst hdash;have Hy:=Z (show BJ ⟨#[45]⟩=true from by unfold BJ;simp);have Hv:=Z (show AB ⟨#[45]⟩=[] from by unfold AB;rw[if_pos rfl]);go_enter Tryz.func145,Tryz.ntmps145;go_wp2;refine bodyPost_ret (v:=.tuple #[.slice none 0 0,.bool true]) (by simp[results,Tryz.results145,go_sem]) rfl ⟨_,by rw[Hy.o],by rw[Hv.o];exact A4.nil _ _ _ _,Below.refl _ _⟩
 have aO:=OT hdash;rw[show(⟨#[45]⟩:ByteArray).toList=[45] from by rw[ByteArray.toList_eq]] at aO;have gT:decide (s=⟨#[45]⟩)=false:=by simpa using hdash
 have ms:=Z (show BJ s=(Ae s 44).all Ai from by unfold BJ;rw[gT,Bool.false_or]);have kR:=Z (show AB s=if(Ae s 44).all Ai then Dv s else[] from by unfold AB;rw[if_neg hdash]);clear hdash gT;have ep:=Below.pureAlloc w (.cells #[] 3);go_enter Tryz.func145,Tryz.ntmps145;go_wp2_with (fail);refine(CF _ _ _ hs).mono ?_;rintro e w1 ⟨v1,rfl,own1,bel1⟩;have fp:=DO s 44;have aI:=CV s 44;obtain⟨ps,hpe⟩:∃ps,ps=Ae s 44:=⟨_,rfl⟩;have ky:=Z hpe;rw[←hpe] at own1 fp aI;have eC:=Z own1;have bE:AM w1 v1 ps:=(BY C1).rd (own1.sl (fun _ _ _ _ h=>h) C1);have Hv:=Z bE;have fV:(w.alloc (.cells #[] 3)).heap.size≤w1.heap.size:=bel1.size;have dB:(w.alloc (.cells #[] 3)).heap.size=w.heap.size+1:=by simp
 have bZ:w.heap.size+1≤w1.heap.size:=by omega
 have lZ:=Z dB;have bV:=Z aI;have jY:=ep.trans_pure bel1 (Nat.le_refl _);have dC:A4 3 A7 (Iy w.heap.size w1.heap.size w1.heap.size) w1 (.slice (some ⟨w.heap.size,0,none⟩) 0 0) []:=by
  have h:A4 3 A7 (Iv w.heap.size (w.alloc (.cells #[] 3)).heap.size) w1 (.slice (some ⟨w.heap.size,0,none⟩) 0 0) []:=A4.keep A2 (Bq w 3 w.heap.size A2) bel1 (Nat.le_refl _);refine(A3 A2).mono (fun b hb=>?_) h;have h2:=hb.1;have h3:=hb.2;exact⟨.inl (by omega),by omega⟩
 have iY:=Z dC;have zj:=jY.size;obtain⟨a,cap0,rfl,-⟩:=bE;clear hpe own1 aI dC aO dB;go_wp2;go_loopw [4,6,7,8,15] (fun v _ _ _ i wr=>∃k:Nat,k≤ps.length∧i=.int .i64 k∧(ps.take k).all Ai=true∧A4 3 A7 (Iy w.heap.size w1.heap.size wr.heap.size) wr v ((ps.take k).map Aq)∧Below w.heap.size w wr∧IR (fun b=>w.heap.size<b∧b<w1.heap.size) w1 wr∧w1.heap.size≤wr.heap.size) (fun _ _ _ _ i _=>ps.length-(intOf i).toNat)
 case atStart=>exact⟨0,Nat.zero_le _,rfl,rfl,iY.o,jY,fun _ _=>rfl,Nat.le_refl _⟩
 case round=>
  obtain⟨k,hk,rfl,aR,aB,aA,cR,dH⟩:=hrel;obtain⟨wo,rfl⟩:∃wo:World,wo=wr:=⟨_,rfl⟩;have aV:=aA.size;have aY:=Z aR;clear aR;by_cases aH:k<ps.length
  ·obtain⟨q,hq⟩:∃q,ps[k]? =some q:=⟨_,List.getElem?_eq_getElem aH⟩;obtain⟨b,cpr,he,hb,-⟩:=eC.o.inv_ne (by omega);obtain⟨rfl,-⟩:a=some ⟨b,0,none⟩∧cap0=cpr:=by simpa using he
   obtain⟨u,aQ,rfl,-⟩:=Sl.at Hv.o hq;have oe:w.heap.size<b∧b<w1.heap.size:=⟨by have:=hb.1;have:=lZ.o;omega,hb.2⟩;rw[←World.cell?_of_block (a:=⟨b,0+k,none⟩) (cR b oe),Nat.zero_add] at aQ;have cD:q.size≤1048576:=by have:=bV.o q (List.mem_of_getElem? hq);omega
   have aJ:=Z (SN hq);have iz:=Z (Lm Ai hq);have Hq:=Z hq;have ah:((ps.take k).map Aq).length<1099511627776:=by simp;omega
   have dW:decide ((k:Int)<(ps.length:Int))=true:=by simp;omega
   obtain⟨p1,p2,p3,rfl⟩:=aB.shape;have aC:=Z aB;clear hq aB he;go_wp2_with (fail);refine(KW _ _ cD).mono ?_;rintro e w2 ⟨rfl,b2⟩;have hs2:=b2.size;cases hy:Ai q
   ·have jZ:=Z (show(Ae s 44).all Ai=false from by rw[←ky.o,List.all_eq_false];exact⟨q,List.mem_of_getElem? Hq.o,by simp[hy]⟩);have Hy:=Z (show BJ s=false from by rw[ms.o,jZ.o]);have rO:=Z (show AB s=[] from by rw[kR.o,jZ.o];rfl);have nh:=aA.trans (b2.mono aV);clear hy;go_wp2;refine bodyPost_ret (v:=.tuple #[.slice none 0 0,.bool false]) (by simp[results,Tryz.results145,go_sem]) rfl ⟨_,by rw[Hy.o],by rw[rO.o];exact A4.nil _ _ _ _,nh⟩
   ·have Hy:=Z hy;have hI:=(AD hy).2;have bn:=aA.trans (b2.mono aV);have HK:=Z ((A3 A2).same (A5 b2 (fun b (hb:Iy w.heap.size w1.heap.size wo.heap.size b)=>hb.2)) aC.o);have HS:=Z (show ∀b,Iy w.heap.size w1.heap.size wo.heap.size b→b<w2.heap.size from fun b h1=>by have:=h1.2;omega);have zk:=Z (show ∀b,Iy w.heap.size w1.heap.size wo.heap.size b→(b=w.heap.size∨w1.heap.size≤b) from fun b h1=>h1.1);have zl:=Z (show ∀b,w2.heap.size<b→(b=w.heap.size∨w1.heap.size≤b) from fun b h1=>.inr (by omega));clear hy;go_wp2_with (first|(at_builtin;(refine Gw rfl _ _ 32 rfl A2 3 Tryz.underlying32 As rfl (by decide) (Iy w.heap.size w1.heap.size wo.heap.size) (fun _=>False) (fun b=>b=w.heap.size∨w1.heap.size≤b) _ _ _ _ rfl rfl (by exact HK.o) (by exact⟨rfl,hI⟩) (fun _ _ h=>h.elim) HS.o (fun _ h=>h.elim) zk.o (fun _ h=>h.elim) zl.o ah ?_);intro v3 w3 bL honly3)|fail);have uW:∀b,(Value.slice p1 p2 p3).ownBlock=some b→Iy w.heap.size w1.heap.size wo.heap.size b:=fun b hb=>A4.ownBlock' HK.o b hb;have bW:Below w.heap.size w w3:=bn.trans (honly3.below (by omega) (fun b hb=>by rcases(uW b hb).1 with h|h<;>omega));have bO:IR (fun b=>w.heap.size<b∧b<w1.heap.size) w1 w3:=fun b hb=>by
     rw[honly3.block b (by have:=hb.2;omega) (fun h=>by have:=hb.1;have:=hb.2;rcases(uW b h).1 with h|h<;>omega),b2.block b (by have:=hb.2;omega)];exact cR b hb
    have eB:w1.heap.size≤w3.heap.size:=by have:=honly3.size;omega
    have cV:=Z bL;clear bL;go_wp2;go_roundw
    case rel=>exact⟨k+1,by omega,by go_num,by rw[iz.o,aY.o,Hy.o];rfl,by rw[aJ.o];exact cV.o,bW,bO,eB⟩
    case measure=>simp[intOf];omega
  ·have xZ:(Ae s 44).all Ai=true:=by rw[←ky.o];have h:=aY.o;rwa[List.take_of_length_le (by omega)] at h
   have Hy:=Z (show BJ s=true from by rw[ms.o,xZ]);have rO:=Z (show AB s=Dv s from by rw[kR.o,xZ];rfl);have mt:=Z (A2I xZ);have oM:(Dv s).length≤2097152:=by unfold Dv;rw[List.length_map,←ky.o];omega
   have aF:=aB;rw[List.take_of_length_le (by omega),show ps.map Aq=Dv s from by rw[ky.o];rfl] at aF;obtain⟨p1,p2,p3,rfl⟩:=aB.shape;have Hg:=Z aF.ints;have aZ:=Z ((A3 A2).mono (S':=Iv w.heap.size wo.heap.size) (fun b hb=>⟨by rcases hb.1 with h|h<;>omega,hb.2⟩) aF);have dW:decide ((k:Int)<(ps.length:Int))=false:=by simp;omega
   clear aB aF xZ;go_wp2_with (fail);refine(C9 _ _ _ Hg.o oM).mono ?_;rintro e w2 ⟨rfl,b2⟩;rw[mt.o];have nh:=aA.trans (b2.mono aV);have iw:=Z ((A4.keep A2 aZ.o b2 (Nat.le_refl _)).grow A2 b2.size (Below.refl _ _));go_wp2;refine bodyPost_ret (v:=.tuple #[.slice p1 p2 p3,.bool true]) (by simp[results,Tryz.results145,go_sem]) rfl ⟨_,by rw[Hy.o],by rw[rO.o];exact iw.o,nh⟩
end Go.Proofs.YthmocomfjgmjoaaGreatDoor
namespace Go.Proofs.YthmocomfjgmjoaaGreatDoor
theorem Uj{b:UInt8}{x y s t:List UInt8}(hx:b∉x)(hy:b∉y)(hs:s=[]∨∃s',s=b::s')(ht:t=[]∨∃t',t=b::t')(h:x++s=y++t):x=y∧s=t:=by
 induction x generalizing y with
 |nil=>
  cases y with
  |nil=>exact⟨rfl,by simpa using h⟩
  |cons c y=>
   rcases hs with rfl|⟨s',rfl⟩
   ·simp at h
   ·simp at h;obtain⟨rfl,-⟩:=h;exact absurd (List.mem_cons_self ..) hy
 |cons c x ih=>
  cases y with
  |nil=>
   rcases ht with rfl|⟨t',rfl⟩
   ·simp at h
   ·simp at h;obtain⟨rfl,-⟩:=h;exact absurd (List.mem_cons_self ..) hx
  |cons d y=>
   simp at h;obtain⟨rfl,h⟩:=h;obtain⟨h1,h2⟩:=ih (fun hm=>hx (List.mem_cons_of_mem _ hm)) (fun hm=>hy (List.mem_cons_of_mem _ hm)) h;exact⟨by rw[h1],h2⟩
theorem My(b:UInt8)(r:List (List UInt8)):Lib.joinTail [b] r=[]∨∃s',Lib.joinTail [b] r=b::s':=by
 cases r with
 |nil=>exact .inl rfl
 |cons y r=>exact .inr ⟨y++Lib.joinTail [b] r,by simp[Lib.joinTail]⟩
theorem A3k(b:UInt8):∀(xs ys:List (List UInt8)),(∀x∈xs,b∉x)→(∀y∈ys,b∉y)→Lib.joinTail [b] xs=Lib.joinTail [b] ys→xs=ys:=by
 intro xs;induction xs with
 |nil=>
  intro ys _ _ h;cases ys with
  |nil=>rfl
  |cons y r=>simp[Lib.joinTail] at h
 |cons x r ih=>
  intro ys h1 h2 h;cases ys with
  |nil=>simp[Lib.joinTail] at h
  |cons y r'=>
   have e1:Lib.joinTail [b] (x::r)=b::(x++Lib.joinTail [b] r):=by simp[Lib.joinTail]
   have e2:Lib.joinTail [b] (y::r')=b::(y++Lib.joinTail [b] r'):=by simp[Lib.joinTail]
   rw[e1,e2] at h;injection h with _ h;obtain⟨h3,h4⟩:=Uj (h1 x (by simp)) (h2 y (by simp)) (My b r) (My b r') h;rw[h3,ih r' (fun z hz=>h1 z (by simp[hz])) (fun z hz=>h2 z (by simp[hz])) h4]
theorem Ua{b:UInt8}{xs ys:List ByteArray}(hx:xs≠[])(hy:ys≠[])(h1:∀p∈xs,b∉p.data.toList)(h2:∀p∈ys,b∉p.data.toList)(h:BK ⟨#[b]⟩ xs=BK ⟨#[b]⟩ ys):xs=ys:=by
 cases xs with
 |nil=>exact absurd rfl hx
 |cons x r=>
  cases ys with
  |nil=>exact absurd rfl hy
  |cons y r'=>
   have h3:=congrArg (fun z:ByteArray=>z.data.toList) h;unfold BK at h3;simp only[List.map_cons] at h3;rw[Lib.join_cons,Lib.join_cons] at h3;obtain⟨h4,h5⟩:=Uj (h1 x (by simp)) (h2 y (by simp)) (My b _) (My b _) h3;have h6:=A3k b _ _ (fun z hz=>by obtain⟨p,hp,rfl⟩:=List.mem_map.1 hz;exact h1 p (by simp[hp])) (fun z hz=>by obtain⟨p,hp,rfl⟩:=List.mem_map.1 hz;exact h2 p (by simp[hp])) h5;have h7:r=r':=by
    clear h h1 h2 h3 h4 h5 hx hy;induction r generalizing r' with
    |nil=>cases r' with
     |nil=>rfl
     |cons a l=>simp at h6
    |cons a l ih=>cases r' with
     |nil=>simp at h6
     |cons c l'=>
      simp only[List.map_cons,List.cons.injEq] at h6;have h8:=ih l' h6.2;rw[Dm h6.1,h8]
   rw[Dm h4,h7]
theorem S7{b:UInt8}{xs:List ByteArray}(hx:xs≠[])(h1:∀p∈xs,b∉p.data.toList):Ae (BK ⟨#[b]⟩ xs) b=xs:=by
 apply Ua (b:=b)
 ·intro e;have:=EJ (BK ⟨#[b]⟩ xs) b;rw[e] at this;simp at this
 ·exact hx
 ·exact fun p hp hm=>(Kv _ _ p hp b hm).1 rfl
 ·exact h1
 ·exact EI _ _
theorem VH(n:Int):(44:UInt8)∉(An n).data.toList:=by
 intro hm;have hm:(44:UInt8)∈Go.Lib.itoa n:=hm;have hd:=(Dz n.natAbs).2.1;rw[List.all_eq_true] at hd;rcases Int.lt_or_le n 0 with h|h
 ·rw[(Da n).1 h] at hm;rcases List.mem_cons.1 hm with h2|h2
  ·exact absurd h2 (by decide)
  ·exact absurd (hd _ h2) (by decide)
 ·rw[(Da n).2 h] at hm;exact absurd (hd _ hm) (by decide)
theorem P6{n:Int}(h:BV n):Ai (An n)=true∧Aq (An n)=n:=by
 have:=Mh (J4 (s:=An n) (n:=n) ⟨h.o,rfl⟩);exact⟨this.2,this.1⟩
theorem PT{l:List Int}(aO:l≠[])(h:Ea l):BJ (Aj l)=true∧AB (Aj l)=l:=by
 have ht:Aj l=BK ⟨#[44]⟩ (l.map An):=by unfold Aj H8;rw[if_neg aO]
 have aK:Ae (Aj l) 44=l.map An:=by
  rw[ht];refine S7 ?_ ?_
  ·intro e;exact aO (List.map_eq_nil_iff.1 e)
  ·intro p hp;obtain⟨n,-,rfl⟩:=List.mem_map.1 hp;exact VH n
 have aR:(Ae (Aj l) 44).all Ai=true:=by
  rw[aK,List.all_eq_true];intro p hp;obtain⟨n,hn,rfl⟩:=List.mem_map.1 hp;exact(P6 (h n hn)).1
 have gT:Aj l≠⟨#[45]⟩:=by
  intro e;rw[e] at aR;have h2:Ae (⟨#[45]⟩:ByteArray) 44=[⟨#[45]⟩]:=by
   rw[e] at aK;have h3:=EI (⟨#[45]⟩:ByteArray) 44;have h4:=DO (⟨#[45]⟩:ByteArray) 44;have h5:BK ⟨#[44]⟩ [(⟨#[45]⟩:ByteArray)]=⟨#[45]⟩:=In _ _;refine Ua (b:=44) ?_ (by simp) ?_ ?_ (h3.trans h5.symm)
   ·intro e2;have:=EJ (⟨#[45]⟩:ByteArray) 44;rw[e2] at this;simp at this
   ·exact fun p hp hm=>(Kv _ _ p hp 44 hm).1 rfl
   ·intro p hp;simp at hp;subst hp;decide
  rw[h2] at aR;simp at aR;unfold Ai at aR;rw[A0O] at aR;cases aR
 have hv:Dv (Aj l)=l:=by
  unfold Dv;rw[aK,List.map_map];have e:∀n∈l,(Aq∘An) n=id n:=fun n hn=>(P6 (h n hn)).2;exact(List.map_congr_left e).trans (List.map_id _)
 refine⟨by unfold BJ;rw[aR];simp,?_⟩;unfold AB;rw[if_neg gT,if_pos aR,hv]
