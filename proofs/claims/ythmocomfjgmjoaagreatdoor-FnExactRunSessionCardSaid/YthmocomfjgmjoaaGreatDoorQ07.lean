/- Base. -/
import Derived.Test.YthmocomfjgmjoaaGreatDoorQ05
set_option maxHeartbeats 1600000
set_option maxRecDepth 100000
namespace Go.Proofs.YthmocomfjgmjoaaGreatDoor
open Go.RowKit Go.Proofs.Tryz
variable {a b:Value}{hi k:Nat}{l:List UInt8}{lo:Nat}{n:Int}{p:ByteArray}{ps:List ByteArray}{s:ByteArray}{w w':World}{x y:I}
def Jl(lo hi:Nat)(w:World)(a b:Value)(x y:I):Prop:=
 ∃M,lo≤M∧M≤hi∧Ag 32 (Ag 3 Ap) (Iv lo M) w a x∧Ag 32 (Ag 3 Ap) (Iv M hi) w b y
theorem Jl.keep(h:Jl lo hi w a b x y)(hb:Below w.heap.size w w')(hh:hi≤w.heap.size):Jl lo hi w' a b x y:=by
 obtain⟨M,h1,h2,o1,o2⟩:=h;exact⟨M,h1,h2,Ag.keep (Ab A8) o1 hb J,Ag.keep (Ab A8) o2 hb hh⟩
theorem Jl.only{T:Bk}(h:Jl lo hi w a b x y)(ho:AO T w w')(hh:hi≤w.heap.size)(hd:∀b,lo≤b→b<hi→¬T b):Jl lo hi w' a b x y:=by
 obtain⟨M,h1,h2,o1,o2⟩:=h;exact⟨M,h1,h2,(Ab (Ab A8)).same (ho.same (T:=Iv lo M) (fun b hb=>hd b hb.1 (by have:=hb.2;omega)) (fun b hb=>by have:=hb.2;omega)) o1,
  (Ab (Ab A8)).same (ho.same (T:=Iv M hi) (fun b hb=>hd b (by have:=hb.1;omega) hb.2) (fun b hb=>by have:=hb.2;omega)) o2⟩
theorem Jl.shape(h:Jl lo hi w a b x y):(∃p q r,a=.slice p q r)∧(∃p q r,b=.slice p q r):=by
 obtain⟨M,h1,h2,o1,o2⟩:=h;exact⟨o1.shape,o2.shape⟩
theorem Jl.reads(h:Jl lo hi w a b x y):AI w a x∧AI w b y:=by
 obtain⟨M,h1,h2,o1,o2⟩:=h;exact⟨o1.qag,o2.qag⟩
theorem Jl.wide{lo' hi':Nat}(h:Jl lo hi w a b x y)(h1:lo'≤lo)(h2:hi≤hi'):Jl lo' hi' w a b x y:=by
 obtain⟨M,k1,k2,o1,o2⟩:=h;exact⟨M,J,J,(Ab (Ab A8)).mono (fun b hb=>⟨by have:=hb.1;omega,hb.2⟩) o1,(Ab (Ab A8)).mono (fun b hb=>⟨hb.1,by have:=hb.2;omega⟩) o2⟩
theorem Lb(a b:Value)(x y:I)(w:World)(h1:AI w a x)(h2:AI w b y)(fJ:∀r∈x,r.length≤1048576)(jT:∀r∈y,r.length≤1048576):
  Calls prog 176 #[.agg #[a,b]] w fun e w'=>e=.returned (.bool (Bv x y))∧w'=w.alloc (.cells #[a,b] 85):=by
 obtain⟨aa,ca,rfl,-⟩:=id h1;obtain⟨ab,cb,rfl,-⟩:=id h2;have hb:∀o,Below w.heap.size w (w.alloc o):=fun o=>Below.qab w o;have Hb:=Z hb;clear hb;cases hx:C1 1 5 x.length
 ·have Hf:=Z (show Bv x y=false from by unfold Bv;rw[hx];rfl);have Hx:=Z hx;clear hx;go_enter func176,ntmps176;go_wp2_with (first|(go_at_call 95;refine(Bi _ _ _ _).mono ?_;rintro e w' ⟨rfl,rfl⟩;rw[Hx.o]))
  go_ret
  exact⟨AW Hf.o.symm,rfl⟩
 have fq:=(Bz.1 hx).2;have Hx:=Z hx;clear hx;cases hy:C1 1 5 y.length
 ·have Hf:=Z (show Bv x y=false from by unfold Bv;rw[hy];simp);have Hy:=Z hy;clear hy;go_enter func176,ntmps176;go_wp2_with (first|(go_at_call 95;refine(Bi _ _ _ _).mono ?_;rintro e w' ⟨rfl,rfl⟩;(first|rw[Hx.o]|rw[Hy.o])))
  go_ret
  exact⟨AW Hf.o.symm,rfl⟩
 have fj:=(Bz.1 hy).2;have Hy:=Z hy;clear hy;go_enter func176,ntmps176;go_wp2_with fail;refine(Bi _ _ _ _).mono ?_;rintro e w' ⟨rfl,rfl⟩;rw[Hx.o];go_wp2_with fail;refine(Bi _ _ _ _).mono ?_;rintro e w' ⟨rfl,rfl⟩;rw[Hy.o];go_wp2_with fail;refine(Uk _ _ _ _ (h1.keep (Hb.o _)) J fJ).mono ?_;rintro e w' ⟨rfl,rfl⟩;cases hf:x.all (Gt y.length)
 ·have Hf:=Z (show Bv x y=false from by unfold Bv;rw[hf];simp);go_wp2
  go_ret
  exact⟨AW Hf.o.symm,rfl⟩
 have Hf:=Z hf;clear hf;go_wp2_with fail;refine(Uk _ _ _ _ (h2.keep (Hb.o _)) J jT).mono ?_;rintro e w' ⟨rfl,rfl⟩;have Hg:=Z (show Bv x y=y.all (Gt x.length)from by unfold Bv;rw[Hx.o,Hy.o,Hf.o];rfl);go_wp2
 go_ret
 exact⟨AW Hg.o.symm,rfl⟩
theorem Lm(a b:Value)(x y:I)(w:World)(h1:AI w a x)(h2:AI w b y):
  Calls prog 267 #[.agg #[a,b]] w fun e w'=>e=.returned (.bool (Bv x y))∧w'=w.alloc (.cells #[a,b] 85):=by
 obtain⟨aa,ca,rfl,-⟩:=id h1;obtain⟨ab,cb,rfl,-⟩:=id h2;have hb:∀o,Below w.heap.size w (w.alloc o):=fun o=>Below.qab w o;have Hb:=Z hb;clear hb;cases hs:(C1 1 5 x.length&&C1 1 5 y.length)
 ·have Hf:=Z (show Bv x y=false from by unfold Bv;rw[hs];rfl);have Hs:=Z hs;clear hs;go_enter func267,ntmps267;go_wp2_with fail;refine(IJ _ _ _).mono ?_;rintro e w' ⟨rfl,rfl⟩;rw[Hs.o];go_wp2
  go_ret
  exact⟨AW Hf.o.symm,rfl⟩
 have dY:=hs;rw[Af,Bz,Bz]at dY;obtain⟨⟨bj,jU⟩,⟨dU,kq⟩⟩:=dY;have Hs:=Z hs;clear hs;have uS:1≤x.length:=J;have uT:x.length≤5:=J;have uU:1≤y.length:=J;have uV:y.length≤5:=J;go_enter func267,ntmps267;go_wp2_with fail;refine(IJ _ _ _).mono ?_;rintro e w' ⟨rfl,rfl⟩;rw[Hs.o];have K1:=h1.keep (Hb.o (.cells #[.slice aa x.length ca,.slice ab y.length cb] 85));have K2:=h2.keep (Hb.o (.cells #[.slice aa x.length ca,.slice ab y.length cb] 85));have k0:=(B9.new w #[.slice aa x.length ca,.slice ab y.length cb] 85).cell 0;have k1:=(B9.new w #[.slice aa x.length ca,.slice ab y.length cb] 85).cell 1;obtain⟨W,hW⟩:∃W,W=w.alloc (.cells #[.slice aa x.length ca,.slice ab y.length cb] 85):=⟨_,rfl⟩;rw[←hW]at K1 K2 k0 k1⊢;have k0:W.cell? ⟨w.heap.size,0,none⟩=some (.slice aa x.length ca):=k0;have k1:W.cell? ⟨w.heap.size,1,none⟩=some (.slice ab y.length cb):=k1;have HW:=Z hW;clear hW;have K1:=Z K1;have K2:=Z K2;go_wp2;go_loop [4,18] (fun _ i=>∃k:Nat,k≤x.length∧i=.int .i64 k∧(x.take k).all (Gt y.length)=true) (fun _ i=>x.length-(intOf i).toNat);exact⟨0,A7 _,rfl,rfl⟩;obtain⟨k,hk,rfl,aQ⟩:=hrel;have aT:=Z aQ;clear aQ;by_cases aF:k<x.length
 ·obtain⟨r,hr⟩:∃r,x[k]? =some r:=⟨_,A3 aF⟩;obtain⟨bl,off,cpr,he,eU,-⟩:=K1.o.qac J;obtain⟨rfl,-⟩:aa=some ⟨bl,off,none⟩∧ca=cpr:=by simpa using he
  obtain⟨u,aW,hu⟩:=Sl.at K1.o hr;have hu:Au W u r:=hu;obtain⟨ar,cpr,rfl,-⟩:=id hu;have i7:=Z (BX (Gt y.length) hr);have Hr:=Z hr;have Hu:=Z hu;clear hr he hu;cases hf:Gt y.length r
  ·have Hf:=Z (show Bv x y=false from by unfold Bv;rw[BM _ Hr.o hf];simp);have oL:=Z hf;clear hf;go_wp2_with (first|(go_at_call 298;refine(MO _ _ _ _ Hu.o uU uV).mono ?_;rintro e w' ⟨rfl,rfl⟩;rw[oL.o]))
   go_ret
   exact⟨AW Hf.o.symm,HW.o⟩
  ·have oL:=Z hf;clear hf;go_wp2_with (first|(go_at_call 298;refine(MO _ _ _ _ Hu.o uU uV).mono ?_;rintro e w' ⟨rfl,rfl⟩;rw[oL.o]))
   go_round
   exact⟨k+1,J,by go_num,by rw[i7.o,aT.o,oL.o];rfl⟩;exact Jv
 ·have pW:x.all (Gt y.length)=true:=DR aT.o J;have uW:=Z pW;clear pW;have dM:decide ((k:Int)<(x.length:Int))=false:=by simp;omega
  go_wp2;go_loop [6,32] (fun _ i=>∃j:Nat,j≤y.length∧i=.int .i64 j∧(y.take j).all (Gt x.length)=true) (fun _ i=>y.length-(intOf i).toNat);exact⟨0,A7 _,rfl,rfl⟩;obtain⟨j,hj,rfl,hall2⟩:=hrel;have eV:=Z hall2;clear hall2;by_cases hltj:j<y.length
  ·obtain⟨r,hr⟩:∃r,y[j]? =some r:=⟨_,A3 hltj⟩;obtain⟨bl,off,cpr,he,eU,-⟩:=K2.o.qac J;obtain⟨rfl,-⟩:ab=some ⟨bl,off,none⟩∧cb=cpr:=by simpa using he
   obtain⟨u,aW,hu⟩:=Sl.at K2.o hr;have hu:Au W u r:=hu;obtain⟨ar,cpr,rfl,-⟩:=id hu;have i7:=Z (BX (Gt x.length) hr);have Hr:=Z hr;have Hu:=Z hu;clear hr he hu;cases hf:Gt x.length r
   ·have Hf:=Z (show Bv x y=false from by unfold Bv;rw[BM _ Hr.o hf];simp);have oL:=Z hf;clear hf;go_wp2_with (first|(go_at_call 298;refine(MO _ _ _ _ Hu.o uS uT).mono ?_;rintro e w' ⟨rfl,rfl⟩;rw[oL.o]))
    go_ret
    exact⟨AW Hf.o.symm,HW.o⟩
   ·have oL:=Z hf;clear hf;go_wp2_with (first|(go_at_call 298;refine(MO _ _ _ _ Hu.o uS uT).mono ?_;rintro e w' ⟨rfl,rfl⟩;rw[oL.o]))
    go_round
    exact⟨j+1,J,by go_num,by rw[i7.o,eV.o,oL.o];rfl⟩;exact Jv
  ·have Hf:=Z (show Bv x y=true from by unfold Bv;rw[Hs.o,uW.o,DR eV.o J];rfl);go_wp2
   go_ret
   exact⟨AW Hf.o.symm,HW.o⟩
theorem ZR{l:List Nat}{m:Nat}(h:∀x∈l,x≤m):l.sum≤l.length*m:=by
 induction l with
 |nil=>simp
 |cons a l ih=>
  have h1:=h a Jj;have h2:=ih (fun x hx=>h x (by simp[hx]));simp only[List.sum_cons,An,Nat.succ_mul];omega
theorem LT{α β:Type}(f:α→β){m:List α}{x:α}(h:m[k]? =some x):(m.take (k+1)).map f=(m.take k).map f++[f x]:=by
 rw[Ao,h];simp
theorem Q2(v:Value)(m:I)(w:World)(hv:AI w v m)(hm:m.length≤1048576)(hr:∀x∈m,x.length≤1048576):Calls prog 116 #[v] w (N7 32 (Ag 3 Ap) w (m.map C3)):=by
 have Hv:=Z hv;obtain⟨a,cap0,rfl,-⟩:=hv;go_enter func116,ntmps116;go_wp2;go_loopw [3,5,8] (fun v _ i wr=>∃k:Nat,k≤m.length∧i=.int .i64 k∧Ag 32 (Ag 3 Ap) (Iv w.heap.size wr.heap.size) wr v ((m.take k).map C3)∧Below w.heap.size w wr) (fun _ _ i _=>m.length-(intOf i).toNat);exact⟨0,A7 _,rfl,Ag.nil _ _ _ _,A6 _ _⟩;obtain⟨k,hk,rfl,aB,aA⟩:=hrel;obtain⟨wo,rfl⟩:∃wo:World,wo=wr:=⟨_,rfl⟩;have bD:=aA.size;by_cases aF:k<m.length
 ·obtain⟨row,aD⟩:∃row,m[k]? =some row:=⟨_,A3 aF⟩;obtain⟨b,off,cpr,he,hb,-⟩:=Hv.o.qac J;obtain⟨rfl,-⟩:a=some ⟨b,off,none⟩∧cap0=cpr:=by simpa using he
  obtain⟨u,aW,hu⟩:=Sl.at Hv.o aD;have hu:Au w u row:=hu;obtain⟨br,cpr,rfl,-⟩:=id hu;rw[←aA.cell (p:=⟨b,off+k,none⟩) hb]at aW;have aj:=hr row (A4 aD);have aG:=Z (LT C3 aD);have Hu:=Z (hu.keep aA);have au:((m.take k).map C3).length<1099511627776:=by simp;omega
  have aC:=Z aB;clear aD hu aB he;go_wp2_with fail;refine(WG _ _ _ Hu.o aj).mono ?_;rintro e w1 ⟨v1,rfl,aw,hbel1⟩;have cQ:wo.heap.size≤w1.heap.size:=hbel1.size;obtain⟨p1,p2,p3,rfl⟩:=aw.shape;go_wp2_with (first|(at_builtin;(refine AH rfl _ _ 31 rfl (Ab A8) 32 underlying31 EI rfl Jq w.heap.size wo.heap.size bD cQ rfl rfl (by exact Ag.keep (Ab A8) aC.o hbel1 (A2 _)) (by exact aw) au ?_);intro v2 w2 hown2 hbel2 _)|fail);have af:=(aA.trans (hbel1.mono bD)).trans hbel2;have aX:=Z hown2;clear hown2;go_wp2;go_roundw;exact⟨k+1,J,by go_num,by rw[aG.o];exact aX.o,af⟩;exact Jv
 ·have aU:=Z (show(m.take k).map C3=m.map C3 from by rw[A9 J]);have aC:=Z aB;clear aB;go_wp2
  go_ret
  exact⟨_,rfl,by rw[←aU.o];exact aC.o,aA⟩
theorem UI(v:Value)(m:I)(w:World)(hv:AI w v m)(hm:m.length≤1048576)(hr:∀x∈m,x.length≤1048576):Calls prog 197 #[v] w (N7 32 (Ag 3 Ap) w (m.map C3)):=by
 have Hv:=Z hv;obtain⟨a,cap0,rfl,-⟩:=hv;go_enter func197,ntmps197;go_wp2;go_loopw [3,5,9] (fun v _ i wr=>∃k:Nat,k≤m.length∧i=.int .i64 k∧Ag 32 (Ag 3 Ap) (Iv w.heap.size wr.heap.size) wr v ((m.take k).map C3)∧Below w.heap.size w wr) (fun _ _ i _=>m.length-(intOf i).toNat);exact⟨0,A7 _,rfl,BK _ _ _ (Ab A8),Below.qab _ _⟩;obtain⟨k,hk,rfl,aB,aA⟩:=hrel;obtain⟨wo,rfl⟩:∃wo:World,wo=wr:=⟨_,rfl⟩;have bD:=aA.size;by_cases aF:k<m.length
 ·obtain⟨row,aD⟩:∃row,m[k]? =some row:=⟨_,A3 aF⟩;obtain⟨b,off,cpr,he,hb,-⟩:=Hv.o.qac J;obtain⟨rfl,-⟩:a=some ⟨b,off,none⟩∧cap0=cpr:=by simpa using he
  obtain⟨u,aW,hu⟩:=Sl.at Hv.o aD;have hu:Au w u row:=hu;obtain⟨br,cpr,rfl,-⟩:=id hu;rw[←aA.cell (p:=⟨b,off+k,none⟩) hb]at aW;have aj:=hr row (A4 aD);have aG:=Z (LT C3 aD);have Hu:=Z (hu.keep aA);have au:((m.take k).map C3).length<1099511627776:=by simp;omega
  have aC:=Z aB;clear aD hu aB he;go_wp2_with fail;refine(WO _ _ _ Hu.o aj).mono ?_;rintro e w1 ⟨v1,rfl,aw,hbel1⟩;have cQ:wo.heap.size≤w1.heap.size:=hbel1.size;obtain⟨p1,p2,p3,rfl⟩:=aw.shape;go_wp2_with (first|(at_builtin;(refine AH rfl _ _ 31 rfl (Ab A8) 32 underlying31 EI rfl Jq w.heap.size wo.heap.size bD cQ rfl rfl (by exact Ag.keep (Ab A8) aC.o hbel1 (A2 _)) (by exact aw) au ?_);intro v2 w2 hown2 hbel2 _)|fail);have af:=(aA.trans (hbel1.mono bD)).trans hbel2;have aX:=Z hown2;clear hown2;go_wp2;go_roundw;exact⟨k+1,J,by go_num,by rw[aG.o];exact aX.o,af⟩;exact Jv
 ·have aU:=Z (show(m.take k).map C3=m.map C3 from by rw[A9 J]);have aC:=Z aB;clear aB;go_wp2
  go_ret
  exact⟨_,rfl,by rw[←aU.o];exact aC.o,aA⟩
def Fo(m:I):I:=if AC m then m.map C3 else[]
def DV(m:I):I:=if AC m then(tr m).map C3 else[]
theorem Qi{m:I}(h:AC m=true):(m.map C3).length≤5∧cells (m.map C3)≤25:=by
 obtain⟨r,c,h1,h2,h3,h4,hs⟩:=Az h;refine⟨by simp[hs.1,h2],?_⟩;unfold cells;have h5:∀x∈((m.map C3).map List.length),x≤5:=by
  intro x hx;simp only[List.map_map,AE,Function.comp]at hx;obtain⟨r',hr,rfl⟩:=hx;have:=O0 r';have:=(hs.2 r' hr).1;omega
 have:=ZR h5;simp only[Ay,hs.1]at this;omega
theorem A4I(m:I):(Fo m).length≤5∧cells (Fo m)≤25∧(DV m).length≤5∧cells (DV m)≤25:=by
 unfold Fo DV;cases h:AC m
 ·simp[cells]
 ·have h1:=Qi h;have h2:=Qi (YG h);exact⟨h1.1,h1.2,h2.1,h2.2⟩
def A4Y(w:World)(x y:I)(ok:Bool)(e:Ending)(w':World):Prop:=
 ∃a b,e=.returned (.tuple #[.agg #[a,b],.bool ok])∧Jl w.heap.size w'.heap.size w' a b x y∧Below w.heap.size w w'
theorem KS(F0:Nat)(eS:F0=54∨F0=136)(v:Value)(m:I)(w:World)(hv:AI w v m):Calls prog F0 #[v] w (A4Y w (Fo m) (DV m) (AC m)):=by
 rcases eS with rfl|rfl
 all_goals
  obtain⟨a,cap0,rfl,-⟩:=id hv;have b1:=Below.qab w (.cells #[.slice none 0 0,.slice none 0 0] 85);have B1:=B9.new w #[.slice none 0 0,.slice none 0 0] 85;have Hv:=Z (hv.keep b1);clear hv;cases hok:AC m
  ·have Hr:=Z (show Fo m=[]from by simp[Fo,hok]);have Hc:=Z (show DV m=[]from by simp[DV,hok]);have aR:=Z hok;clear hok B1
   first|go_enter func54,ntmps54|go_enter func136,ntmps136
   go_wp2_with fail
   first|(go_at_call 84;refine(B8 _ _ _ Hv.o).mono ?_)|(refine(Bh _ _ _ Hv.o).mono ?_)
   rintro e w' ⟨rfl,rfl⟩;rw[aR.o];go_wp2;have z1:(w.alloc (.cells #[.slice none 0 0,.slice none 0 0] 85)).heap.size=w.heap.size+1:=Jj;refine Jz #[.agg #[.slice none 0 0,.slice none 0 0],.bool false] (by simp[results,results54,results136,go_sem]) ⟨_,_,rfl,⟨w.heap.size,A2 _,by rw[z1];omega,by rw[Hr.o];exact Ag.nil _ _ _ _,by rw[Hc.o];exact Ag.nil _ _ _ _⟩,b1⟩
  ·have Hr:=Z (show Fo m=m.map C3 from by simp[Fo,hok]);have Hc:=Z (show DV m=(tr m).map C3 from by simp[DV,hok]);have Ht:=Z (show Mq m=tr m from by simp[Mq,hok]);obtain⟨r,c,hr1,hr5,hc1,hc5,an⟩:=Az hok;have bF:m.length≤1048576:=by have:=an.1;omega
   have ln:∀x∈m,x.length≤1048576:=fun x hx=>by have:=(an.2 x hx).1;omega
   have bB:=an.tr hr1;have qy:(tr m).length≤1048576:=by have:=bB.1;omega
   have htr:∀x∈tr m,x.length≤1048576:=fun x hx=>by have:=(bB.2 x hx).1;omega
   have pX:=Z ln;have Htr:=Z htr;have aR:=Z hok;clear hok ln htr bB an
   first|go_enter func54,ntmps54|go_enter func136,ntmps136
   go_wp2_with fail
   first|(go_at_call 84;refine(B8 _ _ _ Hv.o).mono ?_)|(refine(Bh _ _ _ Hv.o).mono ?_)
   rintro e w' ⟨rfl,rfl⟩;rw[aR.o];obtain⟨W1,hW1⟩:∃W,W=w.alloc (.cells #[.slice none 0 0,.slice none 0 0] 85):=⟨_,rfl⟩;have z1:W1.heap.size=w.heap.size+1:=by rw[hW1];simp
   rw[←hW1]at Hv B1 b1⊢;have Z1:=Z z1;clear hW1 z1;go_wp2_with fail
   first|(go_at_call 116;refine(Q2 _ _ _ Hv.o bF pX.o).mono ?_)|(refine(UI _ _ _ Hv.o bF pX.o).mono ?_)
   rintro e w2 ⟨v2,rfl,o2,b2⟩;have s2:W1.heap.size≤w2.heap.size:=b2.size;obtain⟨p1,p2,p3,rfl⟩:=o2.shape;have cI:=b1.qaa b2 (A2 _);replace B1:=B1.keep b2;go_wp2_with fail;refine(Fu _ Jq _ _ _ (Hv.o.keep b2)).mono ?_;rintro e w3 ⟨v3,rfl,o3,b3⟩;have s3:w2.heap.size≤w3.heap.size:=b3.size;have di:=cI.qaa b3 (A2 _);replace B1:=B1.keep b3;replace o2:=Ag.keep (Ab A8) o2 b3 (A2 _);rw[Ht.o]at o3;go_wp2_with fail
   first|(go_at_call 116;refine(Q2 _ _ _ o3.qag qy Htr.o).mono ?_)|(refine(UI _ _ _ o3.qag qy Htr.o).mono ?_)
   rintro e w4 ⟨v4,rfl,o4,b4⟩;have s4:w3.heap.size≤w4.heap.size:=b4.size;obtain⟨q1,q2,q3,rfl⟩:=o4.shape;have eu:=di.qaa b4 (A2 _);replace B1:=B1.keep b4;replace o2:=Ag.keep (Ab A8) o2 b4 J;have c0:w4.cell? ⟨w.heap.size,0,none⟩=some (.slice none 0 0):=B1.cell 0;have c1:w4.cell? ⟨w.heap.size,1,none⟩=some (.slice none 0 0):=B1.cell 1;have f0:=B1.frozen 0;have f1:=B1.frozen 1;clear o3;go_wp2;obtain⟨W5,hW5⟩:∃W,W=(w4.setCell ⟨w.heap.size,0,none⟩ (.slice p1 p2 p3)).setCell ⟨w.heap.size,1,none⟩ (.slice q1 q2 q3):=⟨_,rfl⟩;have B5:=(B1.set (j:=0) (.slice p1 p2 p3)).set (j:=1) (.slice q1 q2 q3);have fD:Below w.heap.size w W5:=by rw[hW5];exact(eu.setCell Jj _).setCell Jj _
   have cO:∀b,W1.heap.size≤b→W5.heap[b]? =w4.heap[b]? :=by
    intro b hb;rw[Z1.o]at hb;rw[hW5,Below.heap_setCell _ _ _ b (by simp;omega),Below.heap_setCell _ _ _ b (by simp;omega)]
   have z5:W5.heap.size=w4.heap.size:=by rw[hW5,As,As]
   rw[←hW5]at B5⊢;clear hW5;replace o2:=(Ab (Ab A8)).same (w':=W5) (fun b hb=>cO b hb.1) o2;replace o4:=(Ab (Ab A8)).same (w':=W5) (fun b hb=>cO b (by have:=hb.1;omega)) o4;have d0:W5.cell? ⟨w.heap.size,0,none⟩=some (.slice p1 p2 p3):=B5.cell 0;have d1:W5.cell? ⟨w.heap.size,1,none⟩=some (.slice q1 q2 q3):=B5.cell 1;have bL:=Z1.o;refine Jz #[.agg #[.slice p1 p2 p3,.slice q1 q2 q3],.bool true] (by simp[results,results54,results136,go_sem,d0,d1]) ⟨_,_,rfl,⟨w3.heap.size,J,J,?_,?_⟩,fD⟩
   ·rw[Hr.o];exact(Ab (Ab A8)).mono (fun b hb=>⟨by have:=hb.1;omega,by have:=hb.2;omega⟩) o2
   ·rw[Hc.o];exact(Ab (Ab A8)).mono (fun b hb=>⟨hb.1,by have:=hb.2;omega⟩) o4
def GD(x y z u:Int):ByteArray:=J8 ⟨#[58]⟩ [x,y,z,u]
theorem Y9(w:World)(x y z u:Int)(hx:Cc x)(hy:Cc y)(hz:Cc z)(hu:Cc u)(E:TypeId):
  Au (w.alloc (.cells #[.int .i64 x,.int .i64 y,.int .i64 z,.int .i64 u] E)) (.slice (some ⟨w.heap.size,0,none⟩) 4 4) [x,y,z,u]:=by
 refine⟨some ⟨w.heap.size,0,none⟩,4,rfl,Jj,Jj,fun h=>by simp at h,fun _=>⟨w.heap.size,0,rfl,Jj,fun k v hk=>?_⟩⟩
 match k,hk with
 |0,hk=>simp at hk;subst hk;exact⟨_,Jj,rfl,hx⟩
 |1,hk=>simp at hk;subst hk;exact⟨_,Jj,rfl,hy⟩
 |2,hk=>simp at hk;subst hk;exact⟨_,Jj,rfl,hz⟩
 |3,hk=>simp at hk;subst hk;exact⟨_,Jj,rfl,hu⟩
theorem RR(x y z u:Int)(hx:Cc x)(hy:Cc y)(hz:Cc z)(hu:Cc u)(w:World)(ht:Tab w):Calls prog 97 #[.agg #[.int .i64 x,.int .i64 y,.int .i64 z,.int .i64 u]] w fun e w'=>e=.returned (.string (GD x y z u))∧Below w.heap.size w w':=by
 have b1:=Below.qab w (.cells #[.int .i64 x,.int .i64 y,.int .i64 z,.int .i64 u] 65);have o:=Y9 (w.alloc (.cells #[.int .i64 x,.int .i64 y,.int .i64 z,.int .i64 u] 65)) x y z u hx hy hz hu 3;rw[show(w.alloc (.cells #[.int .i64 x,.int .i64 y,.int .i64 z,.int .i64 u] 65)).heap.size=w.heap.size+1 from by simp]at o;have b2:=b1.qaa (Below.qab _ (.cells #[.int .i64 x,.int .i64 y,.int .i64 z,.int .i64 u] 3)) (A2 _);have T:=ht.keep b2;have H64:EM [x,y,z,u]:=by intro n hn;simp at hn;rcases hn with rfl|rfl|rfl|rfl<;>assumption
 have kY:DC ⟨#[58]⟩ ([x,y,z,u].map AQ)≤1099511627776:=by have:=MJ (sep:=⟨#[58]⟩) Jq H64;simp only[An,List.length_nil]at this;omega
 have iS:=Z kY;have Ho:=Z o;have HT:=Z T;clear o T kY H64;go_enter func97,ntmps97;go_wp2_with fail;refine(A0r _ _ _ Ho.o Jj HT.o).mono ?_;rintro e w1 ⟨v1,rfl,o1,b3⟩;have aG:=Z (Vm o1);have bb:=b2.qaa b3 (A2 _);go_wp2_with fail;refine(Sp _ _ _ _ aG.o iS.o Jj).mono ?_;rintro e w2 ⟨rfl,b4⟩;have cI:=bb.qaa b4 (A2 _);go_wp2
 go_ret
 exact⟨rfl,cI⟩
theorem RJ(x y z u:Int)(hx:Cc x)(hy:Cc y)(hz:Cc z)(hu:Cc u)(w:World):Calls prog 203 #[.agg #[.int .i64 x,.int .i64 y,.int .i64 z,.int .i64 u]] w fun e w'=>e=.returned (.string (GD x y z u))∧Below w.heap.size w w':=by
 have b1:=Below.qab w (.cells #[.int .i64 x,.int .i64 y,.int .i64 z,.int .i64 u] 65);have o:=Y9 (w.alloc (.cells #[.int .i64 x,.int .i64 y,.int .i64 z,.int .i64 u] 65)) x y z u hx hy hz hu 3;rw[show(w.alloc (.cells #[.int .i64 x,.int .i64 y,.int .i64 z,.int .i64 u] 65)).heap.size=w.heap.size+1 from by simp]at o;have b2:=b1.qaa (Below.qab _ (.cells #[.int .i64 x,.int .i64 y,.int .i64 z,.int .i64 u] 3)) (A2 _);have Ho:=Z o;clear o;go_enter func203,ntmps203;go_wp2_with fail;refine(UQ _ _ _ _ Ho.o Jj Jq).mono ?_;rintro e w1 ⟨rfl,b3⟩;have bb:=b2.qaa b3 (A2 _);go_wp2
 go_ret
 exact⟨rfl,bb⟩
def AZ(s:ByteArray):I:=(AM s 47).map Ia
def BT(s:ByteArray):Bool:=(AM s 47).all GV&&AC (AZ s)
def Ch(s:ByteArray):I:=if BT s then AZ s else[]
def Ee(w:World)(s:ByteArray)(e:Ending)(w':World):Prop:=
 ∃v',e=.returned (.tuple #[v',.bool (BT s)])∧Ag 32 (Ag 3 Ap) (Iv w.heap.size w'.heap.size) w' v' (Ch s)∧Below w.heap.size w w'
theorem Pv(s:ByteArray):BT s=(AC (AZ s)&&decide (AD (AZ s)=s)):=by
 unfold BT AD;cases h:AC (AZ s)
 ·simp
 ·simp only[if_true,Bool.and_true,Bool.true_and];have:=Xf s;unfold AZ;cases h2:(AM s 47).all GV
  ·rw[h2]at this;simp at this;simp[this]
  ·rw[h2]at this;simp at this;simp[this]
theorem UH{b:UInt8}(h:s.data.toList[k]? =some b):(Ia s).take (k+1)=(Ia s).take k++[QD b]:=by
 unfold Ia;rw[Ao,Ak,h];rfl
theorem A1m{b:UInt8}(h:s.data.toList[k]? =some b)(h1:b≠35)(h2:b≠46):GV s=false:=by
 unfold GV;rw[List.all_eq_false];exact⟨b,A4 h,by simp[h1,h2]⟩
theorem SM{b:UInt8}(h:s.data.toList[k]? =some b)(h1:b=35∨b=46)(hp:(s.data.toList.take k).all (fun b=>b==35||b==46)=true):(s.data.toList.take (k+1)).all (fun b=>b==35||b==46)=true:=by
 rw[Ao,h,List.all_append,hp];rcases h1 with rfl|rfl<;>rfl
theorem Nr(h:ps[k]? =some p):(ps.take (k+1)).map Ia=(ps.take k).map Ia++[Ia p]:=by
 rw[Ao,h];simp
theorem WZ{a b:UInt8}(h:a=b):((a.toNat:Int)==(b.toNat:Int))=true:=by rw[h];simp
theorem XH{a b:UInt8}(h:a≠b):((a.toNat:Int)==(b.toNat:Int))=false:=by
 rw[Ai];intro e;exact h (UInt8.toNat_inj.1 J)
theorem TX{a b:ByteArray}(h:a.toList=b.toList):a=b:=DX (by rw[ByteArray.toList_eq,ByteArray.toList_eq]at h;exact h)
theorem A4j{a b:ByteArray}(h:a≠b):(a.toList==b.toList)=false:=by rw[Ai];exact fun e=>h (TX e)
theorem UX(q:ByteArray):(Ia q).take q.size=Ia q:=A9 (by rw[Dk];exact Nat.le_of_eq (Ay _))
def IV(lo mid hi:Nat):Bk:=fun b=>(b=lo∨mid≤b)∧b<hi
def A1x(w:World)(s:ByteArray)(e:Ending)(w':World):Prop:=Ee w s e w'∧(BT s=false→e=.returned (.tuple #[.slice none 0 0,.bool false]))
theorem D9(s:ByteArray)(w:World)(hs:s.size≤1048576):Calls prog 32 #[.string s] w (A1x w s):=by
 go_enter func32,ntmps32;go_wp2_with fail;refine(Do _ _ _ hs).mono ?_;rintro e w1 ⟨v1,rfl,own1,bel1⟩;have fd:=EY s 47;have aM:=CZ s 47;obtain⟨ps,hpe⟩:∃ps,ps=AM s 47:=⟨_,rfl⟩;have kh:=Z hpe;rw[←hpe]at own1 fd aM;have bB:CX w1 v1 ps:=(Cd CK).rd (own1.sl (fun _ _ _ _ h=>h) CK);have Hv:=Z bB;have fI:=bel1.size;have bX:=Z aM;obtain⟨a,cap0,rfl,-⟩:=bB;clear hpe own1 aM;go_wp2;go_loopw [4,6,7,8,12] (fun v _ _ _ i wr=>∃k:Nat,k≤ps.length∧i=.int .i64 k∧(ps.take k).all GV=true∧Ag 32 (Ag 3 Ap) (Iv w1.heap.size wr.heap.size) wr v ((ps.take k).map Ia)∧Below w1.heap.size w1 wr) (fun _ _ _ _ i _=>ps.length-(intOf i).toNat);exact⟨0,A7 _,rfl,rfl,Ag.nil _ _ _ _,A6 _ _⟩;obtain⟨k,hk,rfl,aQ,aB,hbel1⟩:=hrel;obtain⟨wo,rfl⟩:∃wo:World,wo=wr:=⟨_,rfl⟩;have aA:=bel1.trans (hbel1.mono fI);have bD:=hbel1.size;have zx:=aA.size;have aT:=Z aQ;clear aQ;by_cases aF:k<ps.length
 ·obtain⟨q,hq⟩:∃q,ps[k]? =some q:=⟨_,A3 aF⟩;obtain⟨b,off,cpr,he,hb,-⟩:=Hv.o.qac J;obtain⟨rfl,-⟩:a=some ⟨b,off,none⟩∧cap0=cpr:=by simpa using he
  obtain⟨u,aW,rfl,-⟩:=Sl.at Hv.o hq;rw[←hbel1.cell (p:=⟨b,off+k,none⟩) hb]at aW;have gT:q.size≤1048576:=by have:=bX.o q (A4 hq);omega
  have aG:=Z (Nr hq);have i7:=Z (BX GV hq);have Hq:=Z hq;have au:((ps.take k).map Ia).length<1099511627776:=by simp;omega
  have dM:decide ((k:Int)<(ps.length:Int))=true:=by simp;omega
  obtain⟨p1,p2,p3,rfl⟩:=aB.shape;have aC:=Z aB;clear hq aB he;go_wp2;clear aW;go_loopw [7,8] (fun v i wr=>∃j:Nat,j≤q.size∧i=.int .i64 j∧(q.data.toList.take j).all (fun b=>b==35||b==46)=true∧Ag 3 Ap (Iv wo.heap.size wr.heap.size) wr v ((Ia q).take j)∧Below wo.heap.size wo wr) (fun _ i _=>q.size-(intOf i).toNat);exact⟨0,A7 _,rfl,rfl,Ag.nil _ _ _ _,A6 _ _⟩;obtain⟨j,hj,rfl,q9,bC,hbel3⟩:=hrel;obtain⟨wi,rfl⟩:∃wi:World,wi=wr:=⟨_,rfl⟩;have jw:=hbel3.size;have zy:=Z q9;clear q9;obtain⟨r1,r2,r3,rfl⟩:=bC.shape;have cG:=Z bC;have gY:((Ia q).take j).length<1099511627776:=by rw[At];omega
  clear bC;by_cases hltj:j<q.size
  ·have bA:=Lz hltj;have Hr:=Z (UH bA);have ex:=Z bA;clear bA;by_cases ee:q[j]=35
   ·have de:=Z (show QD q[j]=1 from by rw[ee];rfl);have zz:=Z (SM ex.o (.inl ee) zy.o);have cu:((q[j].toNat:Int)==35)=true:=WZ ee;clear ee;go_wp2_with (first|(at_builtin;(refine AH rfl _ _ 32 rfl A8 3 underlying32 Bg rfl Jq wo.heap.size wi.heap.size jw (A2 _) rfl rfl (by exact cG.o) (by exact⟨rfl,Cc.small Jq Jq⟩) gY ?_);intro v4 w4 hown4 hbel4 _)|fail);have gA:=hbel3.trans hbel4;have ce:=Z hown4;clear hown4;go_wp2;go_roundw;exact⟨j+1,J,by go_num,zz.o,by rw[Hr.o,de.o];exact ce.o,gA⟩;exact Jv
   ·by_cases h46:q[j]=46
    ·have de:=Z (show QD q[j]=0 from by rw[h46];rfl);have zz:=Z (SM ex.o (.inr h46) zy.o);have cu:((q[j].toNat:Int)==35)=false:=XH ee;have heq2:((q[j].toNat:Int)==46)=true:=WZ h46;clear h46 ee;go_wp2_with (first|(at_builtin;(refine AH rfl _ _ 32 rfl A8 3 underlying32 Bg rfl Jq wo.heap.size wi.heap.size jw (A2 _) rfl rfl (by exact cG.o) (by exact⟨rfl,Cc.small Jq Jq⟩) gY ?_);intro v4 w4 hown4 hbel4 _)|fail);have gA:=hbel3.trans hbel4;have ce:=Z hown4;clear hown4;go_wp2;go_roundw;exact⟨j+1,J,by go_num,zz.o,by rw[Hr.o,de.o];exact ce.o,gA⟩;exact Jv
    ·have cu:((q[j].toNat:Int)==35)=false:=XH ee;have heq2:((q[j].toNat:Int)==46)=false:=XH h46;have hbad:(AM s 47).all GV=false:=by rw[←kh.o];exact BM _ Hq.o (A1m ex.o ee h46)
     have aR:=Z (show BT s=false from by unfold BT;rw[hbad];rfl);have fk:=Z (show Ch s=[]from by unfold Ch;rw[aR.o];rfl);clear ee h46 hbad;go_wp2;have nY:=aA.trans (hbel3.mono zx);refine Jz #[.slice none 0 0,.bool false] (by simp[results,results32,go_sem]) ⟨⟨_,by rw[aR.o],by rw[fk.o];exact Ag.nil _ _ _ _,nY⟩,fun _=>rfl⟩
  ·obtain rfl:j=q.size:=J;have Hpq:=Z (show GV q=true from by have:=zy.o;rw[A9 (Nat.le_of_eq (Dk q).symm)]at this;exact this);have Hrq:=Z (UX q);have eY:=hbel1.trans (hbel3.mono bD);go_wp2_with (first|(at_builtin;(refine AH rfl _ _ 31 rfl (Ab A8) 32 underlying31 EI rfl Jq w1.heap.size wo.heap.size bD jw rfl rfl (by exact Ag.keep (Ab A8) aC.o hbel3 (A2 _)) (by exact cG.o) au ?_);intro v2 w2 hown2 hbel2 _)|fail);have af:=eY.trans hbel2;have aX:=Z hown2;clear hown2;go_wp2;go_roundw;exact⟨k+1,J,by go_num,by rw[i7.o,aT.o,Hpq.o];rfl,by rw[aG.o,←Hrq.o];exact aX.o,af⟩;exact Jv
 ·have x9:=Z (show(AM s 47).all GV=true from by rw[←kh.o];exact DR aT.o J);have aE:=aB;rw[A9 J]at aE;have mc:ps.map Ia=AZ s:=by rw[kh.o];rfl
  rw[mc]at aE;have Hg:=Z (aE.qag);have aU:=Z ((Ab (Ab A8)).mono (S':=Iv w.heap.size wo.heap.size) (fun b hb=>⟨by have:=hb.1;omega,hb.2⟩) aE);obtain⟨p1,p2,p3,rfl⟩:=aB.shape;clear aB aE mc;cases hok:AC (AZ s)
  ·have aR:=Z hok;have kG:=Z (show BT s=false from by unfold BT;rw[aR.o];simp);have fk:=Z (show Ch s=[]from by unfold Ch;rw[kG.o];rfl);clear hok;go_wp2_with fail;refine(B8 _ _ _ Hg.o).mono ?_;rintro e w' ⟨rfl,rfl⟩;rw[aR.o];go_wp2;refine Jz #[.slice none 0 0,.bool false] (by simp[results,results32,go_sem]) ⟨⟨_,by rw[kG.o],by rw[fk.o];exact Ag.nil _ _ _ _,aA⟩,fun _=>rfl⟩
  ·have aR:=Z hok;have kG:=Z (show BT s=true from by unfold BT;rw[aR.o,x9.o];rfl);have fk:=Z (show Ch s=AZ s from by unfold Ch;rw[kG.o];rfl);clear hok;go_wp2_with fail;refine(B8 _ _ _ Hg.o).mono ?_;rintro e w' ⟨rfl,rfl⟩;rw[aR.o];go_wp2;refine Jz #[.slice p1 p2 p3,.bool true] (by simp[results,results32,go_sem]) ⟨⟨_,by rw[kG.o],by rw[fk.o];exact aU.o,aA⟩,fun hz=>by rw[kG.o]at hz;cases hz⟩
theorem Lh(s:ByteArray)(w:World)(hs:s.size≤1048576):Calls prog 32 #[.string s] w (Ee w s):=(D9 s w hs).mono fun _ _ h=>h.1
theorem VU(s:ByteArray)(w:World)(hs:s.size≤1048576):Calls prog 64 #[.string s] w (Ee w s):=by
 have eU:=Below.qab w (.cells #[] 32);go_enter func64,ntmps64;go_wp2_with fail;refine(FD _ _ _ hs).mono ?_;rintro e w1 ⟨v1,rfl,own1,bel1⟩;have fd:=EY s 47;have aM:=CZ s 47;obtain⟨ps,hpe⟩:∃ps,ps=AM s 47:=⟨_,rfl⟩;have kh:=Z hpe;rw[←hpe]at own1 fd aM;have dd:=Z own1;have bB:CX w1 v1 ps:=(Cd CK).rd (own1.sl (fun _ _ _ _ h=>h) CK);have Hv:=Z bB;have fI:(w.alloc (.cells #[] 32)).heap.size≤w1.heap.size:=bel1.size;have bL:w.heap.size+1≤w1.heap.size:=by have:(w.alloc (.cells #[] 32)).heap.size=w.heap.size+1:=Jj
                                                                                                                                                                                                                                                                                                                                                                                                                                                                 omega
 have bX:=Z aM;have jK:=eU.qaa bel1 (A2 _);have cU:Ag 32 (Ag 3 Ap) (IV w.heap.size w1.heap.size w1.heap.size) w1 (.slice (some ⟨w.heap.size,0,none⟩) 0 0) []:=by
  have h:Ag 32 (Ag 3 Ap) (Iv w.heap.size (w.alloc (.cells #[] 32)).heap.size) w1 (.slice (some ⟨w.heap.size,0,none⟩) 0 0) []:=Ag.keep (Ab A8) (BK w 32 w.heap.size (Ab A8)) bel1 (A2 _);refine(Ab (Ab A8)).mono (fun b hb=>?_) h;have h1:(w.alloc (.cells #[] 32)).heap.size=w.heap.size+1:=Jj;have h2:=hb.1;have h3:=hb.2;exact⟨.inl J,J⟩
 have iI:=Z cU;have hB10:=jK.size;obtain⟨a,cap0,rfl,-⟩:=bB;clear hpe own1 aM cU;go_wp2;go_loopw [4,6,7,8,9,14] (fun v _ _ _ _ i wr=>∃k:Nat,k≤ps.length∧i=.int .i64 k∧Ag 32 (Ag 3 Ap) (IV w.heap.size w1.heap.size wr.heap.size) wr v ((ps.take k).map Ia)∧Below w.heap.size w wr∧Jb (fun b=>w.heap.size<b∧b<w1.heap.size) w1 wr∧w1.heap.size≤wr.heap.size) (fun _ _ _ _ _ i _=>ps.length-(intOf i).toNat);exact⟨0,A7 _,rfl,iI.o,jK,fun _ _=>rfl,A2 _⟩;obtain⟨k,hk,rfl,aB,aA,cO,cn⟩:=hrel;obtain⟨wo,rfl⟩:∃wo:World,wo=wr:=⟨_,rfl⟩;have bD:=aA.size;by_cases aF:k<ps.length
 ·obtain⟨q,hq⟩:∃q,ps[k]? =some q:=⟨_,A3 aF⟩;obtain⟨b,cpr,he,hb,-⟩:=dd.o.qac J;obtain⟨rfl,-⟩:a=some ⟨b,0,none⟩∧cap0=cpr:=by simpa using he
  obtain⟨u,aW,rfl,-⟩:=Sl.at Hv.o hq;have oM:w.heap.size<b∧b<w1.heap.size:=⟨by have:=hb.1;have h1:(w.alloc (.cells #[] 32)).heap.size=w.heap.size+1:=Jj
                                                                              omega,hb.2⟩
  rw[←World.cell?_of_block (a:=⟨b,0+k,none⟩) (cO b oM),Nat.zero_add]at aW;have gT:q.size≤1048576:=by have:=bX.o q (A4 hq);omega
  have aG:=Z (Nr hq);have au:((ps.take k).map Ia).length<1099511627776:=by simp;omega
  have dM:decide ((k:Int)<(ps.length:Int))=true:=by simp;omega
  obtain⟨p1,p2,p3,rfl⟩:=aB.shape;have aC:=Z aB;clear hq aB he;go_wp2;clear aW;go_loopw [7,8,9] (fun v i _ wr=>∃j:Nat,j≤q.size∧i=.int .i64 j∧Ag 3 Ap (Iv wo.heap.size wr.heap.size) wr v ((Ia q).take j)∧Below wo.heap.size wo wr) (fun _ i _ _=>q.size-(intOf i).toNat);exact⟨0,A7 _,rfl,BK _ _ _ A8,Below.qab _ _⟩;obtain⟨j,hj,rfl,bC,hbel3⟩:=hrel;obtain⟨wi,rfl⟩:∃wi:World,wi=wr:=⟨_,rfl⟩;have jw:=hbel3.size;obtain⟨r1,r2,r3,rfl⟩:=bC.shape;have cG:=Z bC;have gY:((Ia q).take j).length<1099511627776:=by rw[At];omega
  clear bC;by_cases hltj:j<q.size
  ·have bA:=Lz hltj;have Hr:=Z (UH bA);clear bA;by_cases ee:q[j]=35
   ·have de:=Z (show QD q[j]=1 from by rw[ee];rfl);have cu:((q[j].toNat:Int)==35)=true:=WZ ee;clear ee;go_wp2_with (first|(at_builtin;(refine AH rfl _ _ 32 rfl A8 3 underlying32 Bg rfl Jq wo.heap.size wi.heap.size jw (A2 _) rfl rfl (by exact cG.o) (by exact⟨rfl,Cc.small Jq Jq⟩) gY ?_);intro v4 w4 hown4 hbel4 _)|fail);have gA:=hbel3.trans hbel4;have ce:=Z hown4;clear hown4;go_wp2;go_roundw;exact⟨j+1,J,by go_num,by rw[Hr.o,de.o];exact ce.o,gA⟩;exact Jv
   ·have de:=Z (show QD q[j]=0 from by unfold QD;rw[if_neg ee]);have cu:((q[j].toNat:Int)==35)=false:=XH ee;clear ee;go_wp2_with (first|(at_builtin;(refine AH rfl _ _ 32 rfl A8 3 underlying32 Bg rfl Jq wo.heap.size wi.heap.size jw (A2 _) rfl rfl (by exact cG.o) (by exact⟨rfl,Cc.small Jq Jq⟩) gY ?_);intro v4 w4 hown4 hbel4 _)|fail);have gA:=hbel3.trans hbel4;have ce:=Z hown4;clear hown4;go_wp2;go_roundw;exact⟨j+1,J,by go_num,by rw[Hr.o,de.o];exact ce.o,gA⟩;exact Jv
  ·obtain rfl:j=q.size:=J;have Hrq:=Z (UX q);have eY:=aA.trans (hbel3.mono bD);have HK:=Z ((Ab (Ab A8)).same (Ac hbel3 (fun b (hb:IV w.heap.size w1.heap.size wo.heap.size b)=>hb.2)) aC.o);have HST:=Z (show ∀b,IV w.heap.size w1.heap.size wo.heap.size b→¬Iv wo.heap.size wi.heap.size b from fun b h1 h2=>by have:=h1.2;have:=h2.1;omega);have HS:=Z (show ∀b,IV w.heap.size w1.heap.size wo.heap.size b→b<wi.heap.size from fun b h1=>by have:=h1.2;omega);have HT:=Z (show ∀b,Iv wo.heap.size wi.heap.size b→b<wi.heap.size from fun b h1=>h1.2);have HS1:=Z (show ∀b,IV w.heap.size w1.heap.size wo.heap.size b→(b=w.heap.size∨w1.heap.size≤b)from fun b h1=>h1.1);have oA:=Z (show ∀b,Iv wo.heap.size wi.heap.size b→(b=w.heap.size∨w1.heap.size≤b)from fun b h1=>.inr (by have:=h1.1;omega));have HN1:=Z (show ∀b,wi.heap.size<b→(b=w.heap.size∨w1.heap.size≤b)from fun b h1=>.inr J);go_wp2_with (first|(at_builtin;(refine GM rfl _ _ 31 rfl (Ab A8) 32 underlying31 EI rfl Jq (IV w.heap.size w1.heap.size wo.heap.size) (Iv wo.heap.size wi.heap.size) (fun b=>b=w.heap.size∨w1.heap.size≤b) _ _ _ _ rfl rfl (by exact HK.o) (by exact cG.o) HST.o HS.o HT.o HS1.o oA.o HN1.o au ?_);intro v2 w2 hown2 honly2)|fail);have uX:∀b,(Value.slice p1 p2 p3).ownBlock=some b→IV w.heap.size w1.heap.size wo.heap.size b:=fun b hb=>Ag.qae HK.o b hb;have af:Below w.heap.size w w2:=eY.trans (honly2.below J (fun b hb=>by rcases(uX b hb).1 with h|h<;>omega));have hs2:Jb (fun b=>w.heap.size<b∧b<w1.heap.size) w1 w2:=fun b hb=>by
    rw[honly2.block b (by have:=hb.2;omega) (fun h=>by have:=hb.1;have:=hb.2;rcases(uX b h).1 with h|h<;>omega),hbel3.block b (by have:=hb.2;omega)];exact cO b hb
   have bQ:w1.heap.size≤w2.heap.size:=by have:=honly2.size;omega
   have aX:=Z hown2;clear hown2;go_wp2;go_roundw;exact⟨k+1,J,by go_num,by rw[aG.o,←Hrq.o];exact aX.o,af,hs2,bQ⟩;exact Jv
 ·have aE:=aB;rw[A9 J]at aE;have mc:ps.map Ia=AZ s:=by rw[kh.o];rfl
  rw[mc]at aE;have Hg:=Z (aE.qag);have aU:=Z ((Ab (Ab A8)).mono (S':=Iv w.heap.size wo.heap.size) (fun b hb=>⟨by rcases hb.1 with h|h<;>omega,hb.2⟩) aE);obtain⟨p1,p2,p3,rfl⟩:=aB.shape;clear aB aE mc;cases hok:AC (AZ s)
  ·have aR:=Z hok;have kG:=Z (show BT s=false from by rw[Pv,aR.o];rfl);have fk:=Z (show Ch s=[]from by unfold Ch;rw[kG.o];rfl);clear hok;go_wp2_with fail;refine(Bh _ _ _ Hg.o).mono ?_;rintro e w' ⟨rfl,rfl⟩;rw[aR.o];go_wp2;refine Jz #[.slice none 0 0,.bool false] (by simp[results,results64,go_sem]) ⟨_,by rw[kG.o],by rw[fk.o];exact Ag.nil _ _ _ _,aA⟩
  ·have aR:=Z hok;clear hok;go_wp2_with fail;refine(Bh _ _ _ Hg.o).mono ?_;rintro e w' ⟨rfl,rfl⟩;rw[aR.o];go_wp2_with fail;refine(EK _ _ _ Hg.o).mono ?_;rintro e w2 ⟨rfl,af⟩;have nY:=aA.trans (af.mono bD);by_cases hf:AD (AZ s)=s
   ·have kG:=Z (show BT s=true from by rw[Pv,aR.o,hf];simp);have fk:=Z (show Ch s=AZ s from by unfold Ch;rw[kG.o];rfl);rw[hf];clear hf;have iZ:=Z ((Ag.keep (Ab A8) aU.o af (A2 _)).grow (Ab A8) af.size (A6 _ _));go_wp2;refine Jz #[.slice p1 p2 p3,.bool true] (by simp[results,results64,go_sem]) ⟨_,by rw[kG.o],by rw[fk.o];exact iZ.o,nY⟩
   ·have kG:=Z (show BT s=false from by rw[Pv,aR.o];simp[hf]);have fk:=Z (show Ch s=[]from by unfold Ch;rw[kG.o];rfl);have aK:=A4j hf;clear hf;go_wp2;refine Jz #[.slice none 0 0,.bool false] (by simp[results,results64,go_sem]) ⟨_,by rw[kG.o],by rw[fk.o];exact Ag.nil _ _ _ _,nY⟩
theorem R9(p:UInt8→Bool){x:UInt8}(h:l[k]? =some x):(l.take (k+1)).all p=((l.take k).all p&&p x):=by
 rw[Ao,h,List.all_append];simp
def Ff(s:ByteArray):Bool:=s.data.toList.all Ll&&decide (0<s.size)
theorem FH(s:ByteArray)(w:World)(hs:s.size≤1048576):Calls prog 147 #[.string s] w fun e w'=>e=.returned (.bool (Ff s))∧w=w':=by
 go_enter func147,ntmps147;go_wp2;go_loop [3] (fun i=>∃k:Nat,k≤s.size∧i=.int .i64 k∧(s.data.toList.take k).all Ll=true) (fun i=>s.size-(intOf i).toNat);exact⟨0,A7 _,rfl,rfl⟩;obtain⟨k,hk,rfl,aQ⟩:=hrel;have aT:=Z aQ;clear aQ;by_cases aF:k<s.size
 ·have bA:=Lz aF;have i7:=Z (R9 Ll bA);have ex:=Z bA;clear bA;have jL:=Z (show Ll s[k]=false→Ff s=false from fun h=>by
   unfold Ff;rw[Bool.and_eq_false_iff];left;rw[List.all_eq_false];exact⟨s[k],A4 ex.o,by simp[h]⟩)
  by_cases h1:s[k].toNat<48
  ·have Hr:=Z (jL.o (by simp[Ll];omega));have hd:decide (((s[k]).toNat:Int)<48)=true:=by simp;omega
   go_wp2
   go_ret
   exact⟨AW Hr.o.symm,rfl⟩
  ·have hd:decide (((s[k]).toNat:Int)<48)=false:=by simp;omega
   by_cases h2:57<s[k].toNat
   ·have Hr:=Z (jL.o (by simp[Ll];omega));have li:decide ((57:Int)<((s[k]).toNat:Int))=true:=by simp;omega
    go_wp2
    go_ret
    exact⟨AW Hr.o.symm,rfl⟩
   ·have Hg:=Z (show Ll s[k]=true from by simp[Ll];omega);have li:decide ((57:Int)<((s[k]).toNat:Int))=false:=by simp;omega
    go_wp2
    go_round
    exact⟨k+1,J,by go_num,by rw[i7.o,aT.o,Hg.o];rfl⟩;exact Jv
 ·have Hr:=Z (show Ff s=decide (0<s.size)from by
   have h:=aT.o;rw[A9 (by rw[←Dk];omega)]at h;unfold Ff;rw[h];simp)
  go_wp2
  go_ret
  exact⟨AW Hr.o.symm,rfl⟩
theorem P7{a b:ByteArray}(h:a≠b):(a.toList==b.toList)=false:=by
 rw[Ai];exact fun e=>h (DX (by rw[ByteArray.toList_eq,ByteArray.toList_eq]at e;exact e))
def TS(s:ByteArray):Bool:=s.data.toList.head?==some 45
def Ko(s:ByteArray):ByteArray:=if TS s then s.extract 1 s.size else s
theorem A0E(h:FI s=some n):Lx s n∧(TS s=true↔n<0)∧K7 (Ko s).data.toList=n.natAbs∧(Ko s).data.toList.all Ll=true∧0<(Ko s).size∧(Ko s).size≤19:=by
 have k:=KE h;refine⟨k,?_⟩;rcases Int.lt_or_le n 0 with h0|h0
 ·obtain⟨l,hl,a,b,c,d⟩:=k.neg h0;have hn:TS s=true:=by unfold TS;rw[hl];rfl
  have hb:(Ko s).data.toList=l:=by
   unfold Ko;rw[if_pos hn,Ev,hl,Dk,hl];simp
  rw[Dk,hb];exact⟨⟨fun _=>h0,fun _=>hn⟩,a,b,c,d⟩
 ·obtain⟨a,b,c,d⟩:=k.pos h0;have hn:TS s=false:=by
   unfold TS;cases hl:s.data.toList with
   |nil=>rfl
   |cons x l=>
    rw[hl]at b;rw[List.all_cons,Af]at b;have:=Mi.1 b.1;rw[List.head?_cons,Ai];intro e;injection e with e;subst e;simp at this
  have hb:Ko s=s:=by unfold Ko;rw[hn];rfl
  rw[hb];exact⟨⟨fun h=>absurd (hn.symm.trans h) Jq,fun h=>absurd h J⟩,a,b,c,d⟩
theorem C2(h:∀n,FI s=some n→False):FI s=none:=by
 cases hp:FI s with
 |none=>rfl
 |some n=>exact(h n hp).elim
noncomputable def Be (s:ByteArray):Int:=(FI s).getD 0
noncomputable def AX (s:ByteArray):Bool:=(FI s).isSome
theorem OX(h:FI s=none):Be s=0∧AX s=false:=by unfold Be AX;rw[h];exact⟨rfl,rfl⟩
theorem PO(h:FI s=some n):Be s=n∧AX s=true:=by unfold Be AX;rw[h];exact⟨rfl,rfl⟩
def LJ(w:World)(s:ByteArray)(e:Ending)(w':World):Prop:=e=.returned (.tuple #[.int .i64 (Be s),.bool (AX s)])∧Below w.heap.size w w'
theorem U6{t:ByteArray}{c:UInt8}(h:t.data.toList[k]? =some c):K7 (t.data.toList.take k)*10+(c.toNat-48)≤K7 t.data.toList:=by
 rw[←Pt h];exact Vd _ _
theorem SD(s:ByteArray)(w:World)(hs:s.size≤1048576):Calls prog 67 #[.string s] w (LJ w s):=by
 have md:=fun n (h:FI s=some n)=>A0E h;have HF:=Z md;clear md;have fW:=Z (fun h=>OX (s:=s) h);by_cases fZ:s.size=0
 ·have hs00:s=ByteArray.empty:=by apply DX;have h:=Dk s;rw[fZ]at h;exact List.eq_nil_of_length_eq_zero h.symm
  subst hs00;have hp:=C2 (s:=ByteArray.empty) (fun n h=>by
   obtain⟨-,-,-,-,b,-⟩:=HF.o n h;simp[Ko,TS]at b)
  obtain⟨r1,r2⟩:=fW.o hp;have Hr:=Z (show LJ w ByteArray.empty (.returned (.tuple #[.int .i64 0,.bool false])) w from⟨by rw[r1,r2],A6 _ _⟩);clear r1 r2;go_enter func67,ntmps67;go_wp2_with fail;refine(FH _ _ hs).mono ?_;rintro e w' ⟨rfl,rfl⟩;rw[show Ff ByteArray.empty=false from by simp[Ff]];go_wp2;refine Jz #[.int .i64 0,.bool false] (by simp[results,results67,go_sem]) Hr.o
 have aZ:0<s.size:=J;have oN:=Lz aZ;have lT:s.data.toList.head?=some s[0]:=by rw[←List.head?_eq_getElem?]at oN;exact oN
 have hdz:decide ((0:Int)<(s.size:Int))=true:=by simp;omega
 cases hn:TS s
 ·have uY:s[0]≠45:=by
   intro e;unfold TS at hn;rw[lT,e]at hn;simp at hn
  have cu:((s[0].toNat:Int)==45)=false:=by rw[Ai];intro e;exact uY (UInt8.toNat_inj.1 (by have:(45:UInt8).toNat=45:=rfl;omega))
  have hb:Ko s=s:=by unfold Ko;rw[hn];rfl
  rw[hb]at HF;have qz:=hs;have Hn:=Z hn;clear hb hn uY lT oN fZ;cases hd:Ff s
  ·have hp:=C2 (s:=s) (fun n h=>by
    obtain⟨-,-,-,a,b,-⟩:=HF.o n h;unfold Ff at hd;rw[a,Bool.true_and,decide_eq_false_iff_not]at hd;exact hd b)
   have Hd:=Z hd;obtain⟨r1,r2⟩:=fW.o hp;have Hr:=Z (show LJ w s (.returned (.tuple #[.int .i64 0,.bool false])) w from⟨by rw[r1,r2],A6 _ _⟩);clear r1 r2 hd;go_enter func67,ntmps67;go_wp2_with fail;refine(FH _ _ qz).mono ?_;rintro e w' ⟨rfl,rfl⟩;rw[Hd.o];go_wp2;refine Jz #[.int .i64 0,.bool false] (by simp[results,results67,go_sem]) Hr.o
  have Hd:=Z hd;unfold Ff at hd;rw[Af]at hd;have Hdg:=Z hd.1;clear hd;by_cases h19:19<s.size
  ·have hp:=C2 (s:=s) (fun n h=>by
    obtain⟨-,-,-,a,b,c⟩:=HF.o n h;omega)
   obtain⟨r1,r2⟩:=fW.o hp;have Hr:=Z (show LJ w s (.returned (.tuple #[.int .i64 0,.bool false])) w from⟨by rw[r1,r2],A6 _ _⟩);clear r1 r2;go_enter func67,ntmps67;go_wp2_with fail;refine(FH _ _ qz).mono ?_;rintro e w' ⟨rfl,rfl⟩;rw[Hd.o];go_wp2;refine Jz #[.int .i64 0,.bool false] (by simp[results,results67,go_sem]) Hr.o
  go_enter func67,ntmps67;go_wp2_with fail;refine(FH _ _ qz).mono ?_;rintro e w' ⟨rfl,rfl⟩;rw[Hd.o];go_wp2;go_loop [6,7,8] (fun nv i _=>∃(k D:Nat),k≤s.size∧i=.int .i64 k∧D=K7 (s.data.toList.take k)∧nv=.int .i64 (-(D:Int))∧D≤9223372036854775808) (fun _ i _=>s.size-(intOf i).toNat);exact⟨0,0,A7 _,rfl,rfl,rfl,Jq⟩;obtain⟨k,D,hk,rfl,hD,rfl,hDb⟩:=hrel;have HD:=Z hD;clear hD;by_cases aF:k<s.size
  ·have bA:=Lz aF;have ex:=Z bA;have rA:=Hdg.o;rw[Ar]at rA;have hc:=Mi.1 (rA _ (A4 bA));obtain⟨d,lG⟩:∃d:Nat,d=s[k].toNat-48:=⟨_,rfl⟩;have hd9:d≤9:=J;have oy:((s[k]).toNat:Int)-48=(d:Int):=J;have aG:=Z (show K7 (s.data.toList.take (k+1))=D*10+d from by rw[Pt bA,HD.o,lG]);have Hov:=Z (U6 bA);have dM:decide ((k:Int)<(s.size:Int))=true:=by simp;omega
   have uZ:=RP (n:=-9223372036854775808+(d:Int)) J;clear bA rA hc;by_cases hov:9223372036854775808<D*10+d
   ·have hp:=C2 (s:=s) (fun n h=>by
     obtain⟨k1,-,a,-,-,-⟩:=HF.o n h;have:=Hov.o;have h3:=k1.1;rw[←HD.o,←lG,a]at this;omega)
    obtain⟨r1,r2⟩:=fW.o hp;have Hr:=Z (show LJ w s (.returned (.tuple #[.int .i64 0,.bool false])) w from⟨by rw[r1,r2],A6 _ _⟩);have hte:decide (-(D:Int)<(-9223372036854775808+(d:Int)).tdiv 10)=true:=by simp;omega
    have hw1:IntKind.i64.wrap ((-9223372036854775808+(d:Int)).tdiv 10)=(-9223372036854775808+(d:Int)).tdiv 10:=by rw[IntKind.wrap_i64];omega
    clear r1 r2 lG uZ;go_wp2;refine Jz #[.int .i64 0,.bool false] (by simp[results,results67,go_sem]) Hr.o
   ·have hte:decide (-(D:Int)<(-9223372036854775808+(d:Int)).tdiv 10)=false:=by simp;omega
    have hw1:IntKind.i64.wrap ((-9223372036854775808+(d:Int)).tdiv 10)=(-9223372036854775808+(d:Int)).tdiv 10:=by rw[IntKind.wrap_i64];omega
    clear lG uZ;go_wp2
    go_round
    exact⟨k+1,D*10+d,J,by go_num,by rw[aG.o],by go_num,J⟩;exact Jv
  ·have xd:=Z (show D=K7 s.data.toList from by rw[HD.o,A9 (by rw[←Dk];omega)]);have dM:decide ((k:Int)<(s.size:Int))=false:=by simp;omega
   clear HD;by_cases hmin:D=9223372036854775808
   ·subst hmin;have hp:=C2 (s:=s) (fun n h=>by
     obtain⟨k1,k2,a,-,-,-⟩:=HF.o n h;rw[←xd.o]at a;have h3:=k1.1;have h4:¬n<0:=fun aF=>by have:=k2.2 aF;rw[Hn.o]at this;cases this
     omega)
    obtain⟨r1,r2⟩:=fW.o hp;have Hr:=Z (show LJ w s (.returned (.tuple #[.int .i64 0,.bool false])) w from⟨by rw[r1,r2],A6 _ _⟩);clear r1 r2;go_wp2;refine Jz #[.int .i64 0,.bool false] (by simp[results,results67,go_sem]) Hr.o
   have hI:Cc (D:Int):=⟨J,J⟩;have hmn:((-(D:Int))==-9223372036854775808)=false:=by rw[Ai];omega
   go_wp2_with fail;refine(Dx _ hI _).mono ?_;rintro e w2 ⟨rfl,b2⟩;by_cases hf:AQ (D:Int)=s
   ·obtain⟨r1,r2⟩:=PO (M7 (s:=s) (n:=(D:Int)) ⟨hI.o,hf⟩);have Hr:=Z (show LJ w s (.returned (.tuple #[.int .i64 (D:Int),.bool true])) w2 from⟨by rw[r1,r2],b2⟩);clear r1 r2;rw[hf];clear hf;go_wp2;refine Jz #[.int .i64 (D:Int),.bool true] (by simp[results,results67,go_sem]) Hr.o
   ·have hp:=C2 (s:=s) (fun n h=>by
     obtain⟨k1,k2,a,-,-,-⟩:=HF.o n h;rw[←xd.o]at a;have h4:¬n<0:=fun aF=>by have:=k2.2 aF;rw[Hn.o]at this;cases this
     have h5:n=(D:Int):=J;exact hf (by rw[←h5];exact k1.2))
    obtain⟨r1,r2⟩:=fW.o hp;have Hr:=Z (show LJ w s (.returned (.tuple #[.int .i64 0,.bool false])) w2 from⟨by rw[r1,r2],b2⟩);have aK:=P7 hf;clear r1 r2 hf;go_wp2;refine Jz #[.int .i64 0,.bool false] (by simp[results,results67,go_sem]) Hr.o
 ·have uY:s[0]=45:=by
   unfold TS at hn;rw[lT]at hn;simpa using hn
  have cu:((s[0].toNat:Int)==45)=true:=by rw[uY];rfl
  have hb:Ko s=s.extract 1 s.size:=by unfold Ko;rw[hn];rfl
  obtain⟨t,ht⟩:∃t,t=s.extract 1 s.size:=⟨_,rfl⟩;rw[hb,←ht]at HF;have Ht:=Z ht;have qz:(s.extract 1 s.size).size≤1048576:=Aj (FA _ _ _) hs;have Hn:=Z hn;clear hb hn uY lT oN fZ ht;cases hd:Ff t
  ·have hp:=C2 (s:=s) (fun n h=>by
    obtain⟨-,-,-,a,b,-⟩:=HF.o n h;unfold Ff at hd;rw[a,Bool.true_and,decide_eq_false_iff_not]at hd;exact hd b)
   have Hd:=Z hd;obtain⟨r1,r2⟩:=fW.o hp;have Hr:=Z (show LJ w s (.returned (.tuple #[.int .i64 0,.bool false])) w from⟨by rw[r1,r2],A6 _ _⟩);clear r1 r2 hd;go_enter func67,ntmps67;go_wp2_with fail;refine(FH _ _ qz).mono ?_;rintro e w' ⟨rfl,rfl⟩;rw[←Ht.o,Hd.o];go_wp2;refine Jz #[.int .i64 0,.bool false] (by simp[results,results67,go_sem]) Hr.o
  have Hd:=Z hd;unfold Ff at hd;rw[Af]at hd;have Hdg:=Z hd.1;clear hd;by_cases h19:19<t.size
  ·have hp:=C2 (s:=s) (fun n h=>by
    obtain⟨-,-,-,a,b,c⟩:=HF.o n h;omega)
   obtain⟨r1,r2⟩:=fW.o hp;have Hr:=Z (show LJ w s (.returned (.tuple #[.int .i64 0,.bool false])) w from⟨by rw[r1,r2],A6 _ _⟩);clear r1 r2;go_enter func67,ntmps67;go_wp2_with fail;refine(FH _ _ qz).mono ?_;rintro e w' ⟨rfl,rfl⟩;rw[←Ht.o,Hd.o];go_wp2;refine Jz #[.int .i64 0,.bool false] (by simp[results,results67,go_sem]) Hr.o
  go_enter func67,ntmps67;go_wp2_with fail;refine(FH _ _ qz).mono ?_;rintro e w' ⟨rfl,rfl⟩;rw[←Ht.o,Hd.o];go_wp2;go_loop [6,7,8] (fun nv i _=>∃(k D:Nat),k≤t.size∧i=.int .i64 k∧D=K7 (t.data.toList.take k)∧nv=.int .i64 (-(D:Int))∧D≤9223372036854775808) (fun _ i _=>t.size-(intOf i).toNat);exact⟨0,0,A7 _,rfl,rfl,rfl,Jq⟩;obtain⟨k,D,hk,rfl,hD,rfl,hDb⟩:=hrel;have HD:=Z hD;clear hD;by_cases aF:k<t.size
  ·have bA:=Lz aF;have ex:=Z bA;have rA:=Hdg.o;rw[Ar]at rA;have hc:=Mi.1 (rA _ (A4 bA));obtain⟨d,lG⟩:∃d:Nat,d=t[k].toNat-48:=⟨_,rfl⟩;have hd9:d≤9:=J;have oy:((t[k]).toNat:Int)-48=(d:Int):=J;have aG:=Z (show K7 (t.data.toList.take (k+1))=D*10+d from by rw[Pt bA,HD.o,lG]);have Hov:=Z (U6 bA);have dM:decide ((k:Int)<(t.size:Int))=true:=by simp;omega
   have uZ:=RP (n:=-9223372036854775808+(d:Int)) J;clear bA rA hc;by_cases hov:9223372036854775808<D*10+d
   ·have hp:=C2 (s:=s) (fun n h=>by
     obtain⟨k1,-,a,-,-,-⟩:=HF.o n h;have:=Hov.o;have h3:=k1.1;rw[←HD.o,←lG,a]at this;omega)
    obtain⟨r1,r2⟩:=fW.o hp;have Hr:=Z (show LJ w s (.returned (.tuple #[.int .i64 0,.bool false])) w from⟨by rw[r1,r2],A6 _ _⟩);have hte:decide (-(D:Int)<(-9223372036854775808+(d:Int)).tdiv 10)=true:=by simp;omega
    have hw1:IntKind.i64.wrap ((-9223372036854775808+(d:Int)).tdiv 10)=(-9223372036854775808+(d:Int)).tdiv 10:=by rw[IntKind.wrap_i64];omega
    clear r1 r2 lG uZ;go_wp2;refine Jz #[.int .i64 0,.bool false] (by simp[results,results67,go_sem]) Hr.o
   ·have hte:decide (-(D:Int)<(-9223372036854775808+(d:Int)).tdiv 10)=false:=by simp;omega
    have hw1:IntKind.i64.wrap ((-9223372036854775808+(d:Int)).tdiv 10)=(-9223372036854775808+(d:Int)).tdiv 10:=by rw[IntKind.wrap_i64];omega
    clear lG uZ;go_wp2
    go_round
    exact⟨k+1,D*10+d,J,by go_num,by rw[aG.o],by go_num,J⟩;exact Jv
  ·have xd:=Z (show D=K7 t.data.toList from by rw[HD.o,A9 (by rw[←Dk];omega)]);have dM:decide ((k:Int)<(t.size:Int))=false:=by simp;omega
   clear HD;have hI:Cc (-(D:Int)):=⟨J,J⟩;go_wp2_with fail;refine(Dx _ hI _).mono ?_;rintro e w2 ⟨rfl,b2⟩;by_cases hf:AQ (-(D:Int))=s
   ·obtain⟨r1,r2⟩:=PO (M7 (s:=s) (n:=-(D:Int)) ⟨hI.o,hf⟩);have Hr:=Z (show LJ w s (.returned (.tuple #[.int .i64 (-(D:Int)),.bool true])) w2 from⟨by rw[r1,r2],b2⟩);clear r1 r2;rw[hf];clear hf;go_wp2;refine Jz #[.int .i64 (-(D:Int)),.bool true] (by simp[results,results67,go_sem]) Hr.o
   ·have hp:=C2 (s:=s) (fun n h=>by
     obtain⟨k1,k2,a,-,-,-⟩:=HF.o n h;rw[←xd.o]at a;have h4:n<0:=k2.1 Hn.o;have h5:n=-(D:Int):=J;exact hf (by rw[←h5];exact k1.2))
    obtain⟨r1,r2⟩:=fW.o hp;have Hr:=Z (show LJ w s (.returned (.tuple #[.int .i64 0,.bool false])) w2 from⟨by rw[r1,r2],b2⟩);have aK:=P7 hf;clear r1 r2 hf;go_wp2;refine Jz #[.int .i64 0,.bool false] (by simp[results,results67,go_sem]) Hr.o
theorem A2P{v:Int}(h:Lib.atoiAll l=.ok v):Cc v:=by
 unfold Lib.atoiAll at h
 split at h
 ·cases h
 ·rename_i c r
  simp only at h
  split at h
  ·cases h
  ·cases h
  ·rename_i u hu
   split at h
   ·cases h
   ·split at h
    ·cases h
    ·rename_i h1 h2
     injection h with h;by_cases hn:c.toNat=45
     ·simp only[hn,if_true]at h;simp[hn]at h1 h2;subst h;exact⟨J,J⟩
     ·simp only[hn,if_false]at h;simp[hn]at h1 h2;subst h;exact⟨J,J⟩
def A1u(w:World):Prop:=(∃te pe,w.cell? ⟨2,0,none⟩=some (.iface te pe))∧(∃te pe,w.cell? ⟨3,0,none⟩=some (.iface te pe))
theorem A1u.keep(h:A1u w)(hb:Below w.heap.size w w'):A1u w':=by
 obtain⟨⟨a,b,h1⟩,⟨c,d,h2⟩⟩:=h;exact⟨⟨a,b,(hb.cell (block_lt_of_cell h1)).trans h1⟩,⟨c,d,(hb.cell (block_lt_of_cell h2)).trans h2⟩⟩
def Ck(w:World):Prop:=Tab w∧A1u w
theorem Ck.keep(h:Ck w)(hb:Below w.heap.size w w'):Ck w':=⟨h.1.keep hb,h.2.keep hb⟩
theorem Yt{e:TypeId}(h:w'=w∨∃t,w'=Lib.bytesWorld w e t):Below w.heap.size w w':=by
 rcases h with rfl|⟨t,rfl⟩
 ·exact A6 _ _
 ·exact Lib.bytesWorld_below _ _ _
theorem IS(s:ByteArray)(w:World)(hs:s.size≤1048576)(ht:Ck w):Calls prog 31 #[.string s] w (LJ w s):=by
 obtain⟨hT,⟨te,pe,he1⟩,⟨te2,pe2,dX⟩⟩:=ht;have HT:=Z hT;cases ha:Lib.atoiAll s.data.toList with
 |ok v=>
  have hI:=A2P ha;have Ha:=Z ha;clear ha he1 dX hT;go_enter func31,ntmps31;go_wp2_with fail;refine(Tryz.strconv_Atoi_ok s J v Ha.o w).mono ?_;rintro e w1 ⟨rfl,hw⟩;have b1:=Yt hw;clear hw;go_wp2_with fail;refine(DQ v hI _ (HT.o.keep b1)).mono ?_;rintro e w2 ⟨rfl,b2⟩;have bb:=b1.qaa b2 (A2 _);by_cases hf:AQ v=s
  ·obtain⟨r1,r2⟩:=PO (M7 (s:=s) (n:=v) ⟨hI.o,hf⟩);have Hr:=Z (show LJ w s (.returned (.tuple #[.int .i64 v,.bool true])) w2 from⟨by rw[r1,r2],bb⟩);clear r1 r2;rw[hf];clear hf;go_wp2;refine Jz #[.int .i64 v,.bool true] (by simp[results,results31,go_sem]) Hr.o
  ·have hp:=C2 (s:=s) (fun n h=>by
    have h2:=LL h;rw[Ha.o]at h2;injection h2 with h2;exact hf (by rw[h2];exact(KE h).2))
   obtain⟨r1,r2⟩:=OX hp;have Hr:=Z (show LJ w s (.returned (.tuple #[.int .i64 0,.bool false])) w2 from⟨by rw[r1,r2],bb⟩);have aK:=P7 hf;clear r1 r2 hf;go_wp2;refine Jz #[.int .i64 0,.bool false] (by simp[results,results31,go_sem]) Hr.o
 |range=>
  have hp:=C2 (s:=s) (fun n h=>by have h2:=LL h;rw[ha]at h2;cases h2);obtain⟨r1,r2⟩:=OX hp;have Hr:=Z (fun w2 (bb:Below w.heap.size w w2)=>show LJ w s (.returned (.tuple #[.int .i64 0,.bool false])) w2 from⟨by rw[r1,r2],bb⟩);have Ha:=Z ha;clear ha hT r1 r2 he1;have He:=Z dX;clear dX;go_enter func31,ntmps31;go_wp2_with fail;refine(Tryz.strconv_Atoi_range s J Ha.o _ w He.o (.inr ⟨te2,pe2,rfl⟩)).mono ?_;rintro e w1 ⟨N,rfl,-,-,b1⟩;go_wp2;refine Jz #[.int .i64 0,.bool false] (by simp[results,results31,go_sem]) (Hr.o _ b1)
 |_=>
  have hp:=C2 (s:=s) (fun n h=>by have h2:=LL h;rw[ha]at h2;cases h2);obtain⟨r1,r2⟩:=OX hp;have Hr:=Z (fun w2 (bb:Below w.heap.size w w2)=>show LJ w s (.returned (.tuple #[.int .i64 0,.bool false])) w2 from⟨by rw[r1,r2],bb⟩);have Ha:=Z ha;clear ha hT r1 r2 dX;have He:=Z he1;clear he1;go_enter func31,ntmps31;go_wp2_with fail;refine(Tryz.strconv_Atoi_syntax s J Ha.o trivial _ w He.o (.inr ⟨te,pe,rfl⟩)).mono ?_;rintro e w1 ⟨N,rfl,-,-,b1⟩;go_wp2;refine Jz #[.int .i64 0,.bool false] (by simp[results,results31,go_sem]) (Hr.o _ b1)
theorem Ey(h:AX p=true):AQ (Be p)=p∧Cc (Be p):=by
 unfold AX Be at*;cases hp:FI p with
 |none=>rw[hp]at h;cases h
 |some n=>have k:=KE hp;exact⟨k.2,k.1⟩
noncomputable def E9 (s:ByteArray):U:=(AM s 44).map Be
noncomputable def C6 (s:ByteArray):Bool:=decide (s=⟨#[45]⟩)||(AM s 44).all AX
noncomputable def AY (s:ByteArray):U:=if s=⟨#[45]⟩then[]else if(AM s 44).all AX then E9 s else[]
def Di(w:World)(s:ByteArray)(e:Ending)(w':World):Prop:=
 ∃v',e=.returned (.tuple #[v',.bool (C6 s)])∧Ag 3 Ap (Iv w.heap.size w'.heap.size) w' v' (AY s)∧Below w.heap.size w w'
theorem A13(h:(AM s 44).all AX=true):AK (E9 s)=s:=by
 unfold AK E9;rw[Ar]at h;have aK:(AM s 44).map Be≠[]:=by
  intro e;have h1:=congrArg List.length e;have h2:=IL s 44;rw[Ay]at h1;simp at h1;rw[h1]at h2;simp at h2
 rw[if_neg aK];unfold J8;rw[List.map_map];have e:(AM s 44).map (AQ∘Be)=AM s 44:=
  (List.map_congr_left (f:=AQ∘Be) (g:=id) (fun p hp=>(Ey (h p hp)).1)).trans (List.map_id _)
 rw[e,I6]
theorem SP(h:ps[k]? =some p):(ps.take (k+1)).map Be=(ps.take k).map Be++[Be p]:=by
 rw[Ao,h];simp
theorem LP(f:ByteArray→Bool){l:List ByteArray}{x:ByteArray}(h:l[k]? =some x):(l.take (k+1)).all f=((l.take k).all f&&f x):=by
 rw[Ao,h,List.all_append];simp
theorem G7(s:ByteArray)(w:World)(hs:s.size≤1048576)(ht:Ck w):Calls prog 35 #[.string s] w (Di w s):=by
 by_cases hdash:s=⟨#[45]⟩
 ·subst hdash;have Hy:=Z (show C6 ⟨#[45]⟩=true from by unfold C6;simp);have Hv:=Z (show AY ⟨#[45]⟩=[]from by unfold AY;rw[if_pos rfl]);go_enter func35,ntmps35;go_wp2;refine Jz #[.slice none 0 0,.bool true] (by simp[results,results35,go_sem]) ⟨_,by rw[Hy.o],by rw[Hv.o];exact Ag.nil _ _ _ _,A6 _ _⟩
 have aK:=P7 hdash;rw[show(⟨#[45]⟩:ByteArray).toList=[45]from by rw[ByteArray.toList_eq]]at aK;have gn:decide (s=⟨#[45]⟩)=false:=by simpa using hdash
 have me:=Z (show C6 s=(AM s 44).all AX from by unfold C6;rw[gn,Bool.false_or]);have kH:=Z (show AY s=if(AM s 44).all AX then E9 s else[]from by unfold AY;rw[if_neg hdash]);have Ht:=Z ht;clear hdash gn ht;go_enter func35,ntmps35;go_wp2_with fail;refine(Do _ _ _ hs).mono ?_;rintro e w1 ⟨v1,rfl,own1,bel1⟩;have fd:=EY s 44;have aM:=CZ s 44;obtain⟨ps,hpe⟩:∃ps,ps=AM s 44:=⟨_,rfl⟩;have kh:=Z hpe;rw[←hpe]at own1 fd aM;have bB:CX w1 v1 ps:=(Cd CK).rd (own1.sl (fun _ _ _ _ h=>h) CK);have Hv:=Z bB;have fI:=bel1.size;have bX:=Z aM;obtain⟨a,cap0,rfl,-⟩:=bB;clear hpe own1 aM aK;go_wp2;go_loopw [4,6,7,8,14] (fun v _ _ _ i wr=>∃k:Nat,k≤ps.length∧i=.int .i64 k∧(ps.take k).all AX=true∧Ag 3 Ap (Iv w1.heap.size wr.heap.size) wr v ((ps.take k).map Be)∧Below w1.heap.size w1 wr) (fun _ _ _ _ i _=>ps.length-(intOf i).toNat);exact⟨0,A7 _,rfl,rfl,Ag.nil _ _ _ _,A6 _ _⟩;obtain⟨k,hk,rfl,aQ,aB,hbel1⟩:=hrel;obtain⟨wo,rfl⟩:∃wo:World,wo=wr:=⟨_,rfl⟩;have aA:=bel1.trans (hbel1.mono fI);have bD:=hbel1.size;have zx:=aA.size;have aT:=Z aQ;clear aQ;by_cases aF:k<ps.length
 ·obtain⟨q,hq⟩:∃q,ps[k]? =some q:=⟨_,A3 aF⟩;obtain⟨b,off,cpr,he,hb,-⟩:=Hv.o.qac J;obtain⟨rfl,-⟩:a=some ⟨b,off,none⟩∧cap0=cpr:=by simpa using he
  obtain⟨u,aW,rfl,-⟩:=Sl.at Hv.o hq;rw[←hbel1.cell (p:=⟨b,off+k,none⟩) hb]at aW;have gT:q.size≤1048576:=by have:=bX.o q (A4 hq);omega
  have aG:=Z (SP hq);have i7:=Z (LP AX hq);have Hq:=Z hq;have au:((ps.take k).map Be).length<1099511627776:=by simp;omega
  have dM:decide ((k:Int)<(ps.length:Int))=true:=by simp;omega
  obtain⟨p1,p2,p3,rfl⟩:=aB.shape;have aC:=Z aB;clear hq aB he;go_wp2_with fail;refine(IS _ _ gT (Ht.o.keep aA)).mono ?_;rintro e w2 ⟨rfl,b2⟩;have hs2:=b2.size;cases hy:AX q
  ·have jL:=Z (show(AM s 44).all AX=false from by rw[←kh.o,List.all_eq_false];exact⟨q,A4 Hq.o,by simp[hy]⟩);have Hy:=Z (show C6 s=false from by rw[me.o,jL.o]);have rB:=Z (show AY s=[]from by rw[kH.o,jL.o];rfl);have nY:=aA.trans (b2.mono zx);clear hy;go_wp2;refine Jz #[.slice none 0 0,.bool false] (by simp[results,results35,go_sem]) ⟨_,by rw[Hy.o],by rw[rB.o];exact Ag.nil _ _ _ _,nY⟩
  ·have Hy:=Z hy;have hI:=(Ey hy).2;have eY:=hbel1.trans (b2.mono bD);clear hy;go_wp2_with (first|(at_builtin;(refine AH rfl _ _ 32 rfl A8 3 underlying32 Bg rfl Jq w1.heap.size wo.heap.size bD hs2 rfl rfl (by exact Ag.keep A8 aC.o b2 (A2 _)) (by exact⟨rfl,hI⟩) au ?_);intro v3 w3 bC hbel3 _)|fail);have dg:=eY.trans hbel3;have cG:=Z bC;clear bC;go_wp2;go_roundw;exact⟨k+1,J,by go_num,by rw[i7.o,aT.o,Hy.o];rfl,by rw[aG.o];exact cG.o,dg⟩;exact Jv
 ·have x9:=Z (show(AM s 44).all AX=true from by rw[←kh.o];have h:=aT.o;rwa[A9 J]at h);have Hy:=Z (show C6 s=true from by rw[me.o,x9.o]);have rB:=Z (show AY s=ps.map Be from by rw[kH.o,x9.o,kh.o];rfl);have aE:=aB;rw[A9 J]at aE;obtain⟨p1,p2,p3,rfl⟩:=aB.shape;have aU:=Z ((Ab A8).mono (S':=Iv w.heap.size wo.heap.size) (fun b hb=>⟨by have:=hb.1;omega,hb.2⟩) aE);clear aB aE;go_wp2;refine Jz #[.slice p1 p2 p3,.bool true] (by simp[results,results35,go_sem]) ⟨_,by rw[Hy.o],by rw[rB.o];exact aU.o,aA⟩
theorem JG(s:ByteArray)(w:World)(hs:s.size≤1048576):Calls prog 145 #[.string s] w (Di w s):=by
 by_cases hdash:s=⟨#[45]⟩
 ·subst hdash;have Hy:=Z (show C6 ⟨#[45]⟩=true from by unfold C6;simp);have Hv:=Z (show AY ⟨#[45]⟩=[]from by unfold AY;rw[if_pos rfl]);go_enter func145,ntmps145;go_wp2;refine Jz #[.slice none 0 0,.bool true] (by simp[results,results145,go_sem]) ⟨_,by rw[Hy.o],by rw[Hv.o];exact Ag.nil _ _ _ _,A6 _ _⟩
 have aK:=P7 hdash;rw[show(⟨#[45]⟩:ByteArray).toList=[45]from by rw[ByteArray.toList_eq]]at aK;have gn:decide (s=⟨#[45]⟩)=false:=by simpa using hdash
 have me:=Z (show C6 s=(AM s 44).all AX from by unfold C6;rw[gn,Bool.false_or]);have kH:=Z (show AY s=if(AM s 44).all AX then E9 s else[]from by unfold AY;rw[if_neg hdash]);clear hdash gn;have eU:=Below.qab w (.cells #[] 3);go_enter func145,ntmps145;go_wp2_with fail;refine(FD _ _ _ hs).mono ?_;rintro e w1 ⟨v1,rfl,own1,bel1⟩;have fd:=EY s 44;have aM:=CZ s 44;obtain⟨ps,hpe⟩:∃ps,ps=AM s 44:=⟨_,rfl⟩;have kh:=Z hpe;rw[←hpe]at own1 fd aM;have dd:=Z own1;have bB:CX w1 v1 ps:=(Cd CK).rd (own1.sl (fun _ _ _ _ h=>h) CK);have Hv:=Z bB;have fI:(w.alloc (.cells #[] 3)).heap.size≤w1.heap.size:=bel1.size;have cT:(w.alloc (.cells #[] 3)).heap.size=w.heap.size+1:=Jj;have bL:w.heap.size+1≤w1.heap.size:=J;have lL:=Z cT;have bX:=Z aM;have jK:=eU.qaa bel1 (A2 _);have cU:Ag 3 Ap (IV w.heap.size w1.heap.size w1.heap.size) w1 (.slice (some ⟨w.heap.size,0,none⟩) 0 0) []:=by
  have h:Ag 3 Ap (Iv w.heap.size (w.alloc (.cells #[] 3)).heap.size) w1 (.slice (some ⟨w.heap.size,0,none⟩) 0 0) []:=Ag.keep A8 (BK w 3 w.heap.size A8) bel1 (A2 _);refine(Ab A8).mono (fun b hb=>?_) h;have h2:=hb.1;have h3:=hb.2;exact⟨.inl J,J⟩
 have iI:=Z cU;have hB10:=jK.size;obtain⟨a,cap0,rfl,-⟩:=bB;clear hpe own1 aM cU aK cT;go_wp2;go_loopw [4,6,7,8,15] (fun v _ _ _ i wr=>∃k:Nat,k≤ps.length∧i=.int .i64 k∧(ps.take k).all AX=true∧Ag 3 Ap (IV w.heap.size w1.heap.size wr.heap.size) wr v ((ps.take k).map Be)∧Below w.heap.size w wr∧Jb (fun b=>w.heap.size<b∧b<w1.heap.size) w1 wr∧w1.heap.size≤wr.heap.size) (fun _ _ _ _ i _=>ps.length-(intOf i).toNat);exact⟨0,A7 _,rfl,rfl,iI.o,jK,fun _ _=>rfl,A2 _⟩;obtain⟨k,hk,rfl,aQ,aB,aA,cO,cn⟩:=hrel;obtain⟨wo,rfl⟩:∃wo:World,wo=wr:=⟨_,rfl⟩;have bD:=aA.size;have aT:=Z aQ;clear aQ;by_cases aF:k<ps.length
 ·obtain⟨q,hq⟩:∃q,ps[k]? =some q:=⟨_,A3 aF⟩;obtain⟨b,cpr,he,hb,-⟩:=dd.o.qac J;obtain⟨rfl,-⟩:a=some ⟨b,0,none⟩∧cap0=cpr:=by simpa using he
  obtain⟨u,aW,rfl,-⟩:=Sl.at Hv.o hq;have oM:w.heap.size<b∧b<w1.heap.size:=⟨by have:=hb.1;have:=lL.o;omega,hb.2⟩;rw[←World.cell?_of_block (a:=⟨b,0+k,none⟩) (cO b oM),Nat.zero_add]at aW;have gT:q.size≤1048576:=by have:=bX.o q (A4 hq);omega
  have aG:=Z (SP hq);have i7:=Z (LP AX hq);have Hq:=Z hq;have au:((ps.take k).map Be).length<1099511627776:=by simp;omega
  have dM:decide ((k:Int)<(ps.length:Int))=true:=by simp;omega
  obtain⟨p1,p2,p3,rfl⟩:=aB.shape;have aC:=Z aB;clear hq aB he;go_wp2_with fail;refine(SD _ _ gT).mono ?_;rintro e w2 ⟨rfl,b2⟩;have hs2:=b2.size;cases hy:AX q
  ·have jL:=Z (show(AM s 44).all AX=false from by rw[←kh.o,List.all_eq_false];exact⟨q,A4 Hq.o,by simp[hy]⟩);have Hy:=Z (show C6 s=false from by rw[me.o,jL.o]);have rB:=Z (show AY s=[]from by rw[kH.o,jL.o];rfl);have nY:=aA.trans (b2.mono bD);clear hy;go_wp2;refine Jz #[.slice none 0 0,.bool false] (by simp[results,results145,go_sem]) ⟨_,by rw[Hy.o],by rw[rB.o];exact Ag.nil _ _ _ _,nY⟩
  ·have Hy:=Z hy;have hI:=(Ey hy).2;have eY:=aA.trans (b2.mono bD);have HK:=Z ((Ab A8).same (Ac b2 (fun b (hb:IV w.heap.size w1.heap.size wo.heap.size b)=>hb.2)) aC.o);have HS:=Z (show ∀b,IV w.heap.size w1.heap.size wo.heap.size b→b<w2.heap.size from fun b h1=>by have:=h1.2;omega);have HS1:=Z (show ∀b,IV w.heap.size w1.heap.size wo.heap.size b→(b=w.heap.size∨w1.heap.size≤b)from fun b h1=>h1.1);have HN1:=Z (show ∀b,w2.heap.size<b→(b=w.heap.size∨w1.heap.size≤b)from fun b h1=>.inr J);clear hy;go_wp2_with (first|(at_builtin;(refine GM rfl _ _ 32 rfl A8 3 underlying32 Bg rfl Jq (IV w.heap.size w1.heap.size wo.heap.size) (fun _=>False) (fun b=>b=w.heap.size∨w1.heap.size≤b) _ _ _ _ rfl rfl (by exact HK.o) (by exact⟨rfl,hI⟩) (fun _ _ h=>h.elim) HS.o (fun _ h=>h.elim) HS1.o (fun _ h=>h.elim) HN1.o au ?_);intro v3 w3 bC honly3)|fail);have uX:∀b,(Value.slice p1 p2 p3).ownBlock=some b→IV w.heap.size w1.heap.size wo.heap.size b:=fun b hb=>Ag.qae HK.o b hb;have dg:Below w.heap.size w w3:=eY.trans (honly3.below J (fun b hb=>by rcases(uX b hb).1 with h|h<;>omega));have d7:Jb (fun b=>w.heap.size<b∧b<w1.heap.size) w1 w3:=fun b hb=>by
    rw[honly3.block b (by have:=hb.2;omega) (fun h=>by have:=hb.1;have:=hb.2;rcases(uX b h).1 with h|h<;>omega),b2.block b (by have:=hb.2;omega)];exact cO b hb
   have fF:w1.heap.size≤w3.heap.size:=by have:=honly3.size;omega
   have cG:=Z bC;clear bC;go_wp2;go_roundw;exact⟨k+1,J,by go_num,by rw[i7.o,aT.o,Hy.o];rfl,by rw[aG.o];exact cG.o,dg,d7,fF⟩;exact Jv
 ·have xe:(AM s 44).all AX=true:=by rw[←kh.o];have h:=aT.o;rwa[A9 J]at h
  have Hy:=Z (show C6 s=true from by rw[me.o,xe]);have rB:=Z (show AY s=E9 s from by rw[kH.o,xe];rfl);have mf:=Z (A13 xe);have oC:(E9 s).length≤2097152:=by unfold E9;rw[Ay,←kh.o];omega
  have aE:=aB;rw[A9 J,show ps.map Be=E9 s from by rw[kh.o];rfl]at aE;obtain⟨p1,p2,p3,rfl⟩:=aB.shape;have Hg:=Z aE.ints;have aU:=Z ((Ab A8).mono (S':=Iv w.heap.size wo.heap.size) (fun b hb=>⟨by rcases hb.1 with h|h<;>omega,hb.2⟩) aE);have dM:decide ((k:Int)<(ps.length:Int))=false:=by simp;omega
  clear aB aE xe;go_wp2_with fail;refine(Ce _ _ _ Hg.o oC).mono ?_;rintro e w2 ⟨rfl,b2⟩;rw[mf.o];have nY:=aA.trans (b2.mono bD);have iZ:=Z ((Ag.keep A8 aU.o b2 (A2 _)).grow A8 b2.size (A6 _ _));go_wp2;refine Jz #[.slice p1 p2 p3,.bool true] (by simp[results,results145,go_sem]) ⟨_,by rw[Hy.o],by rw[rB.o];exact iZ.o,nY⟩
