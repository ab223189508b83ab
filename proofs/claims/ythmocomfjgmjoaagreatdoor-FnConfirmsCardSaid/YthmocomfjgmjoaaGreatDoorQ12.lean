/- Base. -/
import Derived.Test.YthmocomfjgmjoaaGreatDoorQ06
import Derived.Test.YthmocomfjgmjoaaGreatDoorQ07
import Derived.Test.YthmocomfjgmjoaaGreatDoorQ04
import Derived.Test.YthmocomfjgmjoaaGreatDoorQ08
set_option maxHeartbeats 4000000
set_option maxRecDepth 100000
namespace Go.Proofs.YthmocomfjgmjoaaGreatDoor
def CC(r c:Nat)(m:List (List Int)):Prop:=m.length=r∧∀row∈m,row.length=c∧∀x∈row,-1≤x∧x≤1
theorem CC.row{r c y:Nat}{m:List (List Int)}(h:CC r c m)(hy:y<r):m[y]? =some (m.getD y [])∧(m.getD y []).length=c∧∀x∈m.getD y [],-1≤x∧x≤1:=by
 have hl:y<m.length:=by rw[h.1];exact hy
 have e:=BE [] hl;obtain⟨h1,h2⟩:=h.2 _ (List.mem_of_getElem? e);exact⟨e,h1,h2⟩
theorem CC.ext{r c:Nat}{a b:List (List Int)}(ha:CC r c a)(hb:CC r c b)(h:∀y x,y<r→x<c→Al a y x=Al b y x):a=b:=by
 apply List.ext_getElem?;intro y;by_cases hy:y<r
 ·obtain⟨h1,h2,-⟩:=ha.row hy;obtain⟨h3,h4,-⟩:=hb.row hy;rw[h1,h3]
  congr 1
  apply List.ext_getElem?;intro x;by_cases hx:x<c
  ·have:=h y x hy hx;unfold Al at this;rw[BE 0 (by omega),BE 0 (by omega),this]
  ·rw[List.getElem?_eq_none (by omega),List.getElem?_eq_none (by omega)]
 ·rw[List.getElem?_eq_none (by rw[ha.1];omega),List.getElem?_eq_none (by rw[hb.1];omega)]
theorem CC.head{r c:Nat}{m:List (List Int)}(h:CC r c m)(h1:1≤r):(m.headD []).length=c:=by
 cases m with
 |nil=>have:=h.1;simp at this;omega
 |cons a m=>exact(h.2 a (by simp)).1
theorem VZ{m:List (List Int)}{r c:Nat}(h:CC r c m)(h1:1≤r){i j:Nat}(hi:i<r)(hj:j<c):Al (tr m) j i=Al m i j:=by
 have e:(tr m)[j]? =some ((List.range r).map fun i=>Al m i j):=by
  unfold tr;rw[h.head h1,h.1];simp[hj,Al]
 unfold Al at e⊢;rw[AL e];exact AL (by simp[hi])
theorem CC.tr{r c:Nat}{m:List (List Int)}(h:CC r c m)(h1:1≤r):CC c r (tr m):=by
 unfold Go.Proofs.YthmocomfjgmjoaaGreatDoor.tr;rw[h.head h1,h.1];refine⟨by simp,fun row aG=>?_⟩;obtain⟨j,hj,rfl⟩:=List.mem_map.1 aG;refine⟨by simp,fun x hx=>?_⟩;obtain⟨i,hi,rfl⟩:=List.mem_map.1 hx;obtain⟨e,hl,hb⟩:=h.row (List.mem_range.1 hi);by_cases hjc:j<(m.getD i []).length
 ·exact hb _ (List.mem_of_getElem? (BE 0 hjc))
 ·rw[FX (by omega)];decide
def sl(R:List (List Int))(m:List (List Int))(y:Nat):Option (List Int):=Bh (R.getD y []) (m.getD y [])
def CU(R m:List (List Int)):Bool:=(List.range m.length).all fun y=>(sl R m y).isSome
def FW(R m:List (List Int))(k:Nat):List (List Int):=(List.range k).map fun y=>(sl R m y).getD []
def EF(R m:List (List Int)):List (List Int):=FW R m m.length
def UA(R m:List (List Int)):List (List Int):=if CU R m then EF R m else[]
theorem A3D{R m:List (List Int)}(h:CU R m=false):UA R m=[]:=by unfold UA;rw[h];rfl
theorem Pg{R m:List (List Int)}(h:CU R m=true):UA R m=EF R m:=by unfold UA;rw[h];rfl
def I9(R C m:List (List Int)):Option (List (List Int)):=
 if CU R m then(if CU C (tr (EF R m)) then some (tr (EF C (tr (EF R m)))) else none) else none
def ID(R C:List (List Int)):Nat→List (List Int)→Option (List (List Int))
 |0,m=>match I9 R C m with|none=>none|some n=>if n=m then some m else none
 |f+1,m=>match I9 R C m with|none=>none|some n=>if n=m then some m else ID R C f n
def Eu(r c:Nat):List (List Int):=List.replicate r (List.replicate c (-1))
def G9(R C:List (List Int)):Option (List (List Int)):=if Ba R C then ID R C (R.length*C.length) (Eu R.length C.length) else none
theorem Pq{rs st o:List Int}(h:Bh rs st=some o):o.length=st.length∧(∀x∈o,-1≤x∧x≤1)∧∀i,i<st.length→st.getD i 0≠-1→o.getD i 0=st.getD i 0:=by
 unfold Bh at h
 split at h
 ·rename_i aD
  obtain⟨h1,h2⟩:=KC (n:=st.length) (rs:=rs) (st:=st) _ (Nat.le_refl _) o h;refine⟨h1,h2,fun i hi aO=>?_⟩;have bE:-1≤st.getD i 0:=by
   unfold Il at aD;rw[Bool.and_eq_true] at aD;have:=List.all_eq_true.1 aD.2 (st.getD i 0) (List.mem_of_getElem? (BE 0 hi));rw[AT] at this;exact this.1
  have key:∀k,k≤(Bj rs st.length).length→∀o,C8 (Bj rs st.length) st k=some o→o.getD i 0=st.getD i 0:=by
   intro k;induction k with
   |zero=>intro _ o h;simp[C8] at h
   |succ k ih=>
    intro hk o h;have cO:(Bj rs st.length)[k]? =some (Bj rs st.length)[k]:=List.getElem?_eq_getElem (by omega);rw[Ij cO] at h;obtain⟨line,hl⟩:∃line,line=(Bj rs st.length)[k]:=⟨_,rfl⟩;rw[←hl] at h cO;have dX:line.length=st.length:=by
     have hm:=List.mem_of_getElem? cO;unfold Bj Ek at hm;have:=(List.mem_filter.1 hm).1;obtain⟨key,-,rfl⟩:=List.mem_map.1 this;exact F7 _ _
    unfold FL at h
    split at h
    ·rename_i ha
     have fr:Mg st line i=true:=by
      unfold Ju Fn at ha;exact List.all_eq_true.1 ha i (List.mem_range.2 (by omega))
     rw[NC (BE 0 hi) (BE 0 (by omega:i<line.length))] at fr;have hli:line.getD i 0=st.getD i 0:=by
      simp only[Bool.or_eq_true,decide_eq_true_eq,beq_iff_eq] at fr;omega
     cases hs:C8 (Bj rs st.length) st k with
     |none=>rw[hs] at h;simp at h;rw[←h];exact hli
     |some o'=>
      rw[hs] at h;simp at h;have hih:=ih (by omega) o' hs;have ho':=(KC (n:=st.length) (rs:=rs) (st:=st) k (by omega) o' hs).1;rw[←h];have e:(Fe o' line)[i]? =some (Fq (o'.getD i 0) (line.getD i 0)):=by
       unfold Fe;rw[List.getElem?_zipWith,BE 0 (by omega:i<o'.length),BE 0 (by omega:i<line.length)]
      rw[AL e,hih,hli];simp[Fq]
    ·exact ih (by omega) o h
  exact key _ (Nat.le_refl _) o h
 ·cases h
theorem U6{R m:List (List Int)}{k y:Nat}(hy:y<k):(FW R m k)[y]? =some ((sl R m y).getD []):=by
 unfold FW;simp[hy]
theorem Qm(R m:List (List Int))(k:Nat):FW R m (k+1)=FW R m k++[(sl R m k).getD []]:=by
 unfold FW;rw[List.range_succ,List.map_append];rfl
theorem Gn(R m:List (List Int))(k:Nat):(FW R m k).length=k:=by simp[FW]
theorem JJ{R m:List (List Int)}{r c:Nat}(hm:CC r c m)(h:CU R m=true):CC r c (EF R m)∧∀i j,i<r→j<c→Al m i j≠-1→Al (EF R m) i j=Al m i j:=by
 have hs:∀y,y<r→∃o,sl R m y=some o∧o.length=c∧(∀x∈o,-1≤x∧x≤1)∧∀i,i<c→(m.getD y []).getD i 0≠-1→o.getD i 0=(m.getD y []).getD i 0:=by
  intro y hy;unfold CU at h;have:=List.all_eq_true.1 h y (List.mem_range.2 (by rw[hm.1];exact hy));obtain⟨o,ho⟩:=Option.isSome_iff_exists.1 this;obtain⟨h1,h2,h3⟩:=Pq ho;obtain⟨-,hl,-⟩:=hm.row hy;rw[hl] at h1 h3;exact⟨o,ho,h1,h2,h3⟩
 constructor
 ·refine⟨by unfold EF;rw[Gn,hm.1],fun row aG=>?_⟩;unfold EF FW at aG;obtain⟨y,hy,rfl⟩:=List.mem_map.1 aG;obtain⟨o,ho,h1,h2,-⟩:=hs y (by have:=List.mem_range.1 hy;rw[hm.1] at this;exact this);rw[ho];exact⟨h1,h2⟩
 ·intro i j hi hj aO;obtain⟨o,ho,h1,h2,h3⟩:=hs i hi;unfold Al at aO⊢;have e:(EF R m)[i]? =some o:=by
   unfold EF;rw[U6 (by rw[hm.1];exact hi),ho];rfl
  rw[AL e];exact h3 j hj aO
theorem Pj{R C m n:List (List Int)}{r c:Nat}(h1:1≤r)(h2:1≤c)(hm:CC r c m)(h:I9 R C m=some n):CC r c n∧∀i j,i<r→j<c→Al m i j≠-1→Al n i j=Al m i j:=by
 unfold I9 at h
 split at h
 ·rename_i iN
  split at h
  ·rename_i fR
   injection h with h;subst h;obtain⟨a1,a2⟩:=JJ hm iN;have b1:=a1.tr h1;obtain⟨c1,c2⟩:=JJ b1 fR;refine⟨c1.tr h2,fun i j hi hj aO=>?_⟩;have e1:=a2 i j hi hj aO;have e2:=VZ a1 h1 hi hj;rw[VZ c1 h2 hj hi,c2 j i hj hi (by rw[e2,e1];exact aO),e2,e1]
  ·cases h
 ·cases h
def NK(l:List Int):Nat:=(l.filter fun x=>x==-1).length
def V6(m:List (List Int)):Nat:=(m.map NK).sum
theorem XK:∀(o st:List Int),o.length=st.length→(∀i,i<st.length→st.getD i 0≠-1→o.getD i 0=st.getD i 0)→NK o≤NK st∧(NK o=NK st→o=st)
 |[],[],_,_=>⟨Nat.le_refl _,fun _=>rfl⟩
 |[],_::_,h,_=>by simp at h
 |_::_,[],h,_=>by simp at h
 |a::o,b::st,h,hr=>by
  have ih:=XK o st (by simpa using h) (fun i hi aO=>by have:=hr (i+1) (by simpa using hi) (by simpa using aO);simpa using this);have h0:=hr 0 (by simp);simp at h0;have ea:NK (a::o)=(if a=-1 then 1 else 0)+NK o:=by unfold NK;by_cases ha:a=-1<;>simp[ha];omega
  have eb:NK (b::st)=(if b=-1 then 1 else 0)+NK st:=by unfold NK;by_cases hb:b=-1<;>simp[hb];omega
  rw[ea,eb];by_cases hb:b=-1
  ·rw[if_pos hb];refine⟨by split<;>omega,fun he=>?_⟩;by_cases ha:a=-1
   ·rw[if_pos ha] at he;rw[ha,hb,ih.2 (by omega)]
   ·rw[if_neg ha] at he;omega
  ·have gx:=h0 hb;subst gx;refine⟨by omega,fun he=>?_⟩;rw[ih.2 (by omega)]
theorem A1o:∀(n m:List (List Int)),n.length=m.length→(∀y,y<m.length→(n.getD y []).length=(m.getD y []).length∧∀i,i<(m.getD y []).length→(m.getD y []).getD i 0≠-1→(n.getD y []).getD i 0=(m.getD y []).getD i 0)→V6 n≤V6 m∧(V6 n=V6 m→n=m)
 |[],[],_,_=>⟨Nat.le_refl _,fun _=>rfl⟩
 |[],_::_,h,_=>by simp at h
 |_::_,[],h,_=>by simp at h
 |a::n,b::m,h,hr=>by
  have ih:=A1o n m (by simpa using h) (fun y hy=>by have:=hr (y+1) (by simpa using hy);simpa using this);have h0:=hr 0 (by simp);simp at h0;have aG:=XK a b h0.1 (fun i hi aO=>by have:=h0.2 i hi;simp at this aO;simpa using this aO);have ea:V6 (a::n)=NK a+V6 n:=by simp[V6]
  have eb:V6 (b::m)=NK b+V6 m:=by simp[V6]
  rw[ea,eb];exact⟨by omega,fun he=>by rw[aG.2 (by omega),ih.2 (by omega)]⟩
theorem ZT{R C m n:List (List Int)}{r c:Nat}(h1:1≤r)(h2:1≤c)(hm:CC r c m)(h:I9 R C m=some n)(aO:n≠m):V6 n<V6 m:=by
 obtain⟨hn,href⟩:=Pj h1 h2 hm h;have:=A1o n m (by rw[hn.1,hm.1]) (fun y hy=>by
  rw[hm.1] at hy;obtain⟨-,e1,-⟩:=hn.row hy;obtain⟨-,e2,-⟩:=hm.row hy;exact⟨by rw[e1,e2],fun i hi=>href y i hy (by omega)⟩)
 rcases Nat.lt_or_ge (V6 n) (V6 m) with h3|h3
 ·exact h3
 ·exact absurd (this.2 (by omega)) aO
theorem GK(r c:Nat):CC r c (Eu r c):=by
 refine⟨by simp[Eu],fun row aG=>?_⟩;have:=List.eq_of_mem_replicate aG;subst this;exact⟨by simp,fun x hx=>by have:=List.eq_of_mem_replicate hx;omega⟩
theorem Xi(r c:Nat):V6 (Eu r c)=r*c:=by
 have e:NK (List.replicate c (-1))=c:=by unfold NK;simp
 unfold V6 Eu;rw[List.map_replicate,e];simp
theorem A0f{R C:List (List Int)}{r c:Nat}(h1:1≤r)(h2:1≤c):∀(f:Nat)(m d:List (List Int)),CC r c m→ID R C f m=some d→CC r c d:=by
 intro f;induction f with
 |zero=>
  intro m d hm h;unfold ID at h
  split at h
  ·cases h
  ·split at h
   ·injection h with h;subst h;exact hm
   ·cases h
 |succ f ih=>
  intro m d hm h;unfold ID at h
  split at h
  ·cases h
  ·rename_i n hn
   split at h
   ·injection h with h;subst h;exact hm
   ·exact ih n d (Pj h1 h2 hm hn).1 h
end Go.Proofs.YthmocomfjgmjoaaGreatDoor
namespace Go.Proofs.YthmocomfjgmjoaaGreatDoor
open Go.RowKit
theorem Uc(v:Value)(m:List (List Int))(r c:Nat)(w:World)(hv:Ak w v m)(bA:CC r c m)(hr1:1≤r)(hr5:r≤5)(hc1:1≤c)(hc5:c≤5):Calls Tryz.prog 302 #[v] w (M7 32 (A4 3 A7) w (tr m)):=by
 have Hv:=Z hv;obtain⟨a,cap0,rfl,ak,cY,-,hc⟩:=hv;have bJ:m.length=r:=bA.1;have jQ:=Z bJ;have j3:=Z (bA.head hr1);obtain⟨bG,hrl0,-⟩:=bA.row (y:=0) (by omega);obtain⟨fX,hrow00⟩:∃fX,fX=m.getD 0 []:=⟨_,rfl⟩;rw[←hrow00] at bG hrl0;obtain⟨b,off,rfl,hb,bQ⟩:=hc (by omega);obtain⟨u0,hck0,eL⟩:=bQ 0 fX bG;obtain⟨a0,cp0,rfl,-⟩:=eL;rw[hrl0,Nat.add_zero] at hck0;rw[bJ] at ak cY⊢;have Hv:=Hv;rw[bJ] at Hv;clear hc bQ bG hrl0 bJ hrow00;go_enter Tryz.func302,Tryz.ntmps302;go_wp2_with (fail);refine(KI c r _ (by omega) (by omega)).mono ?_;rintro e w1 ⟨v1,rfl,aB,aA⟩;have cX:=aA.size;obtain⟨G,cap,rfl,hG,hcapG,hGs,-⟩:=aB.inv_ne (by simp[Bv];omega);have gM:(Bv c r).length=c:=by simp[Bv]
 rw[gM] at hcapG aB⊢;rw[←Pb m r c] at aB;have aC:=Z aB;clear aB gM;go_wp2;go_loopw [4,5,6,7,17] (fun _ _ _ _ i wr=>∃k:Nat,k≤r∧i=.int .i64 k∧A4 32 (A4 3 A7) (Iv w.heap.size w1.heap.size) wr (.slice (some ⟨G,0,none⟩) c cap) (Ib m r c k 0)∧Below w.heap.size w wr∧w1.heap.size≤wr.heap.size) (fun _ _ _ _ i _=>r-(intOf i).toNat)
 case atStart=>exact⟨0,Nat.zero_le _,rfl,aC.o,aA,Nat.le_refl _⟩
 case round=>
  clear aC aA;obtain⟨k,hk,rfl,aB,aA,aI⟩:=hrel;by_cases aH:k<r
  ·obtain⟨aG,aw,eG⟩:=bA.row aH;obtain⟨row,hrow00⟩:∃row,row=m.getD k []:=⟨_,rfl⟩;rw[←hrow00] at aG aw eG;obtain⟨u,aQ,hu⟩:=Sl.at Hv.o aG;have hu:Ab w u row:=hu;obtain⟨br,offr,cpr,rfl,dL,bB⟩:=hu.inv_ne (by omega);rw[←aA.cell (p:=⟨b,off+k,none⟩) hb] at aQ;rw[aw] at aQ hu;have aC:=Z aB;have da:=Z aG;have gJ:=Z aw;have Hu:=Z hu;clear aB aG aw hu hrow00;have oj:decide ((k:Int)<(r:Int))=true:=by simp;omega
   go_wp2;obtain⟨wo,hwo⟩:∃wo:World,wo=wr:=⟨_,rfl⟩;clear aQ;go_loopw [6,7,24] (fun _ _ i wr=>∃j:Nat,j≤c∧i=.int .i64 j∧A4 32 (A4 3 A7) (Iv w.heap.size w1.heap.size) wr (.slice (some ⟨G,0,none⟩) c cap) (Ib m r c k j)∧Below w.heap.size w wr∧w1.heap.size≤wr.heap.size) (fun _ _ i _=>c-(intOf i).toNat)
   case atStart=>exact⟨0,Nat.zero_le _,rfl,aC.o,aA,aI⟩
   case round=>
    clear aC aA aI hwo;obtain⟨j,hj,rfl,aB,aA,aI⟩:=hrel;by_cases hltj:j<c
    ·obtain⟨z,hz⟩:∃z,row[j]? =some z:=⟨_,List.getElem?_eq_getElem (by rw[gJ.o];exact hltj)⟩;have ii:=eG z (List.mem_of_getElem? hz);have mD:=Ab.at Hu.o hz;rw[←aA.cell (p:=⟨br,offr+j,none⟩) dL] at mD;have hq:=Ok (m:=m) (r:=r) (c:=c) (y:=k) hltj;obtain⟨q,cq,aM,-,hSq,hqG,di,hx,-,ap⟩:=AC aB hq (by simp;omega);have iR:((List.range r).map fun i=>if i<k∨(i=k∧j<j) then(m.getD i []).getD j 0 else 0).length=r:=by simp
     rw[iR] at aM di hx;obtain⟨⟨o,ke⟩,gN⟩:=hx k aH;have bN:=ap wr (fun _ _=>rfl) k z (by rw[iR];exact aH) (BV.small (by omega) (by omega));rw[R0 hltj aH da.o hz hq] at bN;have cJ:=Z bN;have cD:=hSq.1;clear aB hz hq hx ap iR bN;go_wp2;go_roundw
     case rel=>exact⟨j+1,by omega,by go_num,cJ.o,aA.setCell cD _,by rw[A9];exact aI⟩
     case measure=>simp[intOf];omega
    ·obtain rfl:j=c:=by omega
     rw[Pu] at aB;have aC:=Z aB;clear aB;go_wp2;go_roundw
     case rel=>exact⟨k+1,by omega,by go_num,aC.o,aA,aI⟩
     case measure=>simp[intOf];omega
  ·have aC:=Z aB;clear aB;go_wp2
   go_ret
   obtain rfl:k=r:=by omega
   refine⟨_,rfl,?_,aA⟩;rw[←T8 m k c jQ.o j3.o];exact(A3 (A3 A2)).mono (fun b hb=>⟨hb.1,Nat.lt_of_lt_of_le hb.2 aI⟩) aC.o
theorem UD(v v2:Value)(R m:List (List Int))(w:World)(hv:Ak w v R)(aW:Ak w v2 m)(hl:m.length≤R.length)(h5:m.length≤5):Calls Tryz.prog 301 #[v,v2] w fun e w'=>∃v',e=.returned (.tuple #[v',.bool (CU R m)])∧A4 32 (A4 3 A7) (Iv w.heap.size w'.heap.size) w' v' (UA R m)∧Below w.heap.size w w':=by
 have Hv:=Z hv;have aj:=Z aW;obtain⟨a,cap,rfl,-,cY,-⟩:=hv;obtain⟨a2,cap2,rfl,-,hle2,-⟩:=aW;go_enter Tryz.func301,Tryz.ntmps301;go_wp2;go_loopw [6,14] (fun v i wr=>∃k:Nat,k≤m.length∧i=.int .i64 k∧Hid (∀y,y<k→(sl R m y).isSome=true)∧A4 32 (A4 3 A7) (Iv w.heap.size wr.heap.size) wr v (FW R m k)∧Below w.heap.size w wr) (fun _ i _=>m.length-(intOf i).toNat)
 case atStart=>exact⟨0,Nat.zero_le _,rfl,fun y hy=>by omega,Bq _ _ _ (A3 A2),Below.pureAlloc _ _⟩
 case round=>
  obtain⟨k,hk,rfl,aY,aB,aA⟩:=hrel;obtain⟨wo,rfl⟩:∃wo:World,wo=wr:=⟨_,rfl⟩;have aV:=aA.size;by_cases aH:k<m.length
  ·have zr:k<R.length:=by omega
   obtain⟨b,off,cpr,he,hb,-⟩:=Hv.o.inv_ne (by omega);obtain⟨rfl,-⟩:a=some ⟨b,off,none⟩∧cap=cpr:=by simpa using he
   obtain⟨b2,off2,cpr2,dh,au,-⟩:=aj.o.inv_ne (by omega);obtain⟨rfl,-⟩:a2=some ⟨b2,off2,none⟩∧cap2=cpr2:=by simpa using dh
   obtain⟨u,aQ,hu⟩:=Sl.at Hv.o (BE [] zr);obtain⟨u2,eP,ec⟩:=Sl.at aj.o (BE [] aH);have hu:Ab w u (R.getD k []):=hu;have ec:Ab w u2 (m.getD k []):=ec;rw[←aA.cell (p:=⟨b,off+k,none⟩) hb] at aQ;rw[←aA.cell (p:=⟨b2,off2+k,none⟩) au] at eP;have Hu:=Z (hu.keep aA);have jv:=Z (ec.keep aA);obtain⟨p1,p2,rfl,-⟩:=hu;obtain⟨q1,q2,rfl,-⟩:=ec;obtain⟨x1,cM⟩:∃x,x=R.getD k []:=⟨_,rfl⟩;obtain⟨x2,hx2⟩:∃x,x=m.getD k []:=⟨_,rfl⟩;have ni:=Z (show sl R m k=Bh x1 x2 from by rw[cM,hx2];rfl);rw[←cM] at aQ Hu;rw[←hx2] at eP jv;have ah:(FW R m k).length<1099511627776:=by rw[Gn];omega
   have aJ:=Z (Qm R m k);have aC:=Z aB;clear aB he dh cM hx2;go_wp2_with (fail);refine(Wp _ _ _ _ _ Hu.o jv.o).mono ?_;rintro e w1 ⟨v1,rfl,o1,b1⟩;have cX:wo.heap.size≤w1.heap.size:=b1.size;obtain⟨r1,r2,r3,rfl⟩:=o1.shape;have fe:=Z o1;clear o1;cases hsol:(Bh x1 x2).isSome
   ·have Hf:=Z (show CU R m=false from by
     rw[←Bool.not_eq_true];intro h;unfold CU at h;have:=List.all_eq_true.1 h k (List.mem_range.2 aH);rw[ni.o,hsol] at this;cases this)
    have dU:=aA.trans_pure b1 (Nat.le_refl _);clear hsol;go_wp2;rw[Hf.o]
    go_ret2
    exact⟨_,rfl,by rw[A3D Hf.o];exact A4.nil _ _ _ _,dU⟩
   ·have eR:=Z hsol;clear hsol;go_wp2_with (first|(at_builtin;(refine Aa rfl _ _ 31 rfl (A3 A2) 32 Tryz.underlying31 Es rfl (by decide) w.heap.size wo.heap.size aV cX rfl rfl (by exact A4.keep (A3 A2) aC.o b1 (Nat.le_refl _)) (by exact fe.o) ah ?_);intro v2 w2 hown2 aT _)|fail);have au:=(aA.trans (b1.mono aV)).trans aT;have ae:=Z hown2;clear hown2;go_wp2;go_roundw
    case rel=>
     refine⟨k+1,by omega,by go_num,fun y hy=>?_,by rw[aJ.o,ni.o];exact ae.o,au⟩;by_cases iQ:y<k
     ·exact aY.o y iQ
     ·obtain rfl:y=k:=by omega
      rw[ni.o];exact eR.o
    case measure=>simp[intOf];omega
  ·have zu:k=m.length:=by omega
   have Hf:=Z (show CU R m=true from by
    unfold CU;rw[List.all_eq_true];intro y hy;exact aY.o y (by rw[zu];exact List.mem_range.1 hy))
   have Hv:=Z (show FW R m k=EF R m from by rw[zu];rfl);have aC:=Z aB;clear aB zu;go_wp2;rw[Hf.o]
   go_ret2
   exact⟨_,rfl,by rw[Pg Hf.o,←Hv.o];exact aC.o,aA⟩
theorem A39{m:List (List Int)}{y x:Nat}{v:Int}(hy:y<m.length)(i:Nat):(setC m y x v).getD i []=if i=y then(m.getD y []).set x v else m.getD i []:=by
 unfold setC;by_cases hi:i=y
 ·subst hi;rw[if_pos rfl,J1 hy]
 ·rw[if_neg hi,RH (by omega)]
theorem YE{m:List (List Int)}{r c y x:Nat}(h:CC r c m)(hy:y<r)(hx:x<c)(v:Int)(i j:Nat):Al (setC m y x v) i j=if i=y∧j=x then v else Al m i j:=by
 unfold Al;rw[A39 (by rw[h.1];exact hy)];obtain⟨-,hl,-⟩:=h.row hy;by_cases hi:i=y
 ·subst hi;rw[if_pos rfl];by_cases hj:j=x
  ·subst hj;rw[if_pos ⟨rfl,rfl⟩,J1 (by omega)]
  ·rw[if_neg (fun h=>hj h.2),RH (by omega)]
 ·rw[if_neg hi,if_neg (fun h=>hi h.1)]
theorem CC.setC{m:List (List Int)}{r c y x:Nat}(h:CC r c m)(hy:y<r){v:Int}(h0:-1≤v)(h1:v≤1):CC r c (setC m y x v):=by
 obtain⟨-,hl,hb⟩:=h.row hy;refine⟨by unfold Go.Proofs.YthmocomfjgmjoaaGreatDoor.setC;rw[List.length_set];exact h.1,fun row aG=>?_⟩;unfold Go.Proofs.YthmocomfjgmjoaaGreatDoor.setC at aG;rcases List.mem_or_eq_of_mem_set aG with h2|h2
 ·exact h.2 row h2
 ·subst h2;refine⟨by rw[List.length_set];exact hl,fun z hz=>?_⟩;rcases List.mem_or_eq_of_mem_set hz with h3|h3
  ·exact hb z h3
  ·subst h3;exact⟨h0,h1⟩
def Fx(r c y x:Nat)(g:List (List Int)):Prop:=CC r c g∧∀i j,i<r→j<c→Al g i j=if i<y∨(i=y∧j<x) then-1 else 0
theorem OY(r c:Nat):Fx r c 0 0 (Bv r c):=by
 refine⟨⟨by simp[Bv],fun row aG=>?_⟩,fun i j _ _=>by rw[Mo,if_neg (by omega)]⟩;have:=List.eq_of_mem_replicate aG;subst this;exact⟨by simp,fun x hx=>by have:=List.eq_of_mem_replicate hx;omega⟩
theorem Fx.step{r c y x:Nat}{g:List (List Int)}(h:Fx r c y x g)(hy:y<r)(hx:x<c):Fx r c y (x+1) (g.set y ((g.getD y []).set x (-1))):=by
 refine⟨h.1.setC hy (by decide) (by decide),fun i j hi hj=>?_⟩;have:=YE h.1 hy hx (-1) i j;unfold setC at this;rw[this,h.2 i j hi hj];by_cases he:i=y∧j=x
 ·rw[if_pos he,if_pos (by omega)]
 ·rw[if_neg he];by_cases h1:i<y∨(i=y∧j<x)
  ·rw[if_pos h1,if_pos (by omega)]
  ·rw[if_neg h1,if_neg (by omega)]
theorem Fx.next{r c y:Nat}{g:List (List Int)}(h:Fx r c y c g):Fx r c (y+1) 0 g:=by
 refine⟨h.1,fun i j hi hj=>?_⟩;rw[h.2 i j hi hj];by_cases h1:i<y∨(i=y∧j<c)
 ·rw[if_pos h1,if_pos (by omega)]
 ·rw[if_neg h1,if_neg (by omega)]
theorem Fx.done{r c:Nat}{g:List (List Int)}(h:Fx r c r 0 g):g=Eu r c:=by
 refine h.1.ext (GK r c) fun i j hi hj=>?_;rw[h.2 i j hi hj,if_pos (.inl hi)];unfold Al Eu;rw[AL (l:=List.replicate r _) (x:=List.replicate c (-1)) (by rw[List.getElem?_replicate,if_pos hi])];exact(AL (by rw[List.getElem?_replicate,if_pos hj])).symm
theorem R7{R C m n:List (List Int)}{r c k:Nat}(h1:1≤r)(h2:1≤c)(hm:CC r c m)(hk:V6 m≤k)(hs:I9 R C m=some n)(aO:n≠m):∃k',k'<k∧V6 n≤k'∧ID R C k m=ID R C k' n∧CC r c n:=by
 have hl:=ZT h1 h2 hm hs aO;cases k with
 |zero=>omega
 |succ k=>
  refine⟨k,Nat.lt_succ_self _,by omega,?_,(Pj h1 h2 hm hs).1⟩;rw[ID,hs];simp only;rw[if_neg aO]
theorem SW{R C m:List (List Int)}{k:Nat}(hs:I9 R C m=some m):ID R C k m=some m:=by
 cases k<;>(rw[ID,hs];simp)
theorem KF{R C m:List (List Int)}{k:Nat}(hs:I9 R C m=none):ID R C k m=none:=by
 cases k<;>rw[ID,hs]
theorem Um{R C m:List (List Int)}(h:CU R m=false):I9 R C m=none:=by unfold I9;rw[h];rfl
theorem U7{R C m:List (List Int)}(h:CU R m=true)(h2:CU C (tr (EF R m))=false):I9 R C m=none:=by unfold I9;rw[h,h2];rfl
theorem UZ{R C m:List (List Int)}(h:CU R m=true)(h2:CU C (tr (EF R m))=true):I9 R C m=some (tr (EF C (tr (EF R m)))):=by unfold I9;rw[h,h2];rfl
theorem JT{R C:List (List Int)}(h:Ba R C=false):G9 R C=none:=by unfold G9;rw[h];rfl
theorem N8{R C:List (List Int)}(h:Ba R C=true):G9 R C=ID R C (R.length*C.length) (Eu R.length C.length):=by unfold G9;rw[h];rfl
theorem FO{R C:List (List Int)}(h:Ba R C=true):1≤R.length∧R.length≤5∧1≤C.length∧C.length≤5:=by
 unfold Ba at h;simp only[Bool.and_eq_true,AT] at h;omega
theorem A4P{α:Type}{D:Option α}(h:D=none):D.isSome=false:=by rw[h];rfl
theorem A3R(a b:Value)(R C:List (List Int))(w:World)(h1:Ak w a R)(h2:Ak w b C):
  Calls Tryz.prog 269 #[.agg #[a,b]] w fun e w'=>∃v',e=.returned (.tuple #[v',.bool (G9 R C).isSome])∧A4 32 (A4 3 A7) (Iv w.heap.size w'.heap.size) w' v' ((G9 R C).getD [])∧Below w.heap.size w w':=by
 obtain⟨aa,ca,rfl,-⟩:=id h1;obtain⟨ab,cb,rfl,-⟩:=id h2;obtain⟨D,hD⟩:∃D,D=G9 R C:=⟨_,rfl⟩;rw[←hD];obtain⟨W1,hW1⟩:∃W1,W1=w.alloc (.cells #[.slice aa R.length ca,.slice ab C.length cb] 85):=⟨_,rfl⟩;have dg:Below w.heap.size w W1:=by rw[hW1];exact Below.pureAlloc _ _
 have jM:W1.heap.size=w.heap.size+1:=by rw[hW1];simp
 have kB:Aw W1 w.heap.size #[.slice aa R.length ca,.slice ab C.length cb] 85:=by rw[hW1];exact Aw.new _ _ _
 have G1:=Z (h1.keep dg);have G2:=Z (h2.keep dg);have cj:=Z dg;have iZ:=Z kB;have ey:=Z jM;clear h1 h2 dg jM kB;cases aD:Ba R C
 ·have Hn:=Z (A4P (hD.trans (JT aD)));have mb:=Z (show D.getD []=[] from by rw[hD,JT aD];rfl);have aS:=Z aD;clear aD hD;go_enter Tryz.func269,Tryz.ntmps269;subst hW1;go_wp2_with (fail);refine(L2 _ _ _ _ _ G1.o G2.o).mono ?_;rintro e w2 ⟨rfl,dc⟩;have b2:=cj.o.trans_pure (show Below _ _ w2 from by rw[dc];exact Below.pureAlloc _ _) (Nat.le_refl _);rw[aS.o];clear dc;go_wp2;rw[Hn.o,mb.o]
  go_ret2
  exact⟨_,rfl,A4.nil _ _ _ _,b2⟩
 have HD:=Z (hD.trans (N8 aD));obtain⟨hr1,hr5,hc1,hc5⟩:=FO aD;have aS:=Z aD;clear aD hD;go_enter Tryz.func269,Tryz.ntmps269;subst hW1;go_wp2_with (fail);refine(L2 _ _ _ _ _ G1.o G2.o).mono ?_;rintro e w2 ⟨rfl,dc⟩;have b2:Below (w.alloc (.cells #[.slice aa R.length ca,.slice ab C.length cb] 85)).heap.size (w.alloc (.cells #[.slice aa R.length ca,.slice ab C.length cb] 85)) w2:=by rw[dc];exact Below.pureAlloc _ _
 rw[aS.o];clear dc;have fH:=Z (cj.o.trans_pure b2 (Nat.le_refl _));have fj:=Z (iZ.o.keep b2);have x6:=Z (G1.o.keep b2);have ng:=Z (G2.o.keep b2);have mL:w.heap.size<w2.heap.size:=by have:=b2.size;rw[ey.o] at this;omega
 clear G1 G2 cj iZ ey b2;have k0:w2.cell? ⟨w.heap.size,0,none⟩=some (.slice aa R.length ca):=fj.o.cell 0;have k1:w2.cell? ⟨w.heap.size,1,none⟩=some (.slice ab C.length cb):=fj.o.cell 1;go_wp2_with (fail);refine(KI R.length C.length _ (by omega) (by omega)).mono ?_;rintro e w3 ⟨v3,rfl,o3,b3⟩;obtain⟨G,cap,rfl,hG,hcapG,hGs,-⟩:=o3.inv_ne (by simp[Bv];omega);have gM:(Bv R.length C.length).length=R.length:=by simp[Bv]
 rw[gM] at o3 hcapG⊢;have cn:=Z o3;have bM:=Z b3;have s3:w2.heap.size≤w3.heap.size:=b3.size;clear o3 b3 gM k0 k1;go_wp2;go_loopw [24] (fun i wr=>∃(k:Nat)(g:List (List Int)),k≤R.length∧i=.int .i64 k∧Hid (Fx R.length C.length k 0 g)∧A4 32 (A4 3 A7) (Iv w2.heap.size w3.heap.size) wr (.slice (some ⟨G,0,none⟩) R.length cap) g∧Below w2.heap.size w2 wr∧w3.heap.size≤wr.heap.size) (fun i _=>R.length-(intOf i).toNat)
 case atStart=>exact⟨0,_,Nat.zero_le _,rfl,OY _ _,cn.o,bM.o,Nat.le_refl _⟩
 case round=>
  clear cn bM;obtain⟨k,g,hk,rfl,Hg,aB,aA,aI⟩:=hrel;obtain⟨wo,rfl⟩:∃wo:World,wo=wr:=⟨_,rfl⟩;by_cases aH:k<R.length
  ·obtain⟨aG,aw,-⟩:=Hg.o.1.row aH;obtain⟨q,cq,aM,-,hSq,hqG,di,hx,-,ap⟩:=AC aB aG (by omega);rw[aw] at aM;have aC:=Z aB;have dW:decide ((k:Int)<(R.length:Int))=true:=by simp;omega
   have bI:=Z aA;clear aB aG hx ap aA;go_wp2;clear aM;go_loopw [32] (fun i wr=>∃(j:Nat)(g:List (List Int)),j≤C.length∧i=.int .i64 j∧Hid (Fx R.length C.length k j g)∧A4 32 (A4 3 A7) (Iv w2.heap.size w3.heap.size) wr (.slice (some ⟨G,0,none⟩) R.length cap) g∧Below w2.heap.size w2 wr∧w3.heap.size≤wr.heap.size) (fun i _=>C.length-(intOf i).toNat)
   case atStart=>exact⟨0,g,Nat.zero_le _,rfl,Hg,aC.o,bI.o,aI⟩
   case round=>
    clear aC bI aI aw Hg;obtain⟨j,g',hj,rfl,Hg,aB,aA,aI⟩:=hrel;obtain⟨wi,rfl⟩:∃wi:World,wi=wr:=⟨_,rfl⟩;by_cases hltj:j<C.length
    ·obtain⟨aG,aw,-⟩:=Hg.o.1.row aH;obtain⟨q,cq,aM,-,hSq,hqG,di,hx,-,ap⟩:=AC aB aG (by omega);obtain⟨⟨o,ke⟩,gN⟩:=hx j (by omega);have cJ:=Z (ap wi (fun _ _=>rfl) j (-1) (by omega) (BV.small (by decide) (by decide)));have gG:=Z (Hg.o.step aH hltj);have bj:=Z (aA.setCell (p:=⟨q,j,none⟩) hSq.1 (.int .i64 (-1)));rw[aw] at aM;have zv:decide ((j:Int)<(C.length:Int))=true:=by simp;omega
     clear aB aG aw hx ap aA di;go_wp2;go_roundw
     case rel=>exact⟨j+1,_,by omega,by go_num,gG,cJ.o,bj.o,by rw[A9];exact aI⟩
     case measure=>simp[intOf];omega
    ·have zv:decide ((j:Int)<(C.length:Int))=false:=by simp;omega
     have rP:j=C.length:=by omega
     have gG:=Z (show Fx R.length C.length (k+1) 0 g' from by have:=Hg.o;rw[rP] at this;exact this.next);have aC:=Z aB;clear aB rP;go_wp2;go_roundw
     case rel=>exact⟨k+1,g',by omega,by go_num,gG,aC.o,aA,aI⟩
     case measure=>simp[intOf];omega
  ·have lh:k=R.length:=by omega
   have hg:g=Eu R.length C.length:=by have:=Hg.o;rw[lh] at this;exact this.done
   have aC:=Z (show A4 32 (A4 3 A7) (Iv w2.heap.size wo.heap.size) wo (.slice (some ⟨G,0,none⟩) R.length cap) (Eu R.length C.length) from by
    rw[←hg];exact(A3 (A3 A2)).mono (fun b hb=>⟨hb.1,Nat.lt_of_lt_of_le hb.2 aI⟩) aB)
   have bI:=Z aA;have dW:decide ((k:Int)<(R.length:Int))=false:=by simp;omega
   clear aB aA hg Hg lh;go_wp2
   go_loopg [4] (R.length*C.length) (fun gk s4 wr=>∃m:List (List Int),Hid (CC R.length C.length m)∧Hid (V6 m≤gk)∧Hid (D=ID R C gk m)∧A4 32 (A4 3 A7) (Iv w2.heap.size wr.heap.size) wr s4 m∧Below w2.heap.size w2 wr)
   case atStart=>exact⟨_,GK _ _,Nat.le_of_eq (Xi _ _),HD.o,aC.o,bI.o⟩
   case round=>
    clear aC bI HD;obtain⟨m,Hm,Hu,HD,aB,aA⟩:=hrel;obtain⟨wi,rfl⟩:∃wi:World,wi=wr:=⟨_,rfl⟩;have bJ:m.length≤R.length:=Nat.le_of_eq Hm.o.1;have zw:R.length≤m.length:=Nat.le_of_eq Hm.o.1.symm;have rQ:m.length≤5:=by omega
    obtain⟨g4,cap4,rfl,-⟩:=aB.inv_ne (by omega);have aC:=Z aB;have bI:=Z aA;have iZ:=Z (fj.o.keep aA);have hsi:w2.heap.size≤wi.heap.size:=aA.size;have k0:wi.cell? ⟨w.heap.size,0,none⟩=some (.slice aa R.length ca):=iZ.o.cell 0;clear aB aA;go_wp2_with (fail);refine(UD _ _ R m _ (x6.o.keep bI.o) aC.o.grid bJ rQ).mono ?_;rintro e w4 ⟨v4,rfl,o4,b4⟩;obtain⟨p1,p2,p3,rfl⟩:=o4.shape;have eV:=Z b4;have ln:wi.heap.size≤w4.heap.size:=b4.size;have uZ:=Z (iZ.o.keep b4);have fc:=Z o4;have mu:=Z (bI.o.trans_pure b4 (Nat.le_refl _));clear o4 b4 k0;cases hp:CU R m
    ·have Hn:=Z (show D=none from by rw[HD.o];exact KF (Um hp));have bf:=fH.o.trans_pure mu.o (Nat.le_refl _);clear hp;go_wp2;rw[Hn.o]
     go_ret2
     exact⟨_,rfl,A4.nil _ _ _ _,bf⟩
    obtain⟨A,hA⟩:∃A,A=EF R m:=⟨_,rfl⟩;have ou:=(JJ Hm.o hp).1;have fm:=fc.o;rw[Pg hp,←hA] at fm;rw[←hA] at ou;have fc:=Z fm;have rR:=Z ou;have Hp:=Z hp;have HA:=Z hA;have HtA:=Z (ou.tr (by omega));have hAt:(tr A).length=C.length:=HtA.o.1;have be:A.length=R.length:=ou.1;obtain⟨g5,cap5,he5,-⟩:=fm.inv_ne (by omega);have fU:w4.cell? ⟨w.heap.size,1,none⟩=some (.slice ab C.length cb):=uZ.o.cell 1;have pi:(tr A).length≤C.length:=Nat.le_of_eq hAt;have ht5:(tr A).length≤5:=by omega
    clear fm ou hA he5 hAt be
    go_upto_region 16 with(fail)
    go_cut [9,10] (fun s9 s10 wx=>∃v9,s9=v9∧s10=.bool (CU C (tr A))∧Hid (A4 32 (A4 3 A7) (Iv w4.heap.size wx.heap.size) wx v9 (UA C (tr A)))∧Hid (Below w4.heap.size w4 wx))
    case first=>
     go_region_with (first|(go_at_call 302;refine(Uc _ A R.length C.length _ (by exact fc.o.grid) rR.o (by omega) hr5 (by omega) hc5).mono ?_;rintro e w5 ⟨v5,rfl,o5,b5⟩;obtain⟨r1,r2,r3,rfl⟩:=o5.shape;have B5:Below w4.heap.size w4 w5:=⟨b5.os,b5.tape,b5.output,b5.size,b5.block⟩;have hk5:=(uZ.o.keep B5).cell 1;have HG5:=Z ((ng.o.keep mu.o).keep B5))|(go_at_call 301;refine(UD _ _ C (tr A) _ (by exact HG5.o) (by exact o5.grid) pi ht5).mono ?_;rintro e w6 ⟨v6,rfl,o6,b6⟩;obtain⟨q1,q2,q3,rfl⟩:=o6.shape))
     all_goals go_wp2_with (fail)
     all_goals go_meet
     all_goals
      refine⟨_,rfl,rfl,?_,?_⟩
      ·have e5:=B5.size;exact(A3 (A3 A2)).mono (fun b hb=>⟨Nat.le_trans e5 hb.1,hb.2⟩) o6
      ·exact B5.trans_pure ⟨b6.os,b6.tape,b6.output,b6.size,b6.block⟩ (Nat.le_refl _)
    case rest=>
     obtain⟨v9,rfl,rfl,sM,Hb9⟩:=hcut;have oT:w4.heap.size≤wc.heap.size:=Hb9.o.size;have pj:=Z (mu.o.trans_pure Hb9.o (Nat.le_refl _));cases jN:CU C (tr A)
     ·have Hn:=Z (show D=none from by rw[HD.o];exact KF (U7 Hp.o (by rw[←HA.o];exact jN)));have bf:=fH.o.trans_pure pj.o (Nat.le_refl _);clear jN;go_wp2;rw[Hn.o]
      go_ret2
      exact⟨_,rfl,A4.nil _ _ _ _,bf⟩
     obtain⟨B,hB⟩:∃B,B=EF C (tr A):=⟨_,rfl⟩;have u5:=(JJ HtA.o jN).1;have x7:=sM.o;rw[Pg jN,←hB] at x7;rw[←hB] at u5;have Hs:=Z (show I9 R C m=some (tr B) from by rw[hB,HA.o];exact UZ Hp.o (by rw[←HA.o];exact jN));have HBr:=Z u5;have HG9:=Z x7.grid;obtain⟨g9,cap9,rfl,-⟩:=x7.inv_ne (by have:=u5.1;omega);have ud:=Z (A4.keep (A3 A2) (A4.keep (A3 A2) aC.o eV.o (Nat.le_refl _)) Hb9.o ln);clear jN hB u5 x7 sM;go_wp2_with (fail);refine(Uc _ B C.length R.length _ HG9.o HBr.o (by omega) hc5 (by omega) hr5).mono ?_;rintro e w10 ⟨yW,rfl,o10,b10⟩;have htB:(tr B).length=R.length:=(HBr.o.tr (by omega)).1;obtain⟨g10,cap10,rfl,-⟩:=o10.inv_ne (by omega);have rS:=Z (pj.o.trans_pure b10 (Nat.le_refl _));have mw:=Z (A4.keep (A3 A2) ud.o b10 (Nat.le_trans ln oT));have hs10:wc.heap.size≤w10.heap.size:=b10.size;have ue:=Z o10;have HtB:=Z htB;clear o10 b10 htB;go_wp2_with (fail);refine(MI _ _ (tr B) m _ ue.o.grid mw.o.grid).mono ?_;rintro e w11 ⟨rfl,b11⟩;have uf:w10.heap.size≤w11.heap.size:=b11.size;have g7:=Z (rS.o.trans_pure b11 (Nat.le_refl _));by_cases he:tr B=m
     ·have Hn:=Z (show D=some m from by rw[HD.o];exact SW (by rw[Hs.o,he]));have jA:=Z (A4.keep (A3 A2) mw.o b11 (by omega));rw[decide_eq_true he];have bf:=fH.o.trans_pure g7.o (Nat.le_refl _);clear he b11;go_wp2;rw[Hn.o]
      go_ret2
      exact⟨_,rfl,(A3 (A3 A2)).mono (fun b hb=>⟨by have:=hb.1;omega,by have:=hb.2;omega⟩) jA.o,bf⟩
     ·obtain⟨k',kS,hu',hd',ht'⟩:=R7 (by omega) (by omega) Hm.o Hu.o Hs.o he;have zx:=Z hu';have zy:=Z (HD.o.trans hd');have zz:=Z ht';have Ho11:=Z (A4.keep (A3 A2) ue.o b11 (Nat.le_refl _));rw[decide_eq_false he];clear he hd' hu' ht' b11;go_wp2
      go_roundg k'
      case measure=>exact kS
      case rel=>exact⟨tr B,zz,zx,zy,(A3 (A3 A2)).mono (fun b hb=>⟨by have:=hb.1;omega,by have:=hb.2;omega⟩) Ho11.o,g7.o⟩
theorem CC.bd{r c:Nat}{g:List (List Int)}(h:CC r c g){y x:Nat}(hy:y<r)(hx:x<c):-1≤Al g y x∧Al g y x≤1:=by
 obtain⟨-,h2,h3⟩:=h.row hy;exact h3 _ (List.mem_of_getElem? (BE 0 (l:=g.getD y []) (i:=x) (by omega)))
theorem Ac.trectM{r c:Nat}{g:List (List Int)}(h:Ac r c g):CC r c g:=⟨h.1,fun row hr=>⟨(h.2 row hr).1,fun x hx=>by have:=(h.2 row hr).2 x hx;omega⟩⟩
def Vu(w:World)(b off r c:Nat)(m:List (List Int)):Prop:=∀y,y<r→∃br offr cpr,(∀w',Below w.heap.size w w'→w'.cell? ⟨b,off+y,none⟩=some (.slice (some ⟨br,offr,none⟩) c cpr))∧∀x,x<c→∀w',Below w.heap.size w w'→w'.cell? ⟨br,offr+x,none⟩=some (.int .i64 (Al m y x))
theorem Ak.rowsT{w:World}{v:Value}{m:List (List Int)}{r c:Nat}(h:Ak w v m)(hs:CC r c m)(hr:1≤r)(hc:1≤c):∃b off cp,v=.slice (some ⟨b,off,none⟩) r cp∧b<w.heap.size∧Vu w b off r c m:=by
 have bJ:=hs.1;obtain⟨b,off,cp,rfl,hb,-⟩:=h.inv_ne (by omega);refine⟨b,off,cp,by rw[bJ],hb,fun y hy=>?_⟩;obtain⟨aG,aw,-⟩:=hs.row hy;obtain⟨u,aQ,hu⟩:=Sl.at h aG;have hu:Ab w u (m.getD y []):=hu;obtain⟨br,offr,cpr,rfl,dL,-⟩:=hu.inv_ne (by omega);refine⟨br,offr,cpr,fun w' hw=>by rw[hw.cell (p:=⟨b,off+y,none⟩) hb,aQ,aw],fun x hx w' hw=>?_⟩;obtain⟨z,hz⟩:∃z,(m.getD y [])[x]? =some z:=⟨_,List.getElem?_eq_getElem (by omega)⟩;rw[hw.cell (p:=⟨br,offr+x,none⟩) dL,Ab.at hu hz];unfold Al;rw[List.getD_eq_getElem?_getD (l:=m.getD y []),hz];rfl
theorem Vu.keep{w w2:World}{b off r c:Nat}{m:List (List Int)}(h:Vu w b off r c m)(hb:Below w.heap.size w w2):Vu w2 b off r c m:=fun y hy=>by
 obtain⟨br,offr,cpr,h1,h2⟩:=h y hy;exact⟨br,offr,cpr,fun w' hw=>h1 w' (hb.trans_pure hw (Nat.le_refl _)),fun x hx w' hw=>h2 x hx w' (hb.trans_pure hw (Nat.le_refl _))⟩
