/- Base. -/
import Derived.Test.YthmocomfjgmjoaaGreatDoorKRe
namespace Go.Proofs.YthmocomfjgmjoaaGreatDoor
open Go.RowKit
theorem A1V{xs ys:List Int}{r c:Nat}:∀(n:Nat){g h:List (List Int)},CY xs ys r c g→CY xs ys r c h→BG r c g h≤n→∃p,CK r c g p h∧p.length≤n:=by
 intro n;induction n with
 |zero=>intro g h hg hh hd;rw[SM hg.1 hh.1 hd];exact⟨[],rfl,Nat.le_refl _⟩
 |succ n ih=>
  intro g h hg hh hd;by_cases aO:g=h
  ·rw[aO];exact⟨[],rfl,Nat.zero_le _⟩
  rcases RS hg hh aO with⟨s,hs,aH⟩|⟨s,hs,aH⟩
  ·obtain⟨p,h1,h2⟩:=ih (DI hg hs) hh (by omega);exact⟨s::p,⟨hs,h1⟩,by rw[List.length_cons];omega⟩
  ·obtain⟨p,h1,h2⟩:=ih hg (DI hh hs) (by omega);exact⟨p++[s],Ds.2 ⟨_,h1,Iu hh.1 hs,FU hh.1 hs⟩,by rw[List.length_append,List.length_singleton];omega⟩
theorem A1I{p q:List Sw}(h:sle p q):p.length≤q.length:=by
 rcases h with rfl|h|⟨h,-⟩
 ·exact Nat.le_refl _
 ·omega
 ·omega
theorem A1Q(m t:List (List Int)):(Jw m t).size≤4000:=by
 unfold Jw
 split
 ·rename_i hx
  have h:=Classical.choose_spec hx;obtain⟨T,hT⟩:∃T,T=Classical.choose hx:=⟨_,rfl⟩;rw[←hT] at h⊢;cases hp:I6 m t
  ·rw[h.2 hp];decide
  ·obtain⟨W,hW,rfl⟩:=h.1 hp;obtain⟨-,r,c,ha,hr4,hc4⟩:=LE hp;rw[ha.l1,ha.l2] at hW;have s1:=Dq ha.hs ha.hr1 ha.hr5 ha.hc1 ha.hc5;have s2:=Dq ha.hs2 ha.hr1 ha.hr5 ha.hc1 ha.hc5;rw[←ha.e1,←ha.e2] at s2;have hd:=(Ga c m t r).2;have h16:r*c≤4*4:=Nat.mul_le_mul hr4 hc4;obtain⟨q,hq,iR⟩:=A1V 16 s1 s2 (by omega);have hl:=A1I (hW.2 q hq);have:=Im (W:=W) (by omega) (Kz ha.hr5 ha.hc5 hW.1) W.length;omega
 ·decide
theorem IE(t:ByteArray):(Bz t).size≤t.size+4:=by
 unfold Bz
 split
 ·have:BZ.size=4:=rfl;omega
 ·omega
theorem U3(m:List (List Int)):(BU m).size≤4000:=by
 unfold BU
 split
 ·rename_i h
  obtain⟨r,c,h1,h2,h3,h4,hs⟩:=Ad h;rw[hs.1,hs.head h1];obtain⟨a,b,d,e,-⟩:=Ki hs h1 h2 h3 h4;have e1:(⟨#[32,114,111,119,115,32]⟩:ByteArray).size=6:=rfl;have e2:(⟨#[32,99,111,108,115,32]⟩:ByteArray).size=6:=rfl;have e3:(⟨#[32,117,110,105,113,117,101]⟩:ByteArray).size=7:=rfl;have e4:(⟨#[32,102,114,101,101,32]⟩:ByteArray).size=6:=rfl;unfold Ct
  split<;>simp only[Au,e1,e2,e3,e4]<;>omega
 ·decide
theorem Vb(xs ys:List Int):(DE xs ys).size≤30:=Nat.le_trans (DP _ _) (Jq xs ys).bulk
theorem XV{L:List (List (List Int))}(h:L.length≤1073741824):(BK ⟨#[59]⟩ (BW L)).size≤1099511627776:=Nat.le_trans (DP _ _) (IL h)
theorem ZR(m:List (List Int)):Ea ((D7 m).getD []):=by
 unfold D7
 split
 ·rename_i h
  obtain⟨r,c,h1,h2,h3,h4,hs⟩:=Ad h;rw[hs.1,hs.head h1];intro x hx;have:=(MP hs h1 h2 h3 h4).1.2 x hx;have h5:r*c≤5*5:=Nat.mul_le_mul h2 h4;exact BV.small (by omega) (by omega)
 ·intro x hx;simp at hx
theorem Q3(m:List (List Int)):Ea (A6 m):=by
 cases hm:Af m
 ·intro x hx;unfold A6 at hx;rw[hm] at hx;simp at hx
 ·obtain⟨r,c,h1,h2,h3,h4,hs⟩:=Ad hm;exact(Nk hs h1 h2 h3 h4).1
theorem A0Q(xs ys:List Int):(Fr xs ys).size≤1000:=by
 unfold Fr
 split
 ·have e2:(⟨#[32]⟩:ByteArray).size=1:=rfl;have a:=Cg (Q3 (Gg xs ys (BD xs ys)));have b:=Cg (Q3 (HJ (Gg xs ys (BD xs ys))));have l1:=Fm (Gg xs ys (BD xs ys));have l2:=Fm (HJ (Gg xs ys (BD xs ys)));show(Aj (A6 (Gg xs ys (BD xs ys)))++_++Aj (A6 (HJ (Gg xs ys (BD xs ys))))).size≤1000;simp only[Au,e2];omega
 ·decide
theorem ZS{m:List (List Int)}{r c:Nat}{dx dy:Int}(hm:Ac r c m)(hd:0≤dx∧dx≤3∧-3≤dy∧dy≤3)(hc5:c≤5)(k:Nat):∀(l:List Int)(b:Int),k≤r→l.length=(Qf r c dx dy).toNat→Lh b l→Lh (b+5*k) (E6 m r c dx dy k l):=by
 induction k with
 |zero=>intro l b _ _ h;simpa[E6] using h
 |succ k ih=>
  intro l b hk hl h;rw[E6];obtain⟨h3,h4⟩:=ZO hm hd (y:=r-(k+1)) (by omega) c l b (Nat.le_refl _) hl h;have h5:=ih _ (b+c) (by omega) (by rw[h4];exact hl) h3;intro v hv;have:=h5 v hv;omega
theorem WJ(m:List (List Int))(dx dy:Int):Ea (BA m dx dy):=by
 unfold BA
 split
 ·rename_i h
  obtain⟨r,c,h1,h2,h3,h4,hs⟩:=Ad h.1;rw[hs.1,hs.head h1];have hu:=ZS hs (FF h.2) h4 r (List.replicate (Qf r c dx dy).toNat 0) 0 (Nat.le_refl _) (List.length_replicate ..) (fun v hv=>by rw[List.eq_of_mem_replicate hv];omega);intro x hx;have:=hu x hx;exact BV.small (by omega) (by omega)
 ·intro x hx;cases hx
theorem Qs(R C:List (List Int)):(Bt R C).size≤2000:=by
 unfold Bt;have hl:=TJ R C;have key:(CE (CH R C)).size≤1100:=by
  have e1:(⟨#[32,115,111,108,117,116,105,111,110,115]⟩:ByteArray).size=10:=rfl;have e2:(⟨#[32]⟩:ByteArray).size=1:=rfl;unfold CE
  split
  ·have:=Cb (n:=0) (by omega);simp only[Au,e1];omega
  ·rename_i x l e
   rw[e] at hl;have h1:=Cb (n:=((x::l).length:Nat)) (by omega);have h2:=E9 x;simp only[Au,e1,e2];omega
 have e3:(⟨#[32,108,111,103,105,99,97,108]⟩:ByteArray).size=8:=rfl
 split
 ·split
  ·rw[Au,e3];omega
  ·omega
 ·decide
theorem Tz{xs ys:List Int}(h1:Ea xs)(h2:Ea ys)(l1:xs.length≤1048576)(l2:ys.length≤1048576):(BB xs ys).size≤134217728:=by
 have a:=Cg h1;have b:=Cg h2;have w1:=LD xs ys;have i1:=DQ xs ys;have f1:=Cb (n:=((AZ xs ys).length:Nat)) (by omega);have f2:=Cb (n:=Fb xs ys) (by omega);have e1:(⟨#[114,111,119,115,32]⟩:ByteArray).size=5:=rfl;have e2:(⟨#[32,99,111,108,115,32]⟩:ByteArray).size=6:=rfl;have e3:(⟨#[32,105,109,97,103,101,115,32]⟩:ByteArray).size=8:=rfl;have e4:(⟨#[32,110,111,110,101,58,32,99,111,108,117,109,110,115,32]⟩:ByteArray).size=15:=rfl;have e5:(⟨#[32,110,111,110,101]⟩:ByteArray).size=5:=rfl;unfold BB Fk
 split
 ·split<;>simp only[Au,e1,e2,e3,e4]<;>omega
 ·simp only[Au,e1,e2,e5];omega
structure SOk(k:B9):Prop where
 sz:Az k
 ra:Ea k.rows
 rb:Ea k.cols
 cl:cells k.img≤1048576
def QI(m:List (List Int)):Prop:=m.length≤1048576∧(∀r∈m,r.length≤1048576)∧cells m≤1048576
theorem A6V{b:Nat}:∀{m:List (List Int)},(∀r∈m,r.length≤b)→cells m≤m.length*b
 |[],_=>by simp[cells]
 |r::m,h=>by
  have h1:=h r (by simp);have h2:=A6V (m:=m) fun x hx=>h x (by simp[hx]);have e:cells (r::m)=r.length+cells m:=by simp[cells]
  rw[e,List.length_cons,Nat.add_mul];omega
theorem A6W{m:List (List Int)}(h1:m.length≤1024)(h2:∀r∈m,r.length≤1024):QI m:=
 ⟨by omega,fun r hr=>by have:=h2 r hr;omega,Nat.le_trans (A6V h2) (by omega)⟩
theorem Ks{r c:Nat}{m:List (List Int)}(h:Ac r c m)(hr:r≤1024)(hc:c≤1024):QI m:=A6W (by rw[h.1];exact hr) fun x hx=>by rw[(h.2 x hx).1];exact hc
theorem QP{k:B9}{o:Option (List (List Int))}(h:SOk k)(ho:∀m,o=some m→QI m):SOk (Ff k o).1∧(Ff k o).2.size≤1000:=by
 cases o with
 |none=>exact⟨h,by show BZ.size≤1000;decide⟩
 |some m=>exact⟨⟨⟨(ho m rfl).1,(ho m rfl).2.1,h.sz.a,h.sz.b⟩,h.ra,h.rb,(ho m rfl).2.2⟩,E9 m⟩
theorem Yi{m m':List (List Int)}{y x v:Int}(h:Jl m y x v=some m'):QI m':=by
 unfold Jl at h
 split at h
 ·rename_i hh
  injection h with h;subst h;obtain⟨h1,h2⟩:=hh;have aD:Af m=true:=by unfold Jm at h1;rw[Bool.and_eq_true] at h1;exact h1.1
  obtain⟨r,c,r1,r5,c1,c5,hs⟩:=Ad aD;rw[EP hs r1 aD,Fs] at h1;have hv:=AT.1 h2;exact Ks (El hs (y:=y.toNat) (x:=x.toNat) (by omega) hv.1 hv.2) (by omega) (by omega)
 ·cases h
theorem YY{m m':List (List Int)}{a b c d:Int}(h:IT m a b c d=some m'):QI m':=by
 unfold IT at h
 split at h
 ·rename_i hh
  injection h with h;subst h;have aD:Af m=true:=by unfold swG at hh;rw[Bool.and_eq_true] at hh;exact hh.1
  obtain⟨r,c',r1,r5,c1,c5,hs⟩:=Ad aD;rw[JQ hs r1 aD] at hh;obtain⟨s,-,-,-,-,h5,h6⟩:=RE hh;rw[h6];exact Ks (Ci hs h5) (by omega) (by omega)
 ·cases h
theorem Yl:∀(rows w:List Int),∀r∈MA rows w,r.length=w.length
 |[],_,r,h=>by simp[MA] at h
 |n::rows,w,r,h=>by
  rw[MA] at h;rcases List.mem_cons.1 h with rfl|h
  ·unfold CO;rw[OQ]
  ·rw[Yl rows _ r h,JX]
theorem Qj{k:B9}(_:Az k){m:List (List Int)}(h:Dh k.rows k.cols=some m):QI m:=by
 unfold Dh at h
 split at h
 ·rename_i he
  injection h with h;subst h;unfold Bu at he;rw[Bool.and_eq_true] at he;obtain⟨-,b1,-,b2,-⟩:=BC he.1;exact A6W (by rw[Oz];omega) fun r hr=>by rw[Yl _ _ r hr];omega
 ·cases h
theorem Q1{k:B9}(_:Az k){m:List (List Int)}(h:Dy k.rows k.cols=some m):QI m:=by
 unfold Dy at h;have hm:=List.mem_of_getElem? h;have he:AF k.rows k.cols=true:=by
  cases aD:AF k.rows k.cols
  ·rw[GF aD] at hm;cases hm
  ·rfl
 obtain⟨-,b1,-,b2,-⟩:=BC he;exact Ks (Ik m hm).1 (by omega) (by omega)
theorem KU(t:ByteArray):Ea (AB t):=by
 unfold AB
 split
 ·intro x hx;cases hx
 ·split
  ·rename_i h
   unfold Dv;intro x hx;obtain⟨p,hp,rfl⟩:=List.mem_map.1 hx;exact(AD (List.all_eq_true.1 h p hp)).2
  ·intro x hx;cases hx
theorem Kr(t:ByteArray):(AB t).length≤t.size+1:=by
 unfold AB Dv
 split
 ·simp
 ·split
  ·have:=DO t 44;rw[List.length_map];omega
  ·simp
theorem Uv{sep t:ByteArray}:∀{xs:List ByteArray},t∈xs→t.size+sep.size≤Dt sep xs
 |x::r,h=>by
  rcases List.mem_cons.1 h with rfl|h
  ·simp only[Dt];omega
  ·have:=Uv (sep:=sep) h;simp only[Dt];omega
theorem RU{b:UInt8}{wd t:ByteArray}{al:List ByteArray}(h:t∈al):t.size+1≤(BK ⟨#[b]⟩ (wd::al)).size:=by
 have h1:=Uv (sep:=⟨#[b]⟩) h;have e:(⟨#[b]⟩:ByteArray).size=1:=rfl;have h2:=Rs ⟨#[b]⟩ al;have h3:(BK ⟨#[b]⟩ (wd::al)).size=(wd.data.toList++Lib.joinTail [b] (al.map (·.data.toList))).length:=by
  unfold BK;simp only[List.map_cons];rw[Lib.join_cons];rfl
 rw[h3,List.length_append];have h4:(Lib.joinTail [b] (al.map (·.data.toList))).length=Dt ⟨#[b]⟩ al:=h2;omega
theorem Mv{s:ByteArray}{wd:ByteArray}{al:List ByteArray}(aK:Ae s 32=wd::al)(aI:s.size≤1048576){t:ByteArray}(ht:t∈al):(AB t).length≤1048576:=by
 have h1:=EI s 32;rw[aK] at h1;have h2:=RU (b:=32) (wd:=wd) ht;rw[h1] at h2;have:=Kr t;omega
theorem A2E{k:B9}(h:SOk k)(w:ByteArray){t:ByteArray}(ht:B4 t=true):SOk (CL k w (Ax t)).1∧(CL k w (Ax t)).2.size≤4000:=by
 have aD:Af (Ax t)=true:=by unfold B4 at ht;rw[Bool.and_eq_true] at ht;exact ht.2
 obtain⟨r,c,h1,h2,h3,h4,hs⟩:=Ad aD;unfold CL
 split
 ·obtain⟨a,b⟩:=Nk hs h1 h2 h3 h4;have l1:=Fm (Ax t);have l2:=N5 (Ax t);have hf:=Ks hs (by omega) (by omega);exact⟨⟨⟨hf.1,hf.2.1,by show(A6 _).length≤_;omega,by show(A8 _).length≤_;omega⟩,a,b,hf.2.2⟩,by show okB.size≤4000;decide⟩
 ·split
  ·exact⟨h,A1Q _ _⟩
  ·split
   ·exact⟨h,by show BZ.size≤4000;decide⟩
   ·rename_i x hx
    refine⟨h,?_⟩;obtain⟨a,b,d⟩:=ZA x (WE hx);show(Ag x++⟨#[32]⟩++An _:ByteArray).size≤4000;rw[Au];omega
theorem A4G{k:B9}(h:SOk k)(w:ByteArray)(n:List Int):SOk (Fc k w n).1∧(Fc k w n).2.size≤1000:=by
 unfold Fc
 split
 ·exact QP h fun m hm=>YY hm
 ·split
  ·exact QP h fun m hm=>Yi hm
  ·split
   ·refine⟨h,?_⟩;show(if _ then BZ else Aj _:ByteArray).size≤1000
    split
    ·decide
    ·have a:=Cg (WJ k.img (n.getD 0 0) (n.getD 1 0));have b:=L3 k.img (n.getD 0 0) (n.getD 1 0);omega
   ·exact⟨h,by show AA.size≤1000;decide⟩
theorem A3y{k:B9}(h:SOk k)(s:ByteArray):SOk (Cm k s).1∧(Cm k s).2.size≤2199023255552:=by
 have a1:=U3 k.img;have a2:=IE (BU k.img);have b1:=XV (DQ k.rows k.cols);have b2:=IE (BK ⟨#[59]⟩ (BW (AZ k.rows k.cols)));have c1:=XV (Pz k.rows k.cols);have c2:=IE (BK ⟨#[59]⟩ (BW (Jd k.rows k.cols)));have d1:=Vb k.rows k.cols;have d2:=IE (DE k.rows k.cols);have e1:=Cg (ZR k.img);have e2:=LF k.img;have f1:(if(BD k.rows k.cols).isSome=true then Aj (F5 k.rows k.cols)++⟨#[32]⟩++Aj (EW k.rows k.cols) else BZ).size≤1000:=A0Q k.rows k.cols;have g1:=Qs (DC k.img) (CT k.img);have g2:=IE (Bt (DC k.img) (CT k.img));obtain⟨rt,hrt⟩:∃rt,(if(BD k.rows k.cols).isSome=true then Aj (F5 k.rows k.cols)++⟨#[32]⟩++Aj (EW k.rows k.cols) else BZ)=rt:=⟨_,rfl⟩;unfold Cm;rw[hrt] at f1⊢
 repeat' split
 all_goals first
  |exact⟨h,by show(Bz _).size≤_;omega⟩
  |exact⟨h,by show(Aj _).size≤_;omega⟩
  |(have:=QP h fun m hm=>Qj h.sz hm;exact⟨this.1,by omega⟩)
  |(have:=QP h fun m hm=>Q1 h.sz hm;exact⟨this.1,by omega⟩)
  |exact⟨h,Nat.le_trans f1 (by decide)⟩
  |exact⟨h,by show AA.size≤_;decide⟩
theorem A48{k:B9}(h:SOk k){s:ByteArray}(hs:s.size≤1048576):SOk (CJ k s).1∧(CJ k s).2.size≤2199023255552:=by
 unfold CJ
 split
 ·exact⟨h,by show(⟨#[]⟩:ByteArray).size≤_;decide⟩
 ·split
  ·exact A3y h s
  ·unfold H7;obtain⟨wd,al,aK⟩:∃wd al,Ae s 32=wd::al:=by
    have hp:=EJ s 32;cases e:Ae s 32 with
    |nil=>rw[e] at hp;simp at hp
    |cons wd al=>exact⟨wd,al,rfl⟩
   rw[aK];show SOk (if _ then _ else _:B9×ByteArray).1∧(if _ then _ else _:B9×ByteArray).2.size≤_
   split
   ·split
    ·rename_i ht
     obtain⟨a,b⟩:=A2E h ((wd::al).getD 0 ⟨#[]⟩) ht;exact⟨a,by omega⟩
    ·exact⟨h,by show AA.size≤_;decide⟩
   ·split
    ·rename_i hh
     match al,hh.1,aK with
     |[ta,tb],_,aK=>
      show SOk (Ln k ta tb).1∧(Ln k ta tb).2.size≤_;unfold Ln
      split
      ·have l1:=Mv aK hs (t:=ta) (by simp);have l2:=Mv aK hs (t:=tb) (by simp);have:=Tz (KU ta) (KU tb) l1 l2;exact⟨⟨⟨h.sz.m,h.sz.r,l1,l2⟩,KU ta,KU tb,h.cl⟩,by show(BB _ _).size≤_;omega⟩
      ·exact⟨h,by show AA.size≤_;decide⟩
    ·split
     ·obtain⟨a,b⟩:=A4G h ((wd::al).getD 0 ⟨#[]⟩) (((wd::al).drop 1).map Aq);exact⟨a,by omega⟩
     ·exact⟨h,by show AA.size≤_;decide⟩
noncomputable def DB (st:B9×ByteArray) (s:ByteArray):B9×ByteArray:=
 ((CJ st.1 s).1,if(CJ st.1 s).2=ByteArray.empty then st.2 else st.2++(CJ st.1 s).2++⟨#[10]⟩)
def Ka:B9:=⟨[[0]],[0],[0]⟩
noncomputable def DS (l:List ByteArray):B9×ByteArray:=l.foldl DB (Ka,ByteArray.empty)
theorem Qo{l:List ByteArray}{j:Nat}{s:ByteArray}(h:l[j]? =some s):DS (l.take (j+1))=DB (DS (l.take j)) s:=by
 unfold DS;rw[List.take_add_one,h,List.foldl_append];rfl
theorem A4B:SOk Ka:=⟨⟨by decide,by decide,by decide,by decide⟩,fun x hx=>by simp[Ka] at hx;subst hx;exact⟨by decide,by decide⟩,fun x hx=>by simp[Ka] at hx;subst hx;exact⟨by decide,by decide⟩,by decide⟩
noncomputable def Eb (text:ByteArray):ByteArray×Int:=if(Dd text).length≤40 then((DS (Dd text)).2,(Dd text).length) else(ByteArray.empty,-1)
theorem Uo{k:B9}{s:ByteArray}(h:AH s=true):CJ k s=(k,⟨#[]⟩):=by unfold CJ;rw[if_pos h]
theorem Uu{s x:ByteArray}(h:Ae s 32=[x]):x=s:=by
 have:=EI s 32;rw[h,In] at this;exact this
theorem SI{k:B9}{s:ByteArray}(h:AH s=false)(aK:Ae s 32=[s]):CJ k s=Cm k s:=by
 unfold CJ;rw[if_neg (by rw[h];simp),if_pos (by rw[aK];rfl)]
theorem FSa{k:B9}{s wd:ByteArray}{al:List ByteArray}(h:AH s=false)(aK:Ae s 32=wd::al)(aO:al≠[]):CJ k s=H7 k wd al:=by
 have h1:al.length≠0:=fun e=>aO (List.length_eq_zero_iff.1 e);unfold CJ;rw[if_neg (by rw[h];simp),if_neg (by rw[aK,List.length_cons];omega),aK];rfl
theorem JC{w:ByteArray}(h1:w≠Ca)(h2:w≠Dg)(h3:w≠Do):Fu w=false:=by simp[Fu,h1,h2,h3]
theorem Ew{k:B9}{w t:ByteArray}(h:Fu w=true):H7 k w [t]=if B4 t=true then CL k w (Ax t) else(k,AA):=by
 unfold H7;rw[if_pos ⟨rfl,h⟩];rfl
theorem NG{k:B9}{a b:ByteArray}:H7 k E3 [a,b]=Ln k a b:=by
 unfold H7;rw[if_neg (by simp),if_pos ⟨rfl,rfl⟩];rfl
theorem FJ{k:B9}{w:ByteArray}{al:List ByteArray}(h1:al.length≠1∨Fu w=false)(h2:al.length≠2∨w≠E3):H7 k w al=if al.all Ai=true then Fc k w (al.map Aq) else(k,AA):=by
 unfold H7;rw[if_neg (by rintro⟨a,b⟩;rcases h1 with h|h;exact h a;rw[h] at b;cases b),if_neg (by rintro⟨a,b⟩;rcases h2 with h|h;exact h a;exact h b)]
theorem DF{k:B9}{w:ByteArray}{al:List ByteArray}(h1:al.length≠1∨Fu w=false)(h2:al.length≠2∨w≠E3)(h3:∀n:List Int,n.length=al.length→Fc k w n=(k,AA)):H7 k w al=(k,AA):=by
 rw[FJ h1 h2]
 split
 ·exact h3 _ (by rw[List.length_map])
 ·rfl
theorem Df{k:B9}{w:ByteArray}{n:List Int}(h1:w≠BS∨n.length≠4)(h2:w≠DL∨n.length≠2)(h3:w≠Dn∨n.length≠2):Fc k w n=(k,AA):=by
 unfold Fc;rw[if_neg (by rintro⟨a,b⟩;rcases h1 with h|h;exact h a;exact h b),if_neg (by rintro⟨a,b⟩;rcases h2 with h|h;exact h a;exact h b),if_neg (by rintro⟨a,b⟩;rcases h3 with h|h;exact h a;exact h b)]
theorem Vn{al:List ByteArray}(h:(Ao al).length≠al.length):al.all Ai=false:=by
 cases e:al.all Ai
 ·rfl
 ·exact absurd (by rw[Kq e,List.length_map]) h
theorem B8.of{s wd:ByteArray}{al:List ByteArray}(h:Ae s 32=wd::al)(aO:al≠[]):B8 s:=
 ⟨Ap rfl (F1 h aO PL),Ap rfl (F1 h aO Oa),Ap rfl (F1 h aO Ou),Ap rfl (F1 h aO Ru),Ap rfl (F1 h aO NL),Ap rfl (F1 h aO MR),Ap rfl (F1 h aO N4),Ap rfl (F1 h aO MM),Ap rfl (F1 h aO MQ)⟩
theorem FB{n m:Nat}(h:n≠m):(((n:Nat):Int)==(m:Int))=false:=by simpa using(by omega:(n:Int)≠m)
theorem Qr:Ca≠E3:=by decide+kernel
theorem NV:Ca≠BS:=by decide+kernel
theorem Qu:Ca≠DL:=by decide+kernel
theorem Qx:Ca≠Dn:=by decide+kernel
theorem L9:E3≠Ca:=by decide+kernel
theorem JO:E3≠BS:=by decide+kernel
theorem LS:E3≠DL:=by decide+kernel
theorem LQ:E3≠Dg:=by decide+kernel
theorem Lo:E3≠Do:=by decide+kernel
theorem LM:E3≠Dn:=by decide+kernel
theorem IU:BS≠Ca:=by decide+kernel
theorem GA:BS≠E3:=by decide+kernel
theorem Gu:BS≠DL:=by decide+kernel
theorem JS:BS≠Dg:=by decide+kernel
theorem JZ:BS≠Do:=by decide+kernel
theorem Gp:BS≠Dn:=by decide+kernel
theorem Le:DL≠Ca:=by decide+kernel
theorem IP:DL≠E3:=by decide+kernel
theorem EZ:DL≠BS:=by decide+kernel
theorem Lq:DL≠Dg:=by decide+kernel
theorem LK:DL≠Do:=by decide+kernel
theorem IS:DL≠Dn:=by decide+kernel
theorem Lf:Dg≠Ca:=by decide+kernel
theorem RP:Dg≠E3:=by decide+kernel
theorem Pi:Dg≠BS:=by decide+kernel
theorem Sj:Dg≠DL:=by decide+kernel
theorem Rx:Dg≠Dn:=by decide+kernel
theorem L7:Do≠Ca:=by decide+kernel
theorem QS:Do≠E3:=by decide+kernel
theorem Po:Do≠BS:=by decide+kernel
theorem SB:Do≠DL:=by decide+kernel
theorem LA:Do≠Dg:=by decide+kernel
theorem RI:Do≠Dn:=by decide+kernel
theorem La:Dn≠Ca:=by decide+kernel
theorem Ge:Dn≠E3:=by decide+kernel
theorem E5:Dn≠BS:=by decide+kernel
theorem EK:Dn≠DL:=by decide+kernel
theorem M9:Dn≠Dg:=by decide+kernel
theorem M8:Dn≠Do:=by decide+kernel
theorem A0o(st:B9×ByteArray):DB st ⟨#[]⟩=st:=by
 obtain⟨k,t⟩:=st;have h:CJ k ⟨#[]⟩=(k,⟨#[]⟩):=by unfold CJ;rw[if_pos (by rfl)]
 unfold DB;dsimp only;rw[h];have e:(⟨#[]⟩:ByteArray)=ByteArray.empty:=rfl;dsimp only;rw[if_pos e]
theorem A2m(st:B9×ByteArray)(s:ByteArray):st.2.size≤(DB st s).2.size:=by
 unfold DB;dsimp only
 split
 ·omega
 ·simp only[Au];omega
theorem Ux:∀(l:List ByteArray)(st:B9×ByteArray),st.2.size≤(l.foldl DB st).2.size
 |[],_=>Nat.le_refl _
 |s::l,st=>Nat.le_trans (A2m st s) (Ux l _)
theorem A3l{s:ByteArray}{l:List ByteArray}(h:(CJ Ka s).2≠ByteArray.empty):0<(DS (s::l)).2.size:=by
 have h1:0<(DB (Ka,ByteArray.empty) s).2.size:=by
  have e:(⟨#[10]⟩:ByteArray).size=1:=rfl;unfold DB;dsimp only;rw[if_neg h];simp only[Au,e];omega
 have:=Ux l (DB (Ka,ByteArray.empty) s);unfold DS;rw[List.foldl_cons];omega
theorem A27(l:List ByteArray):(DS (l++[⟨#[]⟩]))=DS l:=by
 unfold DS;rw[List.foldl_append];exact A0o _
theorem A08{α:Type}(d:α){l:List α}(h:l≠[]):l=l.take (l.length-1)++[l.getD (l.length-1) d]:=by
 have hl:0<l.length:=List.length_pos_iff.2 h;have h1:=List.take_succ_eq_append_getElem (l:=l) (i:=l.length-1) (by omega);rw[show l.length-1+1=l.length from by omega,List.take_length] at h1;rw[List.getD_eq_getElem?_getD,List.getElem?_eq_getElem (by omega)];exact h1
theorem A0s{ls:List ByteArray}(h1:ls≠[])(h:∀p∈ls,(10:UInt8)∉p.data.toList):
  (Dd (BK ⟨#[10]⟩ ls)=ls)∨(ls=Dd (BK ⟨#[10]⟩ ls)++[⟨#[]⟩]):=by
 have hs:=S7 h1 h;unfold Dd;rw[hs]
 split
 ·rename_i he
  right;have:=A08 (⟨#[]⟩:ByteArray) h1;rw[he] at this;exact this
 ·exact .inl rfl
theorem YX{ls:List ByteArray}(h1:ls≠[])(hl:ls.length≤40)(h:∀p∈ls,(10:UInt8)∉p.data.toList):
  (Eb (BK ⟨#[10]⟩ ls)).1=(DS ls).2∧(ls.length:Int)-1≤(Eb (BK ⟨#[10]⟩ ls)).2∧(Eb (BK ⟨#[10]⟩ ls)).2≤ls.length:=by
 rcases A0s h1 h with e|e
 ·unfold Eb;rw[e,if_pos hl];exact⟨rfl,by dsimp only;omega,Int.le_refl _⟩
 ·obtain⟨q,hq⟩:∃q,Dd (BK ⟨#[10]⟩ ls)=q:=⟨_,rfl⟩;rw[hq] at e;have iR:ls.length=q.length+1:=by rw[e];simp
  unfold Eb;rw[hq,if_pos (by omega)];refine⟨?_,by dsimp only;omega,by dsimp only;omega⟩;rw[e,A27]
structure MK(Bx:Nat)(w:World)(a b c:Value)(k:B9):Prop where
 blk:Aw w Bx #[a,b,c] 34
 own:Cj (fun x=>x≠Bx∧x<w.heap.size) w a b c k
theorem MK.keep{Bx:Nat}{w w':World}{a b c:Value}{k:B9}(h:MK Bx w a b c k)(y:Below w.heap.size w w'):MK Bx w' a b c k:=
 ⟨h.blk.keep y,(h.own.same (A5 y fun _ hx=>hx.2)).mono fun _ hx=>⟨hx.1,Nat.lt_of_lt_of_le hx.2 y.size⟩⟩
theorem MK.next{Bx:Nat}{w w3:World}{a b c a' b' c':Value}{k k':B9}(h:MK Bx w a b c k)(y:Below w.heap.size w w3)(o:Cj (Iv w.heap.size w3.heap.size) w3 a' b' c' k'):
  MK Bx ((((w3.setCell ⟨Bx,0,none⟩ a').setCell ⟨Bx,1,none⟩ b').setCell ⟨Bx,2,none⟩ c').alloc (.cells #[a',b',c'] 34)) a' b' c' k':=by
 have hl:=h.blk.lt;refine MK.keep ⟨(h.blk.keep y).set3,?_⟩ (Below.pureAlloc _ _);rw[Is];exact(o.same (fun x hx=>Io _ Bx a' b' c' x (by have:=hx.1;omega))).mono fun x hx=>⟨by have:=hx.1;omega,hx.2⟩
theorem MK.below{Bx B:Nat}{w0 w w3:World}{a b c a' b' c':Value}{k:B9}(h:MK Bx w a b c k)(hB:B≤Bx)(h0:Below B w0 w)(y:Below w.heap.size w w3):
  Below B w0 ((((w3.setCell ⟨Bx,0,none⟩ a').setCell ⟨Bx,1,none⟩ b').setCell ⟨Bx,2,none⟩ c').alloc (.cells #[a',b',c'] 34)):=by
 have hl:=h.blk.lt;have s3:=y.size;exact(Below.set3 (h0.trans (y.mono (by omega))) hB _ _ _).alloc (by rw[Is];omega) _
structure A68(O T:ByteArray):Prop where
 o:O.size≤1125899906842624
 t:T.size≤2199023255552
 tn:(T++⟨#[10]⟩:ByteArray).size≤2199023255553
 otn:(O++(T++⟨#[10]⟩):ByteArray).size≤4503599627370496
 ot:(O++T:ByteArray).size≤4503599627370496
 otn2:(O++T++⟨#[10]⟩:ByteArray).size≤4503599627370496
theorem A43{O T:ByteArray}(o:O.size≤1125899906842624)(t:T.size≤2199023255552):A68 O T:=by
 have e:(⟨#[10]⟩:ByteArray).size=1:=rfl;refine⟨o,t,?_,?_,?_,?_⟩<;>simp only[Au,e]<;>omega
theorem P9{l:List ByteArray}{j:Nat}{s:ByteArray}(h:l[j]? =some s){k k':B9}{O T:ByteArray}(h1:DS (l.take j)=(k,O))(h2:CJ k s=(k',T))(hT:T=ByteArray.empty):DS (l.take (j+1))=(k',O):=by
 rw[Qo h,h1];unfold DB;dsimp only;rw[h2];dsimp only;rw[if_pos hT]
theorem Pc{l:List ByteArray}{j:Nat}{s:ByteArray}(h:l[j]? =some s){k k':B9}{O T:ByteArray}(h1:DS (l.take j)=(k,O))(h2:CJ k s=(k',T))(hT:T≠ByteArray.empty):DS (l.take (j+1))=(k',O++T++⟨#[10]⟩):=by
 rw[Qo h,h1];unfold DB;dsimp only;rw[h2];dsimp only;rw[if_neg hT]
structure PU(ls:List ByteArray)(Bx:Nat)(w:World)(a b c:Value)(j:Nat)(O:ByteArray)(k:B9):Prop where
 st:MK Bx w a b c k
 at_:DS (ls.take j)=(k,O)
 sk:SOk k
 so:O.size≤4398046511104*j
theorem PU.start{w1 w2:World}{a b c:Value}(ls:List ByteArray)(o:Cj (Iv w1.heap.size w2.heap.size) w2 a b c Ka):PU ls w2.heap.size (w2.alloc (.cells #[a,b,c] 34)) a b c 0 ByteArray.empty Ka:=
 ⟨⟨Aw.new w2 _ _,(o.same (A5 (Below.pureAlloc w2 _) fun _ hx=>hx.2)).mono fun x hx=>⟨by have:=hx.2;omega,by have:=hx.2;simp;omega⟩⟩,rfl,A4B,by simp⟩
