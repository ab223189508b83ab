/- RunLine of the program: what commands of two and more words need. -/
import Derived.Test.YthmocomfjgmjoaaGreatDoorKRa
import Derived.Test.YthmocomfjgmjoaaGreatDoorQ25
namespace Go.Proofs.YthmocomfjgmjoaaGreatDoor
open Go.RowKit
structure B8(s:ByteArray):Prop where
 z0:(s.toList==[115,104,111,119])=false
 z1:(s.toList==[98,117,105,108,100])=false
 z2:(s.toList==[108,101,97,115,116])=false
 z3:(s.toList==[97,108,108])=false
 z4:(s.toList==[102,105,120,101,100])=false
 z5:(s.toList==[99,111,110,118,101,120])=false
 z6:(s.toList==[114,101,118,101,97,108])=false
 z7:(s.toList==[114,101,112,97,105,114])=false
 z8:(s.toList==[112,117,122,122,108,101])=false
noncomputable def Ao (l:List ByteArray):List Int:=(l.filter Ai).map Aq
theorem AK{l:List ByteArray}{j:Nat}{q:ByteArray}(h:l[j]? =some q):Ao (l.take (j+1))=if Ai q=true then Ao (l.take j)++[Aq q] else Ao (l.take j):=by
 unfold Ao;rw[List.take_add_one,h,List.filter_append,List.map_append];cases hy:Ai q<;>simp[hy]
theorem AW(l:List ByteArray):(Ao l).length≤l.length:=by
 unfold Ao;rw[List.length_map];exact List.length_filter_le _ _
theorem Kq{l:List ByteArray}(h:l.all Ai=true):Ao l=l.map Aq:=by
 unfold Ao;rw[List.filter_eq_self.2 (by simpa using h)]
theorem Mc{l:List ByteArray}(h:(Ao l).length=l.length):l.all Ai=true:=by
 unfold Ao at h;rw[List.length_map] at h;have:=List.length_filter_eq_length_iff.1 h;simpa using this
theorem Av{s:ByteArray}(h:AH s=false):∃h0:0<s.size,(((s[0]'h0).toNat:Int)==35)=false∧s.toList.isEmpty=false:=by
 obtain⟨b,l,hl,hb⟩:=Tv h;have aI:0<s.size:=by rw[D8,hl];simp
 have aX:s[0]'aI=b:=by
  have:=L8 aI;rw[hl] at this;simpa using this.symm
 refine⟨aI,Zb (a:=s[0]'aI) (b:=35) (by rw[aX];exact hb),C7 (by intro e;rw[e] at aI;simp at aI)⟩
theorem AJ{s:ByteArray}{b:UInt8}{wd:ByteArray}{al:List ByteArray}(h:Ae s b=wd::al)(hs:s.size≤1048576):∀t∈al,t.size≤1048576:=
 fun t ht=>Nat.le_trans (CV s b t (by rw[h];exact List.mem_cons_of_mem _ ht)) hs
theorem AY{s:ByteArray}{b:UInt8}{wd:ByteArray}{al:List ByteArray}(h:Ae s b=wd::al)(hs:s.size≤1048576):al.length≤1048577:=by
 have:=DO s b;rw[h,List.length_cons] at this;omega
theorem AM.at1{w:World}{g n c:Nat}{wd:ByteArray}{l:List ByteArray}(h:AM w (.slice (some ⟨g,0,none⟩) n c) (wd::l)){k:Nat}{x:ByteArray}(hk:l[k]? =some x):w.cell? ⟨g,1+k,none⟩=some (.string x):=by
 rw[Nat.add_comm];exact AM.at0 h (k:=k+1) (by simpa using hk)
theorem Ap{s:ByteArray}{l:List UInt8}{t:ByteArray}(ht:t.data.toList=l)(h:s≠t):(s.toList==l)=false:=by
 have h1:s.toList≠l:=by
  intro e;apply h;apply Dm;rw[ht,←e,ByteArray.toList_eq]
 simpa using h1
theorem F1{s:ByteArray}{wd:ByteArray}{al:List ByteArray}(h:Ae s 32=wd::al)(aO:al≠[]){t:ByteArray}(ht:Ae t 32=[t]):s≠t:=by
 intro e;rw[e,ht] at h;simp at h;exact aO h.2
def A5h(c:B9)(m:List (List Int)):Option (List (List Int))→B9×ByteArray
 |none=>(c,BZ)
 |some x=>(c,Ag x++⟨#[32]⟩++An (BG c.rows.length c.cols.length x m))
def O2(c:B9)(m:List (List Int)):B9×ByteArray:=A5h c m (EM c.rows c.cols m)
theorem WK(c:B9)(m:List (List Int)){o:Option (List (List Int))}(h:EM c.rows c.cols m=o):O2 c m=A5h c m o:=by
 subst h;rfl
theorem WE{xs ys:List Int}{p x:List (List Int)}(h:EM xs ys p=some x):BV (BG xs.length ys.length x p):=by
 have aD:AF xs ys=true:=by
  cases hz:AF xs ys with
  |true=>rfl
  |false=>
   unfold EM at h;rw[show AZ xs ys=[] from by unfold AZ;rw[hz];rfl] at h
   split at h<;>simp[Z8] at h
 obtain⟨-,x5,-,y5,-⟩:=BC aD;obtain⟨d1,d2⟩:=Ga ys.length x p xs.length;have h25:xs.length*ys.length≤5*5:=Nat.mul_le_mul x5 y5;exact BV.small (by omega) (by omega)
theorem ZA(x:List (List Int)){D:Int}(hD:BV D):(Ag x).size≤1000∧(Ag x++⟨#[32]⟩:ByteArray).size≤1001∧(An D).size≤20:=by
 have a:=E9 x;have e2:(⟨#[32]⟩:ByteArray).size=1:=rfl;refine⟨a,?_,Cb hD⟩;rw[Au,e2];omega
theorem Rt(m:List (List Int))(y x:Int):-1≤I7 m y x∧I7 m y x≤1:=by
 cases hh:Jm m y x
 ·simp[I7,hh]
 ·have e:I7 m y x=Al m y.toNat x.toNat:=by simp[I7,hh]
  have aD:Af m=true:=by unfold Jm at hh;rw[Bool.and_eq_true] at hh;exact hh.1
  obtain⟨r,c,h1,h2,h3,h4,hs⟩:=Ad aD;have:=AE hs y.toNat x.toNat;rw[e];omega
theorem L3(m:List (List Int))(dx dy:Int):(BA m dx dy).length≤25:=by
 by_cases h:Af m=true∧Cx dx dy=true
 ·obtain⟨r,c,h1,h2,h3,h4,hs⟩:=Ad h.1;rw[LR hs h1 h.1 h.2,Ms,List.length_replicate];have:=K5 (FF h.2) h1 h2 h3 h4;omega
 ·rw[H9 h];simp
theorem PV.nil{w:World}{e:Ending}{w':World}(h:PV w [] e w'):e=.returned (.slice none 0 0)∧Below w.heap.size w w':=by
 obtain⟨v,rfl,-,hb,h⟩:=h;rcases h with⟨rfl,-⟩|⟨g,c,-,hp⟩
 ·exact⟨rfl,hb⟩
 ·simp at hp
def A5w(w:World)(l:List Int)(e:Ending)(w':World):Prop:=∃g c,e=.returned (.slice (some ⟨g,0,none⟩) l.length c)∧Ab w' (.slice (some ⟨g,0,none⟩) l.length c) l∧Below w.heap.size w w'
theorem PV.cons{w:World}{l:List Int}{e:Ending}{w':World}(hl:l≠[])(h:PV w l e w'):A5w w l e w':=by
 obtain⟨v,rfl,o,hb,h⟩:=h;rcases h with⟨-,h0⟩|⟨g,c,rfl,-⟩
 ·exact absurd h0 hl
 ·exact⟨g,c,rfl,o.ints,hb⟩
theorem Dc(w:World)(g:Nat)(a b c:Value){p:Addr}(hp:p.block≠g):(((w.setCell ⟨g,0,none⟩ a).setCell ⟨g,1,none⟩ b).setCell ⟨g,2,none⟩ c).cell? p=w.cell? p:=World.cell?_of_block (Io w g a b c p.block hp)
theorem BM.put3{w W W':World}{lo Bo l1 h1 l2 h2 l3 h3:Nat}{a b c a' b' c' va vb vc:Value}{k k':B9}{m:List (List Int)}{x y:List Int}(st:BM w W lo Bo a b c a' b' c' k k')(oa:A4 32 (A4 3 A7) (Iv l1 h1) W va m)(ob:A4 3 A7 (Iv l2 h2) W vb x)(oc:A4 3 A7 (Iv l3 h3) W vc y)
  (hl:Bo<l1)(gB:Bo<l2)(e1:h1≤l2)(e2:h2≤l3)(e3:h3≤W.heap.size)(e4:h1≤l3)(jd:Bo<l3)(e5:h1≤W.heap.size)(e6:h2≤W.heap.size)(on:Ar (fun x=>x=Bo) W W'):LT w W' va vb vc ⟨m,x,y⟩:=by
 have g1:=st.hlo;have g2:=st.hlb;have g3:=st.ko.lt;have g4:=on.size;have g5:w.heap.size≤W.heap.size:=st.base.size;refine⟨st.base.trans (on.below (by omega) (fun b hb=>by have:b=Bo:=hb;omega)),st.kr.only on (fun e=>by have:w.heap.size+1=Bo:=e;omega),Cj.of (l1:=l1) (h1:=h1) (l2:=l2) (h2:=h2) (l3:=l3) (h3:=h3) ?_ ?_ ?_ ?_ ?_ ?_ (.inl e1) (.inl e4) (.inl e2)⟩
 ·exact A4.only (A3 A2) oa on (fun b hb=>by have:=hb.2;omega) (fun b hb e=>by have:=hb.1;have:b=Bo:=e;omega)
 ·exact A4.only A2 ob on (fun b hb=>by have:=hb.2;omega) (fun b hb e=>by have:=hb.1;have:b=Bo:=e;omega)
 ·exact A4.only A2 oc on (fun b hb=>by have:=hb.2;omega) (fun b hb e=>by have:=hb.1;have:b=Bo:=e;omega)
 ·intro _ hx;have:=hx.1;have:=hx.2;omega
 ·intro _ hx;have:=hx.1;have:=hx.2;omega
 ·intro _ hx;have:=hx.1;have:=hx.2;omega
theorem BM.put2{w W W':World}{lo Bo l2 h2 l3 h3:Nat}{a b c a' b' c' vb vc:Value}{k k':B9}{x y:List Int}(st:BM w W lo Bo a b c a' b' c' k k')(ob:A4 3 A7 (Iv l2 h2) W vb x)(oc:A4 3 A7 (Iv l3 h3) W vc y)
  (gB:Bo<l2)(e2:h2≤l3)(e3:h3≤W.heap.size)(jd:Bo<l3)(e6:h2≤W.heap.size)(on:Ar (fun x=>x=Bo) W W'):LT w W' a' vb vc ⟨k'.img,x,y⟩:=by
 have g1:=st.hlo;have g2:=st.hlb;have g3:=st.ko.lt;have g4:=on.size;have g5:w.heap.size≤W.heap.size:=st.base.size;obtain⟨Sa,Sb,Sc,s1,s2,s3,d1,d2,d3,o1,o2,o3⟩:=st.own;refine⟨st.base.trans (on.below (by omega) (fun b hb=>by have:b=Bo:=hb;omega)),st.kr.only on (fun e=>by have:w.heap.size+1=Bo:=e;omega),⟨Sa,Iv l2 h2,Iv l3 h3,?_,?_,?_,?_,?_,?_,?_,?_,?_⟩⟩
 ·intro x hx;have:=(s1 x hx).1;have:=(s1 x hx).2;omega
 ·intro _ hx;have:=hx.1;have:=hx.2;omega
 ·intro _ hx;have:=hx.1;have:=hx.2;omega
 ·intro x hx hy;have:=hy.1;have:=(s1 x hx).2;omega
 ·intro x hx hy;have:=hy.1;have:=(s1 x hx).2;omega
 ·intro x hx hy;have:=hx.2;have:=hy.1;omega
 ·exact A4.only (A3 A2) o1 on (fun b hb=>by have:=(s1 b hb).2;omega) (fun b hb e=>by have:=(s1 b hb).2;have:b=Bo:=e;omega)
 ·exact A4.only A2 ob on (fun b hb=>by have:=hb.2;omega) (fun b hb e=>by have:=hb.1;have:b=Bo:=e;omega)
 ·exact A4.only A2 oc on (fun b hb=>by have:=hb.2;omega) (fun b hb e=>by have:=hb.1;have:b=Bo:=e;omega)
def A5q(w W:World)(Bo:Nat)(b c:Value)(r:B9×ByteArray)(e:Ending)(w':World):Prop:=∃x1 x2 x3,e=.returned (.tuple #[.agg #[.slice x1 x2 x3,b,c],.string r.2])∧LT w w' (.slice x1 x2 x3) b c r.1∧Ar (fun x=>x=Bo) W w'
theorem A0W{w W:World}{lo Bo l h:Nat}{a b c:Value}{a1 b1 c1 m1:Option Addr}{a2 a3 b2 b3 c2 c3 m2 m3:Nat}{k k':B9}{o:Option (List (List Int))}(st:BM w W lo Bo a b c (.slice a1 a2 a3) (.slice b1 b2 b3) (.slice c1 c2 c3) k k')
  (om:A4 32 (A4 3 A7) (Iv l h) W (.slice m1 m2 m3) (o.getD []))(hl:Bo<l)(hh:h≤W.heap.size):
  Calls Tryz.prog 29 #[.slice m1 m2 m3,.bool o.isSome,.pointer (some ⟨Bo,0,none⟩)] W (A5q w W Bo (.slice b1 b2 b3) (.slice c1 c2 c3) (Ff k' o)):=by
 cases o with
 |none=>
  refine(ZY Bo _ _ _ _ _ _ _ _ _ _ _ _ _ st.ko).mono ?_;rintro e w' ⟨rfl,y⟩;exact⟨_,_,_,rfl,(st.keep y).done,Ar.of_pure y _⟩
 |some m=>
  refine(Vc Bo l h _ _ _ _ _ _ _ _ _ _ _ _ m _ st.ko om hh (.inl hl)).mono ?_;rintro e w' ⟨rfl,on⟩;exact⟨_,_,_,rfl,st.put om hl hh on,on⟩
