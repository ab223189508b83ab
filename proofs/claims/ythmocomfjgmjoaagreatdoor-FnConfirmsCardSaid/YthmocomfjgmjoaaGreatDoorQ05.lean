/- Base. -/
import Derived.Test.YthmocomfjgmjoaaGreatDoorQ02
import Derived.Test.YthmocomfjgmjoaaGreatDoorQ00
set_option maxHeartbeats 1000000
set_option maxRecDepth 100000
namespace Go.Proofs.YthmocomfjgmjoaaGreatDoor
open Go
theorem Dm{a b:ByteArray}(h:a.data.toList=b.data.toList):a=b:=by
 cases a;cases b;simp at h;simp[h]
theorem Cd(a b:ByteArray):(a++b).data.toList=a.data.toList++b.data.toList:=by
 rw[ByteArray.data_append,Array.toList_append]
theorem D8(a:ByteArray):a.size=a.data.toList.length:=rfl
theorem Au(a b:ByteArray):(a++b).size=a.size+b.size:=by simp
theorem L8{a:ByteArray}{k:Nat}(h:k<a.size):a.data.toList[k]? =some (a[k]'h):=by
 rw[Array.getElem?_toList];exact Array.getElem?_eq_getElem h
theorem En(a:ByteArray)(i j:Nat):(a.extract i j).data.toList=(a.data.toList.drop i).take (j-i):=by
 simp[ByteArray.data_extract]
def BK(sep:ByteArray)(xs:List ByteArray):ByteArray:=⟨(Lib.join (xs.map (·.data.toList)) sep.data.toList).toArray⟩
theorem UN(sep:ByteArray):BK sep []=ByteArray.empty:=rfl
theorem In(sep x:ByteArray):BK sep [x]=x:=by
 unfold BK;simp only[List.map_cons,List.map_nil,Lib.join_one]
theorem II(sep x:ByteArray){xs:List ByteArray}(h:xs≠[]):BK sep (xs++[x])=BK sep xs++sep++x:=by
 cases xs with
 |nil=>exact absurd rfl h
 |cons y r=>
  apply Dm;rw[Cd,Cd];unfold BK;simp only[List.cons_append,List.map_cons,List.map_append,List.map_nil];rw[Lib.join_cons,Lib.join_cons];simp[Lib.joinTail,List.append_assoc]
theorem A0i{sep x:ByteArray}{xs:List ByteArray}{k:Nat}(hx:xs[k]? =some x):BK sep (xs.take (k+1))=if k=0 then x else BK sep (xs.take k)++sep++x:=by
 have hk:=(List.getElem?_eq_some_iff.1 hx).1;rw[List.take_add_one,hx];by_cases h:k=0
 ·subst h;simp[In]
 ·rw[if_neg h];refine II sep x ?_;intro hn;have:=congrArg List.length hn;simp at this;rcases this with h1|h1
  ·exact h h1
  ·subst h1;simp at hk
def Dt(sep:ByteArray):List ByteArray→Nat
 |[]=>0
 |x::r=>x.size+sep.size+Dt sep r
theorem OJ(sep:ByteArray)(a b:List ByteArray):Dt sep (a++b)=Dt sep a+Dt sep b:=by
 induction a with
 |nil=>simp[Dt]
 |cons x r ih=>simp only[List.cons_append,Dt,ih];omega
theorem Rs(sep:ByteArray)(r:List ByteArray):(Lib.joinTail sep.data.toList (r.map (·.data.toList))).length=Dt sep r:=by
 induction r with
 |nil=>simp[Lib.joinTail,Dt]
 |cons y r ih=>
  simp only[Lib.joinTail,List.map_cons,List.flatten_cons,List.length_append] at ih⊢;rw[ih];simp only[Dt,D8];omega
theorem DP(sep:ByteArray)(xs:List ByteArray):(BK sep xs).size≤Dt sep xs:=by
 cases xs with
 |nil=>simp[UN]
 |cons x r=>
  rw[D8];unfold BK;simp only[List.map_cons];rw[Lib.join_cons,List.length_append,Rs];simp only[Dt,D8];omega
theorem OD(sep:ByteArray){xs:List ByteArray}{m:Nat}(h:∀x∈xs,x.size≤m):Dt sep xs≤xs.length*(m+sep.size):=by
 induction xs with
 |nil=>simp[Dt]
 |cons x r ih=>
  have h1:=h x (by simp);have h2:=ih (fun y hy=>h y (by simp[hy]));simp only[Dt,List.length_cons,Nat.succ_mul];omega
theorem MS(sep:ByteArray)(xs:List ByteArray)(k:Nat):Dt sep (xs.take k)≤Dt sep xs:=by
 have:=OJ sep (xs.take k) (xs.drop k);rw[List.take_append_drop] at this;omega
def By(s:ByteArray)(b:UInt8):Nat→List ByteArray×Nat
 |0=>([],0)
 |k+1=>if s.data.toList[k]? =some b then((By s b k).1++[s.extract (By s b k).2 k],k+1) else By s b k
def Ae(s:ByteArray)(b:UInt8):List ByteArray:=(By s b s.size).1++[s.extract (By s b s.size).2 s.size]
theorem A01(s:ByteArray)(b:UInt8)(k:Nat):(By s b k).2≤k:=by
 induction k with
 |zero=>simp[By]
 |succ k ih=>unfold By;split
             ·exact Nat.le_refl _
             ·omega
theorem M6(s:ByteArray)(b:UInt8)(k:Nat):(By s b k).1.length≤k:=by
 induction k with
 |zero=>simp[By]
 |succ k ih=>
  unfold By;split
  ·simp only[List.length_append,List.length_cons,List.length_nil];omega
  ·omega
theorem DO(s:ByteArray)(b:UInt8):(Ae s b).length≤s.size+1:=by
 have:=M6 s b s.size;simp only[Ae,List.length_append,List.length_cons,List.length_nil];omega
theorem Oq(s:ByteArray)(b:UInt8)(k:Nat)(hk:k≤s.size):BK ⟨#[b]⟩ ((By s b k).1++[s.extract (By s b k).2 k])=s.extract 0 k∧
  (∀p∈(By s b k).1,∀x∈p.data.toList,x≠b∧x∈s.data.toList)∧∀x∈(s.extract (By s b k).2 k).data.toList,x≠b:=by
 induction k with
 |zero=>
  refine⟨by simp[By,In],by simp[By],?_⟩;intro x hx;rw[En] at hx;simp[By] at hx
 |succ k ih=>
  obtain⟨h1,h2,h3⟩:=ih (by omega);have bB:=L8 (a:=s) (k:=k) (by omega);have hcut:∀i,i≤k→(s.extract i (k+1))=s.extract i k++⟨#[s[k]'(by omega)]⟩:=by
   intro i hi;apply Dm;rw[Cd,En,En];have e:k+1-i=(k-i)+1:=by omega
   rw[e,List.take_add_one,List.getElem?_drop];have e2:i+(k-i)=k:=by omega
   rw[e2,bB];rfl
  have cY:=A01 s b k;unfold By;by_cases hb:s.data.toList[k]? =some b
  ·rw[if_pos hb];have jc:s[k]'(by omega)=b:=by rw[bB] at hb;exact Option.some.inj hb
   have uN:s.extract (k+1) (k+1)=ByteArray.empty:=by
    apply Dm;rw[En];simp
   dsimp only;refine⟨?_,?_,?_⟩
   ·rw[uN,II _ _ (by simp),h1,hcut 0 (by omega),jc];apply Dm;simp
   ·intro p hp;rw[List.mem_append] at hp;rcases hp with hp|hp
    ·exact h2 p hp
    ·simp at hp;subst hp;intro x hx;refine⟨h3 x hx,?_⟩;rw[En] at hx;exact List.mem_of_mem_drop (List.mem_of_mem_take hx)
   ·intro x hx;rw[uN] at hx;simp at hx
  ·rw[if_neg hb];have jc:s[k]'(by omega)≠b:=fun h=>hb (by rw[bB,h]);refine⟨?_,h2,?_⟩
   ·rw[hcut _ cY,hcut 0 (by omega),←h1];by_cases hn:(By s b k).1=[]
    ·rw[hn];simp[In]
    ·rw[II _ _ hn,II _ _ hn];apply Dm;simp[List.append_assoc]
   ·intro x hx;rw[hcut _ cY,Cd,List.mem_append] at hx;rcases hx with hx|hx
    ·exact h3 x hx
    ·simp at hx;subst hx;exact jc
theorem EI(s:ByteArray)(b:UInt8):BK ⟨#[b]⟩ (Ae s b)=s:=by
 have h:=(Oq s b s.size (Nat.le_refl _)).1;unfold Ae;rw[h];apply Dm;rw[En,List.drop_zero,Nat.sub_zero,List.take_of_length_le (Nat.le_of_eq (D8 s).symm)]
theorem Kv(s:ByteArray)(b:UInt8):∀p∈Ae s b,∀x∈p.data.toList,x≠b∧x∈s.data.toList:=by
 obtain⟨-,h2,h3⟩:=Oq s b s.size (Nat.le_refl _);intro p hp;unfold Ae at hp;rw[List.mem_append] at hp;rcases hp with hp|hp
 ·exact h2 p hp
 ·simp at hp;subst hp;intro x hx;refine⟨h3 x hx,?_⟩;rw[En] at hx;exact List.mem_of_mem_drop (List.mem_of_mem_take hx)
theorem EJ(s:ByteArray)(b:UInt8):0<(Ae s b).length:=by simp[Ae]
theorem Fo(s:ByteArray)(i j:Nat):(s.extract i j).size≤s.size:=by
 rw[D8,D8,En,List.length_take,List.length_drop];omega
theorem CV(s:ByteArray)(b:UInt8):∀p∈Ae s b,p.size≤s.size:=by
 have bE:∀k,∀p∈(By s b k).1,p.size≤s.size:=by
  intro k;induction k with
  |zero=>simp[By]
  |succ k ih=>
   unfold By;split
   ·intro p hp;rw[List.mem_append] at hp;rcases hp with hp|hp
    ·exact ih p hp
    ·simp at hp;subst hp;exact Fo _ _ _
   ·exact ih
 intro p hp;unfold Ae at hp;rw[List.mem_append] at hp;rcases hp with hp|hp
 ·exact bE _ p hp
 ·simp at hp;subst hp;exact Fo _ _ _
def WC(c:Int):ByteArray:=if c=0 then⟨#[46]⟩ else if c=1 then⟨#[35]⟩ else⟨#[63]⟩
def Bd(r:List Int):ByteArray:=r.foldl (fun s c=>s++WC c) ByteArray.empty
theorem A3J(c:Int):(WC c).size=1:=by unfold WC;split; · rfl
                                     ·split<;>rfl
theorem Wi(r:List Int)(c:Int):Bd (r++[c])=Bd r++WC c:=by simp[Bd,List.foldl_append]
theorem KA{r:List Int}{k:Nat}{x:Int}(h:r[k]? =some x):Bd (r.take (k+1))=Bd (r.take k)++WC x:=by
 rw[List.take_add_one,h];exact Wi _ _
theorem A0k(r:List Int):∀s:ByteArray,(r.foldl (fun s c=>s++WC c) s).size=s.size+r.length:=by
 induction r with
 |nil=>intro s;simp
 |cons c r ih=>intro s;rw[List.foldl_cons,ih,Au,A3J,List.length_cons];omega
theorem EY(r:List Int):(Bd r).size=r.length:=by unfold Bd;rw[A0k];simp
theorem ZE(r:List Int):∀s:ByteArray,(r.foldl (fun s c=>s++WC c) s).data.toList=s.data.toList++(r.map (fun c=>(WC c).data.toList)).flatten:=by
 induction r with
 |nil=>intro s;simp
 |cons c r ih=>intro s;rw[List.foldl_cons,ih,Cd];simp[List.append_assoc]
def A36(c:Int):UInt8:=if c=0 then 46 else if c=1 then 35 else 63
theorem A4s(c:Int):(WC c).data.toList=[A36 c]:=by unfold WC A36;split; · rfl
                                                  ·split<;>rfl
theorem OK(r:List Int):(Bd r).data.toList=r.map A36:=by
 unfold Bd;rw[ZE];simp only[A4s];induction r with
 |nil=>rfl
 |cons c r ih=>simp at ih⊢;exact ih
def EG(m:List (List Int)):ByteArray:=BK ⟨#[47]⟩ (m.map Bd)
def Qh(b:UInt8):Int:=if b=35 then 1 else 0
def GZ(s:ByteArray):List Int:=s.data.toList.map Qh
def Gv(s:ByteArray):Bool:=s.data.toList.all fun b=>b==35||b==46
theorem A1K(s:ByteArray):∀x∈GZ s,0≤x∧x≤1:=by
 intro x hx;unfold GZ at hx;obtain⟨b,-,rfl⟩:=List.mem_map.1 hx;unfold Qh;split<;>decide
theorem VF{s:ByteArray}(h:Gv s=true):Bd (GZ s)=s:=by
 apply Dm;rw[OK];unfold GZ;rw[List.map_map];unfold Gv at h;rw[List.all_eq_true] at h;generalize s.data.toList=l at h⊢;induction l with
 |nil=>rfl
 |cons b l ih=>
  have hb:=h b (by simp);rw[List.map_cons,ih (fun x hx=>h x (by simp[hx]))];simp at hb;rcases hb with rfl|rfl<;>rfl
theorem A1F{sep:ByteArray}{xs:List ByteArray}{b:UInt8}(h:b∈(BK sep xs).data.toList):b∈sep.data.toList∨∃x∈xs,b∈x.data.toList:=by
 cases xs with
 |nil=>simp[UN] at h
 |cons y r=>
  unfold BK at h;simp only[List.map_cons] at h;rw[Lib.join_cons] at h;simp only[Lib.joinTail] at h;rw[List.mem_append] at h;rcases h with h|h
  ·exact .inr ⟨y,by simp,h⟩
  ·rw[List.mem_flatten] at h;obtain⟨l,hl,hb⟩:=h;simp only[List.map_map,List.mem_map,Function.comp] at hl;obtain⟨x,hx,rfl⟩:=hl;rw[List.mem_append] at hb;rcases hb with hb|hb
   ·exact .inl hb
   ·exact .inr ⟨x,by simp[hx],hb⟩
theorem XE(s:ByteArray):EG ((Ae s 47).map GZ)=s↔(Ae s 47).all Gv=true:=by
 constructor
 ·intro h;rw[List.all_eq_true];intro p hp;unfold Gv;rw[List.all_eq_true];intro b hb;obtain⟨aO,dG⟩:=Kv s 47 p hp b hb;rw[←h] at dG;rcases A1F dG with h1|⟨x,hx,h1⟩
  ·simp at h1;exact absurd h1 aO
  ·simp only[List.map_map,List.mem_map,Function.comp] at hx;obtain⟨q,-,rfl⟩:=hx;rw[OK] at h1;obtain⟨c,hc,rfl⟩:=List.mem_map.1 h1;have:=A1K q c hc;have h2:c=0∨c=1:=by omega
   rcases h2 with rfl|rfl<;>rfl
 ·intro h;rw[List.all_eq_true] at h;unfold EG;rw[List.map_map];have e:(Ae s 47).map (Bd∘GZ)=Ae s 47:=by
   exact(List.map_congr_left (f:=Bd∘GZ) (g:=id) (fun p hp=>VF (h p hp))).trans (List.map_id _)
  rw[e,EI]
def An(n:Int):ByteArray:=⟨(Lib.itoa n).toArray⟩
theorem A2n{n:Int}(h0:0≤n)(h1:n≤9):An n=⟨#[UInt8.ofNat (48+n.toNat)]⟩:=by
 unfold An Lib.itoa;rw[if_neg (by omega),Lib.decDigits_one (by omega)]
theorem A3b{n:Int}(h:9<n):An n=An (n/10)++⟨#[UInt8.ofNat (48+(n % 10).toNat)]⟩:=by
 apply Dm;rw[Cd];unfold An Lib.itoa;rw[if_neg (by omega),if_neg (by omega),Lib.decDigits,dif_neg (by omega)];have e1:n.toNat/10=(n/10).toNat:=by omega
 have e2:n.toNat % 10=(n % 10).toNat:=by omega
 rw[e1,e2]
theorem A41{n:Int}(h0:n<0)(h1:-10<n):An n=⟨#[45]⟩++⟨#[UInt8.ofNat (48+(-n).toNat)]⟩:=by
 apply Dm;rw[Cd];unfold An Lib.itoa;rw[if_pos h0,Lib.decDigits_one (by omega)];have e1:n.natAbs=(-n).toNat:=by omega
 rw[e1];rfl
theorem A4V{n:Int}(h1:n≤-10):An n=An (n.tdiv 10)++⟨#[UInt8.ofNat (48+(-(n.tmod 10)).toNat)]⟩:=by
 apply Dm;rw[Cd];have e0:n.tdiv 10=-((-n) /10):=by
  have h2:(-(-n)).tdiv 10=-((-n).tdiv 10):=Int.neg_tdiv ..
  rw[Int.neg_neg,Int.tdiv_eq_ediv_of_nonneg (a:=-n) (by omega)] at h2;exact h2
 have e00:n.tmod 10=n-10*n.tdiv 10:=Int.tmod_def n 10;have hd:n.tdiv 10<0:=by omega
 unfold An Lib.itoa;rw[if_pos (by omega),if_pos hd,Lib.decDigits,dif_neg (by omega)];have e1:n.natAbs/10=(n.tdiv 10).natAbs:=by omega
 have e2:n.natAbs % 10=(-(n.tmod 10)).toNat:=by omega
 rw[e1,e2];simp
theorem Jt(u:Nat):∀k,u<10^(k+1)→(Lib.decDigits u).length≤k+1:=by
 intro k;induction k generalizing u with
 |zero=>intro h;rw[Lib.decDigits_one (by omega)];simp
 |succ k ih=>
  intro h;rw[Lib.decDigits]
  split
  ·simp
  ·rw[List.length_append];have:=ih (u/10) (by rw[Nat.pow_succ] at h;omega);simp;omega
theorem Cb{n:Int}(h:-9223372036854775808≤n∧n≤9223372036854775807):(An n).size≤20:=by
 rw[D8];unfold An Lib.itoa;have hb:∀u:Nat,u≤9223372036854775808→(Lib.decDigits u).length≤19:=fun u hu=>Jt u 18 (by omega)
 split
 ·have:=hb n.natAbs (by omega);simp;omega
 ·have:=hb n.toNat (by omega);simp;omega
def MC(a:Nat)(l:List UInt8):Nat:=l.foldl (fun a b=>a*10+(b.toNat-48)) a
def Jn(l:List UInt8):Nat:=MC 0 l
def KY(b:UInt8):Bool:=decide (48≤b.toNat)&&decide (b.toNat≤57)
theorem Pk(a:Nat)(b:UInt8)(l:List UInt8):MC a (b::l)=MC (a*10+(b.toNat-48)) l:=by unfold MC;rw[List.foldl_cons]
theorem Ue(a:Nat)(b:UInt8)(l:List UInt8):MC a (l++[b])=MC a l*10+(b.toNat-48):=by simp[MC,List.foldl_append]
theorem A11(l:List UInt8):∀a,a≤MC a l:=by
 induction l with
 |nil=>intro a;exact Nat.le_refl _
 |cons b l ih=>intro a;have:=ih (a*10+(b.toNat-48));rw[Pk];omega
theorem YR(a:Nat)(l m:List UInt8):MC a (l++m)=MC (MC a l) m:=by simp[MC,List.foldl_append]
theorem Wu(l:List UInt8)(k:Nat):Jn (l.take k)≤Jn l:=by
 have h:=YR 0 (l.take k) (l.drop k);rw[List.take_append_drop] at h;have h2:=A11 (l.drop k) (MC 0 (l.take k));unfold Jn;omega
theorem P3{l:List UInt8}{k:Nat}{b:UInt8}(h:l[k]? =some b):Jn (l.take (k+1))=Jn (l.take k)*10+(b.toNat-48):=by
 rw[List.take_add_one,h];exact Ue _ _ _
theorem MB{d:Nat}(h:d<10):(UInt8.ofNat (48+d)).toNat=48+d:=by
 rw[UInt8.toNat_ofNat'];omega
theorem Dz(u:Nat):Jn (Lib.decDigits u)=u∧(Lib.decDigits u).all KY=true∧Lib.decDigits u≠[]:=by
 induction u using Nat.strongRecOn with
 |ind u ih=>
  rw[Lib.decDigits]
  split
  ·rename_i h
   refine⟨?_,?_,by simp⟩
   ·unfold Jn;rw[Pk,MB h];simp[MC]
   ·simp only[List.all_cons,List.all_nil,Bool.and_true,KY,MB h];simp;omega
  ·rename_i h
   obtain⟨h1,h2,h3⟩:=ih (u/10) (by omega);have hd:u % 10<10:=by omega
   refine⟨?_,?_,by simp⟩
   ·unfold Jn at h1⊢;rw[Ue,h1,MB hd];omega
   ·rw[List.all_append,h2];simp only[List.all_cons,List.all_nil,Bool.and_true,Bool.true_and,KY,MB hd];simp;omega
theorem PJ(u:Nat):∃b l,Lib.decDigits u=b::l∧KY b=true:=by
 obtain⟨-,h2,h3⟩:=Dz u
 match h:Lib.decDigits u with
 |[]=>exact absurd h h3
 |b::l=>rw[h] at h2;simp at h2;exact⟨b,l,rfl,h2.1⟩
theorem Lz{b:UInt8}:KY b=true↔48≤b.toNat∧b.toNat≤57:=by simp[KY]
theorem Da(n:Int):(n<0→Lib.itoa n=45::Lib.decDigits n.natAbs)∧(0≤n→Lib.itoa n=Lib.decDigits n.natAbs):=by
 refine⟨fun h=>by unfold Lib.itoa;rw[if_pos h],fun h=>?_⟩;unfold Lib.itoa;rw[if_neg (by omega)];have:n.toNat=n.natAbs:=by omega
 rw[this]
theorem A4q{n m:Int}(h:Lib.itoa n=Lib.itoa m):n=m:=by
 have key:∀u:Nat,∀v:Nat,Lib.decDigits u≠45::Lib.decDigits v:=by
  intro u v he;obtain⟨b,l,hb,hd⟩:=PJ u;rw[hb] at he;have:=(List.cons.inj he).1;subst this;simp[KY] at hd
 have uO:∀u v:Nat,Lib.decDigits u=Lib.decDigits v→u=v:=by
  intro u v he;have h1:=(Dz u).1;have h2:=(Dz v).1;rw[he] at h1;omega
 rcases Int.lt_or_le n 0 with hn|hn<;>rcases Int.lt_or_le m 0 with hm|hm
 ·rw[(Da n).1 hn,(Da m).1 hm] at h;have:=uO _ _ (List.cons.inj h).2;omega
 ·rw[(Da n).1 hn,(Da m).2 hm] at h;exact absurd h.symm (key _ _)
 ·rw[(Da n).2 hn,(Da m).1 hm] at h;exact absurd h (key _ _)
 ·rw[(Da n).2 hn,(Da m).2 hm] at h;have:=uO _ _ h;omega
theorem ZN{n m:Int}(h:An n=An m):n=m:=by
 apply A4q;have:=congrArg (fun b:ByteArray=>b.data.toList) h;exact this
theorem Wd(l:List UInt8):∀a,l.all KY=true→MC a l<18446744073709551616→Lib.parseUint10 a l=.ok (MC a l):=by
 induction l with
 |nil=>intro a _ _;rfl
 |cons b l ih=>
  intro a h aH;rw[List.all_cons,Bool.and_eq_true] at h;have hb:=Lz.1 h.1;rw[Pk] at aH⊢;have hge:=A11 l (a*10+(b.toNat-48));unfold Lib.parseUint10;rw[if_pos hb,if_neg (by omega),if_neg (by omega)];exact ih _ h.2 aH
theorem A2t{n:Int}(h1:-9223372036854775808≤n)(h2:n≤9223372036854775807):Lib.atoiAll (Lib.itoa n)=.ok n:=by
 obtain⟨d1,d2,d3⟩:=Dz n.natAbs;have hm:Lib.parseMag (Lib.decDigits n.natAbs)=.ok n.natAbs:=by
  unfold Lib.parseMag;rw[if_neg d3,Wd _ _ d2 (by unfold Jn at d1;omega)];unfold Jn at d1;rw[d1]
 rcases Int.lt_or_le n 0 with hn|hn
 ·rw[(Da n).1 hn];unfold Lib.atoiAll;simp only[show(45:UInt8).toNat=45 from rfl,or_true,if_true];rw[hm];simp only[not_true_eq_false,false_and,if_false,true_and];rw[if_neg (by omega)];have:-(n.natAbs:Int)=n:=by omega
  rw[this]
 ·rw[(Da n).2 hn];obtain⟨b,l,hb,hd⟩:=PJ n.natAbs;have au:=Lz.1 hd;rw[hb] at hm⊢;unfold Lib.atoiAll;have e1:¬(b.toNat=43∨b.toNat=45):=by omega
  have e2:¬(b.toNat=45):=by omega
  simp only[if_neg e1];rw[hm];simp only[e2,not_false_eq_true,true_and,false_and,if_false];rw[if_neg (by omega)];have:(n.natAbs:Int)=n:=by omega
  rw[this]
def L5(s:ByteArray)(n:Int):Prop:=(-9223372036854775808≤n∧n≤9223372036854775807)∧An n=s
open Classical in
noncomputable def Fd (s:ByteArray):Option Int:=if h:∃n,L5 s n then some h.choose else none
theorem L5.uniq{s:ByteArray}{n m:Int}(h:L5 s n)(k:L5 s m):n=m:=ZN (h.2.trans k.2.symm)
theorem J4{s:ByteArray}{n:Int}(h:L5 s n):Fd s=some n:=by
 unfold Fd;have bR:∃n,L5 s n:=⟨n,h⟩;rw[dif_pos bR,bR.choose_spec.uniq h]
theorem Kk{s:ByteArray}{n:Int}(h:Fd s=some n):L5 s n:=by
 unfold Fd at h
 split at h
 ·rename_i bR;rw[←Option.some.inj h];exact bR.choose_spec
 ·cases h
theorem LN{s:ByteArray}{n:Int}(h:Fd s=some n):Lib.atoiAll s.data.toList=.ok n:=by
 have k:=Kk h;rw[←k.2];exact A2t k.1.1 k.1.2
theorem L5.pos{s:ByteArray}{n:Int}(h:L5 s n)(h0:0≤n):Jn s.data.toList=n.natAbs∧s.data.toList.all KY=true∧0<s.size∧s.size≤19:=by
 obtain⟨hI,rfl⟩:=h;obtain⟨d1,d2,d3⟩:=Dz n.natAbs;have e:(An n).data.toList=Lib.decDigits n.natAbs:=(Da n).2 h0;rw[D8,e];have:=Jt n.natAbs 18 (by omega);exact⟨d1,d2,List.length_pos_iff.2 d3,this⟩
theorem L5.neg{s:ByteArray}{n:Int}(h:L5 s n)(h0:n<0):∃l,s.data.toList=45::l∧Jn l=n.natAbs∧l.all KY=true∧0<l.length∧l.length≤19:=by
 obtain⟨hI,rfl⟩:=h;obtain⟨d1,d2,d3⟩:=Dz n.natAbs;refine⟨Lib.decDigits n.natAbs,(Da n).1 h0,d1,d2,List.length_pos_iff.2 d3,Jt n.natAbs 18 (by omega)⟩
end Go.Proofs.YthmocomfjgmjoaaGreatDoor
namespace Go.Proofs.YthmocomfjgmjoaaGreatDoor
open Go.RowKit
theorem Fp:(Tryz.prog.info? 9).map (fun i=>(i.zero,i.size,i.bytes))=some (some (.string ⟨#[]⟩),1,16):=by kernel_rfl
theorem Wo(s:ByteArray)(c:Int)(w:World):
  Calls Tryz.prog 153 #[.string s,.int .u8 c] w fun e w'=>e=.returned (.int .i64 (Lib.indexByte s.data.toList c.toNat.toUInt8))∧w'=w:=by
 go_enter Tryz.func153,Tryz.ntmps153;go_wp2;rw[run_callFunc_extern Tryz.func218 (by kernel_rfl) (by kernel_rfl) (by kernel_rfl) (e:=Extern.BytealgIndexByte.indexByte) (by kernel_rfl),Lib.run_indexByteString];simp only[Result.andThen];rw[Oper.upon_value];go_wp2
 go_ret
 exact⟨rfl,rfl⟩
theorem UV(s:ByteArray)(c:Int)(w:World):
  Calls Tryz.prog 78 #[.string s,.int .u8 c] w fun e w'=>e=.returned (.int .i64 (Lib.indexByte s.data.toList c.toNat.toUInt8))∧w'=w:=by
 go_enter Tryz.func78,Tryz.ntmps78;go_wp2_with (go_at_call 153;refine(Wo _ _ _).mono ?_;rintro e w' ⟨rfl,rfl⟩)
 go_ret
 exact⟨rfl,rfl⟩
theorem YG{b c:UInt8}(h:c=b)(w:World):Calls Tryz.prog 78 #[.string ⟨#[b]⟩,.int .u8 c.toNat] w fun e w'=>e=.returned (.int .i64 0)∧w=w':=
 (UV _ _ w).mono fun e w' ⟨h1,h2⟩=>⟨by rw[h1];subst h;simp[Lib.indexByte],h2.symm⟩
theorem VW{b c:UInt8}(h:c≠b)(w:World):Calls Tryz.prog 78 #[.string ⟨#[b]⟩,.int .u8 c.toNat] w fun e w'=>e=.returned (.int .i64 (-1))∧w=w':=
 (UV _ _ w).mono fun e w' ⟨h1,h2⟩=>⟨by rw[h1];have h3:(b==c)=false:=by simpa using fun e=>h e.symm
                                       simp[Lib.indexByte,h3],h2.symm⟩
theorem PZ{s:ByteArray}{b:UInt8}{k:Nat}(h:s.data.toList[k]? =some b):By s b (k+1)=((By s b k).1++[s.extract (By s b k).2 k],k+1):=by
 conv=>lhs;unfold By
 rw[if_pos h]
theorem Kd{s:ByteArray}{b:UInt8}{k:Nat}(h:s.data.toList[k]? ≠some b):By s b (k+1)=By s b k:=by
 conv=>lhs;unfold By
 rw[if_neg h]
theorem Ia{s:ByteArray}(hs:s.size≤1048576)(i j:Nat):(s.extract i j).size≤9223372036854775807:=by have:=Fo s i j;omega
theorem Am(s:ByteArray)(b:UInt8)(w:World)(hs:s.size≤1048576):Calls Tryz.prog 25 #[.string s,.string ⟨#[b]⟩] w (M7 9 Gd w (Ae s b)):=by
 go_enter Tryz.func25,Tryz.ntmps25;go_wp2;go_loopw [5,6,7] (fun v st i wr=>∃k p:Nat,k≤s.size∧i=.int .i64 k∧p=(By s b k).2∧p≤k∧st=.int .i64 p∧A4 9 Gd (Iv w.heap.size wr.heap.size) wr v (By s b k).1∧Below w.heap.size w wr) (fun _ _ i _=>s.size-(intOf i).toNat)
 case atStart=>exact⟨0,0,Nat.zero_le _,rfl,rfl,Nat.le_refl _,rfl,A4.nil _ _ _ _,Below.refl _ _⟩
 case round=>
  obtain⟨k,p,hk,rfl,hp,hpk,rfl,aB,aA⟩:=hrel;obtain⟨wo,rfl⟩:∃wo:World,wo=wr:=⟨_,rfl⟩;have aV:=aA.size;have oM:=M6 s b k;have ah:(By s b k).1.length<1099511627776:=by omega
  have Hp:=Z hp;obtain⟨p1,p2,p3,rfl⟩:=aB.shape;have aC:=Z aB;clear hp aB;by_cases aH:k<s.size
  ·have ek:=Z (L8 aH);by_cases hb:s[k]=b
   ·have aJ:=Z (PZ (s:=s) (b:=b) (k:=k) (by rw[ek.o,hb]));have Hb:=Z hb;have hx:=Ia hs p k;clear hb;go_wp2_with (first|(go_at_call 78;refine(YG Hb.o _).mono ?_;rintro e w' ⟨rfl,rfl⟩)|(at_builtin;(refine Aa rfl _ _ 27 rfl C1 9 Tryz.underlying27 Fp rfl (by decide) w.heap.size wo.heap.size aV (Nat.le_refl _) rfl rfl (by exact aC.o) (by exact⟨rfl,hx⟩) ah ?_);intro v2 w2 hown2 aT _)|fail);have au:=aA.trans aT;have ae:=Z hown2;clear hown2;go_wp2;go_roundw
    case rel=>exact⟨k+1,k+1,by omega,by go_num,by rw[aJ.o],Nat.le_refl _,by go_num,by rw[aJ.o,←Hp.o];exact ae.o,au⟩
    case measure=>simp[intOf];omega
   ·have aJ:=Z (Kd (s:=s) (b:=b) (k:=k) (by rw[ek.o];simpa using hb));go_wp2_with (first|(go_at_call 78;refine(VW hb _).mono ?_;rintro e w' ⟨rfl,rfl⟩)|fail);go_roundw
    case rel=>exact⟨k+1,p,by omega,by go_num,by rw[aJ.o];exact Hp.o,by omega,rfl,by rw[aJ.o];exact aC.o,aA⟩
    case measure=>simp[intOf];omega
  ·obtain rfl:k=s.size:=by omega
   have hx:=Ia hs p s.size;go_wp2_with (first|(at_builtin;(refine Aa rfl _ _ 27 rfl C1 9 Tryz.underlying27 Fp rfl (by decide) w.heap.size wo.heap.size aV (Nat.le_refl _) rfl rfl (by exact aC.o) (by exact⟨rfl,hx⟩) ah ?_);intro v2 w2 hown2 aT _)|fail);have au:=aA.trans aT;have ae:=Z hown2;clear hown2;go_wp2
   go_ret
   exact⟨_,rfl,by unfold Ae;rw[←Hp.o];exact ae.o,au⟩
theorem CF(s:ByteArray)(b:UInt8)(w:World)(hs:s.size≤1048576):Calls Tryz.prog 62 #[.string s,.string ⟨#[b]⟩] w (M7 9 Gd w (Ae s b)):=by
 go_enter Tryz.func62,Tryz.ntmps62;go_wp2;go_loopw [5,6,7,8] (fun v st i _ wr=>∃k p:Nat,k≤s.size∧i=.int .i64 k∧p=(By s b k).2∧p≤k∧st=.int .i64 p∧A4 9 Gd (Iv w.heap.size wr.heap.size) wr v (By s b k).1∧Below w.heap.size w wr) (fun _ _ i _ _=>s.size-(intOf i).toNat)
 case atStart=>exact⟨0,0,Nat.zero_le _,rfl,rfl,Nat.le_refl _,rfl,Bq _ _ _ C1,Below.pureAlloc _ _⟩
 case round=>
  obtain⟨k,p,hk,rfl,hp,hpk,rfl,aB,aA⟩:=hrel;obtain⟨wo,rfl⟩:∃wo:World,wo=wr:=⟨_,rfl⟩;have aV:=aA.size;have oM:=M6 s b k;have ah:(By s b k).1.length<1099511627776:=by omega
  have Hp:=Z hp;obtain⟨p1,p2,p3,rfl⟩:=aB.shape;have aC:=Z aB;clear hp aB;by_cases aH:k<s.size
  ·have ek:=Z (L8 aH);have dW:decide ((k:Int)<(s.size:Int))=true:=by simp;omega
   go_wp2;go_loopw [5,6,8] (fun v st j wr=>∃n:Nat,v=.slice p1 p2 p3∧st=.int .i64 p∧wr=wo.drewN n∧(j=.int .i64 0∨(j=.int .i64 1∧s[k]≠b))) (fun _ _ j _=>1-(intOf j).toNat)
   case atStart=>exact⟨0,rfl,rfl,rfl,.inl rfl⟩
   case round=>
    obtain⟨n,rfl,rfl,rfl,hj⟩:=hrel;have hbn:=below_drewN (Below.refl wo.heap.size wo) n;have fP:=Z (show A4 9 Gd (Iv w.heap.size (wo.drewN n).heap.size) (wo.drewN n) (Value.slice p1 p2 p3) (By s b k).1 from aC.o);rcases hj with rfl|⟨rfl,aO⟩
    ·by_cases hb:s[k]=b
     ·have aJ:=Z (PZ (s:=s) (b:=b) (k:=k) (by rw[ek.o,hb]));have hx:=Ia hs p k;have dJ:((s[k].toNat:Int)==(((⟨#[b]⟩:ByteArray)[0]'(Nat.zero_lt_one)).toNat:Int))=true:=by
       show((s[k].toNat:Int)==(b.toNat:Int))=true;rw[hb];simp
      clear hb;go_wp2;go_quiet (fail);have zV:=below_drewN (Below.refl wo.heap.size wo) (n+nq);have rK:=Z (show A4 9 Gd (Iv w.heap.size (wo.drewN (n+nq)).heap.size) (wo.drewN (n+nq)) (Value.slice p1 p2 p3) (By s b k).1 from aC.o);go_wp2_with (first|(at_builtin;(refine Aa rfl _ _ 27 rfl C1 9 Tryz.underlying27 Fp rfl (by decide) w.heap.size wo.heap.size aV (show wo.heap.size≤(wo.drewN (n+nq)).heap.size from Nat.le_refl _) rfl rfl (by exact rK.o) (by exact⟨rfl,hx⟩) ah ?_);intro v2 w2 hown2 aT _)|fail);have au:=(aA.trans (zV.mono aV)).trans aT;have ae:=Z hown2;clear hown2;go_wp2;go_roundw
      case rel=>exact⟨k+1,k+1,by omega,by go_num,by rw[aJ.o],Nat.le_refl _,by go_num,by rw[aJ.o,←Hp.o];exact ae.o,au⟩
      case measure=>simp[intOf];omega
     ·have aJ:=Z (Kd (s:=s) (b:=b) (k:=k) (by rw[ek.o];simpa using hb));have dJ:((s[k].toNat:Int)==(((⟨#[b]⟩:ByteArray)[0]'(Nat.zero_lt_one)).toNat:Int))=false:=by
       show((s[k].toNat:Int)==(b.toNat:Int))=false;rw[beq_eq_false_iff_ne];intro h;exact hb (UInt8.toNat_inj.1 (by omega))
      go_wp2;go_quiet (fail);go_wp2;go_roundw
      case rel=>exact⟨_,rfl,rfl,rfl,.inr ⟨by go_num,hb⟩⟩
      case measure=>simp[intOf]
    ·have aJ:=Z (Kd (s:=s) (b:=b) (k:=k) (by rw[ek.o];simpa using aO));clear aO;go_wp2;go_roundw
     case rel=>exact⟨k+1,p,by omega,by go_num,by rw[aJ.o];exact Hp.o,by omega,rfl,by rw[aJ.o];exact fP.o,aA.trans (hbn.mono aV)⟩
     case measure=>simp[intOf];omega
  ·obtain rfl:k=s.size:=by omega
   have hx:=Ia hs p s.size;go_wp2_with (first|(at_builtin;(refine Aa rfl _ _ 27 rfl C1 9 Tryz.underlying27 Fp rfl (by decide) w.heap.size wo.heap.size aV (Nat.le_refl _) rfl rfl (by exact aC.o) (by exact⟨rfl,hx⟩) ah ?_);intro v2 w2 hown2 aT _)|fail);have au:=aA.trans aT;have ae:=Z hown2;clear hown2;go_wp2
   go_ret
   exact⟨_,rfl,by unfold Ae;rw[←Hp.o];exact ae.o,au⟩
theorem A1P{P:Program}(w:World)(src dst e:TypeId)(z:Int)(hs:P.underlying src=some (.slice e))(he:P.underlying e=some (.int .u8))(hd:P.underlying dst=some .string):
  (convert src dst (.slice (some ⟨w.heap.size,0,none⟩) 1 1)).run P (w.alloc (.cells #[.int .u8 z] e))=.ok (.string ⟨#[UInt8.ofNat z.toNat]⟩) (w.alloc (.cells #[.int .u8 z] e)):=by
 rw[run_convert_bytes_string _ _ _ _ _ _ _ hs he hd];have hl:(loadCells ⟨w.heap.size,0,none⟩ 1).run P (w.alloc (.cells #[.int .u8 z] e))=.ok ([z].map (Value.int .u8)).toArray (w.alloc (.cells #[.int .u8 z] e)):=by
  have:=run_loadCells_list (P:=P) (w.alloc (.cells #[.int .u8 z] e)) ⟨w.heap.size,0,none⟩ [.int .u8 z] (Pm w _ e);simpa using this
 rw[run_bytesToString _ _ _ _ _ hl];rfl
theorem Ko{w w2:World}(h:Below w.drew.heap.size w.drew w2):Below w.heap.size w w2:=⟨h.os,h.tape,h.output,h.size,h.block⟩
theorem A3G{b b':ByteArray}(h:b=b'):Ending.returned (.string b)=Ending.returned (.string b'):=by rw[h]
theorem T9{n:Int}(h:n≤0):n.tdiv 10=-((-n) /10):=by
 have h2:(-(-n)).tdiv 10=-((-n).tdiv 10):=Int.neg_tdiv ..
 rw[Int.neg_neg,Int.tdiv_eq_ediv_of_nonneg (a:=-n) (by omega)] at h2;exact h2
theorem A2Z(n:Int):n.tmod 10=n-10*n.tdiv 10:=Int.tmod_def n 10
theorem A14(w:World)(z:Int):(convert 22 9 (.slice (some ⟨w.heap.size,0,none⟩) 1 1)).run Tryz.prog (w.alloc (.cells #[.int .u8 z] 5))=.ok (.string ⟨#[UInt8.ofNat z.toNat]⟩) (w.alloc (.cells #[.int .u8 z] 5)):=
 A1P w _ _ _ z Tryz.underlying22 Tryz.underlying5 Tryz.underlying9
theorem A3w(w:World)(g:Nat)(z:Int)(h:w.cell? ⟨g,0,none⟩=some (.int .u8 z)):(convert 22 9 (.slice (some ⟨g,0,none⟩) 1 1)).run Tryz.prog w=.ok (.string ⟨#[UInt8.ofNat z.toNat]⟩) w:=by
 rw[run_convert_bytes_string _ _ _ _ _ _ _ Tryz.underlying22 Tryz.underlying5 Tryz.underlying9];have hl:(loadCells ⟨g,0,none⟩ 1).run Tryz.prog w=.ok ([z].map (Value.int .u8)).toArray w:=by
  have:=run_loadCells_list (P:=Tryz.prog) w ⟨g,0,none⟩ [.int .u8 z] (fun j v hj=>by
   match j,hj with
   |0,hj=>simp at hj;subst hj;simpa[Addr.add] using h)
  simpa using this
 rw[run_bytesToString _ _ _ _ _ hl];rfl
theorem A3W{w w2:World}{z:Int}(hb:Below (w.alloc (.cells #[.int .u8 z] 5)).drew.heap.size (w.alloc (.cells #[.int .u8 z] 5)).drew w2):(convert 22 9 (.slice (some ⟨w.heap.size,0,none⟩) 1 1)).run Tryz.prog w2=.ok (.string ⟨#[UInt8.ofNat z.toNat]⟩) w2:=
 A3w w2 w.heap.size z ((hb.cell (p:=⟨w.heap.size,0,none⟩) (by simp)).trans (by simp))
theorem A5o(w:World)(z:Int):(convert 22 9 (.slice (some ⟨w.heap.size,0,none⟩) 1 1)).run Tryz.prog (w.alloc (.cells #[.int .u8 z] 5)).drew=.ok (.string ⟨#[UInt8.ofNat z.toNat]⟩) (w.alloc (.cells #[.int .u8 z] 5)).drew:=
 A3w _ w.heap.size z (by simp)
theorem Ml(z:UInt8):(⟨#[z]⟩:ByteArray).size=1:=rfl
theorem Vl(n:Int)(hn:BV n)(h0:0≤n)(w:World):Calls Tryz.prog 144 #[.int .i64 n] w fun e w'=>e=.returned (.string (An n))∧Below w.heap.size w w':=by
 obtain⟨eA,fZ⟩:=hn.o;have pR:=Cb ⟨eA,fZ⟩;go_enter Tryz.func144,Tryz.ntmps144;go_wp2;go_loopw [0,3] (fun nv s wr=>∃(m:Int)(t:ByteArray),nv=.int .i64 m∧s=.string t∧0≤m∧m≤9223372036854775807∧An n=An m++t∧t.size≤20∧Below w.heap.size w wr) (fun nv _ _=>(intOf nv).toNat)
 case atStart=>exact⟨n,ByteArray.empty,rfl,rfl,h0,fZ,by apply Dm;simp,by simp,Below.refl _ _⟩
 case round=>
  obtain⟨m,t,rfl,rfl,nW,sE,hf,xV,aA⟩:=hrel;obtain⟨wo,rfl⟩:∃wo:World,wo=wr:=⟨_,rfl⟩;have hts2:t.size+(An m).size≤20:=by rw[hf,Au] at pR;omega
  have Hf:=Z hf;clear hf;by_cases h9:9<m
  ·have bE:=A3b h9;have aJ:=Z (show An n=An (m/10)++(⟨#[UInt8.ofNat (48+m % 10).toNat]⟩++t) from by
    rw[Hf.o,bE];have e:48+(m % 10).toNat=(48+m % 10).toNat:=by omega
    rw[e];apply Dm;simp[List.append_assoc])
   have hz:=Ml (UInt8.ofNat (48+m % 10).toNat);have aI:(⟨#[UInt8.ofNat (48+m % 10).toNat]⟩++t:ByteArray).size≤20:=by
    have h1:=congrArg ByteArray.size bE;rw[Au,Ml] at h1;rw[Au,Ml];omega
   have hc:=A14 wo (48+m % 10);clear bE;go_wp2;go_roundw
   case rel=>exact⟨m/10,_,by go_num,rfl,by omega,by omega,aJ.o,aI,aA.alloc aA.size _⟩
   case measure=>simp[intOf];omega
  ·have aJ:=Z (show An n=⟨#[UInt8.ofNat (48+m).toNat]⟩++t from by
    rw[Hf.o,A2n nW (by omega)];have e:48+m.toNat=(48+m).toNat:=by omega
    rw[e])
   have hz:=Ml (UInt8.ofNat (48+m).toNat);have hc:=A14 wo (48+m);go_wp2
   go_ret
   exact⟨A3G aJ.o.symm,aA.alloc aA.size _⟩
theorem Vr(N:Nat):∀(n:Int),BV n→n<0→n.natAbs≤N→∀w:World,Calls Tryz.prog 144 #[.int .i64 n] w fun e w'=>e=.returned (.string (An n))∧Below w.heap.size w w':=by
 induction N with
 |zero=>intro n _ h0 hN;omega
 |succ N ih=>
  intro n hn h0 hN w;obtain⟨eA,fZ⟩:=hn.o;by_cases h10:-10<n
  ·have Hf:=Z (show An n=⟨#[45]⟩++⟨#[UInt8.ofNat (48-n).toNat]⟩ from by
    rw[A41 h0 h10];have e:48+(-n).toNat=(48-n).toNat:=by omega
    rw[e])
   have hq:(n.tdiv 10==0)=true:=by
    rw[beq_iff_eq,T9 (by omega)];omega
   have hz:=Ml (UInt8.ofNat (48-n).toNat);have hc:=A14 w (48-n);go_enter Tryz.func144,Tryz.ntmps144;go_wp2
   go_ret
   exact⟨A3G Hf.o.symm,Below.pureAlloc _ _⟩
  ·have Hf:=Z (show An n=An (n.tdiv 10)++⟨#[UInt8.ofNat (48-n.tmod 10).toNat]⟩ from by
    rw[A4V (by omega)];have e:48+(-(n.tmod 10)).toNat=(48-n.tmod 10).toNat:=by
     have h1:=A2Z n;have h2:=T9 (n:=n) (by omega);omega
    rw[e])
   have hd:=T9 (n:=n) (by omega);have hmo:=A2Z n;have hq:(n.tdiv 10==0)=false:=by
    rw[beq_eq_false_iff_ne];omega
   have sE:0≤48-n.tmod 10:=by omega
   have eE:48-n.tmod 10≤255:=by omega
   have zW:-9≤n.tmod 10:=by omega
   have hm4:n.tmod 10≤0:=by omega
   have hIq:BV (n.tdiv 10):=⟨by omega,by omega⟩;have tN:n.tdiv 10<0:=by omega
   have hqN:(n.tdiv 10).natAbs≤N:=by omega
   have pR:=Cb hIq.o;have iI:IntKind.i64.wrap (n.tdiv 10)=n.tdiv 10:=by rw[IntKind.wrap_i64];omega
   have dc:IntKind.i64.wrap (n.tmod 10)=n.tmod 10:=by rw[IntKind.wrap_i64];omega
   have kj:IntKind.i64.wrap (48-n.tmod 10)=48-n.tmod 10:=by rw[IntKind.wrap_i64];omega
   have fS:IntKind.u8.wrap (48-n.tmod 10)=48-n.tmod 10:=by rw[IntKind.wrap_u8];omega
   have hz:=Ml (UInt8.ofNat (48-n.tmod 10).toNat);have hc:=A5o w (48-n.tmod 10);have IH:=Z (ih (n.tdiv 10) hIq tN hqN);clear ih hd hmo;go_enter Tryz.func144,Tryz.ntmps144;go_wp2;go_region_with (go_at_call 144;refine(IH.o _).mono ?_;rintro e w2 ⟨rfl,au⟩;have cH:=A14 w2 (48-n.tmod 10);first|(have lL:=A3W au)|skip)
   all_goals go_wp2
   all_goals go_ret
   all_goals refine⟨A3G Hf.o.symm,?_⟩
   all_goals first
    |exact(Ko au).alloc (by have:=au.size;exact this) _
    |exact(Below.pureAlloc w _).trans_pure (Ko au) (by simp)
    |exact Ko au
theorem Dr(n:Int)(hn:BV n)(w:World):Calls Tryz.prog 144 #[.int .i64 n] w fun e w'=>e=.returned (.string (An n))∧Below w.heap.size w w':=by
 rcases Int.lt_or_le n 0 with h|h
 ·exact Vr n.natAbs n hn h (Nat.le_refl _) w
 ·exact Vl n hn h w
theorem Fl{b b':ByteArray}(h:b=b'):Ending.returned (.string b)=Ending.returned (.string b'):=by rw[h]
theorem Si(v:Value)(xs:List ByteArray)(sep:ByteArray)(w:World)(hv:AM w v xs)(hb:Dt sep xs≤1099511627776):Calls Tryz.prog 129 #[v,.string sep] w fun e w'=>e=.returned (.string (BK sep xs))∧w=w':=by
 obtain⟨a,cap,rfl,ak,cY,-,hc⟩:=hv;go_enter Tryz.func129,Tryz.ntmps129;go_wp2
 go_loop [5,6,7,10] (fun s _ _ i=>∃k:Nat,k≤xs.length∧i=.int .i64 k∧s=.string (BK sep (xs.take k))) (fun _ _ _ i=>xs.length-(intOf i).toNat)
 case atStart=>exact⟨0,Nat.zero_le _,rfl,rfl⟩
 case round=>
  obtain⟨k,hk,rfl,rfl⟩:=hrel;obtain⟨t,ht⟩:∃t,t=BK sep (xs.take k):=⟨_,rfl⟩;rw[←ht];have xV:t.size≤1099511627776:=by
   have h1:=DP sep (xs.take k);have h2:=MS sep xs k;rw[ht];omega
  have Ht:=Z ht;clear ht;by_cases aH:k<xs.length
  ·obtain⟨b,off,rfl,-,bQ⟩:=hc (by omega);obtain⟨x,hx⟩:∃x,xs[k]? =some x:=⟨_,List.getElem?_eq_getElem aH⟩;obtain⟨u,aQ,rfl,-⟩:=bQ k x hx;have Hs:=Z (A0i (sep:=sep) hx);have dz:x.size+sep.size+t.size≤1099511627776:=by
    have h1:=DP sep (xs.take k);have h2:=MS sep xs (k+1);have h3:=OJ sep (xs.take k) [x];rw[show xs.take k++[x]=xs.take (k+1) from by rw[List.take_add_one,hx];rfl] at h3;simp only[Dt] at h3;rw[←Ht.o] at h1;omega
   clear hx hc bQ;by_cases h0:k=0
   ·subst h0;have ht0:t=ByteArray.empty:=by rw[Ht.o];rfl
    subst ht0;rw[Nat.add_zero] at aQ;go_wp2
    go_round
    case rel=>exact⟨1,by omega,by go_num,by rw[Hs.o];rfl⟩
    case measure=>simp[intOf];omega
   ·have aN:decide ((0:Int)<(k:Int))=true:=by simp;omega
    have eW:=Z (show BK sep (xs.take (k+1))=t++sep++x from by rw[Hs.o,if_neg h0,←Ht.o]);go_wp2
    go_round
    case rel=>exact⟨k+1,by omega,by go_num,by rw[eW.o]⟩
    case measure=>simp[intOf];omega
  ·have Hf:=Z (show t=BK sep xs from by rw[Ht.o,List.take_of_length_le (by omega)]);go_wp2
   go_ret
   exact⟨Fl Hf.o,rfl⟩
theorem PC(v:Value)(xs:List ByteArray)(sep:ByteArray)(w:World)(hv:AM w v xs)(hb:Dt sep xs≤1099511627776)(hl:xs.length≤1099511627776):Calls Tryz.prog 14 #[v,.string sep] w fun e w'=>e=.returned (.string (BK sep xs))∧Below w.heap.size w w':=by
 have hj:=DP sep xs;have aP:(Lib.join (xs.map (·.data.toList)) sep.data.toList).length≤140737488355328:=by
  have:(BK sep xs).size=(Lib.join (xs.map (·.data.toList)) sep.data.toList).length:=by simp[BK,D8]
  omega
 by_cases h0:xs=[]
 ·subst h0;obtain⟨a,cap,rfl,-⟩:=hv;go_enter Tryz.func14,Tryz.ntmps14;go_wp2_with (first|(go_at_call 56;refine(Tryz.strings_Join_none _ _ _ _).mono ?_;rintro e w' ⟨rfl,rfl⟩))
  go_ret
  exact⟨rfl,Below.refl _ _⟩
 ·have bF:0<xs.length:=List.length_pos_iff.2 h0;obtain⟨b,off,c,rfl,ep,hcp⟩:=hv.inv_ne bF;have bP:∀(j:Nat) x,xs[j]? =some x→w.cell? ⟨b,off+j,none⟩=some (.string x):=by
   intro j x hx;obtain⟨u,hu,rfl,-⟩:=Sl.at hv hx;exact hu
  have Hc:=Z bP;have fa:=Z aP;clear bP hv aP hj;go_enter Tryz.func14,Tryz.ntmps14;go_wp2_with (first|(go_at_call 56;refine(Tryz.strings_Join _ _ _ _ _ _ Hc.o ep (by omega) hcp fa.o).mono ?_;rintro e w' ⟨rfl,aA⟩))
  go_ret
  exact⟨rfl,aA⟩
theorem A6i{c:Int}(h0:-1≤c)(h1:c≤1):(⟨#[63,46,35]⟩:ByteArray).extract (c+1).toNat (c+2).toNat=WC c:=by
 have:c=-1∨c=0∨c=1:=by omega
 rcases this with rfl|rfl|rfl<;>rfl
def XY(m:List (List Int)):Prop:=m.length≤5∧∀r∈m,r.length≤5∧∀x∈r,-1≤x∧x≤1
theorem XY.bulk{m:List (List Int)}(h:XY m):Dt ⟨#[47]⟩ (m.map Bd)≤30:=by
 have h1:=OD ⟨#[47]⟩ (xs:=m.map Bd) (m:=5) (fun x hx=>by
  obtain⟨r,hr,rfl⟩:=List.mem_map.1 hx;rw[EY];exact(h.2 r hr).1)
 have h2:(⟨#[47]⟩:ByteArray).size=1:=rfl;rw[List.length_map,h2] at h1;have:=h.1;omega
theorem Fi{m:List (List Int)}(h:Af m=true):XY m:=by
 obtain⟨r,c,h1,h2,h3,h4,hs⟩:=Ad h;refine⟨by rw[hs.1];exact h2,fun row hr=>⟨by rw[(hs.2 row hr).1];exact h4,fun x hx=>?_⟩⟩;have:=(hs.2 row hr).2 x hx;omega
theorem JH{m:List (List Int)}{k:Nat}{r:List Int}(h:m[k]? =some r):(m.take (k+1)).map Bd=(m.take k).map Bd++[Bd r]:=by
 rw[List.take_add_one,h];simp
theorem A1f(v:Value)(m:List (List Int))(w:World)(hv:Ak w v m)(hm:XY m):Calls Tryz.prog 85 #[v,.string ⟨#[63,46,35]⟩] w fun e w'=>e=.returned (.string (EG m))∧Below w.heap.size w w':=by
 have Hv:=Z hv;obtain⟨a,cap0,rfl,-⟩:=hv;have wn:=hm.1;go_enter Tryz.func85,Tryz.ntmps85;go_wp2;go_loopw [5,7,8,10,13] (fun v _ _ _ i wr=>∃k:Nat,k≤m.length∧i=.int .i64 k∧A4 9 Gd (Iv w.heap.size wr.heap.size) wr v ((m.take k).map Bd)∧Below w.heap.size w wr) (fun _ _ _ _ i _=>m.length-(intOf i).toNat)
 case atStart=>exact⟨0,Nat.zero_le _,rfl,A4.nil _ _ _ _,Below.refl _ _⟩
 case round=>
  obtain⟨k,hk,rfl,aB,aA⟩:=hrel;obtain⟨wo,rfl⟩:∃wo:World,wo=wr:=⟨_,rfl⟩;have aV:=aA.size;by_cases aH:k<m.length
  ·obtain⟨row,aG⟩:∃row,m[k]? =some row:=⟨_,List.getElem?_eq_getElem aH⟩;obtain⟨b,off,cpr,he,hb,-⟩:=Hv.o.inv_ne (by omega);obtain⟨rfl,-⟩:a=some ⟨b,off,none⟩∧cap0=cpr:=by simpa using he
   obtain⟨u,aQ,hu⟩:=Sl.at Hv.o aG;have hu:Ab w u row:=hu;obtain⟨ar,cpr,rfl,-⟩:=id hu;rw[←aA.cell (p:=⟨b,off+k,none⟩) hb] at aQ;obtain⟨aw,eG⟩:=hm.2 row (List.mem_of_getElem? aG);have aJ:=Z (JH aG);have Hu:=Z (hu.keep aA);have ah:((m.take k).map Bd).length<1099511627776:=by simp;omega
   have dW:decide ((k:Int)<(m.length:Int))=true:=by simp;omega
   obtain⟨p1,p2,p3,rfl⟩:=aB.shape;have aC:=Z aB;clear aG hu aB he;go_wp2;clear aQ
   go_loop [8,10,19] (fun s _ i=>∃j:Nat,j≤row.length∧i=.int .i64 j∧s=.string (Bd (row.take j))) (fun _ _ i=>row.length-(intOf i).toNat)
   case atStart=>exact⟨0,Nat.zero_le _,rfl,rfl⟩
   case round=>
    obtain⟨j,hj,rfl,rfl⟩:=hrel;obtain⟨t,ht⟩:∃t,t=Bd (row.take j):=⟨_,rfl⟩;rw[←ht];have xV:t.size≤5:=by rw[ht,EY,List.length_take];omega
    have Ht:=Z ht;clear ht;by_cases hltj:j<row.length
    ·obtain⟨x,hx⟩:∃x,row[j]? =some x:=⟨_,List.getElem?_eq_getElem hltj⟩;obtain⟨br,offr,cpr2,dh,dL,-⟩:=Hu.o.inv_ne (by omega);obtain⟨rfl,-⟩:ar=some ⟨br,offr,none⟩∧cpr=cpr2:=by simpa using dh
     have fW:=Ab.at Hu.o hx;obtain⟨eu,cM⟩:=eG x (List.mem_of_getElem? hx);have Hs:=Z (show Bd (row.take (j+1))=t++(⟨#[63,46,35]⟩:ByteArray).extract (x+1).toNat (x+2).toNat from by rw[KA hx,←Ht.o,A6i eu cM]);clear hx dh;go_wp2
     go_round
     case rel=>exact⟨j+1,by omega,by go_num,by rw[Hs.o]⟩
     case measure=>simp[intOf];omega
    ·have Hf:=Z (show t=Bd row from by rw[Ht.o,List.take_of_length_le (by omega)]);have hx:t.size≤9223372036854775807:=by omega
     go_wp2_with (first|(at_builtin;(refine Aa rfl _ _ 27 rfl C1 9 Tryz.underlying27 Fp rfl (by decide) w.heap.size wo.heap.size aV (Nat.le_refl _) rfl rfl (by exact aC.o) (by exact⟨rfl,hx⟩) ah ?_);intro v2 w2 hown2 aT _)|fail);have au:=aA.trans aT;have ae:=Z hown2;clear hown2;go_wp2;go_roundw
     case rel=>exact⟨k+1,by omega,by go_num,by rw[aJ.o,←Hf.o];exact ae.o,au⟩
     case measure=>simp[intOf];omega
  ·have aF:=aB;rw[List.take_of_length_le (by omega)] at aF;have bE:AM wo _ (m.map Bd):=(BY C1).rd (aF.sl (fun _ _ _ _ h=>h) C1);have aJ:=Z bE;have il:=Z hm.bulk;obtain⟨p1,p2,p3,rfl⟩:=aB.shape;clear aB aF bE;go_wp2_with (fail);refine(PC _ _ _ _ aJ.o (by have:=il.o;omega) (by simp;omega)).mono ?_;rintro e w2 ⟨rfl,au⟩;have bW:=aA.trans (au.mono aV);go_wp2
   go_ret
   exact⟨rfl,bW⟩
def Ag(m:List (List Int)):ByteArray:=if Af m then EG m else ByteArray.empty
theorem Fh(v:Value)(m:List (List Int))(w:World)(hv:Ak w v m):Calls Tryz.prog 30 #[v] w fun e w'=>e=.returned (.string (Ag m))∧Below w.heap.size w w':=by
 cases aD:Af m
 ·have Hr:=Z (show Ag m=ByteArray.empty from by simp[Ag,aD]);have aS:=Z aD;clear aD;go_enter Tryz.func30,Tryz.ntmps30;go_wp2_with (fail);refine(AP _ _ _ hv).mono ?_;rintro e w' ⟨rfl,rfl⟩;rw[aS.o];go_wp2
  go_ret
  exact⟨Fl Hr.o.symm,Below.refl _ _⟩
 ·have Hr:=Z (show Ag m=EG m from by simp[Ag,aD]);have ht:=Fi aD;have aS:=Z aD;clear aD;go_enter Tryz.func30,Tryz.ntmps30;go_wp2_with (fail);refine(AP _ _ _ hv).mono ?_;rintro e w' ⟨rfl,rfl⟩;rw[aS.o];go_wp2_with (fail);refine(A1f _ _ _ hv ht).mono ?_;rintro e w' ⟨rfl,hb⟩;go_wp2
  go_ret
  exact⟨Fl Hr.o.symm,hb⟩
theorem A6f{c:Int}(h0:0≤c)(h1:c≤1):(c=1→WC c=⟨#[35]⟩)∧(c≠1→WC c=⟨#[46]⟩):=by
 refine⟨fun h=>by subst h;rfl,fun h=>?_⟩;have:c=0:=by omega
 subst this;rfl
theorem Ex(v:Value)(m:List (List Int))(w:World)(hv:Ak w v m):Calls Tryz.prog 139 #[v] w fun e w'=>e=.returned (.string (Ag m))∧Below w.heap.size w w':=by
 have Hv:=Z hv;obtain⟨a,cap0,rfl,-⟩:=hv;cases aD:Af m
 ·have Hr:=Z (show Ag m=ByteArray.empty from by simp[Ag,aD]);have aS:=Z aD;clear aD;go_enter Tryz.func139,Tryz.ntmps139;go_wp2_with (fail);refine(AU _ _ _ Hv.o).mono ?_;rintro e w' ⟨rfl,rfl⟩;rw[aS.o];go_wp2
  go_ret
  exact⟨Fl Hr.o.symm,Below.refl _ _⟩
 have Hr:=Z (show Ag m=EG m from by simp[Ag,aD]);have hm:=Fi aD;obtain⟨r,c,hr1,hr5,hc1,hc5,bA⟩:=Ad aD;have wn:=hm.1;have aS:=Z aD;clear aD;go_enter Tryz.func139,Tryz.ntmps139;go_wp2_with (fail);refine(AU _ _ _ Hv.o).mono ?_;rintro e w' ⟨rfl,rfl⟩;rw[aS.o];go_wp2;go_loopw [3,5,6,8,15] (fun v _ _ _ i wr=>∃k:Nat,k≤m.length∧i=.int .i64 k∧A4 9 Gd (Iv w.heap.size wr.heap.size) wr v ((m.take k).map Bd)∧Below w.heap.size w wr) (fun _ _ _ _ i _=>m.length-(intOf i).toNat)
 case atStart=>exact⟨0,Nat.zero_le _,rfl,Bq _ _ _ C1,Below.pureAlloc _ _⟩
 case round=>
  obtain⟨k,hk,rfl,aB,aA⟩:=hrel;obtain⟨wo,rfl⟩:∃wo:World,wo=wr:=⟨_,rfl⟩;have aV:=aA.size;by_cases aH:k<m.length
  ·obtain⟨row,aG⟩:∃row,m[k]? =some row:=⟨_,List.getElem?_eq_getElem aH⟩;obtain⟨b,off,cpr,he,hb,-⟩:=Hv.o.inv_ne (by omega);obtain⟨rfl,-⟩:a=some ⟨b,off,none⟩∧cap0=cpr:=by simpa using he
   obtain⟨u,aQ,hu⟩:=Sl.at Hv.o aG;have hu:Ab w u row:=hu;obtain⟨ar,cpr,rfl,-⟩:=id hu;rw[←aA.cell (p:=⟨b,off+k,none⟩) hb] at aQ;obtain⟨aw,-⟩:=hm.2 row (List.mem_of_getElem? aG);have eG:=(bA.2 row (List.mem_of_getElem? aG)).2;have aJ:=Z (JH aG);have Hu:=Z (hu.keep aA);have ah:((m.take k).map Bd).length<1099511627776:=by simp;omega
   have dW:decide ((k:Int)<(m.length:Int))=true:=by simp;omega
   obtain⟨p1,p2,p3,rfl⟩:=aB.shape;have aC:=Z aB;clear aG hu aB he;go_wp2;clear aQ
   go_loop [6,8,21] (fun s _ i=>∃j:Nat,j≤row.length∧i=.int .i64 j∧s=.string (Bd (row.take j))) (fun _ _ i=>row.length-(intOf i).toNat)
   case atStart=>exact⟨0,Nat.zero_le _,rfl,rfl⟩
   case round=>
    obtain⟨j,hj,rfl,rfl⟩:=hrel;obtain⟨t,ht⟩:∃t,t=Bd (row.take j):=⟨_,rfl⟩;rw[←ht];have xV:t.size≤5:=by rw[ht,EY,List.length_take];omega
    have Ht:=Z ht;clear ht;by_cases hltj:j<row.length
    ·obtain⟨x,hx⟩:∃x,row[j]? =some x:=⟨_,List.getElem?_eq_getElem hltj⟩;obtain⟨br,offr,cpr2,dh,dL,-⟩:=Hu.o.inv_ne (by omega);obtain⟨rfl,-⟩:ar=some ⟨br,offr,none⟩∧cpr=cpr2:=by simpa using dh
     have fW:=Ab.at Hu.o hx;obtain⟨eu,cM⟩:=eG x (List.mem_of_getElem? hx);have xW:=A6f eu cM;have Hs:=Z (show Bd (row.take (j+1))=t++WC x from by rw[KA hx,←Ht.o]);clear hx dh;by_cases h1:x=1
     ·have Hg:=Z (xW.1 h1);subst h1;clear xW;go_wp2
      go_round
      case rel=>exact⟨j+1,by omega,by go_num,by rw[Hs.o,Hg.o]⟩
      case measure=>simp[intOf];omega
     ·have Hg:=Z (xW.2 h1);have aO:(x==1)=false:=by simpa using h1
      clear xW;go_wp2
      go_round
      case rel=>exact⟨j+1,by omega,by go_num,by rw[Hs.o,Hg.o]⟩
      case measure=>simp[intOf];omega
    ·have Hf:=Z (show t=Bd row from by rw[Ht.o,List.take_of_length_le (by omega)]);have hx:t.size≤9223372036854775807:=by omega
     go_wp2_with (first|(at_builtin;(refine Aa rfl _ _ 27 rfl C1 9 Tryz.underlying27 Fp rfl (by decide) w.heap.size wo.heap.size aV (Nat.le_refl _) rfl rfl (by exact aC.o) (by exact⟨rfl,hx⟩) ah ?_);intro v2 w2 hown2 aT _)|fail);have au:=aA.trans aT;have ae:=Z hown2;clear hown2;go_wp2;go_roundw
     case rel=>exact⟨k+1,by omega,by go_num,by rw[aJ.o,←Hf.o];exact ae.o,au⟩
     case measure=>simp[intOf];omega
  ·have aF:=aB;rw[List.take_of_length_le (by omega)] at aF;have bE:AM wo _ (m.map Bd):=(BY C1).rd (aF.sl (fun _ _ _ _ h=>h) C1);have aJ:=Z bE;have il:=Z hm.bulk;obtain⟨p1,p2,p3,rfl⟩:=aB.shape;clear aB aF bE;go_wp2_with (fail);refine(Si _ _ _ _ aJ.o (by have:=il.o;omega)).mono ?_;rintro e w2 ⟨rfl,rfl⟩;go_wp2
   go_ret
   exact⟨Fl Hr.o.symm,aA⟩
def Tab(w:World):Prop:=Lib.TabIs Tryz.prog w "internal/strconv.uint64pow10" .u64 Lib.pow10Tab
theorem Tab.keep{w w':World}(h:Tab w)(hb:Below w.heap.size w w'):Tab w':=by
 have hg:Tryz.prog.globalNamed "internal/strconv.uint64pow10"=some 0:=by kernel_rfl
 unfold Tab Lib.TabIs World.var? at h⊢;rw[hg] at h⊢;simp only[Option.bind_some] at h⊢;have aH:0<w.heap.size:=by
  rcases Nat.lt_or_ge 0 w.heap.size with h'|h'
  ·exact h'
  ·rw[Array.getElem?_eq_none h'] at h;cases h
 rw[hb.block _ aH];exact h
theorem A0y{w w':World}(h:∃k os,w'=Go.Sort.grow (w.drewN k) os):Below w.heap.size w w':=by
 obtain⟨k,os,rfl⟩:=h;refine⟨rfl,rfl,rfl,by simp,fun b hb=>?_⟩;show(w.heap++os)[b]? =_;rw[Array.getElem?_append,if_pos hb]
theorem Cs(n:Int)(hn:BV n)(w:World)(ht:Tab w):Calls Tryz.prog 8 #[.int .i64 n] w fun e w'=>e=.returned (.string (An n))∧Below w.heap.size w w':=by
 obtain⟨h1,h2⟩:=hn.o;go_enter Tryz.func8,Tryz.ntmps8;go_wp2_with (first|(go_at_call 24;refine(Tryz.strconv_Itoa n h1 h2 _ ht).mono ?_;rintro e w' ⟨rfl,hg⟩));have hb:=A0y hg;clear hg
 go_ret
 exact⟨rfl,hb⟩
def H8(sep:ByteArray)(l:List Int):ByteArray:=BK sep (l.map An)
def Aj(l:List Int):ByteArray:=if l=[] then⟨#[45]⟩ else H8 ⟨#[44]⟩ l
def Ea(l:List Int):Prop:=∀x∈l,BV x
theorem Jf{w:World}{v:Value}{l:List Int}(h:Ab w v l):Ea l:=by
 intro x hx;obtain⟨k,hk⟩:=List.getElem?_of_mem hx;obtain⟨b,o,c,rfl,-,-⟩:=h.inv_ne (by have:=(List.getElem?_eq_some_iff.1 hk).1;omega);obtain⟨u,-,-,hI⟩:=Sl.at h hk;exact hI
theorem Mm{sep:ByteArray}{l:List Int}(hs:sep.size≤1)(h:Ea l):Dt sep (l.map An)≤l.length*21:=by
 have h1:=OD sep (xs:=l.map An) (m:=20) (fun x hx=>by
  obtain⟨n,hn,rfl⟩:=List.mem_map.1 hx;exact Cb (h n hn).o)
 rw[List.length_map] at h1;have h2:l.length*(20+sep.size)≤l.length*21:=Nat.mul_le_mul_left _ (by omega);omega
theorem MG{sep:ByteArray}{l:List Int}(hs:sep.size≤1)(h:Ea l):(H8 sep l).size≤l.length*21:=Nat.le_trans (DP _ _) (Mm hs h)
theorem Cg{l:List Int}(h:Ea l):(Aj l).size≤l.length*21+1:=by
 unfold Aj
 split
 ·show 1≤_;omega
 ·have:=MG (sep:=⟨#[44]⟩) (by decide) h;omega
theorem RL{α:Type}(f:α→ByteArray){l:List α}{k:Nat}{x:α}(h:l[k]? =some x):(l.take (k+1)).map f=(l.take k).map f++[f x]:=by
 rw[List.take_add_one,h];simp
theorem WA{E:TypeId}{S:Bk}{w:World}{v:Value}{xs:List ByteArray}(h:A4 E Gd S w v xs):AM w v xs:=(BY C1).rd (h.sl (fun _ _ _ _ h=>h) C1)
theorem A1c(v:Value)(l:List Int)(w:World)(hv:Ab w v l)(hl:l.length≤2097152)(ht:Tab w):Calls Tryz.prog 102 #[v] w (M7 9 Gd w (l.map An)):=by
 have Hv:=Z hv;have HI:=Z (Jf hv);have Ht:=Z ht;clear ht;obtain⟨a,cap0,rfl,-⟩:=hv;go_enter Tryz.func102,Tryz.ntmps102;go_wp2;go_loopw [3,5,8] (fun v _ i wr=>∃k:Nat,k≤l.length∧i=.int .i64 k∧A4 9 Gd (Iv w.heap.size wr.heap.size) wr v ((l.take k).map An)∧Below w.heap.size w wr) (fun _ _ i _=>l.length-(intOf i).toNat)
 case atStart=>exact⟨0,Nat.zero_le _,rfl,A4.nil _ _ _ _,Below.refl _ _⟩
 case round=>
  obtain⟨k,hk,rfl,aB,aA⟩:=hrel;obtain⟨wo,rfl⟩:∃wo:World,wo=wr:=⟨_,rfl⟩;have aV:=aA.size;by_cases aH:k<l.length
  ·obtain⟨x,hx⟩:∃x,l[k]? =some x:=⟨_,List.getElem?_eq_getElem aH⟩;obtain⟨b,off,cpr,he,hb,-⟩:=Hv.o.inv_ne (by omega);obtain⟨rfl,-⟩:a=some ⟨b,off,none⟩∧cap0=cpr:=by simpa using he
   obtain⟨u,aQ,hu⟩:=Sl.at Hv.o hx;obtain⟨rfl,hI⟩:=hu;rw[←aA.cell (p:=⟨b,off+k,none⟩) hb] at aQ;have aJ:=Z (RL An hx);have ah:((l.take k).map An).length<1099511627776:=by simp;omega
   have Hto:=Z (Ht.o.keep aA);obtain⟨p1,p2,p3,rfl⟩:=aB.shape;have aC:=Z aB;clear hx aB he;go_wp2_with (fail);refine(Cs x hI _ Hto.o).mono ?_;rintro e w1 ⟨rfl,dU⟩;have cX:wo.heap.size≤w1.heap.size:=dU.size;have aI:(An x).size≤9223372036854775807:=by have:=Cb hI.o;omega
   go_wp2_with (first|(at_builtin;(refine Aa rfl _ _ 27 rfl C1 9 Tryz.underlying27 Fp rfl (by decide) w.heap.size wo.heap.size aV cX rfl rfl (by exact A4.keep C1 aC.o dU (Nat.le_refl _)) (by exact⟨rfl,aI⟩) ah ?_);intro v2 w2 hown2 aT _)|fail);have au:=(aA.trans (dU.mono aV)).trans aT;have ae:=Z hown2;clear hown2;go_wp2;go_roundw
   case rel=>exact⟨k+1,by omega,by go_num,by rw[aJ.o];exact ae.o,au⟩
   case measure=>simp[intOf];omega
  ·have aF:=aB;rw[List.take_of_length_le (by omega)] at aF;obtain⟨p1,p2,p3,rfl⟩:=aB.shape;have aZ:=Z aF;clear aB aF;go_wp2
   go_ret
   exact⟨_,rfl,aZ.o,aA⟩
theorem Uf(v:Value)(l:List Int)(sep:ByteArray)(w:World)(hv:Ab w v l)(hl:l.length≤2097152)(zX:sep.size≤1):Calls Tryz.prog 195 #[v,.string sep] w (fun e w'=>e=.returned (.string (H8 sep l))∧Below w.heap.size w w'):=by
 have Hv:=Z hv;have HI:=Z (Jf hv);have il:=Z (show Dt sep (l.map An)≤1099511627776 from by have:=Mm zX HI.o;omega);obtain⟨a,cap0,rfl,-⟩:=hv;go_enter Tryz.func195,Tryz.ntmps195;go_wp2;go_loopw [5,7,11] (fun v _ i wr=>∃k:Nat,k≤l.length∧i=.int .i64 k∧A4 9 Gd (Iv w.heap.size wr.heap.size) wr v ((l.take k).map An)∧Below w.heap.size w wr) (fun _ _ i _=>l.length-(intOf i).toNat)
 case atStart=>exact⟨0,Nat.zero_le _,rfl,Bq _ _ _ C1,Below.pureAlloc _ _⟩
 case round=>
  obtain⟨k,hk,rfl,aB,aA⟩:=hrel;obtain⟨wo,rfl⟩:∃wo:World,wo=wr:=⟨_,rfl⟩;have aV:=aA.size;by_cases aH:k<l.length
  ·obtain⟨x,hx⟩:∃x,l[k]? =some x:=⟨_,List.getElem?_eq_getElem aH⟩;obtain⟨b,off,cpr,he,hb,-⟩:=Hv.o.inv_ne (by omega);obtain⟨rfl,-⟩:a=some ⟨b,off,none⟩∧cap0=cpr:=by simpa using he
   obtain⟨u,aQ,hu⟩:=Sl.at Hv.o hx;obtain⟨rfl,hI⟩:=hu;rw[←aA.cell (p:=⟨b,off+k,none⟩) hb] at aQ;have aJ:=Z (RL An hx);have ah:((l.take k).map An).length<1099511627776:=by simp;omega
   obtain⟨p1,p2,p3,rfl⟩:=aB.shape;have aC:=Z aB;clear hx aB he;go_wp2_with (fail);refine(Dr x hI _).mono ?_;rintro e w1 ⟨rfl,dU⟩;have cX:wo.heap.size≤w1.heap.size:=dU.size;have aI:(An x).size≤9223372036854775807:=by have:=Cb hI.o;omega
   go_wp2_with (first|(at_builtin;(refine Aa rfl _ _ 27 rfl C1 9 Tryz.underlying27 Fp rfl (by decide) w.heap.size wo.heap.size aV cX rfl rfl (by exact A4.keep C1 aC.o dU (Nat.le_refl _)) (by exact⟨rfl,aI⟩) ah ?_);intro v2 w2 hown2 aT _)|fail);have au:=(aA.trans (dU.mono aV)).trans aT;have ae:=Z hown2;clear hown2;go_wp2;go_roundw
   case rel=>exact⟨k+1,by omega,by go_num,by rw[aJ.o];exact ae.o,au⟩
   case measure=>simp[intOf];omega
  ·have aF:=aB;rw[List.take_of_length_le (by omega)] at aF;obtain⟨p1,p2,p3,rfl⟩:=aB.shape;have aZ:=Z aF;clear aB aF;have aJ:=Z (WA aZ.o);go_wp2_with (fail);refine(Si _ _ _ _ aJ.o il.o).mono ?_;rintro e w2 ⟨rfl,rfl⟩;go_wp2
   go_ret
   exact⟨rfl,aA⟩
theorem Ck(v:Value)(l:List Int)(w:World)(hv:Ab w v l)(hl:l.length≤2097152)(ht:Tab w):Calls Tryz.prog 43 #[v] w fun e w'=>e=.returned (.string (Aj l))∧Below w.heap.size w w':=by
 have HI:=Z (Jf hv);have Hv:=Z hv;obtain⟨a,cap0,rfl,-⟩:=hv;by_cases h0:l=[]
 ·subst h0;have Hr:=Z (show Aj []=⟨#[45]⟩ from rfl);go_enter Tryz.func43,Tryz.ntmps43;go_wp2
  go_ret
  exact⟨Fl Hr.o.symm,Below.refl _ _⟩
 ·have Hr:=Z (show Aj l=H8 ⟨#[44]⟩ l from by unfold Aj;rw[if_neg h0]);have bF:0<l.length:=List.length_pos_iff.2 h0;have aO:((l.length:Int)==0)=false:=by rw[beq_eq_false_iff_ne];omega
  have il:=Z (show Dt ⟨#[44]⟩ (l.map An)≤1099511627776 from by have:=Mm (sep:=⟨#[44]⟩) (by decide) HI.o;omega);clear h0;go_enter Tryz.func43,Tryz.ntmps43;go_wp2_with (fail);refine(A1c _ _ _ Hv.o hl ht).mono ?_;rintro e w1 ⟨v1,rfl,o1,b1⟩;have aJ:=Z (WA o1);go_wp2_with (fail);refine(PC _ _ _ _ aJ.o il.o (by simp;omega)).mono ?_;rintro e w2 ⟨rfl,b2⟩;have bb:=b1.trans_pure b2 (Nat.le_refl _);go_wp2
  go_ret
  exact⟨Fl Hr.o.symm,bb⟩
theorem C9(v:Value)(l:List Int)(w:World)(hv:Ab w v l)(hl:l.length≤2097152):Calls Tryz.prog 134 #[v] w fun e w'=>e=.returned (.string (Aj l))∧Below w.heap.size w w':=by
 have Hv:=Z hv;obtain⟨a,cap0,rfl,-⟩:=hv;by_cases h0:l=[]
 ·subst h0;have Hr:=Z (show Aj []=⟨#[45]⟩ from rfl);go_enter Tryz.func134,Tryz.ntmps134;go_wp2
  go_ret
  exact⟨Fl Hr.o.symm,Below.refl _ _⟩
 ·have Hr:=Z (show Aj l=H8 ⟨#[44]⟩ l from by unfold Aj;rw[if_neg h0]);have bF:0<l.length:=List.length_pos_iff.2 h0;have aO:((l.length:Int)==0)=false:=by rw[beq_eq_false_iff_ne];omega
  clear h0;go_enter Tryz.func134,Tryz.ntmps134;go_wp2_with (fail);refine(Uf _ _ _ _ Hv.o hl (by decide)).mono ?_;rintro e w1 ⟨rfl,b1⟩;go_wp2
  go_ret
  exact⟨Fl Hr.o.symm,b1⟩
