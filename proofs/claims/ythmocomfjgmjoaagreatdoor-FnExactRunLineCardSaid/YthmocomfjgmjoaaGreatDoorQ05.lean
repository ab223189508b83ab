/- Base. -/
import Derived.Test.YthmocomfjgmjoaaGreatDoorQ02
import Derived.Test.YthmocomfjgmjoaaGreatDoorQ00
set_option maxHeartbeats 1000000
set_option maxRecDepth 100000
namespace Go.Proofs.YthmocomfjgmjoaaGreatDoor
open Go
variable {a:ByteArray}{m n:Int}{s sep:ByteArray}{xs:List ByteArray}
theorem DX{b:ByteArray}(h:a.data.toList=b.data.toList):a=b:=by
 cases a;cases b;simp at h;simp[h]
theorem Cm(a b:ByteArray):(a++b).data.toList=a.data.toList++b.data.toList:=by
 rw[ByteArray.data_append,Array.toList_append]
theorem Dk(a:ByteArray):a.size=a.data.toList.length:=rfl
theorem AR(a b:ByteArray):(a++b).size=a.size+b.size:=Jj
theorem Lz{k:Nat}(h:k<a.size):a.data.toList[k]? =some (a[k]'h):=by
 rw[Array.getElem?_toList];exact Array.getElem?_eq_getElem h
theorem Ev(a:ByteArray)(i j:Nat):(a.extract i j).data.toList=(a.data.toList.drop i).take (j-i):=by
 simp[ByteArray.data_extract]
def CE(sep:ByteArray)(xs:List ByteArray):ByteArray:=⟨(Lib.join (xs.map (·.data.toList)) sep.data.toList).toArray⟩
theorem V1(sep:ByteArray):CE sep []=ByteArray.empty:=rfl
theorem KC(sep x:ByteArray):CE sep [x]=x:=by
 unfold CE;simp only[List.map_cons,List.map_nil,Lib.join_one]
theorem Ja(sep x:ByteArray)(h:xs≠[]):CE sep (xs++[x])=CE sep xs++sep++x:=by
 cases xs with
 |nil=>exact absurd rfl h
 |cons y r=>
  apply DX;rw[Cm,Cm];unfold CE;simp only[List.cons_append,List.map_cons,List.map_append,List.map_nil];rw[Lib.join_cons,Lib.join_cons];simp[Lib.joinTail,List.append_assoc]
theorem YP{x:ByteArray}{k:Nat}(hx:xs[k]? =some x):CE sep (xs.take (k+1))=if k=0 then x else CE sep (xs.take k)++sep++x:=by
 have hk:=(A5.1 hx).1;rw[Ao,hx];by_cases h:k=0
 ·subst h;simp[KC]
 ·rw[if_neg h];refine Ja sep x ?_;intro hn;have:=congrArg List.length hn;simp at this;rcases this with h1|h1
  ·exact h h1
  ·subst h1;simp at hk
def DC(sep:ByteArray):List ByteArray→Nat
 |[]=>0
 |x::r=>x.size+sep.size+DC sep r
theorem OR(sep:ByteArray)(a b:List ByteArray):DC sep (a++b)=DC sep a+DC sep b:=by
 induction a with
 |nil=>simp[DC]
 |cons x r ih=>simp only[List.cons_append,DC,ih];omega
theorem Ry(sep:ByteArray)(r:List ByteArray):(Lib.joinTail sep.data.toList (r.map (·.data.toList))).length=DC sep r:=by
 induction r with
 |nil=>simp[Lib.joinTail,DC]
 |cons y r ih=>
  simp only[Lib.joinTail,List.map_cons,List.flatten_cons,Ad]at ih⊢;rw[ih];simp only[DC,Dk];omega
theorem Es(sep:ByteArray)(xs:List ByteArray):(CE sep xs).size≤DC sep xs:=by
 cases xs with
 |nil=>simp[V1]
 |cons x r=>
  rw[Dk];unfold CE;simp only[List.map_cons];rw[Lib.join_cons,Ad,Ry];simp only[DC,Dk];omega
theorem Rf(sep:ByteArray){m:Nat}(h:∀x∈xs,x.size≤m):DC sep xs≤xs.length*(m+sep.size):=by
 induction xs with
 |nil=>simp[DC]
 |cons x r ih=>
  have h1:=h x Jj;have h2:=ih (fun y hy=>h y (by simp[hy]));simp only[DC,An,Nat.succ_mul];omega
theorem Nc(sep:ByteArray)(xs:List ByteArray)(k:Nat):DC sep (xs.take k)≤DC sep xs:=by
 have:=OR sep (xs.take k) (xs.drop k);rw[List.take_append_drop]at this;omega
def BI(s:ByteArray)(b:UInt8):Nat→List ByteArray×Nat
 |0=>([],0)
 |k+1=>if s.data.toList[k]? =some b then((BI s b k).1++[s.extract (BI s b k).2 k],k+1)else BI s b k
def AM(s:ByteArray)(b:UInt8):List ByteArray:=(BI s b s.size).1++[s.extract (BI s b s.size).2 s.size]
theorem A02(s:ByteArray)(b:UInt8)(k:Nat):(BI s b k).2≤k:=by
 induction k with
 |zero=>simp[BI]
 |succ k ih=>unfold BI;split
             ·exact A2 _
             ·omega
theorem M6(s:ByteArray)(b:UInt8)(k:Nat):(BI s b k).1.length≤k:=by
 induction k with
 |zero=>simp[BI]
 |succ k ih=>
  unfold BI;split
  ·simp only[Ad,An,List.length_nil];omega
  ·omega
theorem EY(s:ByteArray)(b:UInt8):(AM s b).length≤s.size+1:=by
 have:=M6 s b s.size;simp only[AM,Ad,An,List.length_nil];omega
theorem Pm(s:ByteArray)(b:UInt8)(k:Nat)(hk:k≤s.size):CE ⟨#[b]⟩ ((BI s b k).1++[s.extract (BI s b k).2 k])=s.extract 0 k∧
  (∀p∈(BI s b k).1,∀x∈p.data.toList,x≠b∧x∈s.data.toList)∧∀x∈(s.extract (BI s b k).2 k).data.toList,x≠b:=by
 induction k with
 |zero=>
  refine⟨by simp[BI,KC],by simp[BI],?_⟩;intro x hx;rw[Ev]at hx;simp[BI]at hx
 |succ k ih=>
  obtain⟨h1,h2,h3⟩:=ih J;have bA:=Lz (a:=s) (k:=k) J;have hcut:∀i,i≤k→(s.extract i (k+1))=s.extract i k++⟨#[s[k]'(by omega)]⟩:=by
   intro i hi;apply DX;rw[Cm,Ev,Ev];have e:k+1-i=(k-i)+1:=J;rw[e,Ao,List.getElem?_drop];have e2:i+(k-i)=k:=J;rw[e2,bA];rfl
  have cJ:=A02 s b k;unfold BI;by_cases hb:s.data.toList[k]? =some b
  ·rw[if_pos hb];have kY:s[k]'(by omega)=b:=by rw[bA]at hb;exact Option.some.inj hb
   have uP:s.extract (k+1) (k+1)=ByteArray.empty:=by
    apply DX;rw[Ev];simp
   dsimp only;refine⟨?_,?_,?_⟩
   ·rw[uP,Ja _ _ Jj,h1,hcut 0 J,kY];apply DX;simp
   ·intro p hp;rw[List.mem_append]at hp;rcases hp with hp|hp
    ·exact h2 p hp
    ·simp at hp;subst hp;intro x hx;refine⟨h3 x hx,?_⟩;rw[Ev]at hx;exact List.mem_of_mem_drop (List.mem_of_mem_take hx)
   ·intro x hx;rw[uP]at hx;simp at hx
  ·rw[if_neg hb];have kY:s[k]'(by omega)≠b:=fun h=>hb (by rw[bA,h]);refine⟨?_,h2,?_⟩
   ·rw[hcut _ cJ,hcut 0 J,←h1];by_cases hn:(BI s b k).1=[]
    ·rw[hn];simp[KC]
    ·rw[Ja _ _ hn,Ja _ _ hn];apply DX;simp[List.append_assoc]
   ·intro x hx;rw[hcut _ cJ,Cm,List.mem_append]at hx;rcases hx with hx|hx
    ·exact h3 x hx
    ·simp at hx;subst hx;exact kY
theorem I6(s:ByteArray)(b:UInt8):CE ⟨#[b]⟩ (AM s b)=s:=by
 have h:=(Pm s b s.size (A2 _)).1;unfold AM;rw[h];apply DX;rw[Ev,List.drop_zero,Nat.sub_zero,A9 (Nat.le_of_eq (Dk s).symm)]
theorem VV(s:ByteArray)(b:UInt8):∀p∈AM s b,∀x∈p.data.toList,x≠b∧x∈s.data.toList:=by
 obtain⟨-,h2,h3⟩:=Pm s b s.size (A2 _);intro p hp;unfold AM at hp;rw[List.mem_append]at hp;rcases hp with hp|hp
 ·exact h2 p hp
 ·simp at hp;subst hp;intro x hx;refine⟨h3 x hx,?_⟩;rw[Ev]at hx;exact List.mem_of_mem_drop (List.mem_of_mem_take hx)
theorem IL(s:ByteArray)(b:UInt8):0<(AM s b).length:=by simp[AM]
theorem FA(s:ByteArray)(i j:Nat):(s.extract i j).size≤s.size:=by
 rw[Dk,Dk,Ev,At,List.length_drop];omega
theorem CZ(s:ByteArray)(b:UInt8):∀p∈AM s b,p.size≤s.size:=by
 have bB:∀k,∀p∈(BI s b k).1,p.size≤s.size:=by
  intro k;induction k with
  |zero=>simp[BI]
  |succ k ih=>
   unfold BI;split
   ·intro p hp;rw[List.mem_append]at hp;rcases hp with hp|hp
    ·exact ih p hp
    ·simp at hp;subst hp;exact FA _ _ _
   ·exact ih
 intro p hp;unfold AM at hp;rw[List.mem_append]at hp;rcases hp with hp|hp
 ·exact bB _ p hp
 ·simp at hp;subst hp;exact FA _ _ _
def VX(c:Int):ByteArray:=if c=0 then⟨#[46]⟩else if c=1 then⟨#[35]⟩else⟨#[63]⟩
def Bu(r:U):ByteArray:=r.foldl (fun s c=>s++VX c) ByteArray.empty
theorem A1X(c:Int):(VX c).size=1:=by unfold VX;split; · rfl
                                     ·split<;>rfl
theorem Vo(r:U)(c:Int):Bu (r++[c])=Bu r++VX c:=by simp[Bu,List.foldl_append]
theorem L8{r:U}{k:Nat}{x:Int}(h:r[k]? =some x):Bu (r.take (k+1))=Bu (r.take k)++VX x:=by
 rw[Ao,h];exact Vo _ _
theorem A00(r:U):∀s:ByteArray,(r.foldl (fun s c=>s++VX c) s).size=s.size+r.length:=by
 induction r with
 |nil=>intro s;simp
 |cons c r ih=>intro s;rw[List.foldl_cons,ih,AR,A1X,An];omega
theorem Fc(r:U):(Bu r).size=r.length:=by unfold Bu;rw[A00];simp
theorem ZN(r:U):∀s:ByteArray,(r.foldl (fun s c=>s++VX c) s).data.toList=s.data.toList++(r.map (fun c=>(VX c).data.toList)).flatten:=by
 induction r with
 |nil=>intro s;simp
 |cons c r ih=>intro s;rw[List.foldl_cons,ih,Cm];simp[List.append_assoc]
def A2t(c:Int):UInt8:=if c=0 then 46 else if c=1 then 35 else 63
theorem A23(c:Int):(VX c).data.toList=[A2t c]:=by unfold VX A2t;split; · rfl
                                                  ·split<;>rfl
theorem Ow(r:U):(Bu r).data.toList=r.map A2t:=by
 unfold Bu;rw[ZN];simp only[A23];induction r with
 |nil=>rfl
 |cons c r ih=>simp at ih⊢;exact ih
def EQ(m:I):ByteArray:=CE ⟨#[47]⟩ (m.map Bu)
def QD(b:UInt8):Int:=if b=35 then 1 else 0
def Ia(s:ByteArray):U:=s.data.toList.map QD
def GV(s:ByteArray):Bool:=s.data.toList.all fun b=>b==35||b==46
theorem A1K(s:ByteArray):∀x∈Ia s,0≤x∧x≤1:=by
 intro x hx;unfold Ia at hx;obtain⟨b,-,rfl⟩:=AE.1 hx;unfold QD;split<;>decide
theorem Wv(h:GV s=true):Bu (Ia s)=s:=by
 apply DX;rw[Ow];unfold Ia;rw[List.map_map];unfold GV at h;rw[Ar]at h;generalize s.data.toList=l at h⊢;induction l with
 |nil=>rfl
 |cons b l ih=>
  have hb:=h b Jj;rw[List.map_cons,ih (fun x hx=>h x (by simp[hx]))];simp at hb;rcases hb with rfl|rfl<;>rfl
theorem A1l{b:UInt8}(h:b∈(CE sep xs).data.toList):b∈sep.data.toList∨∃x∈xs,b∈x.data.toList:=by
 cases xs with
 |nil=>simp[V1]at h
 |cons y r=>
  unfold CE at h;simp only[List.map_cons]at h;rw[Lib.join_cons]at h;simp only[Lib.joinTail]at h;rw[List.mem_append]at h;rcases h with h|h
  ·exact .inr ⟨y,Jj,h⟩
  ·rw[List.mem_flatten]at h;obtain⟨l,hl,hb⟩:=h;simp only[List.map_map,AE,Function.comp]at hl;obtain⟨x,hx,rfl⟩:=hl;rw[List.mem_append]at hb;rcases hb with hb|hb
   ·exact .inl hb
   ·exact .inr ⟨x,by simp[hx],hb⟩
theorem Xf(s:ByteArray):EQ ((AM s 47).map Ia)=s↔(AM s 47).all GV=true:=by
 constructor
 ·intro h;rw[Ar];intro p hp;unfold GV;rw[Ar];intro b hb;obtain⟨aK,cj⟩:=VV s 47 p hp b hb;rw[←h]at cj;rcases A1l cj with h1|⟨x,hx,h1⟩
  ·simp at h1;exact absurd h1 aK
  ·simp only[List.map_map,AE,Function.comp]at hx;obtain⟨q,-,rfl⟩:=hx;rw[Ow]at h1;obtain⟨c,hc,rfl⟩:=AE.1 h1;have:=A1K q c hc;have h2:c=0∨c=1:=J;rcases h2 with rfl|rfl<;>rfl
 ·intro h;rw[Ar]at h;unfold EQ;rw[List.map_map];have e:(AM s 47).map (Bu∘Ia)=AM s 47:=by
   exact(List.map_congr_left (f:=Bu∘Ia) (g:=id) (fun p hp=>Wv (h p hp))).trans (List.map_id _)
  rw[e,I6]
def AQ(n:Int):ByteArray:=⟨(Lib.itoa n).toArray⟩
theorem A1o(h0:0≤n)(h1:n≤9):AQ n=⟨#[UInt8.ofNat (48+n.toNat)]⟩:=by
 unfold AQ Lib.itoa;rw[if_neg J,Lib.decDigits_one J]
theorem A2u(h:9<n):AQ n=AQ (n/10)++⟨#[UInt8.ofNat (48+(n % 10).toNat)]⟩:=by
 apply DX;rw[Cm];unfold AQ Lib.itoa;rw[if_neg J,if_neg J,Lib.decDigits,dif_neg J];have e1:n.toNat/10=(n/10).toNat:=J;have e2:n.toNat % 10=(n % 10).toNat:=J;rw[e1,e2]
theorem A37(h0:n<0)(h1:-10<n):AQ n=⟨#[45]⟩++⟨#[UInt8.ofNat (48+(-n).toNat)]⟩:=by
 apply DX;rw[Cm];unfold AQ Lib.itoa;rw[if_pos h0,Lib.decDigits_one J];have e1:n.natAbs=(-n).toNat:=J;rw[e1];rfl
theorem A3P(h1:n≤-10):AQ n=AQ (n.tdiv 10)++⟨#[UInt8.ofNat (48+(-(n.tmod 10)).toNat)]⟩:=by
 apply DX;rw[Cm];have e0:n.tdiv 10=-((-n) /10):=by
  have h2:(-(-n)).tdiv 10=-((-n).tdiv 10):=Int.neg_tdiv ..
  rw[Int.neg_neg,Int.tdiv_eq_ediv_of_nonneg (a:=-n) J]at h2;exact h2
 have e00:n.tmod 10=n-10*n.tdiv 10:=Int.tmod_def n 10;have hd:n.tdiv 10<0:=J;unfold AQ Lib.itoa;rw[if_pos J,if_pos hd,Lib.decDigits,dif_neg J];have e1:n.natAbs/10=(n.tdiv 10).natAbs:=J;have e2:n.natAbs % 10=(-(n.tmod 10)).toNat:=J;rw[e1,e2];simp
theorem JR(u:Nat):∀k,u<10^(k+1)→(Lib.decDigits u).length≤k+1:=by
 intro k;induction k generalizing u with
 |zero=>intro h;rw[Lib.decDigits_one J];simp
 |succ k ih=>
  intro h;rw[Lib.decDigits]
  split
  ·simp
  ·rw[Ad];have:=ih (u/10) (by rw[Nat.pow_succ]at h;omega);simp;omega
theorem CW(h:-9223372036854775808≤n∧n≤9223372036854775807):(AQ n).size≤20:=by
 rw[Dk];unfold AQ Lib.itoa;have hb:∀u:Nat,u≤9223372036854775808→(Lib.decDigits u).length≤19:=fun u hu=>JR u 18 J
 split
 ·have:=hb n.natAbs J;simp;omega
 ·have:=hb n.toNat J;simp;omega
def N5(a:Nat)(l:List UInt8):Nat:=l.foldl (fun a b=>a*10+(b.toNat-48)) a
def K7(l:List UInt8):Nat:=N5 0 l
def Ll(b:UInt8):Bool:=decide (48≤b.toNat)&&decide (b.toNat≤57)
theorem PP(a:Nat)(b:UInt8)(l:List UInt8):N5 a (b::l)=N5 (a*10+(b.toNat-48)) l:=by unfold N5;rw[List.foldl_cons]
theorem U1(a:Nat)(b:UInt8)(l:List UInt8):N5 a (l++[b])=N5 a l*10+(b.toNat-48):=by simp[N5,List.foldl_append]
theorem A0z(l:List UInt8):∀a,a≤N5 a l:=by
 induction l with
 |nil=>intro a;exact A2 _
 |cons b l ih=>intro a;have:=ih (a*10+(b.toNat-48));rw[PP];omega
theorem Ym(a:Nat)(l m:List UInt8):N5 a (l++m)=N5 (N5 a l) m:=by simp[N5,List.foldl_append]
theorem Vd(l:List UInt8)(k:Nat):K7 (l.take k)≤K7 l:=by
 have h:=Ym 0 (l.take k) (l.drop k);rw[List.take_append_drop]at h;have h2:=A0z (l.drop k) (N5 0 (l.take k));unfold K7;omega
theorem Pt{l:List UInt8}{k:Nat}{b:UInt8}(h:l[k]? =some b):K7 (l.take (k+1))=K7 (l.take k)*10+(b.toNat-48):=by
 rw[Ao,h];exact U1 _ _ _
theorem ML{d:Nat}(h:d<10):(UInt8.ofNat (48+d)).toNat=48+d:=by
 rw[UInt8.toNat_ofNat'];omega
theorem Ea(u:Nat):K7 (Lib.decDigits u)=u∧(Lib.decDigits u).all Ll=true∧Lib.decDigits u≠[]:=by
 induction u using Nat.strongRecOn with
 |ind u ih=>
  rw[Lib.decDigits]
  split
  ·rename_i h
   refine⟨?_,?_,Jj⟩
   ·unfold K7;rw[PP,ML h];simp[N5]
   ·simp only[List.all_cons,List.all_nil,Bool.and_true,Ll,ML h];simp;omega
  ·rename_i h
   obtain⟨h1,h2,h3⟩:=ih (u/10) J;have hd:u % 10<10:=J;refine⟨?_,?_,Jj⟩
   ·unfold K7 at h1⊢;rw[U1,h1,ML hd];omega
   ·rw[List.all_append,h2];simp only[List.all_cons,List.all_nil,Bool.and_true,Bool.true_and,Ll,ML hd];simp;omega
theorem Q4(u:Nat):∃b l,Lib.decDigits u=b::l∧Ll b=true:=by
 obtain⟨-,h2,h3⟩:=Ea u
 match h:Lib.decDigits u with
 |[]=>exact absurd h h3
 |b::l=>rw[h]at h2;simp at h2;exact⟨b,l,rfl,h2.1⟩
theorem Mi{b:UInt8}:Ll b=true↔48≤b.toNat∧b.toNat≤57:=by simp[Ll]
theorem DL(n:Int):(n<0→Lib.itoa n=45::Lib.decDigits n.natAbs)∧(0≤n→Lib.itoa n=Lib.decDigits n.natAbs):=by
 refine⟨fun h=>by unfold Lib.itoa;rw[if_pos h],fun h=>?_⟩;unfold Lib.itoa;rw[if_neg J];have:n.toNat=n.natAbs:=J;rw[this]
theorem A2V(h:Lib.itoa n=Lib.itoa m):n=m:=by
 have key:∀u:Nat,∀v:Nat,Lib.decDigits u≠45::Lib.decDigits v:=by
  intro u v he;obtain⟨b,l,hb,hd⟩:=Q4 u;rw[hb]at he;have:=(List.cons.inj he).1;subst this;simp[Ll]at hd
 have uQ:∀u v:Nat,Lib.decDigits u=Lib.decDigits v→u=v:=by
  intro u v he;have h1:=(Ea u).1;have h2:=(Ea v).1;rw[he]at h1;omega
 rcases Int.lt_or_le n 0 with hn|hn<;>rcases Int.lt_or_le m 0 with hm|hm
 ·rw[(DL n).1 hn,(DL m).1 hm]at h;have:=uQ _ _ (List.cons.inj h).2;omega
 ·rw[(DL n).1 hn,(DL m).2 hm]at h;exact absurd h.symm (key _ _)
 ·rw[(DL n).2 hn,(DL m).1 hm]at h;exact absurd h (key _ _)
 ·rw[(DL n).2 hn,(DL m).2 hm]at h;have:=uQ _ _ h;omega
theorem ZV(h:AQ n=AQ m):n=m:=by
 apply A2V;have:=congrArg (fun b:ByteArray=>b.data.toList) h;exact this
theorem Vg(l:List UInt8):∀a,l.all Ll=true→N5 a l<18446744073709551616→Lib.parseUint10 a l=.ok (N5 a l):=by
 induction l with
 |nil=>intro a _ _;rfl
 |cons b l ih=>
  intro a h aF;rw[List.all_cons,Af]at h;have hb:=Mi.1 h.1;rw[PP]at aF⊢;have hge:=A0z l (a*10+(b.toNat-48));unfold Lib.parseUint10;rw[if_pos hb,if_neg J,if_neg J];exact ih _ h.2 aF
theorem A1c(h1:-9223372036854775808≤n)(h2:n≤9223372036854775807):Lib.atoiAll (Lib.itoa n)=.ok n:=by
 obtain⟨d1,d2,d3⟩:=Ea n.natAbs;have hm:Lib.parseMag (Lib.decDigits n.natAbs)=.ok n.natAbs:=by
  unfold Lib.parseMag;rw[if_neg d3,Vg _ _ d2 (by unfold K7 at d1;omega)];unfold K7 at d1;rw[d1]
 rcases Int.lt_or_le n 0 with hn|hn
 ·rw[(DL n).1 hn];unfold Lib.atoiAll;simp only[show(45:UInt8).toNat=45 from rfl,or_true,if_true];rw[hm];simp only[not_true_eq_false,false_and,if_false,true_and];rw[if_neg J];have:-(n.natAbs:Int)=n:=J;rw[this]
 ·rw[(DL n).2 hn];obtain⟨b,l,hb,hd⟩:=Q4 n.natAbs;have af:=Mi.1 hd;rw[hb]at hm⊢;unfold Lib.atoiAll;have e1:¬(b.toNat=43∨b.toNat=45):=J;have e2:¬(b.toNat=45):=J;simp only[if_neg e1];rw[hm];simp only[e2,not_false_eq_true,true_and,false_and,if_false];rw[if_neg J];have:(n.natAbs:Int)=n:=J;rw[this]
def Lx(s:ByteArray)(n:Int):Prop:=(-9223372036854775808≤n∧n≤9223372036854775807)∧AQ n=s
open Classical in
noncomputable def FI (s:ByteArray):Option Int:=if h:∃n,Lx s n then some h.choose else none
theorem Lx.qcl(h:Lx s n)(k:Lx s m):n=m:=ZV (h.2.trans k.2.symm)
theorem M7(h:Lx s n):FI s=some n:=by
 unfold FI;have bK:∃n,Lx s n:=⟨n,h⟩;rw[dif_pos bK,bK.choose_spec.qcl h]
theorem KE(h:FI s=some n):Lx s n:=by
 unfold FI at h
 split at h
 ·rename_i bK;rw[←Option.some.inj h];exact bK.choose_spec
 ·cases h
theorem LL(h:FI s=some n):Lib.atoiAll s.data.toList=.ok n:=by
 have k:=KE h;rw[←k.2];exact A1c k.1.1 k.1.2
theorem Lx.pos(h:Lx s n)(h0:0≤n):K7 s.data.toList=n.natAbs∧s.data.toList.all Ll=true∧0<s.size∧s.size≤19:=by
 obtain⟨hI,rfl⟩:=h;obtain⟨d1,d2,d3⟩:=Ea n.natAbs;have e:(AQ n).data.toList=Lib.decDigits n.natAbs:=(DL n).2 h0;rw[Dk,e];have:=JR n.natAbs 18 J;exact⟨d1,d2,List.length_pos_iff.2 d3,this⟩
theorem Lx.neg(h:Lx s n)(h0:n<0):∃l,s.data.toList=45::l∧K7 l=n.natAbs∧l.all Ll=true∧0<l.length∧l.length≤19:=by
 obtain⟨hI,rfl⟩:=h;obtain⟨d1,d2,d3⟩:=Ea n.natAbs;refine⟨Lib.decDigits n.natAbs,(DL n).1 h0,d1,d2,List.length_pos_iff.2 d3,JR n.natAbs 18 J⟩
end Go.Proofs.YthmocomfjgmjoaaGreatDoor
namespace Go.Proofs.YthmocomfjgmjoaaGreatDoor
open Go.RowKit
variable {b:UInt8}{b':ByteArray}{c:UInt8}{k:Nat}{l:U}{m:I}{s sep:ByteArray}{v:Value}{w w' w2:World}
theorem Gi:(Tryz.prog.info? 9).map (fun i=>(i.zero,i.size,i.bytes))=some (some (.string ⟨#[]⟩),1,16):=by kernel_rfl
theorem Vt(s:ByteArray)(c:Int)(w:World):
  Calls Tryz.prog 153 #[.string s,.int .u8 c] w fun e w'=>e=.returned (.int .i64 (Lib.indexByte s.data.toList c.toNat.toUInt8))∧w'=w:=by
 go_enter Tryz.func153,Tryz.ntmps153;go_wp2;rw[run_callFunc_extern Tryz.func218 (by kernel_rfl) (by kernel_rfl) (by kernel_rfl) (e:=Extern.BytealgIndexByte.indexByte) (by kernel_rfl),Lib.run_indexByteString];simp only[Result.andThen];rw[Oper.upon_value];go_wp2
 go_ret
 exact⟨rfl,rfl⟩
theorem UJ(s:ByteArray)(c:Int)(w:World):
  Calls Tryz.prog 78 #[.string s,.int .u8 c] w fun e w'=>e=.returned (.int .i64 (Lib.indexByte s.data.toList c.toNat.toUInt8))∧w'=w:=by
 go_enter Tryz.func78,Tryz.ntmps78;go_wp2_with (go_at_call 153;refine(Vt _ _ _).mono ?_;rintro e w' ⟨rfl,rfl⟩)
 go_ret
 exact⟨rfl,rfl⟩
theorem Xv(h:c=b)(w:World):Calls Tryz.prog 78 #[.string ⟨#[b]⟩,.int .u8 c.toNat] w fun e w'=>e=.returned (.int .i64 0)∧w=w':=
 (UJ _ _ w).mono fun e w' ⟨h1,h2⟩=>⟨by rw[h1];subst h;simp[Lib.indexByte],h2.symm⟩
theorem Va(h:c≠b)(w:World):Calls Tryz.prog 78 #[.string ⟨#[b]⟩,.int .u8 c.toNat] w fun e w'=>e=.returned (.int .i64 (-1))∧w=w':=
 (UJ _ _ w).mono fun e w' ⟨h1,h2⟩=>⟨by rw[h1];have h3:(b==c)=false:=by simpa using fun e=>h e.symm
                                       simp[Lib.indexByte,h3],h2.symm⟩
theorem Qx(h:s.data.toList[k]? =some b):BI s b (k+1)=((BI s b k).1++[s.extract (BI s b k).2 k],k+1):=by
 conv=>lhs;unfold BI
 rw[if_pos h]
theorem L9(h:s.data.toList[k]? ≠some b):BI s b (k+1)=BI s b k:=by
 conv=>lhs;unfold BI
 rw[if_neg h]
theorem Iy(hs:s.size≤1048576)(i j:Nat):(s.extract i j).size≤9223372036854775807:=by have:=FA s i j;omega
theorem Do(s:ByteArray)(b:UInt8)(w:World)(hs:s.size≤1048576):Calls Tryz.prog 25 #[.string s,.string ⟨#[b]⟩] w (N7 9 Km w (AM s b)):=by
 go_enter Tryz.func25,Tryz.ntmps25;go_wp2;go_loopw [5,6,7] (fun v st i wr=>∃k p:Nat,k≤s.size∧i=.int .i64 k∧p=(BI s b k).2∧p≤k∧st=.int .i64 p∧Ag 9 Km (Iv w.heap.size wr.heap.size) wr v (BI s b k).1∧Below w.heap.size w wr) (fun _ _ i _=>s.size-(intOf i).toNat);exact⟨0,0,A7 _,rfl,rfl,A2 _,rfl,Ag.nil _ _ _ _,A6 _ _⟩;obtain⟨k,p,hk,rfl,hp,hpk,rfl,aB,aA⟩:=hrel;obtain⟨wo,rfl⟩:∃wo:World,wo=wr:=⟨_,rfl⟩;have bD:=aA.size;have oC:=M6 s b k;have au:(BI s b k).1.length<1099511627776:=J;have Hp:=Z hp;obtain⟨p1,p2,p3,rfl⟩:=aB.shape;have aC:=Z aB;clear hp aB;by_cases aF:k<s.size
 ·have ex:=Z (Lz aF);by_cases hb:s[k]=b
  ·have aG:=Z (Qx (s:=s) (b:=b) (k:=k) (by rw[ex.o,hb]));have Hb:=Z hb;have hx:=Iy hs p k;clear hb;go_wp2_with (first|(go_at_call 78;refine(Xv Hb.o _).mono ?_;rintro e w' ⟨rfl,rfl⟩)|(at_builtin;(refine AH rfl _ _ 27 rfl CK 9 Tryz.underlying27 Gi rfl Jq w.heap.size wo.heap.size bD (A2 _) rfl rfl (by exact aC.o) (by exact⟨rfl,hx⟩) au ?_);intro v2 w2 hown2 hbel2 _)|fail);have af:=aA.trans hbel2;have aX:=Z hown2;clear hown2;go_wp2;go_roundw;exact⟨k+1,k+1,J,by go_num,by rw[aG.o],A2 _,by go_num,by rw[aG.o,←Hp.o];exact aX.o,af⟩;exact Jv
  ·have aG:=Z (L9 (s:=s) (b:=b) (k:=k) (by rw[ex.o];simpa using hb));go_wp2_with (first|(go_at_call 78;refine(Va hb _).mono ?_;rintro e w' ⟨rfl,rfl⟩)|fail);go_roundw;exact⟨k+1,p,J,by go_num,by rw[aG.o];exact Hp.o,J,rfl,by rw[aG.o];exact aC.o,aA⟩;exact Jv
 ·obtain rfl:k=s.size:=J;have hx:=Iy hs p s.size;go_wp2_with (first|(at_builtin;(refine AH rfl _ _ 27 rfl CK 9 Tryz.underlying27 Gi rfl Jq w.heap.size wo.heap.size bD (A2 _) rfl rfl (by exact aC.o) (by exact⟨rfl,hx⟩) au ?_);intro v2 w2 hown2 hbel2 _)|fail);have af:=aA.trans hbel2;have aX:=Z hown2;clear hown2;go_wp2
  go_ret
  exact⟨_,rfl,by unfold AM;rw[←Hp.o];exact aX.o,af⟩
theorem FD(s:ByteArray)(b:UInt8)(w:World)(hs:s.size≤1048576):Calls Tryz.prog 62 #[.string s,.string ⟨#[b]⟩] w (N7 9 Km w (AM s b)):=by
 go_enter Tryz.func62,Tryz.ntmps62;go_wp2;go_loopw [5,6,7,8] (fun v st i _ wr=>∃k p:Nat,k≤s.size∧i=.int .i64 k∧p=(BI s b k).2∧p≤k∧st=.int .i64 p∧Ag 9 Km (Iv w.heap.size wr.heap.size) wr v (BI s b k).1∧Below w.heap.size w wr) (fun _ _ i _ _=>s.size-(intOf i).toNat);exact⟨0,0,A7 _,rfl,rfl,A2 _,rfl,BK _ _ _ CK,Below.qab _ _⟩;obtain⟨k,p,hk,rfl,hp,hpk,rfl,aB,aA⟩:=hrel;obtain⟨wo,rfl⟩:∃wo:World,wo=wr:=⟨_,rfl⟩;have bD:=aA.size;have oC:=M6 s b k;have au:(BI s b k).1.length<1099511627776:=J;have Hp:=Z hp;obtain⟨p1,p2,p3,rfl⟩:=aB.shape;have aC:=Z aB;clear hp aB;by_cases aF:k<s.size
 ·have ex:=Z (Lz aF);have dM:decide ((k:Int)<(s.size:Int))=true:=by simp;omega
  go_wp2;go_loopw [5,6,8] (fun v st j wr=>∃n:Nat,v=.slice p1 p2 p3∧st=.int .i64 p∧wr=wo.drewN n∧(j=.int .i64 0∨(j=.int .i64 1∧s[k]≠b))) (fun _ _ j _=>1-(intOf j).toNat);exact⟨0,rfl,rfl,rfl,.inl rfl⟩;obtain⟨n,rfl,rfl,rfl,hj⟩:=hrel;have hbn:=below_drewN (A6 wo.heap.size wo) n;have fB:=Z (show Ag 9 Km (Iv w.heap.size (wo.drewN n).heap.size) (wo.drewN n) (Value.slice p1 p2 p3) (BI s b k).1 from aC.o);rcases hj with rfl|⟨rfl,aK⟩
  ·by_cases hb:s[k]=b
   ·have aG:=Z (Qx (s:=s) (b:=b) (k:=k) (by rw[ex.o,hb]));have hx:=Iy hs p k;have cu:((s[k].toNat:Int)==(((⟨#[b]⟩:ByteArray)[0]'(Nat.zero_lt_one)).toNat:Int))=true:=by
     show((s[k].toNat:Int)==(b.toNat:Int))=true;rw[hb];simp
    clear hb;go_wp2;go_quiet (fail);have zu:=below_drewN (A6 wo.heap.size wo) (n+nq);have qx:=Z (show Ag 9 Km (Iv w.heap.size (wo.drewN (n+nq)).heap.size) (wo.drewN (n+nq)) (Value.slice p1 p2 p3) (BI s b k).1 from aC.o);go_wp2_with (first|(at_builtin;(refine AH rfl _ _ 27 rfl CK 9 Tryz.underlying27 Gi rfl Jq w.heap.size wo.heap.size bD (show wo.heap.size≤(wo.drewN (n+nq)).heap.size from A2 _) rfl rfl (by exact qx.o) (by exact⟨rfl,hx⟩) au ?_);intro v2 w2 hown2 hbel2 _)|fail);have af:=(aA.trans (zu.mono bD)).trans hbel2;have aX:=Z hown2;clear hown2;go_wp2;go_roundw;exact⟨k+1,k+1,J,by go_num,by rw[aG.o],A2 _,by go_num,by rw[aG.o,←Hp.o];exact aX.o,af⟩;exact Jv
   ·have aG:=Z (L9 (s:=s) (b:=b) (k:=k) (by rw[ex.o];simpa using hb));have cu:((s[k].toNat:Int)==(((⟨#[b]⟩:ByteArray)[0]'(Nat.zero_lt_one)).toNat:Int))=false:=by
     show((s[k].toNat:Int)==(b.toNat:Int))=false;rw[Ai];intro h;exact hb (UInt8.toNat_inj.1 J)
    go_wp2;go_quiet (fail);go_wp2;go_roundw
    case rel=>exact⟨_,rfl,rfl,rfl,.inr ⟨by go_num,hb⟩⟩
    case measure=>simp[intOf]
  ·have aG:=Z (L9 (s:=s) (b:=b) (k:=k) (by rw[ex.o];simpa using aK));clear aK;go_wp2;go_roundw;exact⟨k+1,p,J,by go_num,by rw[aG.o];exact Hp.o,J,rfl,by rw[aG.o];exact fB.o,aA.trans (hbn.mono bD)⟩;exact Jv
 ·obtain rfl:k=s.size:=J;have hx:=Iy hs p s.size;go_wp2_with (first|(at_builtin;(refine AH rfl _ _ 27 rfl CK 9 Tryz.underlying27 Gi rfl Jq w.heap.size wo.heap.size bD (A2 _) rfl rfl (by exact aC.o) (by exact⟨rfl,hx⟩) au ?_);intro v2 w2 hown2 hbel2 _)|fail);have af:=aA.trans hbel2;have aX:=Z hown2;clear hown2;go_wp2
  go_ret
  exact⟨_,rfl,by unfold AM;rw[←Hp.o];exact aX.o,af⟩
theorem A1t{P:Program}(w:World)(src dst e:TypeId)(z:Int)(hs:P.underlying src=some (.slice e))(he:P.underlying e=some (.int .u8))(hd:P.underlying dst=some .string):
  (convert src dst (.slice (some ⟨w.heap.size,0,none⟩) 1 1)).run P (w.alloc (.cells #[.int .u8 z] e))=.ok (.string ⟨#[UInt8.ofNat z.toNat]⟩) (w.alloc (.cells #[.int .u8 z] e)):=by
 rw[run_convert_bytes_string _ _ _ _ _ _ _ hs he hd];have hl:(loadCells ⟨w.heap.size,0,none⟩ 1).run P (w.alloc (.cells #[.int .u8 z] e))=.ok ([z].map (Value.int .u8)).toArray (w.alloc (.cells #[.int .u8 z] e)):=by
  have:=run_loadCells_list (P:=P) (w.alloc (.cells #[.int .u8 z] e)) ⟨w.heap.size,0,none⟩ [.int .u8 z] (PD w _ e);simpa using this
 rw[run_bytesToString _ _ _ _ _ hl];rfl
theorem Lj(h:Below w.drew.heap.size w.drew w2):Below w.heap.size w w2:=⟨h.os,h.tape,h.output,h.size,h.block⟩
theorem A24{b:ByteArray}(h:b=b'):Ending.returned (.string b)=Ending.returned (.string b'):=by rw[h]
theorem RP{n:Int}(h:n≤0):n.tdiv 10=-((-n) /10):=by
 have h2:(-(-n)).tdiv 10=-((-n).tdiv 10):=Int.neg_tdiv ..
 rw[Int.neg_neg,Int.tdiv_eq_ediv_of_nonneg (a:=-n) J]at h2;exact h2
theorem A3d(n:Int):n.tmod 10=n-10*n.tdiv 10:=Int.tmod_def n 10
theorem A0l(w:World)(z:Int):(convert 22 9 (.slice (some ⟨w.heap.size,0,none⟩) 1 1)).run Tryz.prog (w.alloc (.cells #[.int .u8 z] 5))=.ok (.string ⟨#[UInt8.ofNat z.toNat]⟩) (w.alloc (.cells #[.int .u8 z] 5)):=
 A1t w _ _ _ z Tryz.underlying22 Tryz.underlying5 Tryz.underlying9
theorem A39(w:World)(g:Nat)(z:Int)(h:w.cell? ⟨g,0,none⟩=some (.int .u8 z)):(convert 22 9 (.slice (some ⟨g,0,none⟩) 1 1)).run Tryz.prog w=.ok (.string ⟨#[UInt8.ofNat z.toNat]⟩) w:=by
 rw[run_convert_bytes_string _ _ _ _ _ _ _ Tryz.underlying22 Tryz.underlying5 Tryz.underlying9];have hl:(loadCells ⟨g,0,none⟩ 1).run Tryz.prog w=.ok ([z].map (Value.int .u8)).toArray w:=by
  have:=run_loadCells_list (P:=Tryz.prog) w ⟨g,0,none⟩ [.int .u8 z] (fun j v hj=>by
   match j,hj with
   |0,hj=>simp at hj;subst hj;simpa[Addr.add]using h)
  simpa using this
 rw[run_bytesToString _ _ _ _ _ hl];rfl
theorem A2L{z:Int}(hb:Below (w.alloc (.cells #[.int .u8 z] 5)).drew.heap.size (w.alloc (.cells #[.int .u8 z] 5)).drew w2):(convert 22 9 (.slice (some ⟨w.heap.size,0,none⟩) 1 1)).run Tryz.prog w2=.ok (.string ⟨#[UInt8.ofNat z.toNat]⟩) w2:=
 A39 w2 w.heap.size z ((hb.cell (p:=⟨w.heap.size,0,none⟩) Jj).trans Jj)
theorem A46(w:World)(z:Int):(convert 22 9 (.slice (some ⟨w.heap.size,0,none⟩) 1 1)).run Tryz.prog (w.alloc (.cells #[.int .u8 z] 5)).drew=.ok (.string ⟨#[UInt8.ofNat z.toNat]⟩) (w.alloc (.cells #[.int .u8 z] 5)).drew:=
 A39 _ w.heap.size z Jj
theorem MY(z:UInt8):(⟨#[z]⟩:ByteArray).size=1:=rfl
theorem Vw(n:Int)(hn:Cc n)(h0:0≤n)(w:World):Calls Tryz.prog 144 #[.int .i64 n] w fun e w'=>e=.returned (.string (AQ n))∧Below w.heap.size w w':=by
 obtain⟨ep,f9⟩:=hn.o;have pF:=CW ⟨ep,f9⟩;go_enter Tryz.func144,Tryz.ntmps144;go_wp2;go_loopw [0,3] (fun nv s wr=>∃(m:Int)(t:ByteArray),nv=.int .i64 m∧s=.string t∧0≤m∧m≤9223372036854775807∧AQ n=AQ m++t∧t.size≤20∧Below w.heap.size w wr) (fun nv _ _=>(intOf nv).toNat);exact⟨n,ByteArray.empty,rfl,rfl,h0,f9,by apply DX;simp,Jj,A6 _ _⟩;obtain⟨m,t,rfl,rfl,yE,hm1,hf,x7,aA⟩:=hrel;obtain⟨wo,rfl⟩:∃wo:World,wo=wr:=⟨_,rfl⟩;have hts2:t.size+(AQ m).size≤20:=by rw[hf,AR]at pF;omega
 have Hf:=Z hf;clear hf;by_cases h9:9<m
 ·have bB:=A2u h9;have aG:=Z (show AQ n=AQ (m/10)++(⟨#[UInt8.ofNat (48+m % 10).toNat]⟩++t)from by
   rw[Hf.o,bB];have e:48+(m % 10).toNat=(48+m % 10).toNat:=J;rw[e];apply DX;simp[List.append_assoc])
  have hz:=MY (UInt8.ofNat (48+m % 10).toNat);have aM:(⟨#[UInt8.ofNat (48+m % 10).toNat]⟩++t:ByteArray).size≤20:=by
   have h1:=congrArg ByteArray.size bB;rw[AR,MY]at h1;rw[AR,MY];omega
  have hc:=A0l wo (48+m % 10);clear bB;go_wp2;go_roundw;exact⟨m/10,_,by go_num,rfl,J,J,aG.o,aM,aA.alloc aA.size _⟩;exact Jv
 ·have aG:=Z (show AQ n=⟨#[UInt8.ofNat (48+m).toNat]⟩++t from by
   rw[Hf.o,A1o yE J];have e:48+m.toNat=(48+m).toNat:=J;rw[e])
  have hz:=MY (UInt8.ofNat (48+m).toNat);have hc:=A0l wo (48+m);go_wp2
  go_ret
  exact⟨A24 aG.o.symm,aA.alloc aA.size _⟩
theorem Wj(N:Nat):∀(n:Int),Cc n→n<0→n.natAbs≤N→∀w:World,Calls Tryz.prog 144 #[.int .i64 n] w fun e w'=>e=.returned (.string (AQ n))∧Below w.heap.size w w':=by
 induction N with
 |zero=>intro n _ h0 hN;omega
 |succ N ih=>
  intro n hn h0 hN w;obtain⟨ep,f9⟩:=hn.o;by_cases h10:-10<n
  ·have Hf:=Z (show AQ n=⟨#[45]⟩++⟨#[UInt8.ofNat (48-n).toNat]⟩from by
    rw[A37 h0 h10];have e:48+(-n).toNat=(48-n).toNat:=J;rw[e])
   have hq:(n.tdiv 10==0)=true:=by
    rw[beq_iff_eq,RP J];omega
   have hz:=MY (UInt8.ofNat (48-n).toNat);have hc:=A0l w (48-n);go_enter Tryz.func144,Tryz.ntmps144;go_wp2
   go_ret
   exact⟨A24 Hf.o.symm,Below.qab _ _⟩
  ·have Hf:=Z (show AQ n=AQ (n.tdiv 10)++⟨#[UInt8.ofNat (48-n.tmod 10).toNat]⟩from by
    rw[A3P J];have e:48+(-(n.tmod 10)).toNat=(48-n.tmod 10).toNat:=by
     have h1:=A3d n;have h2:=RP (n:=n) J;omega
    rw[e])
   have hd:=RP (n:=n) J;have hmo:=A3d n;have hq:(n.tdiv 10==0)=false:=by
    rw[Ai];omega
   have hm1:0≤48-n.tmod 10:=J;have hm2:48-n.tmod 10≤255:=J;have zv:-9≤n.tmod 10:=J;have hm4:n.tmod 10≤0:=J;have hIq:Cc (n.tdiv 10):=⟨J,J⟩;have tM:n.tdiv 10<0:=J;have hqN:(n.tdiv 10).natAbs≤N:=J;have pF:=CW hIq.o;have hw1:IntKind.i64.wrap (n.tdiv 10)=n.tdiv 10:=by rw[IntKind.wrap_i64];omega
   have hw2:IntKind.i64.wrap (n.tmod 10)=n.tmod 10:=by rw[IntKind.wrap_i64];omega
   have hw3:IntKind.i64.wrap (48-n.tmod 10)=48-n.tmod 10:=by rw[IntKind.wrap_i64];omega
   have hw4:IntKind.u8.wrap (48-n.tmod 10)=48-n.tmod 10:=by rw[IntKind.wrap_u8];omega
   have hz:=MY (UInt8.ofNat (48-n.tmod 10).toNat);have hc:=A46 w (48-n.tmod 10);have IH:=Z (ih (n.tdiv 10) hIq tM hqN);clear ih hd hmo;go_enter Tryz.func144,Tryz.ntmps144;go_wp2;go_region_with (go_at_call 144;refine(IH.o _).mono ?_;rintro e w2 ⟨rfl,af⟩;have cM:=A0l w2 (48-n.tmod 10);first|(have hc3:=A2L af)|skip)
   all_goals go_wp2
   all_goals go_ret
   all_goals refine⟨A24 Hf.o.symm,?_⟩
   all_goals first
    |exact(Lj af).alloc (by have:=af.size;exact this) _
    |exact(Below.qab w _).qaa (Lj af) Jj
    |exact Lj af
theorem Dx(n:Int)(hn:Cc n)(w:World):Calls Tryz.prog 144 #[.int .i64 n] w fun e w'=>e=.returned (.string (AQ n))∧Below w.heap.size w w':=by
 rcases Int.lt_or_le n 0 with h|h
 ·exact Wj n.natAbs n hn h (A2 _) w
 ·exact Vw n hn h w
theorem I4{b:ByteArray}(h:b=b'):Ending.returned (.string b)=Ending.returned (.string b'):=by rw[h]
theorem SR(v:Value)(xs:List ByteArray)(sep:ByteArray)(w:World)(hv:CX w v xs)(hb:DC sep xs≤1099511627776):Calls Tryz.prog 129 #[v,.string sep] w fun e w'=>e=.returned (.string (CE sep xs))∧w=w':=by
 obtain⟨a,cap,rfl,ae,cJ,-,hc⟩:=hv;go_enter Tryz.func129,Tryz.ntmps129;go_wp2;go_loop [5,6,7,10] (fun s _ _ i=>∃k:Nat,k≤xs.length∧i=.int .i64 k∧s=.string (CE sep (xs.take k))) (fun _ _ _ i=>xs.length-(intOf i).toNat);exact⟨0,A7 _,rfl,rfl⟩;obtain⟨k,hk,rfl,rfl⟩:=hrel;obtain⟨t,ht⟩:∃t,t=CE sep (xs.take k):=⟨_,rfl⟩;rw[←ht];have x7:t.size≤1099511627776:=by
  have h1:=Es sep (xs.take k);have h2:=Nc sep xs k;rw[ht];omega
 have Ht:=Z ht;clear ht;by_cases aF:k<xs.length
 ·obtain⟨b,off,rfl,-,bO⟩:=hc J;obtain⟨x,hx⟩:∃x,xs[k]? =some x:=⟨_,A3 aF⟩;obtain⟨u,aW,rfl,-⟩:=bO k x hx;have Hs:=Z (YP (sep:=sep) hx);have eX:x.size+sep.size+t.size≤1099511627776:=by
   have h1:=Es sep (xs.take k);have h2:=Nc sep xs (k+1);have h3:=OR sep (xs.take k) [x];rw[show xs.take k++[x]=xs.take (k+1)from by rw[Ao,hx];rfl]at h3;simp only[DC]at h3;rw[←Ht.o]at h1;omega
  clear hx hc bO;by_cases h0:k=0
  ·subst h0;have ht0:t=ByteArray.empty:=by rw[Ht.o];rfl
   subst ht0;rw[AF]at aW;go_wp2
   go_round
   exact⟨1,J,by go_num,by rw[Hs.o];rfl⟩;exact Jv
  ·have ap:decide ((0:Int)<(k:Int))=true:=by simp;omega
   have eF:=Z (show CE sep (xs.take (k+1))=t++sep++x from by rw[Hs.o,if_neg h0,←Ht.o]);go_wp2
   go_round
   exact⟨k+1,J,by go_num,by rw[eF.o]⟩;exact Jv
 ·have Hf:=Z (show t=CE sep xs from by rw[Ht.o,A9 J]);go_wp2
  go_ret
  exact⟨I4 Hf.o,rfl⟩
theorem Sp(v:Value)(xs:List ByteArray)(sep:ByteArray)(w:World)(hv:CX w v xs)(hb:DC sep xs≤1099511627776)(hl:xs.length≤1099511627776):Calls Tryz.prog 14 #[v,.string sep] w fun e w'=>e=.returned (.string (CE sep xs))∧Below w.heap.size w w':=by
 have hj:=Es sep xs;have aN:(Lib.join (xs.map (·.data.toList)) sep.data.toList).length≤140737488355328:=by
  have:(CE sep xs).size=(Lib.join (xs.map (·.data.toList)) sep.data.toList).length:=by simp[CE,Dk]
  omega
 by_cases h0:xs=[]
 ·subst h0;obtain⟨a,cap,rfl,-⟩:=hv;go_enter Tryz.func14,Tryz.ntmps14;go_wp2_with (first|(go_at_call 56;refine(Tryz.strings_Join_none _ _ _ _).mono ?_;rintro e w' ⟨rfl,rfl⟩))
  go_ret
  exact⟨rfl,A6 _ _⟩
 ·have aZ:0<xs.length:=List.length_pos_iff.2 h0;obtain⟨b,off,c,rfl,eU,hcp⟩:=hv.qac aZ;have bJ:∀(j:Nat) x,xs[j]? =some x→w.cell? ⟨b,off+j,none⟩=some (.string x):=by
   intro j x hx;obtain⟨u,hu,rfl,-⟩:=Sl.at hv hx;exact hu
  have Hc:=Z bJ;have fP:=Z aN;clear bJ hv aN hj;go_enter Tryz.func14,Tryz.ntmps14;go_wp2_with (first|(go_at_call 56;refine(Tryz.strings_Join _ _ _ _ _ _ Hc.o eU J hcp fP.o).mono ?_;rintro e w' ⟨rfl,aA⟩))
  go_ret
  exact⟨rfl,aA⟩
theorem A4J{c:Int}(h0:-1≤c)(h1:c≤1):(⟨#[63,46,35]⟩:ByteArray).extract (c+1).toNat (c+2).toNat=VX c:=by
 have:c=-1∨c=0∨c=1:=J;rcases this with rfl|rfl|rfl<;>rfl
def Yo(m:I):Prop:=m.length≤5∧∀r∈m,r.length≤5∧∀x∈r,-1≤x∧x≤1
theorem Yo.bulk(h:Yo m):DC ⟨#[47]⟩ (m.map Bu)≤30:=by
 have h1:=Rf ⟨#[47]⟩ (xs:=m.map Bu) (m:=5) (fun x hx=>by
  obtain⟨r,hr,rfl⟩:=AE.1 hx;rw[Fc];exact(h.2 r hr).1)
 have h2:(⟨#[47]⟩:ByteArray).size=1:=rfl;rw[Ay,h2]at h1;have:=h.1;omega
theorem Fr(h:AC m=true):Yo m:=by
 obtain⟨r,c,h1,h2,h3,h4,hs⟩:=Az h;refine⟨by rw[hs.1];exact h2,fun row hr=>⟨by rw[(hs.2 row hr).1];exact h4,fun x hx=>?_⟩⟩;have:=(hs.2 row hr).2 x hx;omega
theorem JX{r:U}(h:m[k]? =some r):(m.take (k+1)).map Bu=(m.take k).map Bu++[Bu r]:=by
 rw[Ao,h];simp
theorem A0o(v:Value)(m:I)(w:World)(hv:AI w v m)(hm:Yo m):Calls Tryz.prog 85 #[v,.string ⟨#[63,46,35]⟩] w fun e w'=>e=.returned (.string (EQ m))∧Below w.heap.size w w':=by
 have Hv:=Z hv;obtain⟨a,cap0,rfl,-⟩:=hv;have xB:=hm.1;go_enter Tryz.func85,Tryz.ntmps85;go_wp2;go_loopw [5,7,8,10,13] (fun v _ _ _ i wr=>∃k:Nat,k≤m.length∧i=.int .i64 k∧Ag 9 Km (Iv w.heap.size wr.heap.size) wr v ((m.take k).map Bu)∧Below w.heap.size w wr) (fun _ _ _ _ i _=>m.length-(intOf i).toNat);exact⟨0,A7 _,rfl,Ag.nil _ _ _ _,A6 _ _⟩;obtain⟨k,hk,rfl,aB,aA⟩:=hrel;obtain⟨wo,rfl⟩:∃wo:World,wo=wr:=⟨_,rfl⟩;have bD:=aA.size;by_cases aF:k<m.length
 ·obtain⟨row,aD⟩:∃row,m[k]? =some row:=⟨_,A3 aF⟩;obtain⟨b,off,cpr,he,hb,-⟩:=Hv.o.qac J;obtain⟨rfl,-⟩:a=some ⟨b,off,none⟩∧cap0=cpr:=by simpa using he
  obtain⟨u,aW,hu⟩:=Sl.at Hv.o aD;have hu:Au w u row:=hu;obtain⟨ar,cpr,rfl,-⟩:=id hu;rw[←aA.cell (p:=⟨b,off+k,none⟩) hb]at aW;obtain⟨aj,eE⟩:=hm.2 row (A4 aD);have aG:=Z (JX aD);have Hu:=Z (hu.keep aA);have au:((m.take k).map Bu).length<1099511627776:=by simp;omega
  have dM:decide ((k:Int)<(m.length:Int))=true:=by simp;omega
  obtain⟨p1,p2,p3,rfl⟩:=aB.shape;have aC:=Z aB;clear aD hu aB he;go_wp2;clear aW;go_loop [8,10,19] (fun s _ i=>∃j:Nat,j≤row.length∧i=.int .i64 j∧s=.string (Bu (row.take j))) (fun _ _ i=>row.length-(intOf i).toNat);exact⟨0,A7 _,rfl,rfl⟩;obtain⟨j,hj,rfl,rfl⟩:=hrel;obtain⟨t,ht⟩:∃t,t=Bu (row.take j):=⟨_,rfl⟩;rw[←ht];have x7:t.size≤5:=by rw[ht,Fc,At];omega
  have Ht:=Z ht;clear ht;by_cases hltj:j<row.length
  ·obtain⟨x,hx⟩:∃x,row[j]? =some x:=⟨_,A3 hltj⟩;obtain⟨br,offr,cpr2,dX,dL,-⟩:=Hu.o.qac J;obtain⟨rfl,-⟩:ar=some ⟨br,offr,none⟩∧cpr=cpr2:=by simpa using dX
   have fK:=Au.at Hu.o hx;obtain⟨eR,bj⟩:=eE x (A4 hx);have Hs:=Z (show Bu (row.take (j+1))=t++(⟨#[63,46,35]⟩:ByteArray).extract (x+1).toNat (x+2).toNat from by rw[L8 hx,←Ht.o,A4J eR bj]);clear hx dX;go_wp2
   go_round
   exact⟨j+1,J,by go_num,by rw[Hs.o]⟩;exact Jv
  ·have Hf:=Z (show t=Bu row from by rw[Ht.o,A9 J]);have hx:t.size≤9223372036854775807:=J;go_wp2_with (first|(at_builtin;(refine AH rfl _ _ 27 rfl CK 9 Tryz.underlying27 Gi rfl Jq w.heap.size wo.heap.size bD (A2 _) rfl rfl (by exact aC.o) (by exact⟨rfl,hx⟩) au ?_);intro v2 w2 hown2 hbel2 _)|fail);have af:=aA.trans hbel2;have aX:=Z hown2;clear hown2;go_wp2;go_roundw;exact⟨k+1,J,by go_num,by rw[aG.o,←Hf.o];exact aX.o,af⟩;exact Jv
 ·have aE:=aB;rw[A9 J]at aE;have bB:CX wo _ (m.map Bu):=(Cd CK).rd (aE.sl (fun _ _ _ _ h=>h) CK);have aG:=Z bB;have iS:=Z hm.bulk;obtain⟨p1,p2,p3,rfl⟩:=aB.shape;clear aB aE bB;go_wp2_with fail;refine(Sp _ _ _ _ aG.o (by have:=iS.o;omega) (by simp;omega)).mono ?_;rintro e w2 ⟨rfl,af⟩;have dg:=aA.trans (af.mono bD);go_wp2
  go_ret
  exact⟨rfl,dg⟩
def AD(m:I):ByteArray:=if AC m then EQ m else ByteArray.empty
theorem Fw(v:Value)(m:I)(w:World)(hv:AI w v m):Calls Tryz.prog 30 #[v] w fun e w'=>e=.returned (.string (AD m))∧Below w.heap.size w w':=by
 cases hok:AC m
 ·have Hr:=Z (show AD m=ByteArray.empty from by simp[AD,hok]);have aR:=Z hok;clear hok;go_enter Tryz.func30,Tryz.ntmps30;go_wp2_with fail;refine(B8 _ _ _ hv).mono ?_;rintro e w' ⟨rfl,rfl⟩;rw[aR.o];go_wp2
  go_ret
  exact⟨I4 Hr.o.symm,A6 _ _⟩
 ·have Hr:=Z (show AD m=EQ m from by simp[AD,hok]);have ht:=Fr hok;have aR:=Z hok;clear hok;go_enter Tryz.func30,Tryz.ntmps30;go_wp2_with fail;refine(B8 _ _ _ hv).mono ?_;rintro e w' ⟨rfl,rfl⟩;rw[aR.o];go_wp2_with fail;refine(A0o _ _ _ hv ht).mono ?_;rintro e w' ⟨rfl,hb⟩;go_wp2
  go_ret
  exact⟨I4 Hr.o.symm,hb⟩
theorem A4O{c:Int}(h0:0≤c)(h1:c≤1):(c=1→VX c=⟨#[35]⟩)∧(c≠1→VX c=⟨#[46]⟩):=by
 refine⟨fun h=>by subst h;rfl,fun h=>?_⟩;have:c=0:=J;subst this;rfl
theorem EK(v:Value)(m:I)(w:World)(hv:AI w v m):Calls Tryz.prog 139 #[v] w fun e w'=>e=.returned (.string (AD m))∧Below w.heap.size w w':=by
 have Hv:=Z hv;obtain⟨a,cap0,rfl,-⟩:=hv;cases hok:AC m
 ·have Hr:=Z (show AD m=ByteArray.empty from by simp[AD,hok]);have aR:=Z hok;clear hok;go_enter Tryz.func139,Tryz.ntmps139;go_wp2_with fail;refine(Bh _ _ _ Hv.o).mono ?_;rintro e w' ⟨rfl,rfl⟩;rw[aR.o];go_wp2
  go_ret
  exact⟨I4 Hr.o.symm,A6 _ _⟩
 have Hr:=Z (show AD m=EQ m from by simp[AD,hok]);have hm:=Fr hok;obtain⟨r,c,hr1,hr5,hc1,hc5,an⟩:=Az hok;have xB:=hm.1;have aR:=Z hok;clear hok;go_enter Tryz.func139,Tryz.ntmps139;go_wp2_with fail;refine(Bh _ _ _ Hv.o).mono ?_;rintro e w' ⟨rfl,rfl⟩;rw[aR.o];go_wp2;go_loopw [3,5,6,8,15] (fun v _ _ _ i wr=>∃k:Nat,k≤m.length∧i=.int .i64 k∧Ag 9 Km (Iv w.heap.size wr.heap.size) wr v ((m.take k).map Bu)∧Below w.heap.size w wr) (fun _ _ _ _ i _=>m.length-(intOf i).toNat);exact⟨0,A7 _,rfl,BK _ _ _ CK,Below.qab _ _⟩;obtain⟨k,hk,rfl,aB,aA⟩:=hrel;obtain⟨wo,rfl⟩:∃wo:World,wo=wr:=⟨_,rfl⟩;have bD:=aA.size;by_cases aF:k<m.length
 ·obtain⟨row,aD⟩:∃row,m[k]? =some row:=⟨_,A3 aF⟩;obtain⟨b,off,cpr,he,hb,-⟩:=Hv.o.qac J;obtain⟨rfl,-⟩:a=some ⟨b,off,none⟩∧cap0=cpr:=by simpa using he
  obtain⟨u,aW,hu⟩:=Sl.at Hv.o aD;have hu:Au w u row:=hu;obtain⟨ar,cpr,rfl,-⟩:=id hu;rw[←aA.cell (p:=⟨b,off+k,none⟩) hb]at aW;obtain⟨aj,-⟩:=hm.2 row (A4 aD);have eE:=(an.2 row (A4 aD)).2;have aG:=Z (JX aD);have Hu:=Z (hu.keep aA);have au:((m.take k).map Bu).length<1099511627776:=by simp;omega
  have dM:decide ((k:Int)<(m.length:Int))=true:=by simp;omega
  obtain⟨p1,p2,p3,rfl⟩:=aB.shape;have aC:=Z aB;clear aD hu aB he;go_wp2;clear aW;go_loop [6,8,21] (fun s _ i=>∃j:Nat,j≤row.length∧i=.int .i64 j∧s=.string (Bu (row.take j))) (fun _ _ i=>row.length-(intOf i).toNat);exact⟨0,A7 _,rfl,rfl⟩;obtain⟨j,hj,rfl,rfl⟩:=hrel;obtain⟨t,ht⟩:∃t,t=Bu (row.take j):=⟨_,rfl⟩;rw[←ht];have x7:t.size≤5:=by rw[ht,Fc,At];omega
  have Ht:=Z ht;clear ht;by_cases hltj:j<row.length
  ·obtain⟨x,hx⟩:∃x,row[j]? =some x:=⟨_,A3 hltj⟩;obtain⟨br,offr,cpr2,dX,dL,-⟩:=Hu.o.qac J;obtain⟨rfl,-⟩:ar=some ⟨br,offr,none⟩∧cpr=cpr2:=by simpa using dX
   have fK:=Au.at Hu.o hx;obtain⟨eR,bj⟩:=eE x (A4 hx);have x8:=A4O eR bj;have Hs:=Z (show Bu (row.take (j+1))=t++VX x from by rw[L8 hx,←Ht.o]);clear hx dX;by_cases h1:x=1
   ·have Hg:=Z (x8.1 h1);subst h1;clear x8;go_wp2
    go_round
    exact⟨j+1,J,by go_num,by rw[Hs.o,Hg.o]⟩;exact Jv
   ·have Hg:=Z (x8.2 h1);have aK:(x==1)=false:=by simpa using h1
    clear x8;go_wp2
    go_round
    exact⟨j+1,J,by go_num,by rw[Hs.o,Hg.o]⟩;exact Jv
  ·have Hf:=Z (show t=Bu row from by rw[Ht.o,A9 J]);have hx:t.size≤9223372036854775807:=J;go_wp2_with (first|(at_builtin;(refine AH rfl _ _ 27 rfl CK 9 Tryz.underlying27 Gi rfl Jq w.heap.size wo.heap.size bD (A2 _) rfl rfl (by exact aC.o) (by exact⟨rfl,hx⟩) au ?_);intro v2 w2 hown2 hbel2 _)|fail);have af:=aA.trans hbel2;have aX:=Z hown2;clear hown2;go_wp2;go_roundw;exact⟨k+1,J,by go_num,by rw[aG.o,←Hf.o];exact aX.o,af⟩;exact Jv
 ·have aE:=aB;rw[A9 J]at aE;have bB:CX wo _ (m.map Bu):=(Cd CK).rd (aE.sl (fun _ _ _ _ h=>h) CK);have aG:=Z bB;have iS:=Z hm.bulk;obtain⟨p1,p2,p3,rfl⟩:=aB.shape;clear aB aE bB;go_wp2_with fail;refine(SR _ _ _ _ aG.o (by have:=iS.o;omega)).mono ?_;rintro e w2 ⟨rfl,rfl⟩;go_wp2
  go_ret
  exact⟨I4 Hr.o.symm,aA⟩
def Tab(w:World):Prop:=Lib.TabIs Tryz.prog w "internal/strconv.uint64pow10" .u64 Lib.pow10Tab
theorem Tab.keep(h:Tab w)(hb:Below w.heap.size w w'):Tab w':=by
 have hg:Tryz.prog.globalNamed "internal/strconv.uint64pow10"=some 0:=by kernel_rfl
 unfold Tab Lib.TabIs World.var? at h⊢;rw[hg]at h⊢;simp only[Option.bind_some]at h⊢;have aF:0<w.heap.size:=by
  rcases Nat.lt_or_ge 0 w.heap.size with h'|h'
  ·exact h'
  ·rw[Array.getElem?_eq_none h']at h;cases h
 rw[hb.block _ aF];exact h
theorem ZK(h:∃k os,w'=Go.Sort.grow (w.drewN k) os):Below w.heap.size w w':=by
 obtain⟨k,os,rfl⟩:=h;refine⟨rfl,rfl,rfl,Jj,fun b hb=>?_⟩;show(w.heap++os)[b]? =_;rw[Array.getElem?_append,if_pos hb]
theorem DQ(n:Int)(hn:Cc n)(w:World)(ht:Tab w):Calls Tryz.prog 8 #[.int .i64 n] w fun e w'=>e=.returned (.string (AQ n))∧Below w.heap.size w w':=by
 obtain⟨h1,h2⟩:=hn.o;go_enter Tryz.func8,Tryz.ntmps8;go_wp2_with (first|(go_at_call 24;refine(Tryz.strconv_Itoa n h1 h2 _ ht).mono ?_;rintro e w' ⟨rfl,hg⟩));have hb:=ZK hg;clear hg
 go_ret
 exact⟨rfl,hb⟩
def J8(sep:ByteArray)(l:U):ByteArray:=CE sep (l.map AQ)
def AK(l:U):ByteArray:=if l=[]then⟨#[45]⟩else J8 ⟨#[44]⟩ l
def EM(l:U):Prop:=∀x∈l,Cc x
theorem Ju(h:Au w v l):EM l:=by
 intro x hx;obtain⟨k,hk⟩:=List.getElem?_of_mem hx;obtain⟨b,o,c,rfl,-,-⟩:=h.qac (by have:=(A5.1 hk).1;omega);obtain⟨u,-,-,hI⟩:=Sl.at h hk;exact hI
theorem MJ(hs:sep.size≤1)(h:EM l):DC sep (l.map AQ)≤l.length*21:=by
 have h1:=Rf sep (xs:=l.map AQ) (m:=20) (fun x hx=>by
  obtain⟨n,hn,rfl⟩:=AE.1 hx;exact CW (h n hn).o)
 rw[Ay]at h1;have h2:l.length*(20+sep.size)≤l.length*21:=Nat.mul_le_mul_left _ J;omega
theorem Nk(hs:sep.size≤1)(h:EM l):(J8 sep l).size≤l.length*21:=Aj (Es _ _) (MJ hs h)
theorem Cq(h:EM l):(AK l).size≤l.length*21+1:=by
 unfold AK
 split
 ·show 1≤_;omega
 ·have:=Nk (sep:=⟨#[44]⟩) Jq h;omega
theorem ST{α:Type}(f:α→ByteArray){l:List α}{x:α}(h:l[k]? =some x):(l.take (k+1)).map f=(l.take k).map f++[f x]:=by
 rw[Ao,h];simp
theorem Vm{E:TypeId}{S:Bk}{xs:List ByteArray}(h:Ag E Km S w v xs):CX w v xs:=(Cd CK).rd (h.sl (fun _ _ _ _ h=>h) CK)
theorem A0r(v:Value)(l:U)(w:World)(hv:Au w v l)(hl:l.length≤2097152)(ht:Tab w):Calls Tryz.prog 102 #[v] w (N7 9 Km w (l.map AQ)):=by
 have Hv:=Z hv;have HI:=Z (Ju hv);have Ht:=Z ht;clear ht;obtain⟨a,cap0,rfl,-⟩:=hv;go_enter Tryz.func102,Tryz.ntmps102;go_wp2;go_loopw [3,5,8] (fun v _ i wr=>∃k:Nat,k≤l.length∧i=.int .i64 k∧Ag 9 Km (Iv w.heap.size wr.heap.size) wr v ((l.take k).map AQ)∧Below w.heap.size w wr) (fun _ _ i _=>l.length-(intOf i).toNat);exact⟨0,A7 _,rfl,Ag.nil _ _ _ _,A6 _ _⟩;obtain⟨k,hk,rfl,aB,aA⟩:=hrel;obtain⟨wo,rfl⟩:∃wo:World,wo=wr:=⟨_,rfl⟩;have bD:=aA.size;by_cases aF:k<l.length
 ·obtain⟨x,hx⟩:∃x,l[k]? =some x:=⟨_,A3 aF⟩;obtain⟨b,off,cpr,he,hb,-⟩:=Hv.o.qac J;obtain⟨rfl,-⟩:a=some ⟨b,off,none⟩∧cap0=cpr:=by simpa using he
  obtain⟨u,aW,hu⟩:=Sl.at Hv.o hx;obtain⟨rfl,hI⟩:=hu;rw[←aA.cell (p:=⟨b,off+k,none⟩) hb]at aW;have aG:=Z (ST AQ hx);have au:((l.take k).map AQ).length<1099511627776:=by simp;omega
  have Hto:=Z (Ht.o.keep aA);obtain⟨p1,p2,p3,rfl⟩:=aB.shape;have aC:=Z aB;clear hx aB he;go_wp2_with fail;refine(DQ x hI _ Hto.o).mono ?_;rintro e w1 ⟨rfl,dK⟩;have cQ:wo.heap.size≤w1.heap.size:=dK.size;have aM:(AQ x).size≤9223372036854775807:=by have:=CW hI.o;omega
  go_wp2_with (first|(at_builtin;(refine AH rfl _ _ 27 rfl CK 9 Tryz.underlying27 Gi rfl Jq w.heap.size wo.heap.size bD cQ rfl rfl (by exact Ag.keep CK aC.o dK (A2 _)) (by exact⟨rfl,aM⟩) au ?_);intro v2 w2 hown2 hbel2 _)|fail);have af:=(aA.trans (dK.mono bD)).trans hbel2;have aX:=Z hown2;clear hown2;go_wp2;go_roundw;exact⟨k+1,J,by go_num,by rw[aG.o];exact aX.o,af⟩;exact Jv
 ·have aE:=aB;rw[A9 J]at aE;obtain⟨p1,p2,p3,rfl⟩:=aB.shape;have aU:=Z aE;clear aB aE;go_wp2
  go_ret
  exact⟨_,rfl,aU.o,aA⟩
theorem UQ(v:Value)(l:U)(sep:ByteArray)(w:World)(hv:Au w v l)(hl:l.length≤2097152)(zw:sep.size≤1):Calls Tryz.prog 195 #[v,.string sep] w (fun e w'=>e=.returned (.string (J8 sep l))∧Below w.heap.size w w'):=by
 have Hv:=Z hv;have HI:=Z (Ju hv);have iS:=Z (show DC sep (l.map AQ)≤1099511627776 from by have:=MJ zw HI.o;omega);obtain⟨a,cap0,rfl,-⟩:=hv;go_enter Tryz.func195,Tryz.ntmps195;go_wp2;go_loopw [5,7,11] (fun v _ i wr=>∃k:Nat,k≤l.length∧i=.int .i64 k∧Ag 9 Km (Iv w.heap.size wr.heap.size) wr v ((l.take k).map AQ)∧Below w.heap.size w wr) (fun _ _ i _=>l.length-(intOf i).toNat);exact⟨0,A7 _,rfl,BK _ _ _ CK,Below.qab _ _⟩;obtain⟨k,hk,rfl,aB,aA⟩:=hrel;obtain⟨wo,rfl⟩:∃wo:World,wo=wr:=⟨_,rfl⟩;have bD:=aA.size;by_cases aF:k<l.length
 ·obtain⟨x,hx⟩:∃x,l[k]? =some x:=⟨_,A3 aF⟩;obtain⟨b,off,cpr,he,hb,-⟩:=Hv.o.qac J;obtain⟨rfl,-⟩:a=some ⟨b,off,none⟩∧cap0=cpr:=by simpa using he
  obtain⟨u,aW,hu⟩:=Sl.at Hv.o hx;obtain⟨rfl,hI⟩:=hu;rw[←aA.cell (p:=⟨b,off+k,none⟩) hb]at aW;have aG:=Z (ST AQ hx);have au:((l.take k).map AQ).length<1099511627776:=by simp;omega
  obtain⟨p1,p2,p3,rfl⟩:=aB.shape;have aC:=Z aB;clear hx aB he;go_wp2_with fail;refine(Dx x hI _).mono ?_;rintro e w1 ⟨rfl,dK⟩;have cQ:wo.heap.size≤w1.heap.size:=dK.size;have aM:(AQ x).size≤9223372036854775807:=by have:=CW hI.o;omega
  go_wp2_with (first|(at_builtin;(refine AH rfl _ _ 27 rfl CK 9 Tryz.underlying27 Gi rfl Jq w.heap.size wo.heap.size bD cQ rfl rfl (by exact Ag.keep CK aC.o dK (A2 _)) (by exact⟨rfl,aM⟩) au ?_);intro v2 w2 hown2 hbel2 _)|fail);have af:=(aA.trans (dK.mono bD)).trans hbel2;have aX:=Z hown2;clear hown2;go_wp2;go_roundw;exact⟨k+1,J,by go_num,by rw[aG.o];exact aX.o,af⟩;exact Jv
 ·have aE:=aB;rw[A9 J]at aE;obtain⟨p1,p2,p3,rfl⟩:=aB.shape;have aU:=Z aE;clear aB aE;have aG:=Z (Vm aU.o);go_wp2_with fail;refine(SR _ _ _ _ aG.o iS.o).mono ?_;rintro e w2 ⟨rfl,rfl⟩;go_wp2
  go_ret
  exact⟨rfl,aA⟩
theorem Ct(v:Value)(l:U)(w:World)(hv:Au w v l)(hl:l.length≤2097152)(ht:Tab w):Calls Tryz.prog 43 #[v] w fun e w'=>e=.returned (.string (AK l))∧Below w.heap.size w w':=by
 have HI:=Z (Ju hv);have Hv:=Z hv;obtain⟨a,cap0,rfl,-⟩:=hv;by_cases h0:l=[]
 ·subst h0;have Hr:=Z (show AK []=⟨#[45]⟩from rfl);go_enter Tryz.func43,Tryz.ntmps43;go_wp2
  go_ret
  exact⟨I4 Hr.o.symm,A6 _ _⟩
 ·have Hr:=Z (show AK l=J8 ⟨#[44]⟩ l from by unfold AK;rw[if_neg h0]);have aZ:0<l.length:=List.length_pos_iff.2 h0;have aK:((l.length:Int)==0)=false:=by rw[Ai];omega
  have iS:=Z (show DC ⟨#[44]⟩ (l.map AQ)≤1099511627776 from by have:=MJ (sep:=⟨#[44]⟩) Jq HI.o;omega);clear h0;go_enter Tryz.func43,Tryz.ntmps43;go_wp2_with fail;refine(A0r _ _ _ Hv.o hl ht).mono ?_;rintro e w1 ⟨v1,rfl,o1,b1⟩;have aG:=Z (Vm o1);go_wp2_with fail;refine(Sp _ _ _ _ aG.o iS.o (by simp;omega)).mono ?_;rintro e w2 ⟨rfl,b2⟩;have bb:=b1.qaa b2 (A2 _);go_wp2
  go_ret
  exact⟨I4 Hr.o.symm,bb⟩
theorem Ce(v:Value)(l:U)(w:World)(hv:Au w v l)(hl:l.length≤2097152):Calls Tryz.prog 134 #[v] w fun e w'=>e=.returned (.string (AK l))∧Below w.heap.size w w':=by
 have Hv:=Z hv;obtain⟨a,cap0,rfl,-⟩:=hv;by_cases h0:l=[]
 ·subst h0;have Hr:=Z (show AK []=⟨#[45]⟩from rfl);go_enter Tryz.func134,Tryz.ntmps134;go_wp2
  go_ret
  exact⟨I4 Hr.o.symm,A6 _ _⟩
 ·have Hr:=Z (show AK l=J8 ⟨#[44]⟩ l from by unfold AK;rw[if_neg h0]);have aZ:0<l.length:=List.length_pos_iff.2 h0;have aK:((l.length:Int)==0)=false:=by rw[Ai];omega
  clear h0;go_enter Tryz.func134,Tryz.ntmps134;go_wp2_with fail;refine(UQ _ _ _ _ Hv.o hl Jq).mono ?_;rintro e w1 ⟨rfl,b1⟩;go_wp2
  go_ret
  exact⟨I4 Hr.o.symm,b1⟩
