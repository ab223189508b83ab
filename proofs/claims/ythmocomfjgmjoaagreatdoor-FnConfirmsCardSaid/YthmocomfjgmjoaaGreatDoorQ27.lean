/- Base. -/
import Derived.Test.YthmocomfjgmjoaaGreatDoorQ16
import Derived.Test.YthmocomfjgmjoaaGreatDoorQ19
import Derived.Test.YthmocomfjgmjoaaGreatDoorQ21
import Derived.Test.YthmocomfjgmjoaaGreatDoorQ14
import Derived.Test.YthmocomfjgmjoaaGreatDoorQ22
import Derived.Test.YthmocomfjgmjoaaGreatDoorQ23
namespace Go.Proofs.YthmocomfjgmjoaaGreatDoor
open Go.RowKit
structure B9 where
 img:List (List Int)
 rows:List Int
 cols:List Int
def BZ:ByteArray:=⟨#[110,111,110,101]⟩
def AA:ByteArray:=⟨#[117,110,107,110,111,119,110,32,99,111,109,109,97,110,100]⟩
def okB:ByteArray:=⟨#[111,107]⟩
def Bz(t:ByteArray):ByteArray:=if t=ByteArray.empty then BZ else t
def Ff(c:B9):Option (List (List Int))→B9×ByteArray
 |none=>(c,BZ)
 |some m=>(⟨m,c.rows,c.cols⟩,Ag m)
def Lg(m:List (List Int))(y x:Int):Option (List (List Int)):=Jl m y x (1-I7 m y x)
def MW:ByteArray:=⟨#[115,104,111,119]⟩
def Js:ByteArray:=⟨#[98,117,105,108,100]⟩
def JG:ByteArray:=⟨#[108,101,97,115,116]⟩
def TK:ByteArray:=⟨#[97,108,108]⟩
def JB:ByteArray:=⟨#[102,105,120,101,100]⟩
def GO:ByteArray:=⟨#[99,111,110,118,101,120]⟩
def GL:ByteArray:=⟨#[114,101,118,101,97,108]⟩
def GM:ByteArray:=⟨#[114,101,112,97,105,114]⟩
def GP:ByteArray:=⟨#[112,117,122,122,108,101]⟩
def Ca:ByteArray:=⟨#[105,109,97,103,101]⟩
def E3:ByteArray:=⟨#[115,117,109,115]⟩
def BS:ByteArray:=⟨#[115,119,105,116,99,104]⟩
def DL:ByteArray:=⟨#[102,108,105,112]⟩
def Dg:ByteArray:=⟨#[112,97,116,104]⟩
def Do:ByteArray:=⟨#[110,101,97,114]⟩
def Dn:ByteArray:=⟨#[108,105,110,101]⟩
def Cm(c:B9)(s:ByteArray):B9×ByteArray:=
 if s=MW then(c,Bz (BU c.img))
 else if s=Js then Ff c (Dh c.rows c.cols)
 else if s=JG then Ff c (Dy c.rows c.cols)
 else if s=TK then(c,Bz (BK ⟨#[59]⟩ (BW (AZ c.rows c.cols))))
 else if s=JB then(c,Bz (DE c.rows c.cols))
 else if s=GO then(c,Bz (BK ⟨#[59]⟩ (BW (Jd c.rows c.cols))))
 else if s=GL then(c,Aj ((D7 c.img).getD []))
 else if s=GM then(c,if(BD c.rows c.cols).isSome=true then Aj (F5 c.rows c.cols)++⟨#[32]⟩++Aj (EW c.rows c.cols) else BZ)
 else if s=GP then(c,Bz (Bt (DC c.img) (CT c.img)))
 else(c,AA)
open Classical in
noncomputable def Jw (m t:List (List Int)):ByteArray:=if h:∃T,OC m t T then Classical.choose h else ByteArray.empty
theorem PD{m t:List (List Int)}{T:ByteArray}(h:OC m t T):Jw m t=T:=by
 have hx:∃T,OC m t T:=⟨T,h⟩;unfold Jw;rw[dif_pos hx];exact(Classical.choose_spec hx).eq h
noncomputable def CL (c:B9) (w:ByteArray) (m:List (List Int)):B9×ByteArray:=
 if w=Ca then(⟨m,A6 m,A8 m⟩,okB)
 else if w=Dg then(c,Jw c.img m)
 else match EM c.rows c.cols m with
  |none=>(c,BZ)
  |some x=>(c,Ag x++⟨#[32]⟩++An (BG c.rows.length c.cols.length x m))
noncomputable def Ln (c:B9) (a b:ByteArray):B9×ByteArray:=
 if BJ a=true∧BJ b=true then(⟨c.img,AB a,AB b⟩,BB (AB a) (AB b)) else(c,AA)
def Fc(c:B9)(w:ByteArray)(n:List Int):B9×ByteArray:=
 if w=BS∧n.length=4 then Ff c (IT c.img (n.getD 0 0) (n.getD 1 0) (n.getD 2 0) (n.getD 3 0))
 else if w=DL∧n.length=2 then Ff c (Lg c.img (n.getD 0 0) (n.getD 1 0))
 else if w=Dn∧n.length=2 then(c,if BA c.img (n.getD 0 0) (n.getD 1 0)=[] then BZ else Aj (BA c.img (n.getD 0 0) (n.getD 1 0)))
 else(c,AA)
def AH(s:ByteArray):Bool:=s.data.toList.head?.all (fun b=>b==35)
def Fu(w:ByteArray):Bool:=decide (w=Ca)||(decide (w=Dg)||decide (w=Do))
noncomputable def H7 (c:B9) (w:ByteArray) (a:List ByteArray):B9×ByteArray:=
 if a.length=1∧Fu w=true then(if B4 (a.getD 0 ⟨#[]⟩)=true then CL c w (Ax (a.getD 0 ⟨#[]⟩)) else(c,AA))
 else if a.length=2∧w=E3 then Ln c (a.getD 0 ⟨#[]⟩) (a.getD 1 ⟨#[]⟩)
 else if a.all Ai=true then Fc c w (a.map Aq) else(c,AA)
noncomputable def CJ (c:B9) (s:ByteArray):B9×ByteArray:=
 if AH s=true then(c,⟨#[]⟩)
 else if(Ae s 32).length=1 then Cm c s
 else H7 c ((Ae s 32).getD 0 ⟨#[]⟩) ((Ae s 32).drop 1)
theorem AM.at0{w:World}{g n c:Nat}{l:List ByteArray}(h:AM w (.slice (some ⟨g,0,none⟩) n c) l){k:Nat}{x:ByteArray}(hk:l[k]? =some x):w.cell? ⟨g,k,none⟩=some (.string x):=by
 obtain⟨u,hu,rfl,-⟩:=Sl.at h hk;rw[Nat.zero_add] at hu;exact hu
theorem PL:Ae MW 32=[MW]:=by decide+kernel
theorem Oa:Ae Js 32=[Js]:=by decide+kernel
theorem Ou:Ae JG 32=[JG]:=by decide+kernel
theorem Ru:Ae TK 32=[TK]:=by decide+kernel
theorem NL:Ae JB 32=[JB]:=by decide+kernel
theorem MR:Ae GO 32=[GO]:=by decide+kernel
theorem N4:Ae GL 32=[GL]:=by decide+kernel
theorem MM:Ae GM 32=[GM]:=by decide+kernel
theorem MQ:Ae GP 32=[GP]:=by decide+kernel
theorem IL{L:List (List (List Int))}(h:L.length≤1073741824):Dt ⟨#[59]⟩ (BW L)≤1099511627776:=by
 have h1:=OD ⟨#[59]⟩ (xs:=BW L) (m:=1000) (fun x hx=>by
  obtain⟨m,-,rfl⟩:=List.mem_map.1 hx;exact E9 m)
 rw[KZ] at h1;have e1:(⟨#[59]⟩:ByteArray).size=1:=rfl;rw[e1] at h1;omega
theorem Pz(xs ys:List Int):(Jd xs ys).length≤1073741824:=Nat.le_trans (List.length_filter_le _ _) (DQ xs ys)
def Fr(xs ys:List Int):ByteArray:=if(BD xs ys).isSome=true then Aj (F5 xs ys)++⟨#[32]⟩++Aj (EW xs ys) else BZ
structure A6e(A B:ByteArray):Prop where
 a:A.size≤1000
 b:B.size≤1000
 c:(A++⟨#[32]⟩:ByteArray).size≤2000
theorem A5c{A B:List Int}(h1:Ea A)(h2:Ea B)(l1:A.length≤5)(l2:B.length≤5):A6e (Aj A) (Aj B):=by
 have a:=Cg h1;have b:=Cg h2;have e2:(⟨#[32]⟩:ByteArray).size=1:=rfl;refine⟨by omega,by omega,?_⟩;simp only[Au,e2];omega
theorem Ur{g:List (List Int)}{r:List Int}(h:r∈g):r.length≤cells g:=by
 induction g with
 |nil=>simp at h
 |cons x g ih=>
  have e:cells (x::g)=x.length+cells g:=by simp[cells]
  rcases List.mem_cons.1 h with rfl|h
  ·omega
  ·have:=ih h;omega
theorem A1h(m:List (List Int)):(∀r∈DC m,r.length≤1048576)∧(∀r∈CT m,r.length≤1048576):=by
 obtain⟨-,h1,-,h2⟩:=A5Z m;exact⟨fun r hr=>by have:=Ur hr;omega,fun r hr=>by have:=Ur hr;omega⟩
