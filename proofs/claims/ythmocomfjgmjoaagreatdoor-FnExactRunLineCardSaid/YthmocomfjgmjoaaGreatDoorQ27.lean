/- Base. -/
import Derived.Test.YthmocomfjgmjoaaGreatDoorQ16
import Derived.Test.YthmocomfjgmjoaaGreatDoorQ18
import Derived.Test.YthmocomfjgmjoaaGreatDoorQ21
import Derived.Test.YthmocomfjgmjoaaGreatDoorQ14
import Derived.Test.YthmocomfjgmjoaaGreatDoorQ22
import Derived.Test.YthmocomfjgmjoaaGreatDoorQ23
namespace Go.Proofs.YthmocomfjgmjoaaGreatDoor
open Go.RowKit
structure BU where
 img:I
 rows:U
 cols:U
def C7:ByteArray:=⟨#[110,111,110,101]⟩
def Bq:ByteArray:=⟨#[117,110,107,110,111,119,110,32,99,111,109,109,97,110,100]⟩
def okB:ByteArray:=⟨#[111,107]⟩
def BY(t:ByteArray):ByteArray:=if t=ByteArray.empty then C7 else t
def Fp(c:BU):Option I→BU×ByteArray
 |none=>(c,C7)
 |some m=>(⟨m,c.rows,c.cols⟩,AD m)
def LE(m:I)(y x:Int):Option I:=Pa m y x (1-Kn m y x)
def Qp:ByteArray:=⟨#[115,104,111,119]⟩
def M9:ByteArray:=⟨#[98,117,105,108,100]⟩
def Mg:ByteArray:=⟨#[108,101,97,115,116]⟩
def Y5:ByteArray:=⟨#[97,108,108]⟩
def LS:ByteArray:=⟨#[102,105,120,101,100]⟩
def JB:ByteArray:=⟨#[99,111,110,118,101,120]⟩
def JI:ByteArray:=⟨#[114,101,118,101,97,108]⟩
def JF:ByteArray:=⟨#[114,101,112,97,105,114]⟩
def JE:ByteArray:=⟨#[112,117,122,122,108,101]⟩
def Db:ByteArray:=⟨#[105,109,97,103,101]⟩
def Fy:ByteArray:=⟨#[115,117,109,115]⟩
def Cs:ByteArray:=⟨#[115,119,105,116,99,104]⟩
def EG:ByteArray:=⟨#[102,108,105,112]⟩
def Ej:ByteArray:=⟨#[112,97,116,104]⟩
def EH:ByteArray:=⟨#[110,101,97,114]⟩
def Ec:ByteArray:=⟨#[108,105,110,101]⟩
def DI(c:BU)(s:ByteArray):BU×ByteArray:=
 if s=Qp then(c,BY (Cj c.img))
 else if s=M9 then Fp c (DU c.rows c.cols)
 else if s=Mg then Fp c (DW c.rows c.cols)
 else if s=Y5 then(c,BY (CE ⟨#[59]⟩ (Ci (Bt c.rows c.cols))))
 else if s=LS then(c,BY (Eh c.rows c.cols))
 else if s=JB then(c,BY (CE ⟨#[59]⟩ (Ci (M2 c.rows c.cols))))
 else if s=JI then(c,AK ((Dt c.img).getD []))
 else if s=JF then(c,if(BW c.rows c.cols).isSome=true then AK (GZ c.rows c.cols)++⟨#[32]⟩++AK (GY c.rows c.cols)else C7)
 else if s=JE then(c,BY (Cf (Fo c.img) (DV c.img)))
 else(c,Bq)
open Classical in
noncomputable def Lg (m t:I):ByteArray:=if h:∃T,Qw m t T then Classical.choose h else ByteArray.empty
theorem UL{m t:I}{T:ByteArray}(h:Qw m t T):Lg m t=T:=by
 have hx:∃T,Qw m t T:=⟨T,h⟩;unfold Lg;rw[dif_pos hx];exact(Classical.choose_spec hx).eq h
noncomputable def DS (c:BU) (w:ByteArray) (m:I):BU×ByteArray:=
 if w=Db then(⟨m,Ae m,Al m⟩,okB)
 else if w=Ej then(c,Lg c.img m)
 else match Fk c.rows c.cols m with
  |none=>(c,C7)
  |some x=>(c,AD x++⟨#[32]⟩++AQ (BR c.rows.length c.cols.length x m))
noncomputable def No (c:BU) (a b:ByteArray):BU×ByteArray:=
 if C6 a=true∧C6 b=true then(⟨c.img,AY a,AY b⟩,Cy (AY a) (AY b))else(c,Bq)
def Iq(c:BU)(w:ByteArray)(n:U):BU×ByteArray:=
 if w=Cs∧n.length=4 then Fp c (JS c.img (n.getD 0 0) (n.getD 1 0) (n.getD 2 0) (n.getD 3 0))
 else if w=EG∧n.length=2 then Fp c (LE c.img (n.getD 0 0) (n.getD 1 0))
 else if w=Ec∧n.length=2 then(c,if BQ c.img (n.getD 0 0) (n.getD 1 0)=[]then C7 else AK (BQ c.img (n.getD 0 0) (n.getD 1 0)))
 else(c,Bq)
def CA(s:ByteArray):Bool:=s.data.toList.head?.all (fun b=>b==35)
def Gh(w:ByteArray):Bool:=decide (w=Db)||(decide (w=Ej)||decide (w=EH))
noncomputable def I5 (c:BU) (w:ByteArray) (a:List ByteArray):BU×ByteArray:=
 if a.length=1∧Gh w=true then(if BT (a.getD 0 ⟨#[]⟩)=true then DS c w (AZ (a.getD 0 ⟨#[]⟩))else(c,Bq))
 else if a.length=2∧w=Fy then No c (a.getD 0 ⟨#[]⟩) (a.getD 1 ⟨#[]⟩)
 else if a.all AX=true then Iq c w (a.map Be)else(c,Bq)
noncomputable def Kj (c:BU) (s:ByteArray):BU×ByteArray:=
 if CA s=true then(c,⟨#[]⟩)
 else if(AM s 32).length=1 then DI c s
 else I5 c ((AM s 32).getD 0 ⟨#[]⟩) ((AM s 32).drop 1)
theorem CX.at0{w:World}{g n c:Nat}{l:List ByteArray}(h:CX w (.slice (some ⟨g,0,none⟩) n c) l){k:Nat}{x:ByteArray}(hk:l[k]? =some x):w.cell? ⟨g,k,none⟩=some (.string x):=by
 obtain⟨u,hu,rfl,-⟩:=Sl.at h hk;rw[Nat.zero_add]at hu;exact hu
theorem WF:AM Qp 32=[Qp]:=by decide+kernel
theorem Wb:AM M9 32=[M9]:=by decide+kernel
theorem VS:AM Mg 32=[Mg]:=by decide+kernel
theorem Zu:AM Y5 32=[Y5]:=by decide+kernel
theorem Wc:AM LS 32=[LS]:=by decide+kernel
theorem TR:AM JB 32=[JB]:=by decide+kernel
theorem Tu:AM JI 32=[JI]:=by decide+kernel
theorem To:AM JF 32=[JF]:=by decide+kernel
theorem TA:AM JE 32=[JE]:=by decide+kernel
theorem IZ{L:List I}(h:L.length≤1073741824):DC ⟨#[59]⟩ (Ci L)≤1099511627776:=by
 have h1:=Rf ⟨#[59]⟩ (xs:=Ci L) (m:=1000) (fun x hx=>by
  obtain⟨m,-,rfl⟩:=AE.1 hx;exact F3 m)
 rw[L7]at h1;have e1:(⟨#[59]⟩:ByteArray).size=1:=rfl;rw[e1]at h1;omega
theorem PB(xs ys:U):(M2 xs ys).length≤1073741824:=Aj (List.length_filter_le _ _) (Eo xs ys)
def FC(xs ys:U):ByteArray:=if(BW xs ys).isSome=true then AK (GZ xs ys)++⟨#[32]⟩++AK (GY xs ys)else C7
structure A4D(A B:ByteArray):Prop where
 a:A.size≤1000
 b:B.size≤1000
 c:(A++⟨#[32]⟩:ByteArray).size≤2000
theorem A3T{A B:U}(h1:EM A)(h2:EM B)(l1:A.length≤5)(l2:B.length≤5):A4D (AK A) (AK B):=by
 have a:=Cq h1;have b:=Cq h2;have e2:(⟨#[32]⟩:ByteArray).size=1:=rfl;refine⟨J,J,?_⟩;simp only[AR,e2];omega
theorem U8{g:I}{r:U}(h:r∈g):r.length≤cells g:=by
 induction g with
 |nil=>simp at h
 |cons x g ih=>
  have e:cells (x::g)=x.length+cells g:=by simp[cells]
  rcases List.mem_cons.1 h with rfl|h
  ·omega
  ·have:=ih h;omega
theorem A0v(m:I):(∀r∈Fo m,r.length≤1048576)∧(∀r∈DV m,r.length≤1048576):=by
 obtain⟨-,h1,-,h2⟩:=A4I m;exact⟨fun r hr=>by have:=U8 hr;omega,fun r hr=>by have:=U8 hr;omega⟩
