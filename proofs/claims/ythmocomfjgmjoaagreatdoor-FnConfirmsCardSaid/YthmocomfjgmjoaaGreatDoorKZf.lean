/- The session that the law FnConfirms runs, line by line. Plain. -/
import Derived.Test.YthmocomfjgmjoaaGreatDoorQ28
namespace Go.Proofs.YthmocomfjgmjoaaGreatDoor
open Go.RowKit
def A4N:B9→List ByteArray→List ByteArray→Prop
 |_,[],[]=>True
 |k,s::ls,t::ts=>∃k',CJ k s=(k',t)∧t≠ByteArray.empty∧A4N k' ls ts
 |_,_,_=>False
def Ke(ts:List ByteArray)(a:ByteArray):ByteArray:=ts.foldl (fun a t=>a++t++⟨#[10]⟩) a
theorem PB:∀(ls ts:List ByteArray)(k:B9)(a:ByteArray),A4N k ls ts→(ls.foldl DB (k,a)).2=Ke ts a
 |[],[],_,_,_=>rfl
 |s::ls,t::ts,k,a,h=>by
  obtain⟨k',h1,h2,h3⟩:=h;have e:DB (k,a) s=(k',a++t++⟨#[10]⟩):=by unfold DB;dsimp only;rw[h1];dsimp only;rw[if_neg h2]
  rw[List.foldl_cons,e,PB ls ts k' _ h3];rfl
 |[],_::_,_,_,h=>by cases h
 |_::_,[],_,_,h=>by cases h
theorem QQ{k:B9}{s t:ByteArray}{m:List (List Int)}{xs ys:List Int}(h1:AH s=false)(h2:Ae s 32=[Ca,t])(h3:B4 t=true)(h4:Ax t=m)(h5:A6 m=xs)(h6:A8 m=ys):CJ k s=(⟨m,xs,ys⟩,okB):=by
 rw[FSa h1 h2 (by simp),Ew (by decide+kernel),if_pos h3,h4];unfold CL;rw[if_pos rfl,h5,h6]
theorem A4D{k:B9}{s t T:ByteArray}{m:List (List Int)}(h1:AH s=false)(h2:Ae s 32=[Dg,t])(h3:B4 t=true)(h4:Ax t=m)(h5:Jw k.img m=T):CJ k s=(k,T):=by
 rw[FSa h1 h2 (by simp),Ew (by decide+kernel),if_pos h3,h4];unfold CL;rw[if_neg Lf,if_pos rfl,h5]
theorem A1p{k:B9}{s t T:ByteArray}{m x:List (List Int)}(h1:AH s=false)(h2:Ae s 32=[Do,t])(h3:B4 t=true)(h4:Ax t=m)(h5:EM k.rows k.cols m=some x)(h6:Ag x++⟨#[32]⟩++An (BG k.rows.length k.cols.length x m)=T):CJ k s=(k,T):=by
 rw[FSa h1 h2 (by simp),Ew (by decide+kernel),if_pos h3,h4];unfold CL;rw[if_neg L7,if_neg LA,h5];dsimp only;rw[h6]
theorem L1{k:B9}{s a b T:ByteArray}{xs ys:List Int}(h1:AH s=false)(h2:Ae s 32=[E3,a,b])(h3:Aj xs=a)(h4:Aj ys=b)(h5:xs≠[])(h6:ys≠[])(h7:xs.all fun x=>decide (0≤x∧x≤9))(h8:ys.all fun x=>decide (0≤x∧x≤9))(h9:BB xs ys=T):CJ k s=(⟨k.img,xs,ys⟩,T):=by
 have k1:Ea xs:=fun x hx=>by have:=List.all_eq_true.1 h7 x hx;rw[decide_eq_true_eq] at this;exact BV.small (by omega) (by omega)
 have k2:Ea ys:=fun x hx=>by have:=List.all_eq_true.1 h8 x hx;rw[decide_eq_true_eq] at this;exact BV.small (by omega) (by omega)
 obtain⟨a1,a2⟩:=PT h5 k1;obtain⟨b1,b2⟩:=PT h6 k2;rw[h3] at a1 a2;rw[h4] at b1 b2;rw[FSa h1 h2 (by simp),NG];unfold Ln;rw[if_pos ⟨a1,b1⟩,a2,b2,h9]
theorem A4e{k:B9}{s w:ByteArray}{al:List ByteArray}{n:List Int}(h1:AH s=false)(h2:Ae s 32=w::al)(h3:al≠[])(h4:al.length≠1∨Fu w=false)(h5:al.length≠2∨w≠E3)(h6:n.map An=al)(h7:n.all fun x=>decide (0≤x∧x≤9)):CJ k s=Fc k w n:=by
 have key:∀(n:List Int),(n.all fun x=>decide (0≤x∧x≤9))=true→(n.map An).all Ai=true∧(n.map An).map Aq=n:=by
  intro n;induction n with
  |nil=>intro _;exact⟨rfl,rfl⟩
  |cons x n ih=>
   intro h;rw[List.all_cons,Bool.and_eq_true,decide_eq_true_eq] at h;obtain⟨i1,i2⟩:=ih h.2;obtain⟨p1,p2⟩:=P6 (n:=x) (BV.small (by omega) (by omega));exact⟨by rw[List.map_cons,List.all_cons,p1,i1];rfl,by rw[List.map_cons,List.map_cons,p2,i2]⟩
 obtain⟨a,b⟩:=key n h7;rw[h6] at a b;rw[FSa h1 h2 h3,FJ h4 h5,if_pos a,b]
theorem Gc{k:B9}{s:ByteArray}(h1:AH s=false)(h2:Ae s 32=[s]):CJ k s=Cm k s:=SI h1 h2
abbrev WU:B9:=⟨[[1,0],[0,1]],[1,1],[1,1]⟩
abbrev cnB:B9:=⟨[[0,1],[1,0]],[1,1],[1,1]⟩
abbrev cnC:B9:=⟨[[0,1],[1,0]],[2,1],[2,1]⟩
abbrev cnD:B9:=⟨[[1,1],[1,0]],[2,1],[2,1]⟩
abbrev cnE:B9:=⟨[[1,1],[1,0]],[3,0],[1,1,1]⟩
abbrev cnF:B9:=⟨[[1,1],[1,0]],[2,2],[3,1]⟩
abbrev A4j:B9:=⟨[[1,1],[1,0]],[1,1],[2,0]⟩
abbrev A3e:B9:=⟨[[1,1],[1,0]],[2,2],[2,2]⟩
abbrev A5H:B9:=⟨[[1,0],[1,0]],[1,1],[2,0]⟩
abbrev A5B:B9:=⟨[[1,1],[1,1]],[2,2],[2,2]⟩
abbrev A2N:B9:=⟨[[1,0],[1,0]],[1,1],[1,1]⟩
abbrev A1w:B9:=⟨[[1,1],[1,1]],[1,1],[1,1]⟩
abbrev Zl:B9:=⟨[[0,1,0],[1,1,1],[0,1,0]],[1,3,1],[1,3,1]⟩
theorem A6o:IV [2,1] 2=[0,1]:=Te.eq (K8 _ _) ⟨List.Perm.refl [0,1],by simp[kl]⟩
theorem A6l:IV [1,0] 2=[0,1]:=Te.eq (K8 _ _) ⟨List.Perm.refl [0,1],by simp[kl]⟩
theorem A4L:Dh [2,1] [2,1]=some [[1,1],[1,0]]:=by
 have e1:CO [2,1] (2:Int).toNat=[1,1]:=by
  unfold CO;rw[show([2,1]:List Int).length=2 from rfl,A6o];decide
 have e2:CO [1,0] (1:Int).toNat=[1,0]:=by
  unfold CO;rw[show([1,0]:List Int).length=2 from rfl,A6l];decide
 unfold Dh;rw[if_pos (by decide+kernel)];simp only[MA];rw[e1,show CS [2,1] [1,1]=[1,0] by decide,e2]
theorem c1:CJ Ka ⟨#[105,109,97,103,101,32,35,46,47,46,35]⟩=(WU,⟨#[111,107]⟩):=QQ (t:=⟨#[35,46,47,46,35]⟩) (by rfl) (by decide+kernel) (by decide+kernel) (by decide+kernel) (by decide+kernel) (by decide+kernel)
theorem c2:CJ WU ⟨#[115,104,111,119]⟩=(WU,⟨#[35,46,47,46,35,32,114,111,119,115,32,49,44,49,32,99,111,108,115,32,49,44,49,32,102,114,101,101,32,52]⟩):=by
 rw[Gc (by rfl) (by decide+kernel)];unfold Cm;rw[if_pos (by rfl)];exact Prod.ext rfl (show Bz (BU [[1,0],[0,1]])=⟨#[35,46,47,46,35,32,114,111,119,115,32,49,44,49,32,99,111,108,115,32,49,44,49,32,102,114,101,101,32,52]⟩ by decide+kernel)
theorem c3:CJ WU ⟨#[97,108,108]⟩=(WU,⟨#[46,35,47,35,46,59,35,46,47,46,35]⟩):=by
 rw[Gc (by rfl) (by decide+kernel)];unfold Cm;rw[if_neg (by decide+kernel),if_neg (by decide+kernel),if_neg (by decide+kernel),if_pos (by rfl)];exact Prod.ext rfl (show Bz (BK ⟨#[59]⟩ (BW (AZ [1,1] [1,1])))=⟨#[46,35,47,35,46,59,35,46,47,46,35]⟩ by decide+kernel)
theorem A6K:OC [[1,0],[0,1]] [[0,1],[1,0]] ⟨#[49,32,115,119,105,116,99,104,101,115,32,48,58,49,58,48,58,49]⟩:=by
 refine⟨fun _=>⟨[(0,1,0,1)],⟨⟨by decide,(by decide:AQ [[1,0],[0,1]] (0,1,0,1)=[[0,1],[1,0]])⟩,fun q hq=>?_⟩,by decide+kernel⟩,fun h=>absurd h (by decide+kernel)⟩
 match q,hq with
 |[],hq=>exact absurd (show([[1,0],[0,1]]:List (List Int))=[[0,1],[1,0]] from hq) (by decide)
 |[s],hq=>
  obtain⟨h1,-⟩:=hq;left;have hm:=(CZ (r:=2) (c:=2) (g:=[[1,0],[0,1]]) (s:=s)).2 h1;have e:AX 2 2 [[1,0],[0,1]]=[(0,1,0,1)]:=by decide+kernel
  have eE:s∈[((0,1,0,1):Sw)]:=e▸hm;rw[List.mem_singleton.1 eE]
 |_::_::_,_=>right;left;simp
theorem c4:CJ WU ⟨#[112,97,116,104,32,46,35,47,35,46]⟩=(WU,⟨#[49,32,115,119,105,116,99,104,101,115,32,48,58,49,58,48,58,49]⟩):=A4D (t:=⟨#[46,35,47,35,46]⟩) (by rfl) (by decide+kernel) (by decide+kernel) (by decide+kernel) (PD A6K)
theorem c5:CJ WU ⟨#[115,119,105,116,99,104,32,48,32,49,32,48,32,49]⟩=(cnB,⟨#[46,35,47,35,46]⟩):=by
 rw[A4e (w:=BS) (al:=[⟨#[48]⟩,⟨#[49]⟩,⟨#[48]⟩,⟨#[49]⟩]) (n:=[0,1,0,1]) (by rfl) (by decide+kernel) (by simp) (.inl (by decide)) (.inl (by decide)) (by decide+kernel) (by decide+kernel)];unfold Fc;rw[if_pos ⟨rfl,rfl⟩,show IT WU.img ([0,1,0,1].getD 0 0) ([0,1,0,1].getD 1 0) ([0,1,0,1].getD 2 0) ([0,1,0,1].getD 3 0)=some [[0,1],[1,0]] by decide+kernel];exact Prod.ext rfl (show Ag [[0,1],[1,0]]=⟨#[46,35,47,35,46]⟩ by decide+kernel)
theorem c6:CJ cnB ⟨#[114,101,118,101,97,108]⟩=(cnB,⟨#[48]⟩):=by
 rw[Gc (by rfl) (by decide+kernel)];unfold Cm;rw[if_neg (by decide+kernel),if_neg (by decide+kernel),if_neg (by decide+kernel),if_neg (by decide+kernel),if_neg (by decide+kernel),if_neg (by decide+kernel),if_pos (by rfl)];exact Prod.ext rfl (show Aj ((D7 [[0,1],[1,0]]).getD [])=⟨#[48]⟩ by decide+kernel)
theorem c7:CJ cnB ⟨#[108,105,110,101,32,49,32,49]⟩=(cnB,⟨#[49,44,48,44,49]⟩):=by
 rw[A4e (w:=Dn) (al:=[⟨#[49]⟩,⟨#[49]⟩]) (n:=[1,1]) (by rfl) (by decide+kernel) (by simp) (.inl (by decide)) (.inr Ge) (by decide+kernel) (by decide+kernel)];unfold Fc;rw[if_neg (fun e=>E5 e.1),if_neg (fun e=>EK e.1),if_pos ⟨rfl,rfl⟩];exact Prod.ext rfl (show(if BA [[0,1],[1,0]] 1 1=[] then BZ else Aj (BA [[0,1],[1,0]] 1 1))=⟨#[49,44,48,44,49]⟩ by decide+kernel)
theorem c8:CJ cnB ⟨#[115,117,109,115,32,50,44,49,32,50,44,49]⟩=(cnC,⟨#[114,111,119,115,32,50,44,49,32,99,111,108,115,32,50,44,49,32,105,109,97,103,101,115,32,49]⟩):=L1 (a:=⟨#[50,44,49]⟩) (b:=⟨#[50,44,49]⟩) (xs:=[2,1]) (ys:=[2,1]) (by rfl) (by decide+kernel) (by decide+kernel) (by decide+kernel) (by decide+kernel) (by decide+kernel) (by decide+kernel) (by decide+kernel) (by decide+kernel)
theorem c9:CJ cnC ⟨#[98,117,105,108,100]⟩=(cnD,⟨#[35,35,47,35,46]⟩):=by
 rw[Gc (by rfl) (by decide+kernel)];unfold Cm;rw[if_neg (by decide+kernel),if_pos (by rfl)];rw[show Dh cnC.rows cnC.cols=some [[1,1],[1,0]] from A4L];exact Prod.ext rfl (show Ag [[1,1],[1,0]]=⟨#[35,35,47,35,46]⟩ by decide+kernel)
theorem c10:CJ cnD ⟨#[115,104,111,119]⟩=(cnD,⟨#[35,35,47,35,46,32,114,111,119,115,32,50,44,49,32,99,111,108,115,32,50,44,49,32,117,110,105,113,117,101]⟩):=by
 rw[Gc (by rfl) (by decide+kernel)];unfold Cm;rw[if_pos (by rfl)];exact Prod.ext rfl (show Bz (BU [[1,1],[1,0]])=⟨#[35,35,47,35,46,32,114,111,119,115,32,50,44,49,32,99,111,108,115,32,50,44,49,32,117,110,105,113,117,101]⟩ by decide+kernel)
theorem c11:CJ cnD ⟨#[102,105,120,101,100]⟩=(cnD,⟨#[35,35,47,35,46]⟩):=by
 rw[Gc (by rfl) (by decide+kernel)];unfold Cm;rw[if_neg (by decide+kernel),if_neg (by decide+kernel),if_neg (by decide+kernel),if_neg (by decide+kernel),if_pos (by rfl)];exact Prod.ext rfl (show Bz (DE [2,1] [2,1])=⟨#[35,35,47,35,46]⟩ by decide+kernel)
theorem c12:CJ cnD ⟨#[115,117,109,115,32,51,44,48,32,49,44,49,44,49]⟩=(cnE,⟨#[114,111,119,115,32,51,44,48,32,99,111,108,115,32,49,44,49,44,49,32,105,109,97,103,101,115,32,49]⟩):=L1 (a:=⟨#[51,44,48]⟩) (b:=⟨#[49,44,49,44,49]⟩) (xs:=[3,0]) (ys:=[1,1,1]) (by rfl) (by decide+kernel) (by decide+kernel) (by decide+kernel) (by decide+kernel) (by decide+kernel) (by decide+kernel) (by decide+kernel) (by decide+kernel)
theorem c13:CJ cnE ⟨#[115,117,109,115,32,50,44,50,32,51,44,49]⟩=(cnF,⟨#[114,111,119,115,32,50,44,50,32,99,111,108,115,32,51,44,49,32,110,111,110,101]⟩):=L1 (a:=⟨#[50,44,50]⟩) (b:=⟨#[51,44,49]⟩) (xs:=[2,2]) (ys:=[3,1]) (by rfl) (by decide+kernel) (by decide+kernel) (by decide+kernel) (by decide+kernel) (by decide+kernel) (by decide+kernel) (by decide+kernel) (by decide+kernel)
theorem A6C:CJ cnF ⟨#[115,117,109,115,32,49,44,49,32,50,44,48]⟩=(A4j,⟨#[114,111,119,115,32,49,44,49,32,99,111,108,115,32,50,44,48,32,105,109,97,103,101,115,32,49]⟩):=L1 (a:=⟨#[49,44,49]⟩) (b:=⟨#[50,44,48]⟩) (xs:=[1,1]) (ys:=[2,0]) (by rfl) (by decide+kernel) (by decide+kernel) (by decide+kernel) (by decide+kernel) (by decide+kernel) (by decide+kernel) (by decide+kernel) (by decide+kernel)
theorem A6D:CJ cnF ⟨#[115,117,109,115,32,50,44,50,32,50,44,50]⟩=(A3e,⟨#[114,111,119,115,32,50,44,50,32,99,111,108,115,32,50,44,50,32,105,109,97,103,101,115,32,49]⟩):=L1 (a:=⟨#[50,44,50]⟩) (b:=⟨#[50,44,50]⟩) (xs:=[2,2]) (ys:=[2,2]) (by rfl) (by decide+kernel) (by decide+kernel) (by decide+kernel) (by decide+kernel) (by decide+kernel) (by decide+kernel) (by decide+kernel) (by decide+kernel)
theorem A6I:CJ A4j ⟨#[108,101,97,115,116]⟩=(A5H,⟨#[35,46,47,35,46]⟩):=by
 rw[Gc (by rfl) (by decide+kernel)];unfold Cm;rw[if_neg (by decide+kernel),if_neg (by decide+kernel),if_pos (by rfl)];rw[show Dy A4j.rows A4j.cols=some [[1,0],[1,0]] by decide+kernel];exact Prod.ext rfl (show Ag [[1,0],[1,0]]=⟨#[35,46,47,35,46]⟩ by decide+kernel)
theorem A6A:CJ A3e ⟨#[108,101,97,115,116]⟩=(A5B,⟨#[35,35,47,35,35]⟩):=by
 rw[Gc (by rfl) (by decide+kernel)];unfold Cm;rw[if_neg (by decide+kernel),if_neg (by decide+kernel),if_pos (by rfl)];rw[show Dy A3e.rows A3e.cols=some [[1,1],[1,1]] by decide+kernel];exact Prod.ext rfl (show Ag [[1,1],[1,1]]=⟨#[35,35,47,35,35]⟩ by decide+kernel)
theorem A6G:CJ A5H ⟨#[115,117,109,115,32,49,44,49,32,49,44,49]⟩=(A2N,⟨#[114,111,119,115,32,49,44,49,32,99,111,108,115,32,49,44,49,32,105,109,97,103,101,115,32,50]⟩):=L1 (a:=⟨#[49,44,49]⟩) (b:=⟨#[49,44,49]⟩) (xs:=[1,1]) (ys:=[1,1]) (by rfl) (by decide+kernel) (by decide+kernel) (by decide+kernel) (by decide+kernel) (by decide+kernel) (by decide+kernel) (by decide+kernel) (by decide+kernel)
theorem A6J:CJ A5B ⟨#[115,117,109,115,32,49,44,49,32,49,44,49]⟩=(A1w,⟨#[114,111,119,115,32,49,44,49,32,99,111,108,115,32,49,44,49,32,105,109,97,103,101,115,32,50]⟩):=L1 (a:=⟨#[49,44,49]⟩) (b:=⟨#[49,44,49]⟩) (xs:=[1,1]) (ys:=[1,1]) (by rfl) (by decide+kernel) (by decide+kernel) (by decide+kernel) (by decide+kernel) (by decide+kernel) (by decide+kernel) (by decide+kernel) (by decide+kernel)
theorem A6v:CJ A2N ⟨#[110,101,97,114,32,35,35,47,35,35]⟩=(A2N,⟨#[46,35,47,35,46,32,50]⟩):=A1p (t:=⟨#[35,35,47,35,35]⟩) (by rfl) (by decide+kernel) (by decide+kernel) (m:=[[1,1],[1,1]]) (by decide+kernel) (x:=[[0,1],[1,0]]) (by decide+kernel) (by decide+kernel)
theorem A6w:CJ A2N ⟨#[105,109,97,103,101,32,46,35,46,47,35,35,35,47,46,35,46]⟩=(Zl,⟨#[111,107]⟩):=QQ (t:=⟨#[46,35,46,47,35,35,35,47,46,35,46]⟩) (by rfl) (by decide+kernel) (by decide+kernel) (by decide+kernel) (by decide+kernel) (by decide+kernel)
theorem A6y:CJ A1w ⟨#[110,101,97,114,32,35,35,47,35,35]⟩=(A1w,⟨#[46,35,47,35,46,32,50]⟩):=A1p (t:=⟨#[35,35,47,35,35]⟩) (by rfl) (by decide+kernel) (by decide+kernel) (m:=[[1,1],[1,1]]) (by decide+kernel) (x:=[[0,1],[1,0]]) (by decide+kernel) (by decide+kernel)
theorem A6x:CJ A1w ⟨#[105,109,97,103,101,32,46,35,46,47,35,35,35,47,46,35,46]⟩=(Zl,⟨#[111,107]⟩):=QQ (t:=⟨#[46,35,46,47,35,35,35,47,46,35,46]⟩) (by rfl) (by decide+kernel) (by decide+kernel) (by decide+kernel) (by decide+kernel) (by decide+kernel)
theorem c19:CJ Zl ⟨#[112,117,122,122,108,101]⟩=(Zl,⟨#[49,32,115,111,108,117,116,105,111,110,115,32,46,35,46,47,35,35,35,47,46,35,46,32,108,111,103,105,99,97,108]⟩):=by
 rw[Gc (by rfl) (by decide+kernel)];unfold Cm;rw[if_neg (by decide+kernel),if_neg (by decide+kernel),if_neg (by decide+kernel),if_neg (by decide+kernel),if_neg (by decide+kernel),if_neg (by decide+kernel),if_neg (by decide+kernel),if_neg (by decide+kernel),if_pos (by rfl)];exact Prod.ext rfl (show Bz (Bt (DC [[0,1,0],[1,1,1],[0,1,0]]) (CT [[0,1,0],[1,1,1],[0,1,0]]))=⟨#[49,32,115,111,108,117,116,105,111,110,115,32,46,35,46,47,35,35,35,47,46,35,46,32,108,111,103,105,99,97,108]⟩ by decide+kernel)
theorem c20:CJ Zl ⟨#[99,111,110,118,101,120]⟩=(Zl,⟨#[46,35,46,47,35,35,35,47,46,35,46]⟩):=by
 rw[Gc (by rfl) (by decide+kernel)];unfold Cm;rw[if_neg (by decide+kernel),if_neg (by decide+kernel),if_neg (by decide+kernel),if_neg (by decide+kernel),if_neg (by decide+kernel),if_pos (by rfl)];exact Prod.ext rfl (show Bz (BK ⟨#[59]⟩ (BW (Jd [1,3,1] [1,3,1])))=⟨#[46,35,46,47,35,35,35,47,46,35,46]⟩ by decide+kernel)
theorem c21:CJ Zl ⟨#[119,104,97,116]⟩=(Zl,⟨#[117,110,107,110,111,119,110,32,99,111,109,109,97,110,100]⟩):=by
 rw[Gc (by rfl) (by decide+kernel)];unfold Cm;rw[if_neg (by decide+kernel),if_neg (by decide+kernel),if_neg (by decide+kernel),if_neg (by decide+kernel),if_neg (by decide+kernel),if_neg (by decide+kernel),if_neg (by decide+kernel),if_neg (by decide+kernel),if_neg (by decide+kernel)];rfl
def Pd:List ByteArray:=[⟨#[111,107]⟩,⟨#[35,46,47,46,35,32,114,111,119,115,32,49,44,49,32,99,111,108,115,32,49,44,49,32,102,114,101,101,32,52]⟩,⟨#[46,35,47,35,46,59,35,46,47,46,35]⟩,⟨#[49,32,115,119,105,116,99,104,101,115,32,48,58,49,58,48,58,49]⟩,⟨#[46,35,47,35,46]⟩,⟨#[48]⟩,⟨#[49,44,48,44,49]⟩,⟨#[114,111,119,115,32,50,44,49,32,99,111,108,115,32,50,44,49,32,105,109,97,103,101,115,32,49]⟩,⟨#[35,35,47,35,46]⟩,⟨#[35,35,47,35,46,32,114,111,119,115,32,50,44,49,32,99,111,108,115,32,50,44,49,32,117,110,105,113,117,101]⟩,⟨#[35,35,47,35,46]⟩,⟨#[114,111,119,115,32,51,44,48,32,99,111,108,115,32,49,44,49,44,49,32,105,109,97,103,101,115,32,49]⟩,⟨#[114,111,119,115,32,50,44,50,32,99,111,108,115,32,51,44,49,32,110,111,110,101]⟩,⟨#[114,111,119,115,32,49,44,49,32,99,111,108,115,32,50,44,48,32,105,109,97,103,101,115,32,49]⟩,⟨#[35,46,47,35,46]⟩,⟨#[114,111,119,115,32,49,44,49,32,99,111,108,115,32,49,44,49,32,105,109,97,103,101,115,32,50]⟩,⟨#[46,35,47,35,46,32,50]⟩,⟨#[111,107]⟩,⟨#[49,32,115,111,108,117,116,105,111,110,115,32,46,35,46,47,35,35,35,47,46,35,46,32,108,111,103,105,99,97,108]⟩,⟨#[46,35,46,47,35,35,35,47,46,35,46]⟩,⟨#[117,110,107,110,111,119,110,32,99,111,109,109,97,110,100]⟩]
def A1b:List ByteArray:=[⟨#[105,109,97,103,101,32,35,46,47,46,35]⟩,⟨#[115,104,111,119]⟩,⟨#[97,108,108]⟩,⟨#[112,97,116,104,32,46,35,47,35,46]⟩,⟨#[115,119,105,116,99,104,32,48,32,49,32,48,32,49]⟩,⟨#[114,101,118,101,97,108]⟩,⟨#[108,105,110,101,32,49,32,49]⟩,⟨#[115,117,109,115,32,50,44,49,32,50,44,49]⟩,⟨#[98,117,105,108,100]⟩,⟨#[115,104,111,119]⟩,⟨#[102,105,120,101,100]⟩,⟨#[115,117,109,115,32,51,44,48,32,49,44,49,44,49]⟩,⟨#[115,117,109,115,32,50,44,50,32,51,44,49]⟩,⟨#[115,117,109,115,32,49,44,49,32,50,44,48]⟩,⟨#[108,101,97,115,116]⟩,⟨#[115,117,109,115,32,49,44,49,32,49,44,49]⟩,⟨#[110,101,97,114,32,35,35,47,35,35]⟩,⟨#[105,109,97,103,101,32,46,35,46,47,35,35,35,47,46,35,46]⟩,⟨#[112,117,122,122,108,101]⟩,⟨#[99,111,110,118,101,120]⟩,⟨#[119,104,97,116]⟩]
def A0F:ByteArray:=⟨#[105,109,97,103,101,32,35,46,47,46,35,10,115,104,111,119,10,97,108,108,10,112,97,116,104,32,46,35,47,35,46,10,115,119,105,116,99,104,32,48,32,49,32,48,32,49,10,114,101,118,101,97,108,10,108,105,110,101,32,49,32,49,10,115,117,109,115,32,50,44,49,32,50,44,49,10,98,117,105,108,100,10,115,104,111,119,10,102,105,120,101,100,10,115,117,109,115,32,51,44,48,32,49,44,49,44,49,10,115,117,109,115,32,50,44,50,32,51,44,49,10,115,117,109,115,32,49,44,49,32,50,44,48,10,108,101,97,115,116,10,115,117,109,115,32,49,44,49,32,49,44,49,10,110,101,97,114,32,35,35,47,35,35,10,105,109,97,103,101,32,46,35,46,47,35,35,35,47,46,35,46,10,112,117,122,122,108,101,10,99,111,110,118,101,120,10,119,104,97,116]⟩
theorem A5D:A4N Ka A1b Pd:=⟨WU,c1,by decide,⟨WU,c2,by decide,⟨WU,c3,by decide,⟨WU,c4,by decide,⟨cnB,c5,by decide,⟨cnB,c6,by decide,⟨cnB,c7,by decide,⟨cnC,c8,by decide,⟨cnD,c9,by decide,⟨cnD,c10,by decide,⟨cnD,c11,by decide,⟨cnE,c12,by decide,⟨cnF,c13,by decide,⟨A4j,A6C,by decide,⟨A5H,A6I,by decide,⟨A2N,A6G,by decide,⟨A2N,A6v,by decide,⟨Zl,A6w,by decide,⟨Zl,c19,by decide,⟨Zl,c20,by decide,⟨Zl,c21,by decide,trivial⟩⟩⟩⟩⟩⟩⟩⟩⟩⟩⟩⟩⟩⟩⟩⟩⟩⟩⟩⟩⟩
theorem A0c:Dd A0F=A1b:=by decide+kernel
theorem A5J:(Eb A0F).1=Ke Pd ByteArray.empty:=by
 unfold Eb;rw[A0c,if_pos (by decide)];exact PB _ _ _ _ A5D
theorem A52:Dd (Ke Pd ByteArray.empty)=Pd:=by decide+kernel
def Pn:List ByteArray:=[⟨#[111,107]⟩,⟨#[35,46,47,46,35,32,114,111,119,115,32,49,44,49,32,99,111,108,115,32,49,44,49,32,102,114,101,101,32,52]⟩,⟨#[46,35,47,35,46,59,35,46,47,46,35]⟩,⟨#[49,32,115,119,105,116,99,104,101,115,32,48,58,49,58,48,58,49]⟩,⟨#[46,35,47,35,46]⟩,⟨#[48]⟩,⟨#[49,44,48,44,49]⟩,⟨#[114,111,119,115,32,50,44,49,32,99,111,108,115,32,50,44,49,32,105,109,97,103,101,115,32,49]⟩,⟨#[35,35,47,35,46]⟩,⟨#[35,35,47,35,46,32,114,111,119,115,32,50,44,49,32,99,111,108,115,32,50,44,49,32,117,110,105,113,117,101]⟩,⟨#[35,35,47,35,46]⟩,⟨#[114,111,119,115,32,51,44,48,32,99,111,108,115,32,49,44,49,44,49,32,105,109,97,103,101,115,32,49]⟩,⟨#[114,111,119,115,32,50,44,50,32,99,111,108,115,32,51,44,49,32,110,111,110,101]⟩,⟨#[114,111,119,115,32,50,44,50,32,99,111,108,115,32,50,44,50,32,105,109,97,103,101,115,32,49]⟩,⟨#[35,35,47,35,35]⟩,⟨#[114,111,119,115,32,49,44,49,32,99,111,108,115,32,49,44,49,32,105,109,97,103,101,115,32,50]⟩,⟨#[46,35,47,35,46,32,50]⟩,⟨#[111,107]⟩,⟨#[49,32,115,111,108,117,116,105,111,110,115,32,46,35,46,47,35,35,35,47,46,35,46,32,108,111,103,105,99,97,108]⟩,⟨#[46,35,46,47,35,35,35,47,46,35,46]⟩,⟨#[117,110,107,110,111,119,110,32,99,111,109,109,97,110,100]⟩]
def A1g:List ByteArray:=[⟨#[105,109,97,103,101,32,35,46,47,46,35]⟩,⟨#[115,104,111,119]⟩,⟨#[97,108,108]⟩,⟨#[112,97,116,104,32,46,35,47,35,46]⟩,⟨#[115,119,105,116,99,104,32,48,32,49,32,48,32,49]⟩,⟨#[114,101,118,101,97,108]⟩,⟨#[108,105,110,101,32,49,32,49]⟩,⟨#[115,117,109,115,32,50,44,49,32,50,44,49]⟩,⟨#[98,117,105,108,100]⟩,⟨#[115,104,111,119]⟩,⟨#[102,105,120,101,100]⟩,⟨#[115,117,109,115,32,51,44,48,32,49,44,49,44,49]⟩,⟨#[115,117,109,115,32,50,44,50,32,51,44,49]⟩,⟨#[115,117,109,115,32,50,44,50,32,50,44,50]⟩,⟨#[108,101,97,115,116]⟩,⟨#[115,117,109,115,32,49,44,49,32,49,44,49]⟩,⟨#[110,101,97,114,32,35,35,47,35,35]⟩,⟨#[105,109,97,103,101,32,46,35,46,47,35,35,35,47,46,35,46]⟩,⟨#[112,117,122,122,108,101]⟩,⟨#[99,111,110,118,101,120]⟩,⟨#[119,104,97,116]⟩]
def ZG:ByteArray:=⟨#[105,109,97,103,101,32,35,46,47,46,35,10,115,104,111,119,10,97,108,108,10,112,97,116,104,32,46,35,47,35,46,10,115,119,105,116,99,104,32,48,32,49,32,48,32,49,10,114,101,118,101,97,108,10,108,105,110,101,32,49,32,49,10,115,117,109,115,32,50,44,49,32,50,44,49,10,98,117,105,108,100,10,115,104,111,119,10,102,105,120,101,100,10,115,117,109,115,32,51,44,48,32,49,44,49,44,49,10,115,117,109,115,32,50,44,50,32,51,44,49,10,115,117,109,115,32,50,44,50,32,50,44,50,10,108,101,97,115,116,10,115,117,109,115,32,49,44,49,32,49,44,49,10,110,101,97,114,32,35,35,47,35,35,10,105,109,97,103,101,32,46,35,46,47,35,35,35,47,46,35,46,10,112,117,122,122,108,101,10,99,111,110,118,101,120,10,119,104,97,116]⟩
theorem A5A:A4N Ka A1g Pn:=⟨WU,c1,by decide,⟨WU,c2,by decide,⟨WU,c3,by decide,⟨WU,c4,by decide,⟨cnB,c5,by decide,⟨cnB,c6,by decide,⟨cnB,c7,by decide,⟨cnC,c8,by decide,⟨cnD,c9,by decide,⟨cnD,c10,by decide,⟨cnD,c11,by decide,⟨cnE,c12,by decide,⟨cnF,c13,by decide,⟨A3e,A6D,by decide,⟨A5B,A6A,by decide,⟨A1w,A6J,by decide,⟨A1w,A6y,by decide,⟨Zl,A6x,by decide,⟨Zl,c19,by decide,⟨Zl,c20,by decide,⟨Zl,c21,by decide,trivial⟩⟩⟩⟩⟩⟩⟩⟩⟩⟩⟩⟩⟩⟩⟩⟩⟩⟩⟩⟩⟩
theorem A05:Dd ZG=A1g:=by decide+kernel
theorem A5v:(Eb ZG).1=Ke Pn ByteArray.empty:=by
 unfold Eb;rw[A05,if_pos (by decide)];exact PB _ _ _ _ A5A
theorem A53:Dd (Ke Pn ByteArray.empty)=Pn:=by decide+kernel
