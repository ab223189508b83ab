/- RunLine of the program says what rlOf says, at every line. -/
import Derived.Test.YthmocomfjgmjoaaGreatDoorKRb
import Derived.Test.YthmocomfjgmjoaaGreatDoorKRc
import Derived.Test.YthmocomfjgmjoaaGreatDoorKRcb
import Derived.Test.YthmocomfjgmjoaaGreatDoorKRd
import Derived.Test.YthmocomfjgmjoaaGreatDoorKRdb
import Derived.Test.YthmocomfjgmjoaaGreatDoorKYg1
import Derived.Test.YthmocomfjgmjoaaGreatDoorKYg2
import Derived.Test.YthmocomfjgmjoaaGreatDoorKYg3
import Derived.Test.YthmocomfjgmjoaaGreatDoorKYg4
import Derived.Test.YthmocomfjgmjoaaGreatDoorKY9
namespace Go.Proofs.YthmocomfjgmjoaaGreatDoor
open Go.RowKit
theorem XO(a b c:Value)(k:B9)(s:ByteArray)(w:World)(h:AV w a b c k)(hs:Az k)(ht:Bg w)(aI:s.size≤1048576)(aE:AH s=false)(aK:Ae s 32=[s]):Calls Tryz.prog 13 #[.agg #[a,b,c],.string s] w (AG w (CJ k s)):=by
 rw[SI aE aK];by_cases hwShow:s=MW
 ·subst hwShow;exact VR a b c k w h hs ht
 by_cases hwBuild:s=Js
 ·subst hwBuild;exact Tl a b c k w h hs ht
 by_cases hwLeast:s=JG
 ·subst hwLeast;exact Th a b c k w h hs ht
 by_cases hwAll:s=TK
 ·subst hwAll;exact XN a b c k w h hs ht
 by_cases hwFixed:s=JB
 ·subst hwFixed;exact TE a b c k w h hs ht
 by_cases hwConvex:s=GO
 ·subst hwConvex;exact RW a b c k w h hs ht
 by_cases hwReveal:s=GL
 ·subst hwReveal;exact Rr a b c k w h hs ht
 by_cases hwRepair:s=GM
 ·subst hwRepair;exact Tc a b c k w h hs ht
 by_cases hwPuzzle:s=GP
 ·subst hwPuzzle;exact RA a b c k w h hs ht
 have hw:Cm k s=(k,AA):=by
  unfold Cm;rw[if_neg hwShow,if_neg hwBuild,if_neg hwLeast,if_neg hwAll,if_neg hwFixed,if_neg hwConvex,if_neg hwReveal,if_neg hwRepair,if_neg hwPuzzle]
 rw[hw];by_cases hwImage:s=Ca
 ·subst hwImage;exact A79 a b c k _ w h hs ht aK (.inl rfl)
 by_cases hwSums:s=E3
 ·subst hwSums;exact A79 a b c k _ w h hs ht aK (.inr (.inl rfl))
 by_cases hwSwitch:s=BS
 ·subst hwSwitch;exact A79 a b c k _ w h hs ht aK (.inr (.inr (.inl rfl)))
 by_cases hwFlip:s=DL
 ·subst hwFlip;exact A79 a b c k _ w h hs ht aK (.inr (.inr (.inr (.inl rfl))))
 by_cases hwPath:s=Dg
 ·subst hwPath;exact A79 a b c k _ w h hs ht aK (.inr (.inr (.inr (.inr (.inl rfl)))))
 by_cases hwNear:s=Do
 ·subst hwNear;exact A79 a b c k _ w h hs ht aK (.inr (.inr (.inr (.inr (.inr (.inl rfl))))))
 by_cases hwLine:s=Dn
 ·subst hwLine;exact A79 a b c k _ w h hs ht aK (.inr (.inr (.inr (.inr (.inr (.inr (rfl)))))))
 exact A2s a b c k s w h hs ht aI aE aK ⟨Ap rfl hwShow,Ap rfl hwBuild,Ap rfl hwLeast,Ap rfl hwAll,Ap rfl hwFixed,Ap rfl hwConvex,Ap rfl hwReveal,Ap rfl hwRepair,Ap rfl hwPuzzle⟩ (Ap rfl hwImage) (Ap rfl hwSums) (Ap rfl hwSwitch) (Ap rfl hwFlip) (Ap rfl hwPath) (Ap rfl hwNear) (Ap rfl hwLine)
theorem RO(a b c:Value)(k:B9)(s:ByteArray)(al:List ByteArray)(w:World)(h:AV w a b c k)(hs:Az k)(ht:Bg w)(aI:s.size≤1048576)(aE:AH s=false)(aK:Ae s 32=Ca::al)(aO:al≠[]):Calls Tryz.prog 13 #[.agg #[a,b,c],.string s] w (AG w (H7 k Ca al)):=by
 have bF:1≤al.length:=by have h1:al.length≠0:=fun e=>aO (List.length_eq_zero_iff.1 e);omega
 by_cases h1:al.length=1
 ·obtain⟨t,rfl⟩:=List.length_eq_one_iff.1 h1;rw[Ew (by decide+kernel:Fu Ca=true)];cases aD:B4 t
  ·rw[if_neg (by simp)];exact A72 a b c k s _ [t] _ w h hs ht aI aE aK (Nat.le_refl _) (.ui1 t h1 (B8.of aK aO) rfl aD)
  ·rw[if_pos rfl,show CL k Ca (Ax t)=(⟨Ax t,A6 (Ax t),A8 (Ax t)⟩,okB) from by unfold CL;rw[if_pos rfl]];exact A75 a b c k s _ [t] _ w h hs ht aI aE aK (Nat.le_refl _) (.image t h1 rfl aD)
 ·rw[DF (.inl h1) (.inr Qr) (fun n hn=>Df (.inl NV) (.inl Qu) (.inl Qx))];exact A72 a b c k s _ al _ w h hs ht aI aE aK bF (.uin (B8.of aK aO) h1)
theorem Tf(a b c:Value)(k:B9)(s:ByteArray)(al:List ByteArray)(w:World)(h:AV w a b c k)(hs:Az k)(ht:Bg w)(aI:s.size≤1048576)(aE:AH s=false)(aK:Ae s 32=Dg::al)(aO:al≠[]):Calls Tryz.prog 13 #[.agg #[a,b,c],.string s] w (AG w (H7 k Dg al)):=by
 have bF:1≤al.length:=by have h1:al.length≠0:=fun e=>aO (List.length_eq_zero_iff.1 e);omega
 by_cases h1:al.length=1
 ·obtain⟨t,rfl⟩:=List.length_eq_one_iff.1 h1;rw[Ew (by decide+kernel:Fu Dg=true)];cases aD:B4 t
  ·rw[if_neg (by simp)];exact A72 a b c k s _ [t] _ w h hs ht aI aE aK (Nat.le_refl _) (.up1 t h1 (B8.of aK aO) rfl aD)
  ·rw[if_pos rfl,show CL k Dg (Ax t)=(k,Jw k.img (Ax t)) from by unfold CL;rw[if_neg Lf,if_pos rfl]];exact A75 a b c k s _ [t] _ w h hs ht aI aE aK (Nat.le_refl _) (.path t h1 rfl aD)
 ·rw[DF (.inl h1) (.inr RP) (fun n hn=>Df (.inl Pi) (.inl Sj) (.inl Rx))];exact A72 a b c k s _ al _ w h hs ht aI aE aK bF (.upn (B8.of aK aO) h1)
theorem Tu(a b c:Value)(k:B9)(s:ByteArray)(al:List ByteArray)(w:World)(h:AV w a b c k)(hs:Az k)(ht:Bg w)(aI:s.size≤1048576)(aE:AH s=false)(aK:Ae s 32=Do::al)(aO:al≠[]):Calls Tryz.prog 13 #[.agg #[a,b,c],.string s] w (AG w (H7 k Do al)):=by
 have bF:1≤al.length:=by have h1:al.length≠0:=fun e=>aO (List.length_eq_zero_iff.1 e);omega
 by_cases h1:al.length=1
 ·obtain⟨t,rfl⟩:=List.length_eq_one_iff.1 h1;rw[Ew (by decide+kernel:Fu Do=true)];cases aD:B4 t
  ·rw[if_neg (by simp)];exact A72 a b c k s _ [t] _ w h hs ht aI aE aK (Nat.le_refl _) (.un1 t h1 (B8.of aK aO) rfl aD)
  ·rw[if_pos rfl,show CL k Do (Ax t)=O2 k (Ax t) from by unfold CL;rw[if_neg L7,if_neg LA];rfl];exact A75 a b c k s _ [t] _ w h hs ht aI aE aK (Nat.le_refl _) (.near t h1 rfl aD)
 ·rw[DF (.inl h1) (.inr QS) (fun n hn=>Df (.inl Po) (.inl SB) (.inl RI))];exact A72 a b c k s _ al _ w h hs ht aI aE aK bF (.unn (B8.of aK aO) h1)
theorem QB(a b c:Value)(k:B9)(s:ByteArray)(al:List ByteArray)(w:World)(h:AV w a b c k)(hs:Az k)(ht:Bg w)(aI:s.size≤1048576)(aE:AH s=false)(aK:Ae s 32=BS::al)(aO:al≠[]):Calls Tryz.prog 13 #[.agg #[a,b,c],.string s] w (AG w (H7 k BS al)):=by
 have bF:1≤al.length:=by have h1:al.length≠0:=fun e=>aO (List.length_eq_zero_iff.1 e);omega
 by_cases h1:al.length=1
 ·obtain⟨t,rfl⟩:=List.length_eq_one_iff.1 h1;rw[DF (.inr (JC IU JS JZ)) (.inr GA) (fun n hn=>Df (.inr (by rw[hn,h1];decide)) (.inl Gu) (.inl Gp))];exact A71 a b c k s _ [t] _ w h hs ht aI aE aK (Nat.le_refl _) (.uw1 t h1 (B8.of aK aO) rfl)
 by_cases h4:al.length=4
 ·rw[FJ (.inr (JC IU JS JZ)) (.inr GA)];by_cases hb:(Ao al).length=4
  ·have aR:=Mc (hb.trans h4.symm);rw[if_pos aR];obtain⟨n,hn⟩:∃n,al.map Aq=n:=⟨_,rfl⟩;have d6:=Kq aR;rw[hn] at d6⊢;have hl:n.length=4:=by rw[←hn,List.length_map,h4]
   match n,hl with
   |[n0,n1,n2,n3],_=>
    rw[show Fc k BS [n0,n1,n2,n3]=Ff k (IT k.img n0 n1 n2 n3) from by unfold Fc;rw[if_pos ⟨rfl,rfl⟩];rfl];exact A73 a b c k s _ al _ w h hs ht aI aE aK bF (.switch n0 n1 n2 n3 h4 d6)
  ·rw[if_neg (by rw[Vn (by rw[h4];exact hb)];simp)];exact A71 a b c k s _ al _ w h hs ht aI aE aK bF (.uw4 h4 (B8.of aK aO) hb)
 ·rw[DF (.inl h1) (.inr GA) (fun n hn=>Df (.inr (by rw[hn];exact h4)) (.inl Gu) (.inl Gp))];exact A71 a b c k s _ al _ w h hs ht aI aE aK bF (.uwn (B8.of aK aO) h1 h4)
theorem TM(a b c:Value)(k:B9)(s:ByteArray)(al:List ByteArray)(w:World)(h:AV w a b c k)(hs:Az k)(ht:Bg w)(aI:s.size≤1048576)(aE:AH s=false)(aK:Ae s 32=DL::al)(aO:al≠[]):Calls Tryz.prog 13 #[.agg #[a,b,c],.string s] w (AG w (H7 k DL al)):=by
 have bF:1≤al.length:=by have h1:al.length≠0:=fun e=>aO (List.length_eq_zero_iff.1 e);omega
 by_cases h1:al.length=1
 ·obtain⟨t,rfl⟩:=List.length_eq_one_iff.1 h1;rw[DF (.inr (JC Le Lq LK)) (.inr IP) (fun n hn=>Df (.inl EZ) (.inr (by rw[hn,h1];decide)) (.inl IS))];exact A71 a b c k s _ [t] _ w h hs ht aI aE aK (Nat.le_refl _) (.uf1 t h1 (B8.of aK aO) rfl)
 by_cases h2:al.length=2
 ·rw[FJ (.inr (JC Le Lq LK)) (.inr IP)];by_cases hb:(Ao al).length=2
  ·have aR:=Mc (hb.trans h2.symm);rw[if_pos aR];obtain⟨n,hn⟩:∃n,al.map Aq=n:=⟨_,rfl⟩;have d6:=Kq aR;rw[hn] at d6⊢;have hl:n.length=2:=by rw[←hn,List.length_map,h2]
   match n,hl with
   |[n0,n1],_=>
    rw[show Fc k DL [n0,n1]=Ff k (Lg k.img n0 n1) from by unfold Fc;rw[if_neg (fun e=>EZ e.1),if_pos ⟨rfl,rfl⟩];rfl];exact A73 a b c k s _ al _ w h hs ht aI aE aK bF (.flip n0 n1 h2 d6)
  ·rw[if_neg (by rw[Vn (by rw[h2];exact hb)];simp)];exact A71 a b c k s _ al _ w h hs ht aI aE aK bF (.uf2 h2 (B8.of aK aO) hb)
 ·rw[DF (.inl h1) (.inr IP) (fun n hn=>Df (.inl EZ) (.inr (by rw[hn];exact h2)) (.inl IS))];exact A71 a b c k s _ al _ w h hs ht aI aE aK bF (.ufn (B8.of aK aO) h1 h2)
theorem TU(a b c:Value)(k:B9)(s:ByteArray)(al:List ByteArray)(w:World)(h:AV w a b c k)(hs:Az k)(ht:Bg w)(aI:s.size≤1048576)(aE:AH s=false)(aK:Ae s 32=Dn::al)(aO:al≠[]):Calls Tryz.prog 13 #[.agg #[a,b,c],.string s] w (AG w (H7 k Dn al)):=by
 have bF:1≤al.length:=by have h1:al.length≠0:=fun e=>aO (List.length_eq_zero_iff.1 e);omega
 by_cases h1:al.length=1
 ·obtain⟨t,rfl⟩:=List.length_eq_one_iff.1 h1;rw[DF (.inr (JC La M9 M8)) (.inr Ge) (fun n hn=>Df (.inl E5) (.inl EK) (.inr (by rw[hn,h1];decide)))];exact A71 a b c k s _ [t] _ w h hs ht aI aE aK (Nat.le_refl _) (.ul1 t h1 (B8.of aK aO) rfl)
 by_cases h2:al.length=2
 ·rw[FJ (.inr (JC La M9 M8)) (.inr Ge)];by_cases hb:(Ao al).length=2
  ·have aR:=Mc (hb.trans h2.symm);rw[if_pos aR];obtain⟨n,hn⟩:∃n,al.map Aq=n:=⟨_,rfl⟩;have d6:=Kq aR;rw[hn] at d6⊢;have hl:n.length=2:=by rw[←hn,List.length_map,h2]
   match n,hl with
   |[n0,n1],_=>
    rw[show Fc k Dn [n0,n1]=(k,if BA k.img n0 n1=[] then BZ else Aj (BA k.img n0 n1)) from by unfold Fc;rw[if_neg (fun e=>E5 e.1),if_neg (fun e=>EK e.1),if_pos ⟨rfl,rfl⟩];rfl];by_cases db:BA k.img n0 n1=[]
    ·rw[if_pos db];exact A73 a b c k s _ al _ w h hs ht aI aE aK bF (.line0 n0 n1 h2 d6 db)
    ·rw[if_neg db];exact A73 a b c k s _ al _ w h hs ht aI aE aK bF (.line1 n0 n1 h2 d6 db)
  ·rw[if_neg (by rw[Vn (by rw[h2];exact hb)];simp)];exact A71 a b c k s _ al _ w h hs ht aI aE aK bF (.ul2 h2 (B8.of aK aO) hb)
 ·rw[DF (.inl h1) (.inr Ge) (fun n hn=>Df (.inl E5) (.inl EK) (.inr (by rw[hn];exact h2)))];exact A71 a b c k s _ al _ w h hs ht aI aE aK bF (.uln (B8.of aK aO) h1 h2)
theorem TA(a b c:Value)(k:B9)(s:ByteArray)(al:List ByteArray)(w:World)(h:AV w a b c k)(hs:Az k)(ht:Bg w)(aI:s.size≤1048576)(aE:AH s=false)(aK:Ae s 32=E3::al)(aO:al≠[]):Calls Tryz.prog 13 #[.agg #[a,b,c],.string s] w (AG w (H7 k E3 al)):=by
 have bF:1≤al.length:=by have h1:al.length≠0:=fun e=>aO (List.length_eq_zero_iff.1 e);omega
 by_cases h1:al.length=1
 ·obtain⟨t,rfl⟩:=List.length_eq_one_iff.1 h1;rw[DF (.inr (JC L9 LQ Lo)) (.inl (by rw[h1];decide)) (fun n hn=>Df (.inl JO) (.inl LS) (.inl LM))];exact A71 a b c k s _ [t] _ w h hs ht aI aE aK (Nat.le_refl _) (.us1 t h1 (B8.of aK aO) rfl)
 by_cases h2:al.length=2
 ·match al,h2,aK,aO,bF with
  |[ta,tb],h2,aK,aO,bF=>
   rw[NG];unfold Ln;cases ha:BJ ta
   ·rw[if_neg (by simp)];exact A71 a b c k s _ [ta,tb] _ w h hs ht aI aE aK bF (.us2 ta tb h2 rfl rfl (B8.of aK aO) ha)
   ·cases hb:BJ tb
    ·rw[if_neg (by simp)];exact A71 a b c k s _ [ta,tb] _ w h hs ht aI aE aK bF (.us3 ta tb h2 rfl rfl (B8.of aK aO) ha hb)
    ·rw[if_pos ⟨rfl,rfl⟩];exact A75 a b c k s _ [ta,tb] _ w h hs ht aI aE aK bF (.sums ta tb h2 rfl rfl ha hb (Mv aK aI (by simp)) (Mv aK aI (by simp)))
 ·rw[DF (.inr (JC L9 LQ Lo)) (.inl h2) (fun n hn=>Df (.inl JO) (.inl LS) (.inl LM))];exact A71 a b c k s _ al _ w h hs ht aI aE aK bF (.usn (B8.of aK aO) h1 h2)
theorem U5(a b c:Value)(k:B9)(s:ByteArray)(w:World)(h:AV w a b c k)(hs:Az k)(ht:Bg w)(aI:s.size≤1048576):Calls Tryz.prog 13 #[.agg #[a,b,c],.string s] w (AG w (CJ k s)):=by
 cases aE:AH s
 ·obtain⟨wd,al,aK⟩:∃wd al,Ae s 32=wd::al:=by
   have hp:=EJ s 32;cases e:Ae s 32 with
   |nil=>rw[e] at hp;simp at hp
   |cons wd al=>exact⟨wd,al,rfl⟩
  by_cases aO:al=[]
  ·subst aO;have:=Uu aK;subst this;exact XO a b c k wd w h hs ht aI aE aK
  ·rw[FSa aE aK aO];by_cases hwImage:wd=Ca
   ·subst hwImage;exact RO a b c k s al w h hs ht aI aE aK aO
   by_cases hwSums:wd=E3
   ·subst hwSums;exact TA a b c k s al w h hs ht aI aE aK aO
   by_cases hwSwitch:wd=BS
   ·subst hwSwitch;exact QB a b c k s al w h hs ht aI aE aK aO
   by_cases hwFlip:wd=DL
   ·subst hwFlip;exact TM a b c k s al w h hs ht aI aE aK aO
   by_cases hwPath:wd=Dg
   ·subst hwPath;exact Tf a b c k s al w h hs ht aI aE aK aO
   by_cases hwNear:wd=Do
   ·subst hwNear;exact Tu a b c k s al w h hs ht aI aE aK aO
   by_cases hwLine:wd=Dn
   ·subst hwLine;exact TU a b c k s al w h hs ht aI aE aK aO
   have bF:1≤al.length:=by have h1:al.length≠0:=fun e=>aO (List.length_eq_zero_iff.1 e);omega
   rw[DF (.inr (JC hwImage hwPath hwNear)) (.inr hwSums) (fun n hn=>Df (.inl hwSwitch) (.inl hwFlip) (.inl hwLine))];by_cases h1:al.length=1
   ·obtain⟨t,rfl⟩:=List.length_eq_one_iff.1 h1;exact A72 a b c k s wd [t] _ w h hs ht aI aE aK (Nat.le_refl _) (.uo1 _ t h1 (B8.of aK aO) (Ap rfl hwImage) (Ap rfl hwSums) (Ap rfl hwSwitch) (Ap rfl hwFlip) (Ap rfl hwPath) (Ap rfl hwNear) (Ap rfl hwLine) rfl)
   ·exact A72 a b c k s wd al _ w h hs ht aI aE aK bF (.uon _ (B8.of aK aO) (Ap rfl hwImage) (Ap rfl hwSums) (Ap rfl hwSwitch) (Ap rfl hwFlip) (Ap rfl hwPath) (Ap rfl hwNear) (Ap rfl hwLine) h1)
 ·rw[Uo aE];exact A00 a b c k s w h hs aE
