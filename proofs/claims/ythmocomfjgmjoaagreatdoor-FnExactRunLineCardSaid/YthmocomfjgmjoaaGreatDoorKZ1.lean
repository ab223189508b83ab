/- Base. -/
import Derived.Test.YthmocomfjgmjoaaGreatDoorKRg1
import Derived.Test.YthmocomfjgmjoaaGreatDoorKRg2
import Derived.Test.YthmocomfjgmjoaaGreatDoorKRg3
import Derived.Test.YthmocomfjgmjoaaGreatDoorKYg1
import Derived.Test.YthmocomfjgmjoaaGreatDoorKYg2
import Derived.Test.YthmocomfjgmjoaaGreatDoorKYg3
import Derived.Test.YthmocomfjgmjoaaGreatDoorKYg4
import Derived.Test.YthmocomfjgmjoaaGreatDoorKY9
namespace Go.Proofs.YthmocomfjgmjoaaGreatDoor
open Go.RowKit Go.Proofs.Tryz
theorem Yh(a b c:Value)(k:BU)(s:ByteArray)(w:World)(h:BV w a b c k)(hs:BL k)(ht:Ck w)(aM:s.size≤1048576)(aJ:CA s=false)(aO:AM s 32=[s]):Calls prog 13 #[.agg #[a,b,c],.string s] w (Dd w (Kj k s)):=by
 rw[Yu aJ aO];by_cases hwShow:s=Qp
 ·subst hwShow;exact Jt a b c k _ _ w h hs ht aO (.inl ⟨rfl,rfl⟩)
 by_cases hwBuild:s=M9
 ·subst hwBuild;exact Jt a b c k _ _ w h hs ht aO (.inr (.inl ⟨rfl,rfl⟩))
 by_cases hwLeast:s=Mg
 ·subst hwLeast;exact Jt a b c k _ _ w h hs ht aO (.inr (.inr (.inl ⟨rfl,rfl⟩)))
 by_cases hwAll:s=Y5
 ·subst hwAll;exact Q8 a b c k _ _ w h hs ht aO (.inl ⟨rfl,rfl⟩)
 by_cases hwFixed:s=LS
 ·subst hwFixed;exact Jt a b c k _ _ w h hs ht aO (.inr (.inr (.inr (⟨rfl,rfl⟩))))
 by_cases hwConvex:s=JB
 ·subst hwConvex;exact Q8 a b c k _ _ w h hs ht aO (.inr (⟨rfl,rfl⟩))
 by_cases hwReveal:s=JI
 ·subst hwReveal;exact My a b c k _ _ w h hs ht aO (.inl ⟨rfl,rfl⟩)
 by_cases hwRepair:s=JF
 ·subst hwRepair;exact My a b c k _ _ w h hs ht aO (.inr (.inl ⟨rfl,rfl⟩))
 by_cases hwPuzzle:s=JE
 ·subst hwPuzzle;exact My a b c k _ _ w h hs ht aO (.inr (.inr (⟨rfl,rfl⟩)))
 have hw:DI k s=(k,Bq):=by
  unfold DI;rw[if_neg hwShow,if_neg hwBuild,if_neg hwLeast,if_neg hwAll,if_neg hwFixed,if_neg hwConvex,if_neg hwReveal,if_neg hwRepair,if_neg hwPuzzle]
 rw[hw];by_cases hwImage:s=Db
 ·subst hwImage;exact FF a b c k _ w h hs ht aO (.inl rfl)
 by_cases hwSums:s=Fy
 ·subst hwSums;exact FF a b c k _ w h hs ht aO (.inr (.inl rfl))
 by_cases hwSwitch:s=Cs
 ·subst hwSwitch;exact FF a b c k _ w h hs ht aO (.inr (.inr (.inl rfl)))
 by_cases hwFlip:s=EG
 ·subst hwFlip;exact FF a b c k _ w h hs ht aO (.inr (.inr (.inr (.inl rfl))))
 by_cases hwPath:s=Ej
 ·subst hwPath;exact FF a b c k _ w h hs ht aO (.inr (.inr (.inr (.inr (.inl rfl)))))
 by_cases hwNear:s=EH
 ·subst hwNear;exact FF a b c k _ w h hs ht aO (.inr (.inr (.inr (.inr (.inr (.inl rfl))))))
 by_cases hwLine:s=Ec
 ·subst hwLine;exact FF a b c k _ w h hs ht aO (.inr (.inr (.inr (.inr (.inr (.inr (rfl)))))))
 exact A0C a b c k s w h hs ht aM aJ aO ⟨AN rfl hwShow,AN rfl hwBuild,AN rfl hwLeast,AN rfl hwAll,AN rfl hwFixed,AN rfl hwConvex,AN rfl hwReveal,AN rfl hwRepair,AN rfl hwPuzzle⟩ (AN rfl hwImage) (AN rfl hwSums) (AN rfl hwSwitch) (AN rfl hwFlip) (AN rfl hwPath) (AN rfl hwNear) (AN rfl hwLine)
theorem Rj(a b c:Value)(k:BU)(s:ByteArray)(al:List ByteArray)(w:World)(h:BV w a b c k)(hs:BL k)(ht:Ck w)(aM:s.size≤1048576)(aJ:CA s=false)(aO:AM s 32=Db::al)(aK:al≠[]):Calls prog 13 #[.agg #[a,b,c],.string s] w (Dd w (I5 k Db al)):=by
 have aZ:1≤al.length:=by have h1:al.length≠0:=fun e=>aK (List.length_eq_zero_iff.1 e);omega
 by_cases h1:al.length=1
 ·obtain⟨t,rfl⟩:=List.length_eq_one_iff.1 h1;rw[IE (by decide+kernel:Gh Db=true)];cases hok:BT t
  ·rw[if_neg Jj];exact Ek a b c k s _ [t] _ w h hs ht aM aJ aO (A2 _) (.ui1 t h1 (Bn.of aO aK) rfl hok)
  ·rw[if_pos rfl,show DS k Db (AZ t)=(⟨AZ t,Ae (AZ t),Al (AZ t)⟩,okB)from by unfold DS;rw[if_pos rfl]];exact Jh a b c k s _ [t] _ w h hs ht aM aJ aO (A2 _) (.image t h1 rfl hok)
 ·rw[DK (.inl h1) (.inr R2) (fun n hn=>Dp (.inl OU) (.inl QL) (.inl R1))];exact Ek a b c k s _ al _ w h hs ht aM aJ aO aZ (.uin (Bn.of aO aK) h1)
theorem Ti(a b c:Value)(k:BU)(s:ByteArray)(al:List ByteArray)(w:World)(h:BV w a b c k)(hs:BL k)(ht:Ck w)(aM:s.size≤1048576)(aJ:CA s=false)(aO:AM s 32=Ej::al)(aK:al≠[]):Calls prog 13 #[.agg #[a,b,c],.string s] w (Dd w (I5 k Ej al)):=by
 have aZ:1≤al.length:=by have h1:al.length≠0:=fun e=>aK (List.length_eq_zero_iff.1 e);omega
 by_cases h1:al.length=1
 ·obtain⟨t,rfl⟩:=List.length_eq_one_iff.1 h1;rw[IE (by decide+kernel:Gh Ej=true)];cases hok:BT t
  ·rw[if_neg Jj];exact Ek a b c k s _ [t] _ w h hs ht aM aJ aO (A2 _) (.up1 t h1 (Bn.of aO aK) rfl hok)
  ·rw[if_pos rfl,show DS k Ej (AZ t)=(k,Lg k.img (AZ t))from by unfold DS;rw[if_neg QP,if_pos rfl]];exact Jh a b c k s _ [t] _ w h hs ht aM aJ aO (A2 _) (.path t h1 rfl hok)
 ·rw[DK (.inl h1) (.inr RN) (fun n hn=>Dp (.inl PZ) (.inl SC) (.inl RZ))];exact Ek a b c k s _ al _ w h hs ht aM aJ aO aZ (.upn (Bn.of aO aK) h1)
theorem TF(a b c:Value)(k:BU)(s:ByteArray)(al:List ByteArray)(w:World)(h:BV w a b c k)(hs:BL k)(ht:Ck w)(aM:s.size≤1048576)(aJ:CA s=false)(aO:AM s 32=EH::al)(aK:al≠[]):Calls prog 13 #[.agg #[a,b,c],.string s] w (Dd w (I5 k EH al)):=by
 have aZ:1≤al.length:=by have h1:al.length≠0:=fun e=>aK (List.length_eq_zero_iff.1 e);omega
 by_cases h1:al.length=1
 ·obtain⟨t,rfl⟩:=List.length_eq_one_iff.1 h1;rw[IE (by decide+kernel:Gh EH=true)];cases hok:BT t
  ·rw[if_neg Jj];exact Ek a b c k s _ [t] _ w h hs ht aM aJ aO (A2 _) (.un1 t h1 (Bn.of aO aK) rfl hok)
  ·rw[if_pos rfl,show DS k EH (AZ t)=OM k (AZ t)from by unfold DS;rw[if_neg QW,if_neg S0];rfl];exact Jh a b c k s _ [t] _ w h hs ht aM aJ aO (A2 _) (.near t h1 rfl hok)
 ·rw[DK (.inl h1) (.inr Ss) (fun n hn=>Dp (.inl Px) (.inl SJ) (.inl S1))];exact Ek a b c k s _ al _ w h hs ht aM aJ aO aZ (.unn (Bn.of aO aK) h1)
theorem R0(a b c:Value)(k:BU)(s:ByteArray)(al:List ByteArray)(w:World)(h:BV w a b c k)(hs:BL k)(ht:Ck w)(aM:s.size≤1048576)(aJ:CA s=false)(aO:AM s 32=Cs::al)(aK:al≠[]):Calls prog 13 #[.agg #[a,b,c],.string s] w (Dd w (I5 k Cs al)):=by
 have aZ:1≤al.length:=by have h1:al.length≠0:=fun e=>aK (List.length_eq_zero_iff.1 e);omega
 by_cases h1:al.length=1
 ·obtain⟨t,rfl⟩:=List.length_eq_one_iff.1 h1;rw[DK (.inr (JT JN Kg Kw)) (.inr GC) (fun n hn=>Dp (.inr (by rw[hn,h1];decide)) (.inl GW) (.inl GP))];exact CD a b c k s _ [t] _ w h hs ht aM aJ aO (A2 _) (.uw1 t h1 (Bn.of aO aK) rfl)
 by_cases h4:al.length=4
 ·rw[GJ (.inr (JT JN Kg Kw)) (.inr GC)];by_cases hb:(BH al).length=4
  ·have aQ:=Mm (hb.trans h4.symm);rw[if_pos aQ];obtain⟨n,hn⟩:∃n,al.map Be=n:=⟨_,rfl⟩;have hnum:=L4 aQ;rw[hn]at hnum⊢;have hl:n.length=4:=by rw[←hn,Ay,h4]
   match n,hl with
   |[n0,n1,n2,n3],_=>
    rw[show Iq k Cs [n0,n1,n2,n3]=Fp k (JS k.img n0 n1 n2 n3)from by unfold Iq;rw[if_pos ⟨rfl,rfl⟩];rfl];exact Jp a b c k s _ al _ w h hs ht aM aJ aO aZ (.switch n0 n1 n2 n3 h4 hnum)
  ·rw[if_neg (by rw[Vy (by rw[h4];exact hb)];simp)];exact CD a b c k s _ al _ w h hs ht aM aJ aO aZ (.uw4 h4 (Bn.of aO aK) hb)
 ·rw[DK (.inl h1) (.inr GC) (fun n hn=>Dp (.inr (by rw[hn];exact h4)) (.inl GW) (.inl GP))];exact CD a b c k s _ al _ w h hs ht aM aJ aO aZ (.uwn (Bn.of aO aK) h1 h4)
theorem Tj(a b c:Value)(k:BU)(s:ByteArray)(al:List ByteArray)(w:World)(h:BV w a b c k)(hs:BL k)(ht:Ck w)(aM:s.size≤1048576)(aJ:CA s=false)(aO:AM s 32=EG::al)(aK:al≠[]):Calls prog 13 #[.agg #[a,b,c],.string s] w (Dd w (I5 k EG al)):=by
 have aZ:1≤al.length:=by have h1:al.length≠0:=fun e=>aK (List.length_eq_zero_iff.1 e);omega
 by_cases h1:al.length=1
 ·obtain⟨t,rfl⟩:=List.length_eq_one_iff.1 h1;rw[DK (.inr (JT LD M3 Mh)) (.inr Jd) (fun n hn=>Dp (.inl Fg) (.inr (by rw[hn,h1];decide)) (.inl J6))];exact CD a b c k s _ [t] _ w h hs ht aM aJ aO (A2 _) (.uf1 t h1 (Bn.of aO aK) rfl)
 by_cases h2:al.length=2
 ·rw[GJ (.inr (JT LD M3 Mh)) (.inr Jd)];by_cases hb:(BH al).length=2
  ·have aQ:=Mm (hb.trans h2.symm);rw[if_pos aQ];obtain⟨n,hn⟩:∃n,al.map Be=n:=⟨_,rfl⟩;have hnum:=L4 aQ;rw[hn]at hnum⊢;have hl:n.length=2:=by rw[←hn,Ay,h2]
   match n,hl with
   |[n0,n1],_=>
    rw[show Iq k EG [n0,n1]=Fp k (LE k.img n0 n1)from by unfold Iq;rw[if_neg (fun e=>Fg e.1),if_pos ⟨rfl,rfl⟩];rfl];exact Jp a b c k s _ al _ w h hs ht aM aJ aO aZ (.flip n0 n1 h2 hnum)
  ·rw[if_neg (by rw[Vy (by rw[h2];exact hb)];simp)];exact CD a b c k s _ al _ w h hs ht aM aJ aO aZ (.uf2 h2 (Bn.of aO aK) hb)
 ·rw[DK (.inl h1) (.inr Jd) (fun n hn=>Dp (.inl Fg) (.inr (by rw[hn];exact h2)) (.inl J6))];exact CD a b c k s _ al _ w h hs ht aM aJ aO aZ (.ufn (Bn.of aO aK) h1 h2)
theorem Tw(a b c:Value)(k:BU)(s:ByteArray)(al:List ByteArray)(w:World)(h:BV w a b c k)(hs:BL k)(ht:Ck w)(aM:s.size≤1048576)(aJ:CA s=false)(aO:AM s 32=Ec::al)(aK:al≠[]):Calls prog 13 #[.agg #[a,b,c],.string s] w (Dd w (I5 k Ec al)):=by
 have aZ:1≤al.length:=by have h1:al.length≠0:=fun e=>aK (List.length_eq_zero_iff.1 e);omega
 by_cases h1:al.length=1
 ·obtain⟨t,rfl⟩:=List.length_eq_one_iff.1 h1;rw[DK (.inr (JT Lu Mc LQ)) (.inr J5) (fun n hn=>Dp (.inl Fa) (.inl Gp) (.inr (by rw[hn,h1];decide)))];exact CD a b c k s _ [t] _ w h hs ht aM aJ aO (A2 _) (.ul1 t h1 (Bn.of aO aK) rfl)
 by_cases h2:al.length=2
 ·rw[GJ (.inr (JT Lu Mc LQ)) (.inr J5)];by_cases hb:(BH al).length=2
  ·have aQ:=Mm (hb.trans h2.symm);rw[if_pos aQ];obtain⟨n,hn⟩:∃n,al.map Be=n:=⟨_,rfl⟩;have hnum:=L4 aQ;rw[hn]at hnum⊢;have hl:n.length=2:=by rw[←hn,Ay,h2]
   match n,hl with
   |[n0,n1],_=>
    rw[show Iq k Ec [n0,n1]=(k,if BQ k.img n0 n1=[]then C7 else AK (BQ k.img n0 n1))from by unfold Iq;rw[if_neg (fun e=>Fa e.1),if_neg (fun e=>Gp e.1),if_pos ⟨rfl,rfl⟩];rfl];by_cases hls:BQ k.img n0 n1=[]
    ·rw[if_pos hls];exact Jp a b c k s _ al _ w h hs ht aM aJ aO aZ (.line0 n0 n1 h2 hnum hls)
    ·rw[if_neg hls];exact Jp a b c k s _ al _ w h hs ht aM aJ aO aZ (.line1 n0 n1 h2 hnum hls)
  ·rw[if_neg (by rw[Vy (by rw[h2];exact hb)];simp)];exact CD a b c k s _ al _ w h hs ht aM aJ aO aZ (.ul2 h2 (Bn.of aO aK) hb)
 ·rw[DK (.inl h1) (.inr J5) (fun n hn=>Dp (.inl Fa) (.inl Gp) (.inr (by rw[hn];exact h2)))];exact CD a b c k s _ al _ w h hs ht aM aJ aO aZ (.uln (Bn.of aO aK) h1 h2)
theorem TV(a b c:Value)(k:BU)(s:ByteArray)(al:List ByteArray)(w:World)(h:BV w a b c k)(hs:BL k)(ht:Ck w)(aM:s.size≤1048576)(aJ:CA s=false)(aO:AM s 32=Fy::al)(aK:al≠[]):Calls prog 13 #[.agg #[a,b,c],.string s] w (Dd w (I5 k Fy al)):=by
 have aZ:1≤al.length:=by have h1:al.length≠0:=fun e=>aK (List.length_eq_zero_iff.1 e);omega
 by_cases h1:al.length=1
 ·obtain⟨t,rfl⟩:=List.length_eq_one_iff.1 h1;rw[DK (.inr (JT Lw LN M8)) (.inl (by rw[h1];decide)) (fun n hn=>Dp (.inl Kk) (.inl LR) (.inl Mf))];exact CD a b c k s _ [t] _ w h hs ht aM aJ aO (A2 _) (.us1 t h1 (Bn.of aO aK) rfl)
 by_cases h2:al.length=2
 ·match al,h2,aO,aK,aZ with
  |[ta,tb],h2,aO,aK,aZ=>
   rw[RB];unfold No;cases ha:C6 ta
   ·rw[if_neg Jj];exact CD a b c k s _ [ta,tb] _ w h hs ht aM aJ aO aZ (.us2 ta tb h2 rfl rfl (Bn.of aO aK) ha)
   ·cases hb:C6 tb
    ·rw[if_neg Jj];exact CD a b c k s _ [ta,tb] _ w h hs ht aM aJ aO aZ (.us3 ta tb h2 rfl rfl (Bn.of aO aK) ha hb)
    ·rw[if_pos ⟨rfl,rfl⟩];exact Jh a b c k s _ [ta,tb] _ w h hs ht aM aJ aO aZ (.sums ta tb h2 rfl rfl ha hb (MM aO aM Jj) (MM aO aM Jj))
 ·rw[DK (.inr (JT Lw LN M8)) (.inl h2) (fun n hn=>Dp (.inl Kk) (.inl LR) (.inl Mf))];exact CD a b c k s _ al _ w h hs ht aM aJ aO aZ (.usn (Bn.of aO aK) h1 h2)
theorem Ui(a b c:Value)(k:BU)(s:ByteArray)(w:World)(h:BV w a b c k)(hs:BL k)(ht:Ck w)(aM:s.size≤1048576):Calls prog 13 #[.agg #[a,b,c],.string s] w (Dd w (Kj k s)):=by
 cases aJ:CA s
 ·obtain⟨wd,al,aO⟩:∃wd al,AM s 32=wd::al:=by
   have hp:=IL s 32;cases e:AM s 32 with
   |nil=>rw[e]at hp;simp at hp
   |cons wd al=>exact⟨wd,al,rfl⟩
  by_cases aK:al=[]
  ·subst aK;have:=UN aO;subst this;exact Yh a b c k wd w h hs ht aM aJ aO
  ·rw[UB aJ aO aK];by_cases hwImage:wd=Db
   ·subst hwImage;exact Rj a b c k s al w h hs ht aM aJ aO aK
   by_cases hwSums:wd=Fy
   ·subst hwSums;exact TV a b c k s al w h hs ht aM aJ aO aK
   by_cases hwSwitch:wd=Cs
   ·subst hwSwitch;exact R0 a b c k s al w h hs ht aM aJ aO aK
   by_cases hwFlip:wd=EG
   ·subst hwFlip;exact Tj a b c k s al w h hs ht aM aJ aO aK
   by_cases hwPath:wd=Ej
   ·subst hwPath;exact Ti a b c k s al w h hs ht aM aJ aO aK
   by_cases hwNear:wd=EH
   ·subst hwNear;exact TF a b c k s al w h hs ht aM aJ aO aK
   by_cases hwLine:wd=Ec
   ·subst hwLine;exact Tw a b c k s al w h hs ht aM aJ aO aK
   have aZ:1≤al.length:=by have h1:al.length≠0:=fun e=>aK (List.length_eq_zero_iff.1 e);omega
   rw[DK (.inr (JT hwImage hwPath hwNear)) (.inr hwSums) (fun n hn=>Dp (.inl hwSwitch) (.inl hwFlip) (.inl hwLine))];by_cases h1:al.length=1
   ·obtain⟨t,rfl⟩:=List.length_eq_one_iff.1 h1;exact Ek a b c k s wd [t] _ w h hs ht aM aJ aO (A2 _) (.uo1 _ t h1 (Bn.of aO aK) (AN rfl hwImage) (AN rfl hwSums) (AN rfl hwSwitch) (AN rfl hwFlip) (AN rfl hwPath) (AN rfl hwNear) (AN rfl hwLine) rfl)
   ·exact Ek a b c k s wd al _ w h hs ht aM aJ aO aZ (.uon _ (Bn.of aO aK) (AN rfl hwImage) (AN rfl hwSums) (AN rfl hwSwitch) (AN rfl hwFlip) (AN rfl hwPath) (AN rfl hwNear) (AN rfl hwLine) h1)
 ·rw[U0 aJ];exact Zy a b c k s w h hs aJ
