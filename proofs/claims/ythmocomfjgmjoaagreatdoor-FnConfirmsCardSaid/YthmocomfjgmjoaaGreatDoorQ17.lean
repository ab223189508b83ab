/- Base. -/
import Derived.Test.YthmocomfjgmjoaaGreatDoorQ11
import Derived.Test.YthmocomfjgmjoaaGreatDoorQ12
import Derived.Test.YthmocomfjgmjoaaGreatDoorQ10
set_option maxHeartbeats 1600000
namespace Go.Proofs.YthmocomfjgmjoaaGreatDoor
open Go.RowKit
def Di(m t:List (List Int)):Bool:=Af m&&(Af t&&(decide (m.length=t.length)&&decide ((m.headD []).length=(t.headD []).length)))
theorem Dw{r c:Nat}{m:List (List Int)}(h:Ac r c m)(h1:1≤r):m.length=r∧(m.headD []).length=c:=by
 refine⟨h.1,?_⟩;cases m with
 |nil=>have:=h.1;simp at this;omega
 |cons a l=>exact(h.2 a (by simp)).1
inductive VY(m t:List (List Int)):Prop
 |bad1:Af m=false→Di m t=false→VY m t
 |bad2:Af m=true→Af t=false→Di m t=false→VY m t
 |ok (r c r2 c2:Nat):Af m=true→Af t=true→1≤r→r≤5→1≤c→c≤5→Ac r c m→1≤r2→r2≤5→1≤c2→c2≤5→Ac r2 c2 t→Di m t=(decide (r=r2)&&decide (c=c2))→VY m t
theorem V9(m t:List (List Int)):VY m t:=by
 cases h1:Af m
 ·exact .bad1 h1 (by unfold Di;rw[h1];rfl)
 cases h2:Af t
 ·exact .bad2 h1 h2 (by unfold Di;rw[h1,h2];rfl)
 obtain⟨r,c,a1,a2,a3,a4,a5⟩:=Ad h1;obtain⟨r2,c2,b1,b2,b3,b4,b5⟩:=Ad h2;refine .ok r c r2 c2 h1 h2 a1 a2 a3 a4 a5 b1 b2 b3 b4 b5 ?_;unfold Di;rw[h1,h2,(Dw a5 a1).1,(Dw a5 a1).2,(Dw b5 b1).1,(Dw b5 b1).2];rfl
theorem VC{m t:List (List Int)}(h:Di m t=true):∃r c,1≤r∧r≤5∧1≤c∧c≤5∧Ac r c m∧Ac r c t:=by
 cases V9 m t with
 |bad1 _ e=>rw[e] at h;cases h
 |bad2 _ _ e=>rw[e] at h;cases h
 |ok r c r2 c2 _ _ a1 a2 a3 a4 a5 _ _ _ _ b5 e=>
  rw[e,Bool.and_eq_true,decide_eq_true_eq,decide_eq_true_eq] at h;obtain⟨rfl,rfl⟩:=h;exact⟨r,c,a1,a2,a3,a4,a5,b5⟩
theorem Rm(v:Value)(m:List (List Int))(b:Bool)(w:World)(hv:Ak w v m)(hb:Af m=b):∀n,Calls Tryz.prog 84 #[v] (w.drewN n) fun e w'=>e=.returned (.bool b)∧w'=w.drewN n:=
 fun n=>(AP _ m (w.drewN n) (Ak.keep hv (below_drewN (Below.refl _ _) n))).mono fun e w' ⟨he,hw⟩=>⟨by rw[he,hb],hw.symm⟩
theorem Nj(v v2:Value)(m t:List (List Int))(w:World)(hv:Ak w v m)(aW:Ak w v2 t):Calls Tryz.prog 98 #[v,v2] w fun e w'=>e=.returned (.bool (Di m t))∧Below w.heap.size w w':=by
 cases V9 m t with
 |bad1 h1 e=>
  have fT:=Z (Rm v m false w hv h1);have He:=Z e;obtain⟨a,cap,rfl,-⟩:=hv;obtain⟨a2,cap2,rfl,-⟩:=aW;clear h1 e;go_enter Tryz.func98,Tryz.ntmps98;go_wp2;go_quiet ((first|(go_at_call 84;with_reducible exact Calls.quiet_of_same (fT.o _))));go_wp2
  go_ret
  exact⟨AI He.o.symm,below_drewN (Below.refl _ _) _⟩
 |bad2 h1 h2 e=>
  have fT:=Z (Rm v m true w hv h1);have iU:=Z (Rm v2 t false w aW h2);have He:=Z e;obtain⟨a,cap,rfl,-⟩:=hv;obtain⟨a2,cap2,rfl,-⟩:=aW;clear h1 h2 e;go_enter Tryz.func98,Tryz.ntmps98;go_wp2;go_quiet ((first|(go_at_call 84;with_reducible exact Calls.quiet_of_same (fT.o _))|(go_at_call 84;with_reducible exact Calls.quiet_of_same (iU.o _))));go_wp2
  go_ret
  exact⟨AI He.o.symm,below_drewN (Below.refl _ _) _⟩
 |ok r c r2 c2 h1 h2 a1 a2 a3 a4 a5 b1 b2 b3 b4 b5 e=>
  have fT:=Z (Rm v m true w hv h1);have iU:=Z (Rm v2 t true w aW h2);obtain⟨b,off,cp,rfl,hb,hm⟩:=hv.rowsT a5.trectM a1 a3;obtain⟨b',off2,cp2,rfl,au,eE⟩:=aW.rowsT b5.trectM b1 b3;obtain⟨d1,o1,k1,hc1,-⟩:=hm 0 (by omega);obtain⟨d2,o2,k2,cH,-⟩:=eE 0 (by omega);have hc1:=hc1 w (Below.refl _ _);have cH:=cH w (Below.refl _ _);rw[Nat.add_zero] at hc1 cH;have He:=Z e;clear h1 h2 e hv aW hm eE a5 b5;by_cases hr:r=r2
  ·subst hr;by_cases hc:c=c2
   ·subst hc;have Hr:=Z (show Di m t=true from by rw[He.o];simp);go_enter Tryz.func98,Tryz.ntmps98;go_wp2;go_quiet ((first|(go_at_call 84;with_reducible exact Calls.quiet_of_same (fT.o _))|(go_at_call 84;with_reducible exact Calls.quiet_of_same (iU.o _))));go_wp2
    go_ret
    exact⟨AI Hr.o.symm,below_drewN (Below.refl _ _) _⟩
   ·have Hr:=Z (show Di m t=false from by rw[He.o,decide_eq_false hc,Bool.and_false]);have pK:((c:Int)==(c2:Int))=false:=by rw[beq_eq_false_iff_ne];omega
    have zN:¬(c:Int)=(c2:Int):=by omega
    go_enter Tryz.func98,Tryz.ntmps98;go_wp2;go_quiet ((first|(go_at_call 84;with_reducible exact Calls.quiet_of_same (fT.o _))|(go_at_call 84;with_reducible exact Calls.quiet_of_same (iU.o _))));go_wp2
    go_ret
    exact⟨AI Hr.o.symm,below_drewN (Below.refl _ _) _⟩
  ·have Hr:=Z (show Di m t=false from by rw[He.o,decide_eq_false hr];rfl);have lp:((r:Int)==(r2:Int))=false:=by rw[beq_eq_false_iff_ne];omega
   have zO:¬(r:Int)=(r2:Int):=by omega
   go_enter Tryz.func98,Tryz.ntmps98;go_wp2;go_quiet ((first|(go_at_call 84;with_reducible exact Calls.quiet_of_same (fT.o _))|(go_at_call 84;with_reducible exact Calls.quiet_of_same (iU.o _))));go_wp2
   go_ret
   exact⟨AI Hr.o.symm,below_drewN (Below.refl _ _) _⟩
def Ec(m t:List (List Int)):Bool:=Di m t&&(decide (A6 m=A6 t)&&decide (A8 m=A8 t))
theorem Nh(v v2:Value)(m t:List (List Int))(w:World)(hv:Ak w v m)(aW:Ak w v2 t):Calls Tryz.prog 160 #[v,v2] w fun e w'=>e=.returned (.bool (Ec m t))∧Below w.heap.size w w':=by
 have Hv:=Z hv;have aj:=Z aW;obtain⟨a,cap,rfl,-⟩:=hv;obtain⟨a2,cap2,rfl,-⟩:=aW;have Hr:=Z (show Ec m t=(Di m t&&(decide (A6 m=A6 t)&&decide (A8 m=A8 t))) from rfl);obtain⟨p,hp⟩:∃p,p=Di m t:=⟨_,rfl⟩;obtain⟨q,hq⟩:∃q,q=decide (A6 m=A6 t):=⟨_,rfl⟩;obtain⟨s,hs⟩:∃s,s=decide (A8 m=A8 t):=⟨_,rfl⟩;rw[←hp,←hq,←hs] at Hr;have Hp:=Z hp;have Hq:=Z hq;have Hs:=Z hs;clear hp hq hs;go_enter Tryz.func160,Tryz.ntmps160;go_wp2_with (fail);refine(Nj _ _ m t _ Hv.o aj.o).mono ?_;rintro e w1 ⟨rfl,b1⟩;rw[←Hp.o];cases p
 ·go_wp2
  go_ret
  exact⟨AI Hr.o.symm,b1⟩
 go_wp2_with (fail);refine(E7 _ _ _ (Hv.o.keep b1)).mono ?_;rintro e w2 ⟨v3,rfl,o3,b2⟩;have cI:=b1.trans_pure b2 (Nat.le_refl _);have cn:=Z o3.ints;clear o3;go_wp2_with (fail);refine(E7 _ _ _ (aj.o.keep cI)).mono ?_;rintro e w3 ⟨v4,rfl,o4,b3⟩;have dd:=cI.trans_pure b3 (Nat.le_refl _);have fc:=Z o4.ints;clear o4;go_wp2_with (fail);refine(Mx _ _ _ _ _ (cn.o.keep b3) fc.o).mono ?_;rintro e w4 ⟨rfl,n4,fS⟩;have b4:Below w3.heap.size w3 w4:=by rw[fS];exact below_drewN (Below.refl _ _) n4
 clear fS;rw[←Hq.o];have eH:=dd.trans_pure b4 (Nat.le_refl _);cases q
 ·go_wp2
  go_ret
  exact⟨AI Hr.o.symm,eH⟩
 go_wp2_with (fail);refine(EA _ _ _ (Hv.o.keep eH)).mono ?_;rintro e w5 ⟨v5,rfl,o5,b5⟩;have e8:=eH.trans_pure b5 (Nat.le_refl _);have iA:=Z o5.ints;clear o5;go_wp2_with (fail);refine(EA _ _ _ (aj.o.keep e8)).mono ?_;rintro e w6 ⟨v6,rfl,o6,b6⟩;have ju:=e8.trans_pure b6 (Nat.le_refl _);have lP:=Z o6.ints;clear o6;go_wp2_with (fail);refine(Mx _ _ _ _ _ (iA.o.keep b6) lP.o).mono ?_;rintro e w7 ⟨rfl,n7,hw7⟩;have b7:Below w6.heap.size w6 w7:=by rw[hw7];exact below_drewN (Below.refl _ _) n7
 clear hw7;rw[←Hs.o];have lO:=ju.trans_pure b7 (Nat.le_refl _);go_wp2
 go_ret
 exact⟨AI Hr.o.symm,lO⟩
def kF(l:List Nat):Nat:=l.foldl (fun k b=>2*k+b) 0
theorem A1n{l:List Nat}{n b:Nat}(h:l[n]? =some b):kF (l.take (n+1))=2*kF (l.take n)+b:=by
 unfold kF;rw[List.take_add_one,h,List.foldl_append];rfl
theorem A6m{l:List Nat}(h:∀b∈l,b≤1):∀n,kF (l.take n)<2^n:=by
 intro n;induction n with
 |zero=>simp[kF]
 |succ n ih=>
  cases e:l[n]? with
  |none=>
   rw[List.take_add_one,e];simp only[Option.toList_none,List.append_nil];have:2^n≤2^(n+1):=Nat.pow_le_pow_right (by decide) (by omega);omega
  |some b=>
   rw[A1n e,Nat.pow_succ];have:=h b (List.mem_of_getElem? e);omega
theorem A5r(l:List Nat):kF l=QA l:=by
 unfold kF;rw[ZM];simp
theorem A2k{r c y x:Nat}(g:List (List Int))(hy:y<r)(hx:x<c):(HZ r c g)[y*c+x]? =some (Al g y x).toNat:=by
 have aH:y*c+x<r*c:=by
  have:(y+1)*c≤r*c:=Nat.mul_le_mul_right c hy;rw[Nat.add_mul,Nat.one_mul] at this;omega
 unfold HZ;rw[List.getElem?_map,List.getElem?_range aH,Option.map_some,show(y*c+x) /c=y from by rw[Nat.mul_comm,Nat.mul_add_div (by omega),Nat.div_eq_of_lt hx];rfl,show(y*c+x) % c=x from by rw[Nat.mul_comm,Nat.mul_add_mod,Nat.mod_eq_of_lt hx]]
theorem Jg(v:Value)(m:List (List Int))(r c:Nat)(w:World)(hv:Ak w v m)(hs:Ac r c m)(hr1:1≤r)(hr5:r≤5)(hc1:1≤c)(hc5:c≤5):Calls Tryz.prog 161 #[v] w fun e w'=>e=.returned (.int .i64 (BI r c m))∧w=w':=by
 obtain⟨b,off,cp,rfl,hb,hm⟩:=hv.rowsT hs.trectM hr1 hc1;have Hm:=Z hm;have oQ:=Z (show ∀n,n≤r*c→kF ((HZ r c m).take n)<33554432+1 from fun n hn=>by
  have h1:=A6m (N6 hs) n;have h2:2^n≤2^25:=Nat.pow_le_pow_right (by decide) (Nat.le_trans hn (Nat.mul_le_mul hr5 hc5));have h3:(2:Nat)^25=33554432:=by decide
  omega)
 have aJ:=Z (show ∀y x,y<r→x<c→kF ((HZ r c m).take (y*c+(x+1)))=2*kF ((HZ r c m).take (y*c+x))+(Al m y x).toNat from fun y x hy hx=>A1n (A2k m hy hx));have i8:=Z (AE hs);have iq:=Z (show kF ((HZ r c m).take (r*c))=BI r c m from by rw[List.take_of_length_le (by rw[Nt];exact Nat.le_refl _),A5r];rfl);obtain⟨F,hF⟩:∃F:Nat→Nat,F=fun n=>kF ((HZ r c m).take n):=⟨_,rfl⟩;have xH:=Z (show ∀n,n≤r*c→F n<33554433 from fun n hn=>by rw[hF];exact oQ.o n hn);have HsF:=Z (show ∀y x,y<r→x<c→F (y*c+(x+1))=2*F (y*c+x)+(Al m y x).toNat from fun y x hy hx=>by rw[hF];exact aJ.o y x hy hx);have HeF:=Z (show F (r*c)=BI r c m from by rw[hF];exact iq.o);have H0F:=Z (show F (0*c)=0 from by rw[hF,Nat.zero_mul];rfl);clear hm hv hF oQ aJ iq;go_enter Tryz.func161,Tryz.ntmps161;go_wp2;go_loopw [3,5,7,10] (fun n _ _ i wr=>∃y:Nat,y≤r∧i=.int .i64 y∧n=.int .i64 (F (y*c):Nat)∧w=wr) (fun _ _ _ i _=>r-(intOf i).toNat)
 case atStart=>exact⟨0,Nat.zero_le _,rfl,by rw[H0F.o];rfl,rfl⟩
 case round=>
  obtain⟨y,hy,rfl,rfl,rfl⟩:=hrel;by_cases gO:y<r
  ·obtain⟨br,orr,cr,h1,h2⟩:=Hm.o y gO;have e1:=h1 w (Below.refl _ _);have H2:=Z h2;obtain⟨N0,l7⟩:∃N0,N0=F (y*c):=⟨_,rfl⟩;have HN0:=Z (show F (y*c+0)=N0 from by rw[l7];rfl);rw[←l7];clear h1 h2 l7;go_wp2;go_loopw [3,7,16] (fun n _ i wr=>∃x:Nat,x≤c∧i=.int .i64 x∧n=.int .i64 (F (y*c+x):Nat)∧w=wr) (fun _ _ i _=>c-(intOf i).toNat)
   case atStart=>exact⟨0,Nat.zero_le _,rfl,by rw[HN0.o],rfl⟩
   case round=>
    clear e1 HN0;obtain⟨x,hx,rfl,rfl,rfl⟩:=hrel;by_cases hxc:x<c
    ·have e2:=H2.o x hxc w (Below.refl _ _);have bE:=HsF.o y x gO hxc;have fd:=xH.o (y*c+x) (by
      have:(y+1)*c≤r*c:=Nat.mul_le_mul_right c gO;rw[Nat.add_mul,Nat.one_mul] at this;omega)
     have zP:=i8.o y x;obtain⟨D,hD⟩:∃D,D=Al m y x:=⟨_,rfl⟩;rw[←hD] at e2 bE zP;obtain⟨K,hK⟩:∃K,K=F (y*c+x):=⟨_,rfl⟩;rw[←hK] at bE fd⊢;obtain⟨d,rfl⟩:∃d:Nat,D=d:=⟨D.toNat,by omega⟩;have b9:=Z (show((F (y*c+(x+1)):Nat):Int)=2*(K:Int)+(d:Int) from by rw[bE];push_cast;rfl);clear hD hK bE;go_wp2;go_roundw
     case rel=>exact⟨x+1,by omega,by go_num,by rw[b9.o]<;>go_num,by first|rfl|trivial⟩
     case measure=>simp[intOf];omega
    ·obtain rfl:x=c:=by omega
     have Hsc:=Z (show F (y*x+x)=F ((y+1)*x) from by rw[Nat.add_mul,Nat.one_mul]);rw[Hsc.o];go_wp2;go_roundw
     case rel=>exact⟨y+1,by omega,by go_num,rfl,by first|rfl|trivial⟩
     case measure=>simp[intOf];omega
  ·obtain rfl:y=r:=by omega
   rw[HeF.o];go_wp2
   go_ret
   exact⟨rfl,rfl⟩
theorem N7(v:Value)(m:List (List Int))(b:Bool)(w:World)(hv:Ak w v m)(hb:Af m=b):∀n,Calls Tryz.prog 138 #[v] (w.drewN n) fun e w'=>e=.returned (.bool b)∧w'=w.drewN n:=
 fun n=>(AU _ m (w.drewN n) (Ak.keep hv (below_drewN (Below.refl _ _) n))).mono fun e w' ⟨he,hw⟩=>⟨by rw[he,hb],hw.symm⟩
theorem Vv(v v2:Value)(m t:List (List Int))(w:World)(hv:Ak w v m)(aW:Ak w v2 t):Calls Tryz.prog 205 #[v,v2] w fun e w'=>∃z:Int,e=.returned (.int .i64 z)∧(decide (z≥0)=Di m t)∧Below w.heap.size w w':=by
 cases V9 m t with
 |bad1 h1 e=>
  have fT:=Z (N7 v m false w hv h1);have He:=Z e;obtain⟨a,cap,rfl,-⟩:=hv;obtain⟨a2,cap2,rfl,-⟩:=aW;clear h1 e;go_enter Tryz.func205,Tryz.ntmps205;go_wp2;go_quiet ((first|(go_at_call 138;with_reducible exact Calls.quiet_of_same (fT.o _))));go_wp2
  go_ret
  exact⟨-1,rfl,by rw[He.o];rfl,below_drewN (Below.refl _ _) _⟩
 |bad2 h1 h2 e=>
  have fT:=Z (N7 v m true w hv h1);have iU:=Z (N7 v2 t false w aW h2);have He:=Z e;obtain⟨a,cap,rfl,-⟩:=hv;obtain⟨a2,cap2,rfl,-⟩:=aW;clear h1 h2 e;go_enter Tryz.func205,Tryz.ntmps205;go_wp2;go_quiet ((first|(go_at_call 138;with_reducible exact Calls.quiet_of_same (fT.o _))|(go_at_call 138;with_reducible exact Calls.quiet_of_same (iU.o _))));go_wp2
  go_ret
  exact⟨-1,rfl,by rw[He.o];rfl,below_drewN (Below.refl _ _) _⟩
 |ok r c r2 c2 h1 h2 a1 a2 a3 a4 a5 b1 b2 b3 b4 b5 e=>
  have fT:=Z (N7 v m true w hv h1);have iU:=Z (N7 v2 t true w aW h2);obtain⟨b,off,cp,rfl,hb,hm⟩:=hv.rowsT a5.trectM a1 a3;obtain⟨b',off2,cp2,rfl,au,eE⟩:=aW.rowsT b5.trectM b1 b3;have Hm:=Z hm;have pP:=Z eE;obtain⟨d1,o1,k1,hc1,-⟩:=hm 0 (by omega);obtain⟨d2,o2,k2,cH,-⟩:=eE 0 (by omega);have hc1:=hc1 w (Below.refl _ _);have cH:=cH w (Below.refl _ _);rw[Nat.add_zero] at hc1 cH;have He:=Z e;clear h1 h2 e hv aW hm eE a5 b5;by_cases hr:r=r2
  ·subst hr;by_cases hc:c=c2
   ·subst hc;have Hr:=Z (show Di m t=true from by rw[He.o];simp);go_enter Tryz.func205,Tryz.ntmps205;go_wp2;go_quiet ((first|(go_at_call 138;with_reducible exact Calls.quiet_of_same (fT.o _))|(go_at_call 138;with_reducible exact Calls.quiet_of_same (iU.o _))));clear hc1 cH;obtain⟨wz,hwz⟩:∃wz,wz=w.drewN nq:=⟨_,rfl⟩;have jF:Below w.heap.size w wz:=by rw[hwz];exact below_drewN (Below.refl _ _) nq
    rw[←hwz];clear hwz;go_wp2;go_loopw [5,6,7,8,9,38] (fun n _ _ _ _ i wr=>∃(y z:Nat),y≤r∧i=.int .i64 y∧n=.int .i64 z∧z≤y*5∧wz=wr) (fun _ _ _ _ _ i _=>r-(intOf i).toNat)
    case atStart=>exact⟨0,0,Nat.zero_le _,rfl,rfl,Nat.le_refl _,rfl⟩
    case round=>
     obtain⟨y,z,hy,rfl,rfl,hz,rfl⟩:=hrel;by_cases gO:y<r
     ·obtain⟨br,orr,cr,h1,h2⟩:=Hm.o y gO;obtain⟨bg,og,cg,h3,h4⟩:=pP.o y gO;have e1:=h1 wz jF;have e2:=h3 wz jF;have H2:=Z h2;have H4:=Z h4;clear h1 h2 h3 h4;go_wp2;go_loopw [5,8,9,45] (fun n _ _ i wr=>∃(x z2:Nat),x≤c∧i=.int .i64 x∧n=.int .i64 z2∧z2≤z+x∧wz=wr) (fun _ _ _ i _=>c-(intOf i).toNat)
      case atStart=>exact⟨0,z,Nat.zero_le _,rfl,rfl,Nat.le_refl _,rfl⟩
      case round=>
       obtain⟨x,z2,hx,rfl,rfl,bT,rfl⟩:=hrel;by_cases hxc:x<c
       ·have e3:=H2.o x hxc wz jF;have e4:=H4.o x hxc wz jF;obtain⟨D,hD⟩:∃D,Al m y x=D:=⟨_,rfl⟩;obtain⟨X,hX⟩:∃X,Al t y x=X:=⟨_,rfl⟩;rw[hD] at e3;rw[hX] at e4;clear hD hX;by_cases hDX:D=X
        ·subst hDX;go_wp2;go_roundw
         case rel=>exact⟨x+1,z2,by omega,by go_num,rfl,by omega,by first|rfl|trivial⟩
         case measure=>simp[intOf];omega
        ·have pT:(D==X)=false:=by rw[beq_eq_false_iff_ne];exact hDX
         go_wp2;go_roundw
         case rel=>exact⟨x+1,z2+1,by omega,by go_num,by go_num,by omega,by first|rfl|trivial⟩
         case measure=>simp[intOf];omega
       ·obtain rfl:x=c:=by omega
        go_wp2;go_roundw
        case rel=>exact⟨y+1,z2,by omega,by go_num,rfl,by omega,by first|rfl|trivial⟩
        case measure=>simp[intOf];omega
     ·go_wp2
      go_ret
      exact⟨z,rfl,by rw[Hr.o,decide_eq_true_eq];omega,jF⟩
   ·have Hr:=Z (show Di m t=false from by rw[He.o,decide_eq_false hc,Bool.and_false]);have pK:((c:Int)==(c2:Int))=false:=by rw[beq_eq_false_iff_ne];omega
    have zN:¬(c:Int)=(c2:Int):=by omega
    go_enter Tryz.func205,Tryz.ntmps205;go_wp2;go_quiet ((first|(go_at_call 138;with_reducible exact Calls.quiet_of_same (fT.o _))|(go_at_call 138;with_reducible exact Calls.quiet_of_same (iU.o _))));go_wp2
    go_ret
    exact⟨-1,rfl,by rw[Hr.o];rfl,below_drewN (Below.refl _ _) _⟩
  ·have Hr:=Z (show Di m t=false from by rw[He.o,decide_eq_false hr];rfl);have lp:((r:Int)==(r2:Int))=false:=by rw[beq_eq_false_iff_ne];omega
   have zO:¬(r:Int)=(r2:Int):=by omega
   go_enter Tryz.func205,Tryz.ntmps205;go_wp2;go_quiet ((first|(go_at_call 138;with_reducible exact Calls.quiet_of_same (fT.o _))|(go_at_call 138;with_reducible exact Calls.quiet_of_same (iU.o _))));go_wp2
   go_ret
   exact⟨-1,rfl,by rw[Hr.o];rfl,below_drewN (Below.refl _ _) _⟩
theorem NE(v v2:Value)(m t:List (List Int))(w:World)(hv:Ak w v m)(aW:Ak w v2 t):Calls Tryz.prog 271 #[v,v2] w fun e w'=>e=.returned (.bool (Ec m t))∧Below w.heap.size w w':=by
 have Hv:=Z hv;have aj:=Z aW;obtain⟨a,cap,rfl,-⟩:=hv;obtain⟨a2,cap2,rfl,-⟩:=aW;have Hr:=Z (show Ec m t=(Di m t&&(decide (A6 m=A6 t)&&decide (A8 m=A8 t))) from rfl);obtain⟨p,hp⟩:∃p,p=Di m t:=⟨_,rfl⟩;obtain⟨q,hq⟩:∃q,q=decide (A6 m=A6 t):=⟨_,rfl⟩;obtain⟨s,hs⟩:∃s,s=decide (A8 m=A8 t):=⟨_,rfl⟩;rw[←hp,←hq,←hs] at Hr;have Hp:=Z hp;have Hq:=Z hq;have Hs:=Z hs;clear hp hq hs;go_enter Tryz.func271,Tryz.ntmps271;go_wp2_with (fail);refine(Vv _ _ m t _ Hv.o aj.o).mono ?_;rintro e w1 ⟨z,rfl,hz,b1⟩;rw[←Hp.o] at hz;cases p
 ·have bT:¬(0:Int)≤z:=by rw[decide_eq_false_iff_not] at hz;exact hz
  have eB:decide ((0:Int)≤z)=false:=decide_eq_false bT;go_wp2
  go_ret
  exact⟨AI Hr.o.symm,b1⟩
 have bT:(0:Int)≤z:=by rw[decide_eq_true_eq] at hz;exact hz
 have eB:decide ((0:Int)≤z)=true:=decide_eq_true bT;go_wp2_with (fail);refine(FE _ _ _ (Hv.o.keep b1)).mono ?_;rintro e w2 ⟨v3,rfl,o3,b2⟩;have cI:=b1.trans_pure b2 (Nat.le_refl _);have cn:=Z o3.ints;clear o3;go_wp2_with (fail);refine(FE _ _ _ (aj.o.keep cI)).mono ?_;rintro e w3 ⟨v4,rfl,o4,b3⟩;have dd:=cI.trans_pure b3 (Nat.le_refl _);have fc:=Z o4.ints;clear o4;go_wp2_with (fail);refine(JV _ _ _ _ _ (cn.o.keep b3) fc.o).mono ?_;rintro e w4 ⟨rfl,n4,fS⟩;have b4:Below w3.heap.size w3 w4:=by rw[fS];exact below_drewN (Below.refl _ _) n4
 clear fS;rw[←Hq.o];have eH:=dd.trans_pure b4 (Nat.le_refl _);cases q
 ·go_wp2
  go_ret
  exact⟨AI Hr.o.symm,eH⟩
 go_wp2_with (fail);refine(GH _ _ _ (Hv.o.keep eH)).mono ?_;rintro e w5 ⟨v5,rfl,o5,b5⟩;have e8:=eH.trans_pure b5 (Nat.le_refl _);have iA:=Z o5.ints;clear o5;go_wp2_with (fail);refine(GH _ _ _ (aj.o.keep e8)).mono ?_;rintro e w6 ⟨v6,rfl,o6,b6⟩;have ju:=e8.trans_pure b6 (Nat.le_refl _);have lP:=Z o6.ints;clear o6;go_wp2_with (fail);refine(JV _ _ _ _ _ (iA.o.keep b6) lP.o).mono ?_;rintro e w7 ⟨rfl,n7,hw7⟩;have b7:Below w6.heap.size w6 w7:=by rw[hw7];exact below_drewN (Below.refl _ _) n7
 clear hw7;rw[←Hs.o];have lO:=ju.trans_pure b7 (Nat.le_refl _);go_wp2
 go_ret
 exact⟨AI Hr.o.symm,lO⟩
theorem Ra(v:Value)(m:List (List Int))(r c:Nat)(w:World)(hv:Ak w v m)(hs:Ac r c m)(hr1:1≤r)(hc1:1≤c):Calls Tryz.prog 272 #[v] w fun e w'=>e=.returned (.bool (decide (r≤4)&&decide (c≤4)))∧w=w':=by
 obtain⟨b,off,cp,rfl,hb,hm⟩:=hv.rowsT hs.trectM hr1 hc1;obtain⟨d1,o1,k1,hc,-⟩:=hm 0 (by omega);have hc:=hc w (Below.refl _ _);rw[Nat.add_zero] at hc;clear hm hv;by_cases h1:r≤4
 ·have Hr:=Z (show(decide (r≤4)&&decide (c≤4))=decide ((c:Int)≤4) from by rw[decide_eq_true h1,Bool.true_and];exact decide_eq_decide.2 (by omega));have h2:decide ((r:Int)≤4)=true:=by rw[decide_eq_true_eq];omega
  go_enter Tryz.func272,Tryz.ntmps272;go_wp2
  go_ret
  exact⟨AI Hr.o.symm,rfl⟩
 ·have Hr:=Z (show(decide (r≤4)&&decide (c≤4))=false from by rw[decide_eq_false h1];rfl);have h2:decide ((r:Int)≤4)=false:=by rw[decide_eq_false_iff_not];omega
  have h3:¬(r:Int)≤4:=by omega
  go_enter Tryz.func272,Tryz.ntmps272;go_wp2
  go_ret
  exact⟨by first|exact AI Hr.o.symm|rfl,rfl⟩
theorem UQ(v v2:Value)(gs:List (List (List Int)))(t:List (List Int))(w:World)(hv:Gm w v gs)(aW:Ak w v2 t):Calls Tryz.prog 274 #[v,v2] w fun e w'=>∃z:Int,e=.returned (.int .i64 z)∧((z=-1∧∀x∈gs,x≠t)∨∃k:Nat,z=k∧gs[k]? =some t)∧Below w.heap.size w w':=by
 have Hv:=Z hv;have aj:=Z aW;obtain⟨a,cap,rfl,-,cY,-⟩:=hv;obtain⟨a2,cap2,rfl,-⟩:=aW;obtain⟨N,hN⟩:∃N,N=gs.length:=⟨_,rfl⟩;rw[←hN] at Hv cY⊢;have HN:=Z hN;clear hN;go_enter Tryz.func274,Tryz.ntmps274;go_wp2;go_loopw [5,6,9] (fun _ _ i wr=>∃k:Nat,k≤N∧i=.int .i64 k∧Hid (∀(j:Nat)(x:List (List Int)),j<k→gs[j]? =some x→x≠t)∧Hid (Below w.heap.size w wr)) (fun _ _ i _=>N-(intOf i).toNat)
 case atStart=>exact⟨0,Nat.zero_le _,rfl,Z fun j x h=>absurd h (Nat.not_lt_zero _),Z (Below.refl _ _)⟩
 case round=>
  obtain⟨k,hk,rfl,fh,Hb⟩:=hrel;by_cases aH:k<N
  ·obtain⟨x,hx⟩:∃x,gs[k]? =some x:=⟨_,List.getElem?_eq_getElem (by rw[←HN.o];exact aH)⟩;obtain⟨gb,go,gc,he,ai,-⟩:=Hv.o.inv_ne (by rw[←HN.o];omega);obtain⟨rfl,-⟩:a=some ⟨gb,go,none⟩∧cap=gc:=by
    simp only[Value.slice.injEq] at he;exact⟨he.1,he.2.2⟩
   obtain⟨u,aQ,hu⟩:=Sl.at Hv.o hx;have Hu:=Z (show Ak w u x from hu);obtain⟨ua,uc,rfl,-⟩:=hu;have gX:=(Hb.o.cell (p:=⟨gb,go+k,none⟩) ai).trans aQ;have Hx:=Z hx;clear hx he aQ;go_wp2_with (fail);refine(MN _ _ x t _ (Hu.o.keep Hb.o) (aj.o.keep Hb.o)).mono ?_;rintro e w1 ⟨rfl,n1,iI⟩;have b1:=Z (Hb.o.trans_pure (show Below _ _ w1 from by rw[iI];exact below_drewN (Below.refl _ _) n1) (Nat.le_refl _));clear iI gX;by_cases hxt:x=t
   ·rw[decide_eq_true hxt];have Hxt:=Z hxt;clear hxt;go_wp2
    go_ret
    exact⟨k,rfl,.inr ⟨k,rfl,by rw[Hx.o,Hxt.o]⟩,b1.o⟩
   ·rw[decide_eq_false hxt];have kM:=Z (show ∀(j:Nat)(y:List (List Int)),j<k+1→gs[j]? =some y→y≠t from fun j y hj hy=>by
     by_cases h:j<k
     ·exact fh.o j y h hy
     ·obtain rfl:j=k:=by omega
      rw[Hx.o] at hy;rw[←Option.some.inj hy];exact hxt)
    clear hxt;go_wp2;go_roundw
    case rel=>exact⟨k+1,by omega,by go_num,kM,b1⟩
    case measure=>simp[intOf];omega
  ·obtain rfl:k=N:=by omega
   go_wp2
   go_ret
   exact⟨-1,rfl,.inl ⟨rfl,fun x hx=>by
    obtain⟨j,hj⟩:=List.getElem?_of_mem hx;exact fh.o j x (by have:=(List.getElem?_eq_some_iff.1 hj).1;rw[HN.o];exact this) hj⟩,Hb.o⟩
def Dy(rows cols:List Int):Option (List (List Int)):=(AZ rows cols)[0]?
def EM(rows cols:List Int)(p:List (List Int)):Option (List (List Int)):=
 if p.length=rows.length∧(p.headD []).length=cols.length then Z8 (fun m=>BG rows.length cols.length m p) (AZ rows cols) else none
theorem A4.elem{α:Type}{E:TypeId}{R:CG α}(hR:M3 R){S:Bk}{w:World}{v:Value}{xs:List α}(h:A4 E R S w v xs){k:Nat}{x:α}(hk:xs[k]? =some x):
  ∃g cap u,v=.slice (some ⟨g,0,none⟩) xs.length cap∧g<w.heap.size∧w.cell? ⟨g,k,none⟩=some u∧R S w u x:=by
 have ah:=(List.getElem?_eq_some_iff.1 hk).1;obtain⟨g,cap,rfl,hg,ak,ai,-⟩:=h.inv_ne (by omega);obtain⟨-,-,-,-,T,u,hu,hr,hT,-⟩:=h.focus hR hk;exact⟨g,cap,u,rfl,ai,hu,hR.mono (fun b hb=>(hT b hb).1) hr⟩
theorem VI(v v2:Value)(xs ys:List Int)(w:World)(hv:Ab w v xs)(aW:Ab w v2 ys):Calls Tryz.prog 47 #[v,v2] w (M0 w (Dy xs ys)):=by
 go_enter Tryz.func47,Tryz.ntmps47;go_wp2_with (fail);refine(Ef _ _ _ _ _ hv aW).mono ?_;rintro e w1 ⟨vo,rfl,o1,b1⟩;obtain⟨l,hl⟩:∃l,l=AZ xs ys:=⟨_,rfl⟩;rw[←hl] at o1;cases hk:l[0]? with
 |none=>
  have Hr:=Z (show Dy xs ys=none from by unfold Dy;rw[←hl];exact hk);obtain rfl:l=[]:=by
   cases l with
   |nil=>rfl
   |cons a t=>simp at hk
  clear hk hl;rcases o1.inv with⟨rfl,-⟩|⟨g,cap,rfl,-⟩
  ·go_wp2
   go_ret2
   exact⟨_,by rw[Hr.o];rfl,by rw[Hr.o];exact A4.nil _ _ _ _,b1⟩
  ·go_wp2
   go_ret2
   exact⟨_,by rw[Hr.o];rfl,by rw[Hr.o];exact A4.nil _ _ _ _,b1⟩
 |some m=>
  have Hr:=Z (show Dy xs ys=some m from by unfold Dy;rw[←hl];exact hk);have bF:0<l.length:=(List.getElem?_eq_some_iff.1 hk).1;have aO:((l.length:Int)==0)=false:=by rw[beq_eq_false_iff_ne];omega
  obtain⟨g,cap,u,rfl,hg,hu,hr⟩:=o1.elem (A3 (A3 A2)) hk;obtain⟨t1,t2,t3,rfl⟩:=A4.shape hr;have ku:=Z hr;clear hk hl o1 hr;go_wp2
  go_ret2
  exact⟨_,by rw[Hr.o];rfl,by rw[Hr.o];exact ku.o,b1⟩
theorem Wc(v v2:Value)(xs ys:List Int)(w:World)(hv:Ab w v xs)(aW:Ab w v2 ys):Calls Tryz.prog 127 #[v,v2] w (M0 w (Dy xs ys)):=by
 have Hv:=Z hv;have aj:=Z aW;obtain⟨a,cap,rfl,-⟩:=hv;obtain⟨a2,cap2,rfl,-⟩:=aW;cases bR:Bu xs ys
 ·have Hr:=Z (show Dy xs ys=none from by unfold Dy;rw[GU bR];rfl);have dk:=Z bR;clear bR;go_enter Tryz.func127,Tryz.ntmps127;go_wp2_with (fail);refine(DA _ _ _ _ _ Hv.o aj.o).mono ?_;rintro e w2 ⟨rfl,b2⟩;rw[dk.o];go_wp2
  go_ret2
  exact⟨_,by rw[Hr.o];rfl,by rw[Hr.o];exact A4.nil _ _ _ _,b2⟩
 ·have aD:=Fy bR;obtain⟨-,h2,h3,h4,-⟩:=BC aD;obtain⟨h5,h6⟩:=Lx aD;have he:AZ xs ys=BF xs ys:=by rw[Cu aD,EH aD]
  have aP:=Oh aD;rw[←EH aD] at aP;have fa:=Z aP;have bF:0<(BF xs ys).length:=by
   have:=H0 bR;rw[he] at this;exact List.length_pos_iff.2 this
  have Hr:=Z (show Dy xs ys=(BF xs ys)[0]? from by unfold Dy;rw[he]);have dk:=Z bR;clear aD bR aP he;go_enter Tryz.func127,Tryz.ntmps127;go_wp2_with (fail);refine(DA _ _ _ _ _ Hv.o aj.o).mono ?_;rintro e w2 ⟨rfl,b2⟩;rw[dk.o];have bU:=Z (Ob xs ys (.slice none 0 0) (.slice none 0 0) (.slice a xs.length cap) (.slice a2 ys.length cap2) [] (fun _=>False) [] w2 h2 h3 h4 h5 h6 (fun _ h=>h.elim) (A4.nil _ _ _ _)
   ⟨none,0,rfl,by simp,by simp,fun _=>rfl,fun h=>by simp at h⟩ ((BY A2).mono (fun b hb=>⟨hb,fun h=>h⟩) (Hv.o.keep b2)) ((BY A2).mono (fun b hb=>⟨hb,fun h=>h⟩) (aj.o.keep b2)) (by simpa using h2) (fun row hr=>by cases hr) (by have:=fa.o;simp;omega))
  clear h5 h6;go_wp2_with (fail);refine(bU.o).mono ?_;rintro e w3 ⟨v3,S3,rfl,o3,ki,O3⟩;rw[List.nil_append,show(BF xs ys).map ([]++ ·)=BF xs ys from by simp] at o3;obtain⟨l,hl⟩:∃l,l=BF xs ys:=⟨_,rfl⟩;rw[←hl] at o3 Hr bF;have hk:l[0]? =some l[0]:=List.getElem?_eq_getElem bF;obtain⟨m,hm⟩:∃m,m=l[0]:=⟨_,rfl⟩;rw[←hm] at hk;rw[hk] at Hr;obtain⟨g,cap,u,rfl,hg,hu,hr⟩:=o3.elem (A3 (A3 A2)) hk;obtain⟨t1,t2,t3,rfl⟩:=A4.shape hr;have ku:=Z hr;have kv:=Z ki;have uJ:=Z O3;have hs2:=b2.size;clear o3 ki O3 bU hk hl hm hr;go_wp2
  go_ret2
  refine⟨_,by rw[Hr.o];rfl,?_,b2.trans_pure (uJ.o.below (Nat.le_refl _) fun _ h=>h.elim) (Nat.le_refl _)⟩;rw[Hr.o];exact(A3 (A3 A2)).mono (fun b hb=>⟨by have:=(kv.o b hb).1;simp at this;omega,(kv.o b hb).2⟩) ku.o
theorem YQ(w:World):(zeroValue 3).run Tryz.prog w=.ok (.int .i64 0) w:=by kernel_rfl
theorem A1i{k:Nat}(h:k<1073741824):(Lit.int .i64 (k:Int)).wf=true:=by
 simp[Lit.wf,IntKind.min,IntKind.max,IntKind.signed,IntKind.bits];omega
def HQ(w:World)(b n:Nat)(f:Nat→Option Nat):Prop:=∃D:DataW Unit,w.ownsMap Tryz.prog 3 (plainElem Tryz.prog 3) b n D∧Maps.IsMap D∧
 ∀k:Nat,k<1073741824→Maps.has D (.int .i64 k)=(f k).isSome∧D.atKey (.int .i64 k) (.lit (.int .i64 0))=.lit (.int .i64 ((f k).getD 0:Nat))
theorem HQ.made(w:World):HQ (w.alloc (.map #[] 0)) w.heap.size 0 fun _=>none:=
 ⟨.map [],World.ownsMap_made w _ _ _,Maps.isMap_empty,fun _ _=>⟨rfl,Maps.atKey_of_not_has rfl _⟩⟩
theorem HQ.lt{w:World}{b n:Nat}{f:Nat→Option Nat}(h:HQ w b n f):b<w.heap.size:=by
 obtain⟨D,h1,-⟩:=h;exact h1.lt
theorem HQ.same{w w':World}{b n:Nat}{f:Nat→Option Nat}(h:HQ w b n f)(hb:w'.heap[b]? =w.heap[b]?):HQ w' b n f:=by
 obtain⟨D,⟨es,clock,h1,h2,h3,h4⟩,h5,h6⟩:=h;exact⟨D,⟨es,clock,hb.trans h1,h2,h3,h4⟩,h5,h6⟩
theorem HQ.pure{w w':World}{b n:Nat}{f:Nat→Option Nat}(h:HQ w b n f)(hb:Below w.heap.size w w'):HQ w' b n f:=h.same (hb.block b h.lt)
theorem HQ.isMap{w:World}{b n:Nat}{f:Nat→Option Nat}(h:HQ w b n f):∃es clock,w.heap[b]? =some (.map es clock):=by
 obtain⟨D,⟨es,clock,h1,-⟩,-⟩:=h;exact⟨es,clock,h1⟩
theorem HQ.look{w:World}{b n k:Nat}{f:Nat→Option Nat}(h:HQ w b n f)(hk:k<1073741824):(Instr.lookup 145 (.map (some b)) (.int .i64 (k:Int)) false).run Tryz.prog w=.ok (.int .i64 ((f k).getD 0:Nat)) w:=by
 obtain⟨D,h1,-,h3⟩:=h;obtain⟨c,hrun,bB,-⟩:=h1.lookup_int (Maps.int_keyed Tryz.underlying3) Tryz.underlying145 Tryz.underlying3 (YQ w) (Maps.keyOf_int_mk Tryz.underlying3 (A1i hk));rw[(h3 k hk).2] at bB;simp only[DataW.lit.injEq,Lit.int.injEq,true_and] at bB;rw[hrun,bB]
theorem HQ.look_ok{w:World}{b n k:Nat}{f:Nat→Option Nat}(h:HQ w b n f)(hk:k<1073741824):(Instr.lookup 145 (.map (some b)) (.int .i64 (k:Int)) true).run Tryz.prog w=.ok (.tuple #[.int .i64 ((f k).getD 0:Nat),.bool (f k).isSome]) w:=by
 obtain⟨D,h1,-,h3⟩:=h;obtain⟨v,ps,hrun,hv⟩:=h1.look_ok (Maps.int_keyed Tryz.underlying3) Tryz.underlying145 (YQ w) (plainElem_int Tryz.underlying3 (by decide)) (Maps.keyOf_int_mk Tryz.underlying3 (A1i hk));obtain⟨c,rfl,hc,-⟩:=plainElem_int_inv Tryz.underlying3 hv;rw[(h3 k hk).2] at hc;simp only[Prod.mk.injEq,DataW.lit.injEq,Lit.int.injEq,true_and] at hc;rw[hrun,(h3 k hk).1,hc.1]
def A0n(f:Nat→Option Nat)(k v:Nat):Nat→Option Nat:=fun j=>if j=k then some v else f j
theorem HQ.store{w:World}{b n k v:Nat}{f:Nat→Option Nat}(h:HQ w b n f)(hk:k<1073741824)(hv:v<1073741824)(hn:n<1073741824):∃w',(Instr.mapUpdate 145 (.map (some b)) (.int .i64 (k:Int)) (.int .i64 (v:Int))).run Tryz.prog w=.ok () w'∧HQ w' b (n+1) (A0n f k v)∧Ar (fun x=>x=b) w w':=by
 obtain⟨D,h1,h2,h3⟩:=h;obtain⟨w',hrun,r1,r2⟩:=h1.update (Maps.int_keyed Tryz.underlying3) Tryz.underlying145 (Nat.lt_of_lt_of_le hn (by unfold maxLen;omega)) (Maps.keyOf_int_mk Tryz.underlying3 (A1i hk)) (plainElem_int Tryz.underlying3 (A1i hv));refine⟨w',hrun,⟨_,r1,h2.put _ _,fun j hj=>?_⟩,⟨r2.os,r2.tape,r2.output,r2.size,fun x hx hn=>r2.block x hx (fun e=>hn (Option.some.inj e))⟩⟩;have oR:WideAt.IsKeyLit (.int .i64 (k:Int)):=trivial;unfold A0n;by_cases e:j=k
 ·subst e;rw[if_pos rfl,Maps.has_put_same h2 oR,Maps.atKey_put_same h2 oR];exact⟨rfl,rfl⟩
 ·rw[if_neg e];have aO:(Lit.int .i64 (j:Int))≠Lit.int .i64 (k:Int):=by
   intro h;simp only[Lit.int.injEq,true_and] at h;omega
  rw[Maps.has_put_other aO,Maps.atKey_put_other aO];exact h3 j hj
def RQ(n0:Nat)(w:World):Bk:=fun x=>x<n0∨(x<w.heap.size∧∃arr fz,w.heap[x]? =some (.cells arr 32 fz)∨w.heap[x]? =some (.cells arr 3 fz))
def No(n0:Nat)(w:World)(v:Value)(g:List (List Int)):Prop:=Sl (Sl A7) (RQ n0 w) w v g
theorem No.of_grid{n0:Nat}{w:World}{v:Value}{g:List (List Int)}(h:Ak w v g)(hn:w.heap.size≤n0):No n0 w v g:=(BY (BY A2)).mono (fun _ hb=>.inl (Nat.lt_of_lt_of_le hb hn)) h
theorem No.grid{n0:Nat}{w:World}{v:Value}{g:List (List Int)}(h:No n0 w v g):Ak w v g:=(BY (BY A2)).rd h
theorem No.of_own{n0:Nat}{S:Bk}{w:World}{v:Value}{g:List (List Int)}(h:A4 32 (A4 3 A7) S w v g):No n0 w v g:=by
 rcases h with⟨rfl,rfl⟩|⟨b,arr,rfl,hg,hh,h1,h2,h3,T,dq,hT2,hT3⟩
 ·exact⟨none,0,rfl,by simp,by simp,fun _=>rfl,fun h=>by simp at h⟩
 ·refine⟨_,_,rfl,h1,Nat.le_trans h3 (by decide),fun h=>by simp at h,fun _=>⟨b,0,rfl,.inr ⟨lt_of_block hh,arr,_,.inl hh⟩,fun k x hk=>?_⟩⟩;obtain⟨u,hu,hr⟩:=hT3 k x hk;refine⟨u,by rw[cell_of_row w b _ arr _ (0,0) hh,Nat.zero_add];exact hu,?_⟩;rcases hr with⟨rfl,rfl⟩|⟨b2,jR,rfl,mG,uK,sP,h22,h32,T2,hT12,hT22,hT32⟩
  ·exact⟨none,0,rfl,by simp,by simp,fun _=>rfl,fun h=>by simp at h⟩
  ·refine⟨_,_,rfl,sP,Nat.le_trans h32 (by decide),fun h=>by simp at h,fun _=>⟨b2,0,rfl,.inr ⟨lt_of_block uK,jR,_,.inr uK⟩,fun k2 x2 mU=>?_⟩⟩;obtain⟨u2,ec,fD⟩:=hT32 k2 x2 mU;exact⟨u2,by rw[cell_of_row w b2 _ jR _ (0,0) uK,Nat.zero_add];exact ec,fD⟩
theorem No.only{n0:Nat}{T:Bk}{w w':World}{v:Value}{g:List (List Int)}(h:No n0 w v g)(ho:Ar T w w')(hT:∀x,T x→¬RQ n0 w x):No n0 w' v g:=by
 have cA:=(BY (BY A2)).inH h;have cR:∀x,(RQ n0 w x∧x<w.heap.size)→w'.heap[x]? =w.heap[x]? :=fun x hx=>ho.block x hx.2 (fun ht=>hT x ht hx.1);refine(BY (BY A2)).mono (fun x hx=>?_) ((BY (BY A2)).same cR cA);rcases hx.1 with h1|⟨h1,arr,fz,h2⟩
 ·exact .inl h1
 ·exact .inr ⟨Nat.lt_of_lt_of_le h1 ho.size,arr,fz,by rw[cR x hx];exact h2⟩
theorem No.pure{n0:Nat}{w w':World}{v:Value}{g:List (List Int)}(h:No n0 w v g)(hb:Below w.heap.size w w'):No n0 w' v g:=h.only (Ar.of_pure hb fun _=>False) (fun _ hx=>hx.elim)
theorem not_img{n0 x:Nat}{w:World}{arr:Array Value}{E:TypeId}{fz:Nat×Nat}(hn:n0≤x)(h:w.heap[x]? =some (.cells arr E fz))(h1:E≠32)(h2:E≠3):¬RQ n0 w x:=by
 rintro(h3|⟨-,a2,f2,h3|h3⟩)
 ·omega
 ·rw[h] at h3;simp at h3;exact h1 h3.2.1
 ·rw[h] at h3;simp at h3;exact h2 h3.2.1
theorem PS{n0 b n:Nat}{w:World}{f:Nat→Option Nat}(hn:n0≤b)(h:HQ w b n f):¬RQ n0 w b:=by
 obtain⟨es,ck,h⟩:=h.isMap;rintro(h3|⟨-,a2,f2,h3|h3⟩)
 ·omega
 ·rw[h] at h3;simp at h3
 ·rw[h] at h3;simp at h3
structure FA(n0:Nat)(X:Bk)(w:World)(qv:Value)(gs:List (List (List Int))):Prop where
 q:∃us,A4 31 PA (fun x=>n0≤x∧¬X x∧x<w.heap.size) w qv us∧us.length=gs.length∧∀(k:Nat)(u:Value)(g:List (List Int)),us[k]? =some u→gs[k]? =some g→No n0 w u g
theorem FA.shape{n0:Nat}{X:Bk}{w:World}{qv:Value}{gs:List (List (List Int))}(h:FA n0 X w qv gs):∃a c,qv=.slice a gs.length c:=by
 obtain⟨us,h1,h2,-⟩:=h.q;rcases h1.inv with⟨rfl,rfl⟩|⟨g,cap,rfl,-⟩
 ·exact⟨none,0,by rw[←h2];rfl⟩
 ·exact⟨_,cap,by rw[h2]⟩
theorem FA.pure{n0:Nat}{X:Bk}{w w':World}{qv:Value}{gs:List (List (List Int))}(h:FA n0 X w qv gs)(hb:Below w.heap.size w w'):FA n0 X w' qv gs:=by
 obtain⟨us,h1,h2,h3⟩:=h.q;exact⟨us,(A3 DV).mono (fun x hx=>⟨hx.1,hx.2.1,Nat.lt_of_lt_of_le hx.2.2 hb.size⟩) ((A3 DV).same (A5 hb fun x hx=>hx.2.2) h1),h2,fun k u g hu hg=>(h3 k u g hu hg).pure hb⟩
theorem FA.only{n0:Nat}{X T:Bk}{w w':World}{qv:Value}{gs:List (List (List Int))}(h:FA n0 X w qv gs)(ho:Ar T w w')(hX:∀x,T x→X x)(hT:∀x,T x→¬RQ n0 w x):FA n0 X w' qv gs:=by
 obtain⟨us,h1,h2,h3⟩:=h.q;exact⟨us,(A3 DV).mono (fun x hx=>⟨hx.1,hx.2.1,Nat.lt_of_lt_of_le hx.2.2 ho.size⟩) (A4.only DV h1 ho (fun x hx=>hx.2.2) (fun x hx ht=>hx.2.1 (hX x ht))),h2,fun k u g hu hg=>(h3 k u g hu hg).only ho hT⟩
theorem FA.at{n0:Nat}{X:Bk}{w:World}{qv:Value}{gs:List (List (List Int))}(h:FA n0 X w qv gs){k:Nat}{g:List (List Int)}(hk:gs[k]? =some g):∃b c u,qv=.slice (some ⟨b,0,none⟩) gs.length c∧b<w.heap.size∧w.cell? ⟨b,k,none⟩=some u∧No n0 w u g:=by
 obtain⟨us,h1,h2,h3⟩:=h.q;have ah:=(List.getElem?_eq_some_iff.1 hk).1;rcases h1 with⟨rfl,rfl⟩|⟨b,arr,rfl,hS,hh,e1,e2,e3,T,t1,t2,t3⟩
 ·simp at h2;omega
 ·obtain⟨u,hu⟩:∃u,us[k]? =some u:=⟨_,List.getElem?_eq_getElem (by omega)⟩;obtain⟨u',hu',rfl,-⟩:=t3 k u hu;exact⟨b,arr.size,u',by rw[h2],lt_of_block hh,by rw[cell_of_row w b _ arr _ (0,0) hh];exact hu',h3 k u' g hu hk⟩
theorem FA.grids{n0:Nat}{X:Bk}{w:World}{qv:Value}{gs:List (List (List Int))}(h:FA n0 X w qv gs):Gm w qv gs:=by
 obtain⟨us,h1,h2,h3⟩:=h.q;exact GV.list ⟨h2,fun k u g hu hg=>(h3 k u g hu hg).grid⟩ h1
theorem FA.own_not{n0:Nat}{X:Bk}{w:World}{qv:Value}{gs:List (List (List Int))}(h:FA n0 X w qv gs):∀x,qv.ownBlock=some x→n0≤x∧¬X x∧x<w.heap.size∧(∃arr,w.heap[x]? =some (.cells arr 31 (0,0)))∧¬RQ n0 w x:=by
 intro x hx;obtain⟨us,h1,h2,h3⟩:=h.q;have hS:=h1.ownBlock' x hx;rcases h1 with⟨rfl,rfl⟩|⟨b,arr,rfl,-,hh,-⟩
 ·simp[Value.ownBlock] at hx
 ·simp[Value.ownBlock] at hx;subst hx;exact⟨hS.1,hS.2.1,hS.2.2,⟨arr,hh⟩,not_img hS.1 hh (by decide) (by decide)⟩
def C0(w:World)(g:Nat)(ss:List Sw):Prop:=∃arr fz,w.heap[g]? =some (.cells arr 65 fz)∧∀(k:Nat)(s:Sw),ss[k]? =some s→∀(j:Nat)(u:Value),(FT s)[j]? =some u→arr[k*4+j]? =some u
theorem C0.same{w w':World}{g:Nat}{ss:List Sw}(h:C0 w g ss)(hb:w'.heap[g]? =w.heap[g]?):C0 w' g ss:=by
 obtain⟨arr,fz,h1,h2⟩:=h;exact⟨arr,fz,hb.trans h1,h2⟩
theorem C0.lt{w:World}{g:Nat}{ss:List Sw}(h:C0 w g ss):g<w.heap.size:=by
 obtain⟨arr,fz,h1,-⟩:=h;exact lt_of_block h1
theorem C0.pure{w w':World}{g:Nat}{ss:List Sw}(h:C0 w g ss)(hb:Below w.heap.size w w'):C0 w' g ss:=h.same (hb.block g h.lt)
theorem C0.only{T:Bk}{w w':World}{g:Nat}{ss:List Sw}(h:C0 w g ss)(ho:Ar T w w')(hn:¬T g):C0 w' g ss:=h.same (ho.block g h.lt hn)
theorem C0.cells{w:World}{g:Nat}{ss:List Sw}(h:C0 w g ss){k:Nat}{s:Sw}(hk:ss[k]? =some s){j:Nat}{u:Value}(hj:(FT s)[j]? =some u):w.cell? ⟨g,k*4+j,none⟩=some u:=by
 obtain⟨arr,fz,h1,h2⟩:=h;rw[cell_of_row w g _ arr _ fz h1];exact h2 k s hk j u hj
theorem C0.not_type{w:World}{g x:Nat}{ss:List Sw}(h:C0 w g ss){arr:Array Value}{E:TypeId}{fz:Nat×Nat}(hx:w.heap[x]? =some (.cells arr E fz))(hE:E≠65):g≠x:=by
 rintro rfl;obtain⟨jR,fz2,h1,-⟩:=h;rw[hx] at h1;simp at h1;exact hE h1.2.1
theorem Co.blk{B:Nat}{w:World}{v:Value}{l:List Sw}(h:Co B w v l)(aO:0<l.length):∃g cap,v=.slice (some ⟨g,0,none⟩) l.length cap∧B≤g∧C0 w g l:=by
 obtain⟨hl,h5|⟨g,cap,cur,rfl,hB,hh,-,-,-,h9⟩⟩:=id h
 ·omega
 ·refine⟨g,cap,rfl,hB,cur,_,hh,fun k s hk j u hj=>?_⟩;have zQ:j<4:=by have:=(List.getElem?_eq_some_iff.1 hj).1;simpa[FT] using this
  have ah:=(List.getElem?_eq_some_iff.1 hk).1;have e:=QN hk j zQ;rw[←h9,List.getElem?_take,if_pos (by omega),Array.getElem?_toList] at e;rw[e,hj]
