/- Base. -/
import Derived.Test.YthmocomfjgmjoaaGreatDoorQ24
set_option maxHeartbeats 2000000
set_option maxRecDepth 100000
namespace Go.Proofs.YthmocomfjgmjoaaGreatDoor
open Go.RowKit Go.Proofs.Tryz
variable {L:List I}{bv:Value}{d:I→Int}{gl k:Nat}{least:Int}{m:I}{u:Value}{w1:World}
theorem TH(v v2:Value)(m t:I)(r c:Nat)(w:World)(hv:AI w v m)(aS:AI w v2 t)(hs:Ax r c m)(hs2:Ax r c t)(hr1:1≤r)(hr5:r≤5)(hc1:1≤c)(hc5:c≤5):Calls prog 205 #[v,v2] w fun e w'=>e=.returned (.int .i64 (BR r c m t))∧Below w.heap.size w w':=by
 have fE:=Z (NI v m true w hv (hs.ok hr1 hr5 hc1 hc5));have iE:=Z (NI v2 t true w aS (hs2.ok hr1 hr5 hc1 hc5));obtain⟨b,off,cp,rfl,hb,hm⟩:=hv.qaw hs.qap hr1 hc1;obtain⟨b',off2,cp2,rfl,af,hm2⟩:=aS.qaw hs2.qap hr1 hc1;have Hm:=Z hm;have pD:=Z hm2;obtain⟨d1,o1,k1,np,-⟩:=hm 0 J;obtain⟨d2,o2,k2,iP,-⟩:=hm2 0 J;have np:=np w (A6 _ _);have iP:=iP w (A6 _ _);rw[AF]at np iP;clear hv aS hm hm2;go_enter func205,ntmps205;go_wp2;go_quiet ((first|(go_at_call 138;with_reducible exact Calls.quiet_of_same (fE.o _))|(go_at_call 138;with_reducible exact Calls.quiet_of_same (iE.o _))));clear np iP;obtain⟨wz,hwz⟩:∃wz,wz=w.drewN nq:=⟨_,rfl⟩;have io:Below w.heap.size w wz:=by rw[hwz];exact below_drewN (A6 _ _) nq
 rw[←hwz];clear hwz;go_wp2;go_loopw [5,6,7,8,9,38] (fun n _ _ _ _ i wr=>∃(k:Nat),k≤r∧i=.int .i64 k∧n=.int .i64 (BR k c m t)∧wz=wr) (fun _ _ _ _ _ i _=>r-(intOf i).toNat);exact⟨0,A7 _,rfl,rfl,rfl⟩;obtain⟨k,hk,rfl,rfl,rfl⟩:=hrel;have pG:=(Gf c m t k).1;have jZ:=(Gf c m t k).2;have yW:k*c≤25:=Nat.mul_le_mul (show k≤5 by omega) hc5;obtain⟨D,hD⟩:∃D,D=BR k c m t:=⟨_,rfl⟩;rw[←hD]at pG jZ⊢;have HD:=Z hD;clear hD;by_cases aF:k<r
 ·obtain⟨br,orr,cr,h1,h2⟩:=Hm.o k aF;obtain⟨bg,og,cg,h3,h4⟩:=pD.o k aF;have e1:=h1 wz io;have e2:=h3 wz io;have H2:=Z h2;have H4:=Z h4;clear h1 h2 h3 h4;go_wp2;go_loopw [5,8,9,45] (fun n _ _ i wr=>∃(x:Nat),x≤c∧i=.int .i64 x∧n=.int .i64 (D+Dn x m t k)∧wz=wr) (fun _ _ _ i _=>c-(intOf i).toNat);exact⟨0,A7 _,rfl,by simp[Dn,rs],rfl⟩;obtain⟨x,hx,rfl,rfl,rfl⟩:=hrel;have lb:=(IQ m t k x).1;have eH:=(IQ m t k x).2;obtain⟨E,hE⟩:∃E,E=Dn x m t k:=⟨_,rfl⟩;rw[←hE]at lb eH⊢;have HE:=Z hE;clear hE;by_cases hxc:x<c
  ·have e3:=H2.o x hxc wz io;have e4:=H4.o x hxc wz io;have aG:=Z (show Dn (x+1) m t k=Dn x m t k+if AJ m k x=AJ t k x then 0 else 1 from rfl);obtain⟨z1,bL⟩:∃z,z=AJ m k x:=⟨_,rfl⟩;obtain⟨z2,bQ⟩:∃z,z=AJ t k x:=⟨_,rfl⟩;rw[←bL]at e3 aG;rw[←bQ]at e4 aG;clear bL bQ;by_cases hz:z1=z2
   ·have eF:=Z (show Dn (x+1) m t k=E from by rw[aG.o,if_pos hz,←HE.o];omega);subst hz;go_wp2;go_roundw;exact⟨x+1,J,by go_num,by rw[eF.o],by first|rfl|trivial⟩;exact Jv
   ·have aK:(z1==z2)=false:=by rw[Ai];exact hz
    have gh:(z1 !=z2)=true:=by rw[bne_iff_ne];exact hz
    have eF:=Z (show Dn (x+1) m t k=E+1 from by rw[aG.o,if_neg hz,←HE.o]);clear hz;go_wp2;go_roundw;exact⟨x+1,J,by go_num,by rw[eF.o,Int.add_assoc],by first|rfl|trivial⟩;exact Jv
  ·obtain rfl:x=c:=J;have aG:=Z (show BR (k+1) x m t=D+E from by rw[HD.o,HE.o];rfl);go_wp2;go_roundw;exact⟨k+1,J,by go_num,by rw[aG.o],by first|rfl|trivial⟩;exact Jv
 ·obtain rfl:k=r:=J;go_wp2
  go_ret
  exact⟨CY HD.o,io⟩
theorem Ys(v v2 v3:Value)(xs ys:U)(p:I)(r c:Nat)(w:World)(hv:Au w v xs)(aS:Au w v2 ys)(j5:AI w v3 p)(hs:Ax r c p)(hr1:1≤r)(hc1:1≤c):
  Calls prog 204 #[v,v2,v3] w fun e w'=>e=.returned (.bool (BF xs ys&&(decide (r=xs.length)&&decide (c=ys.length))))∧Below w.heap.size w w':=by
 have Hv:=Z hv;have aY:=Z aS;obtain⟨b3,off3,cp3,rfl,dg,ah⟩:=j5.cells hs hr1 hc1;obtain⟨d1,o1,k1,cP,-⟩:=ah 0 J;rw[AF]at cP;obtain⟨a1,cap1,rfl,-⟩:=hv;obtain⟨a2,cap2,rfl,-⟩:=aS;clear ah;cases bK:BF xs ys
 ·have dk:=Z bK;clear bK;go_enter func204,ntmps204;go_wp2_with fail;refine(DB _ _ _ _ _ Hv.o aY.o).mono ?_;rintro e w2 ⟨rfl,b2⟩;rw[dk.o];go_wp2
  go_ret
  exact⟨rfl,b2⟩
 have dk:=Z bK;clear bK;have lb:0<r:=hr1;by_cases h1:r=xs.length
 ·have jZ:((r:Int)==(xs.length:Int))=true:=by rw[beq_iff_eq];omega
  have yd:=Z (show decide (r=xs.length)=true from by simpa using h1);have H2:Hid (decide (c=ys.length)=((c:Int)==(ys.length:Int))):=Z (by
   by_cases h:c=ys.length
   ·rw[decide_eq_true h,eq_comm,beq_iff_eq];omega
   ·rw[decide_eq_false h,eq_comm,Ai];omega)
  obtain⟨X,hX⟩:∃X,X=xs.length:=⟨_,rfl⟩;have HX:=Z hX;clear h1 hX;go_enter func204,ntmps204;go_wp2_with fail;refine(DB _ _ _ _ _ Hv.o aY.o).mono ?_;rintro e w2 ⟨rfl,b2⟩;rw[dk.o];have iP:=(b2.cell (p:=⟨b3,off3,none⟩) dg).trans cP;go_wp2
  go_ret
  exact⟨AW (by rw[yd.o,H2.o];rfl),b2⟩
 ·have jZ:((r:Int)==(xs.length:Int))=false:=by rw[Ai];omega
  have yd:=Z (show decide (r=xs.length)=false from by simpa using h1);clear h1;go_enter func204,ntmps204;go_wp2_with fail;refine(DB _ _ _ _ _ Hv.o aY.o).mono ?_;rintro e w2 ⟨rfl,b2⟩;rw[dk.o];go_wp2
  go_ret
  exact⟨AW (by rw[yd.o];rfl),b2⟩
def Lo(L:List I)(d:I→Int)(w1:World)(gl:Nat)(k:Nat)(bv:Value)(least:Int):Prop:=
 (k=0∧least=-1)∨∃(ib:Nat)(b:I),L[ib]? =some b∧w1.cell? ⟨gl,ib,none⟩=some bv∧least=d b∧Xk d L=some (FE d (L.drop k) b)
theorem Vn(hm:L[0]? =some m)(hu:w1.cell? ⟨gl,0,none⟩=some u):Lo L d w1 gl 1 u (d m):=by
 refine .inr ⟨0,m,hm,hu,rfl,?_⟩;cases L with
 |nil=>simp at hm
 |cons a t=>
  obtain rfl:a=m:=by simpa using hm
  rfl
theorem WN(h:Lo L d w1 gl k bv least)(hk:0<k)(hm:L[k]? =some m)(hu:w1.cell? ⟨gl,k,none⟩=some u)(hd:d m<least):Lo L d w1 gl (k+1) u (d m):=by
 rcases h with⟨h,-⟩|⟨ib,b,h1,h2,h3,h4⟩
 ·omega
 ·refine .inr ⟨k,m,hm,hu,rfl,?_⟩;rw[h4,Me hm,if_pos (by rw[←h3];exact hd)]
theorem XM(h:Lo L d w1 gl k bv least)(hk:0<k)(hm:L[k]? =some m)(hd:¬d m<least):Lo L d w1 gl (k+1) bv least:=by
 rcases h with⟨h,-⟩|⟨ib,b,h1,h2,h3,h4⟩
 ·omega
 ·refine .inr ⟨ib,b,h1,h2,h3,?_⟩;rw[h4,Me hm,if_neg (by rw[←h3];exact hd)]
theorem A2Q(r c:Nat)(m p:I):0≤BR r c m p:=(Gf c m p r).1
theorem Sr(v v2 v3:Value)(xs ys:U)(p:I)(r c:Nat)(w:World)(hv:Au w v xs)(aS:Au w v2 ys)(j5:AI w v3 p)(hs:Ax r c p)(hr1:1≤r)(hr5:r≤5)(hc1:1≤c)(hc5:c≤5):
  Calls prog 143 #[v,v2,v3] w (VD w xs ys p):=by
 have il:=Z j5;have Hv:=Z hv;have aY:=Z aS;have tQ:=Z (hs.ok hr1 hr5 hc1 hc5);obtain⟨a3,cap3,rfl,-⟩:=j5;obtain⟨a,cap,rfl,-⟩:=hv;obtain⟨a2,cap2,rfl,-⟩:=aS;have lD:=DF hs hr1;obtain⟨F,hF⟩:∃F,F=(BF xs ys&&(decide (r=xs.length)&&decide (c=ys.length))):=⟨_,rfl⟩;have HF:=Z hF;cases hfb:F
 ·have Hn:=Z (show Fk xs ys p=none from by
   unfold Fk
   split
   ·rename_i h
    have bK:BF xs ys=false:=by
     rw[hfb]at hF;rw[←h.1,←h.2,lD.1,lD.2]at hF;simpa using hF.symm
    rw[I7 bK];rfl
   ·rfl)
  have ye:=Z hfb;clear hF hfb lD;go_enter func143,ntmps143;go_wp2_with fail;refine(Bh _ _ _ il.o).mono ?_;rintro e w' ⟨rfl,rfl⟩;rw[tQ.o];go_wp2_with fail;refine(Ys _ _ _ xs ys p r c _ Hv.o aY.o il.o hs hr1 hc1).mono ?_;rintro e w2 ⟨rfl,b2⟩;rw[←HF.o,ye.o];go_wp2;exact Jz #[.slice none 0 0,.int .i64 0,.bool false] (by simp[results,results143,go_sem]) (IA Hn.o b2)
 ·have hF2:=hF;rw[hfb,eq_comm,Af,Af,Ah,Ah]at hF2;obtain⟨bK,sI,hyc⟩:=hF2;have hok:=FL bK;obtain⟨-,h2,h3,h4,-⟩:=BG hok;obtain⟨h5,h6⟩:=MF hok;have he:Bt xs ys=BP xs ys:=by rw[D6 hok,F2 hok]
  have aN:=OS hok;rw[←F2 hok]at aN;have fP:=Z aN;obtain⟨L,hL⟩:∃L,L=BP xs ys:=⟨_,rfl⟩;have aZ:0<L.length:=by
   have:=HH bK;rw[he,←hL]at this;exact List.length_pos_iff.2 this
  have ed:=Z (show ∀m∈L,Ax r c m from fun m hm=>by
   have:=(Yy (xs:=xs) (ys:=ys) (m:=m) (by rw[he,←hL];exact hm)).2;rw[←sI,←hyc]at this;exact this)
  have HN:=Z (show Fk xs ys p=Xk (fun m=>BR r c m p) L from by
   unfold Fk;rw[if_pos ⟨by rw[lD.1,sI],by rw[lD.2,hyc]⟩,he,←hL,←sI,←hyc])
  have sF:=Z sI;have sG:=Z hyc;have HLe:=Z hL;have dG:L.length≤1073741824:=by rw[hL];exact aN
  have ye:=Z hfb;clear hF hfb lD bK hok aN he sI hyc;go_enter func143,ntmps143;go_wp2_with fail;refine(Bh _ _ _ il.o).mono ?_;rintro e w' ⟨rfl,rfl⟩;rw[tQ.o];go_wp2_with fail;refine(Ys _ _ _ xs ys p r c _ Hv.o aY.o il.o hs hr1 hc1).mono ?_;rintro e w2 ⟨rfl,b2⟩;rw[←HF.o,ye.o];obtain⟨wa,hwa⟩:∃wa,wa=w2.alloc (.cells #[] 32):=⟨_,rfl⟩;have xO:=Z (show Below w.heap.size w wa from by rw[hwa];exact b2.qaa (Below.qab _ _) (A2 _));have bG:=Z (Pj xs ys (.slice none 0 0) (.slice none 0 0) (.slice a xs.length cap) (.slice a2 ys.length cap2) [] (fun _=>False) [] wa h2 h3 h4 h5 h6 (fun _ h=>h.elim) (Ag.nil _ _ _ _)
   ⟨none,0,rfl,Jj,Jj,fun _=>rfl,fun h=>by simp at h⟩ ((Cd A8).mono (fun b hb=>⟨hb,fun h=>h⟩) (Hv.o.keep xO.o)) ((Cd A8).mono (fun b hb=>⟨hb,fun h=>h⟩) (aY.o.keep xO.o)) (by simpa using h2) (fun row hr=>by cases hr) (by have:=fP.o;simp;omega))
  clear h5 h6 b2;subst hwa;go_wp2_with fail;refine(bG.o).mono ?_;rintro e w1 ⟨v1,S3,rfl,o3,k8,O3⟩;rw[List.nil_append,show(BP xs ys).map ([]++ ·)=BP xs ys from by simp,←HLe.o]at o3;have ap:L[0]? =some L[0]:=A3 aZ;obtain⟨gl,capl,u0,rfl,bz,-⟩:=o3.elem (Ab (Ab A8)) ap;have fS:=Z o3;have sJ:=Z k8;have dm:=Z (xO.o.qaa (O3.below (A2 _) fun _ h=>h.elim) (A2 _));have hw2w:w.heap.size≤w2.heap.size+1:=by have:=xO.o.size;simpa using this
  obtain⟨N,hN⟩:∃N,N=L.length:=⟨_,rfl⟩;rw[←hN]at aZ dG⊢;have HNl:=Z hN;clear o3 k8 O3 bG ap hN hL;go_wp2;go_loopw [9,10,12,13,29] (fun bv lv _ _ i wr=>∃(k:Nat)(q:Int),k≤N∧i=.int .i64 k∧lv=.int .i64 q∧-1≤q∧q≤25∧(0<k→0≤q)∧(k=0→q=-1)∧Hid (Lo L (fun m=>BR r c m p) w1 gl k bv q)∧Hid (Below w1.heap.size w1 wr)) (fun _ _ _ _ i _=>N-(intOf i).toNat);exact⟨0,-1,A7 _,rfl,rfl,J,J,fun h=>absurd h J,fun _=>rfl,Z (.inl ⟨rfl,rfl⟩),Z (A6 _ _)⟩;obtain⟨k,q,hk,rfl,rfl,nU,cf,ct,hq3,aG,Hb⟩:=hrel;by_cases aF:k<N
  ·obtain⟨m,hm⟩:∃m,L[k]? =some m:=⟨_,A3 (by rw[←HNl.o];exact aF)⟩;have sH:=ed.o m (A4 hm);obtain⟨gl',capl',um,hem,-,hum,hrum⟩:=fS.o.elem (Ab (Ab A8)) hm;obtain rfl:gl=gl':=by injection hem with h1;injection h1 with h1;injection h1
   have mE:=Z (Ag.qag hrum);obtain⟨q1,q2,q3,rfl⟩:=Ag.shape hrum;have qV:=(Hb.o.cell (p:=⟨gl,k,none⟩) bz).trans hum;obtain⟨D1,hD1⟩:∃D,D=BR r c m p:=⟨_,rfl⟩;have hD0:0≤D1:=by rw[hD1];exact A2Q _ _ _ _
   have hD25:D1≤25:=by
    have:=(Gf c m p r).2;have h25:r*c≤25:=Nat.mul_le_mul hr5 hc5;rw[hD1];omega
   have nk:=Z hD1;have Hm:=Z hm;have tR:=Z hum;clear hm hem hum hrum hD1;go_wp2_with fail;refine(TH _ _ m p r c _ (mE.o.keep Hb.o) (il.o.keep (dm.o.qaa Hb.o (A2 _))) sH hs hr1 hr5 hc1 hc5).mono ?_;rintro e w3 ⟨rfl,b3⟩;rw[←nk.o];have bN:=Z (Hb.o.qaa b3 (A2 _));clear b3 qV;by_cases fH:k=0
   ·subst fH;obtain rfl:=hq3 rfl;have bM:=Z (show Lo L (fun m=>BR r c m p) w1 gl (0+1) (.slice q1 q2 q3) D1 from by rw[nk.o];exact Vn Hm.o tR.o);clear ct hq3;go_wp2;go_roundw;exact⟨0+1,D1,J,by first|rfl|go_num,rfl,J,J,fun _=>hD0,fun h=>absurd h J,bM,bN⟩;exact Jv
   ·have hq:=ct J;have pG:decide (q<0)=false:=by simpa using hq
    by_cases hd:D1<q
    ·have lG:decide (D1<q)=true:=by simpa using hd
     have bM:=Z (show Lo L (fun m=>BR r c m p) w1 gl (k+1) (.slice q1 q2 q3) D1 from by rw[nk.o];exact WN aG.o J Hm.o tR.o (by rw[←nk.o];exact hd));clear ct hq3 hd;go_wp2;go_roundw;exact⟨k+1,D1,J,by go_num,rfl,J,J,fun _=>hD0,fun h=>absurd h J,bM,bN⟩;exact Jv
    ·have lG:decide (D1<q)=false:=by simpa using hd
     have bM:=Z (show Lo L (fun m=>BR r c m p) w1 gl (k+1) u9 q from XM aG.o J Hm.o (by rw[←nk.o];exact hd));clear ct hq3 hd;go_wp2;go_roundw;exact⟨k+1,q,J,by go_num,rfl,J,J,fun _=>hq,fun h=>absurd h J,bM,bN⟩;exact Jv
  ·obtain rfl:k=N:=J;obtain⟨ib,b,h1,h2,h3,h4⟩:∃(ib:Nat)(b:I),L[ib]? =some b∧w1.cell? ⟨gl,ib,none⟩=some u9∧q=BR r c b p∧Xk (fun m=>BR r c m p) L=some (FE (fun m=>BR r c m p) (L.drop k) b):=by
    rcases aG.o with⟨h,-⟩|h
    ·omega
    ·exact h
   rw[List.drop_of_length_le (by rw[←HNl.o];exact A2 _)]at h4;have qT:=Z (show Fk xs ys p=some b from by rw[HN.o,h4];rfl);obtain⟨gl',capl',ub,heb,-,lE,hrub⟩:=fS.o.elem (Ab (Ab A8)) h1;obtain rfl:gl=gl':=by injection heb with h1;injection h1 with h1;injection h1
   obtain rfl:u9=ub:=Option.some.inj (h2.symm.trans lE);have qU:=Z hrub;obtain⟨s1,s2,s3,rfl⟩:=Ag.shape hrub;have Hq:=Z h3;clear lE hrub heb h1 h2 h3 h4 ct hq3;go_wp2;refine Jz #[.slice s1 s2 s3,.int .i64 q,.bool true] (by simp[results,results143,go_sem]) ⟨_,_,by rw[qT.o];rfl,?_,?_,dm.o.qaa Hb.o (A2 _)⟩
   ·rw[qT.o];exact(Ab (Ab A8)).mono (fun x hx=>⟨by have:=(sJ.o x hx).1;simp at this;omega,Aa (sJ.o x hx).2 Hb.o.size⟩) ((Ab (Ab A8)).same (Ac Hb.o fun x hx=>(sJ.o x hx).2) qU.o)
   ·intro x hx;rw[qT.o]at hx;rw[←Option.some.inj hx,Hq.o,sF.o,sG.o]
