/- Base. -/
import Derived.Test.YthmocomfjgmjoaaGreatDoorQ20
import Derived.Test.YthmocomfjgmjoaaGreatDoorQ11
set_option maxHeartbeats 2000000
set_option maxRecDepth 100000
namespace Go.Proofs.YthmocomfjgmjoaaGreatDoor
open Go.RowKit Go.Proofs.Tryz
variable {A B C:ByteArray}{E:TypeId}{S:Bk}{cap g k:Nat}{m:I}{n:Nat}{q:List Nat}{qv:Value}{r u:Nat}{w wr:World}{x:Nat}{xs:List Bool}
theorem ND{c:Nat}(h:Ax r c m)(h1:1≤r)(h2:r≤5)(h3:1≤c)(h4:c≤5):EM (Ae m)∧EM (Al m):=
 ⟨fun x hx=>by have:=(Cr h h1 h2 h3 h4).2 x hx;exact Cc.small J J,fun x hx=>by have:=(Cv h h1 h2 h3 h4).2 x hx;exact Cc.small J J⟩
def CF(r c:Nat)(m:I):ByteArray:=
 if Bj r c m=[]then AD m++⟨#[32,114,111,119,115,32]⟩++AK (Ae m)++⟨#[32,99,111,108,115,32]⟩++AK (Al m)++⟨#[32,117,110,105,113,117,101]⟩
 else AD m++⟨#[32,114,111,119,115,32]⟩++AK (Ae m)++⟨#[32,99,111,108,115,32]⟩++AK (Al m)++⟨#[32,102,114,101,101,32]⟩++AQ (Gu (C0 (Ae m) (Al m)))
theorem Vs{c:Nat}(h:Ax r c m)(h1:1≤r)(h2:r≤5)(h3:1≤c)(h4:c≤5):(AD m).size≤1000:=by
 unfold AD;rw[if_pos (h.ok h1 h2 h3 h4)];have h5:=(Fr (h.ok h1 h2 h3 h4)).bulk;have h6:(EQ m).size≤DC ⟨#[47]⟩ (m.map Bu):=Es _ _;omega
structure A29(A B C D:ByteArray):Prop where
 a:A.size≤1000
 b:B.size≤1000
 c:C.size≤1000
 d:D.size≤20
 l1:(A++⟨#[32,114,111,119,115,32]⟩:ByteArray).size≤2000
 l2:(A++⟨#[32,114,111,119,115,32]⟩++B:ByteArray).size≤3000
 l3:(A++⟨#[32,114,111,119,115,32]⟩++B++⟨#[32,99,111,108,115,32]⟩:ByteArray).size≤4000
 l4:(A++⟨#[32,114,111,119,115,32]⟩++B++⟨#[32,99,111,108,115,32]⟩++C:ByteArray).size≤5000
 l5:(A++⟨#[32,114,111,119,115,32]⟩++B++⟨#[32,99,111,108,115,32]⟩++C++⟨#[32,102,114,101,101,32]⟩:ByteArray).size≤6000
theorem A43{D:ByteArray}(a:A.size≤1000)(b:B.size≤1000)(c:C.size≤1000)(d:D.size≤20):A29 A B C D:=by
 have e1:(⟨#[32,114,111,119,115,32]⟩:ByteArray).size=6:=rfl;have e2:(⟨#[32,99,111,108,115,32]⟩:ByteArray).size=6:=rfl;have e3:(⟨#[32,102,114,101,101,32]⟩:ByteArray).size=6:=rfl;refine⟨a,b,c,d,?_,?_,?_,?_,?_⟩<;>simp only[AR,e1,e2,e3]<;>omega
theorem Vx{c:Nat}{F:I}(h:A3Y r c m F)(hr:r≤5)(hc:c≤5):Gu F≤25:=by
 have key:∀k,k≤r→Gu (F.take k)≤5*k:=by
  intro k;induction k with
  |zero=>intro _;simp[Gu]
  |succ k ih=>
   intro hk;obtain⟨l,hl,dN,-⟩:=h.row k J;rw[Pw hl];have:=ih J;have:=A1e l;omega
 have:=key r (A2 _);rw[A9 (by rw[h.len];exact A2 _)]at this;omega
theorem KM{c:Nat}(h:Ax r c m)(h1:1≤r)(h2:r≤5)(h3:1≤c)(h4:c≤5):A29 (AD m) (AK (Ae m)) (AK (Al m)) (AQ (Gu (C0 (Ae m) (Al m)))):=by
 obtain⟨i1,i2⟩:=ND h h1 h2 h3 h4;have l1:=(Cr h h1 h2 h3 h4).1;have l2:=(Cv h h1 h2 h3 h4).1;have s1:=Cq i1;have s2:=Cq i2;have n1:=Vx (Sy h h1 h2 h3 h4) h2 h4;exact A43 (Vs h h1 h2 h3 h4) J J (CW J)
theorem Yi(v:Value)(m:I)(r c:Nat)(w:World)(hv:AI w v m)(hs:Ax r c m)(hr1:1≤r)(hr5:r≤5)(hc1:1≤c)(hc5:c≤5)(ht:Tab w):Calls prog 45 #[v] w fun e w'=>e=.returned (.string (CF r c m))∧Below w.heap.size w w':=by
 have Hv:=Z hv;have aR:=Z (hs.ok hr1 hr5 hc1 hc5);have aM:=KM hs hr1 hr5 hc1 hc5;have ew:=Vx (Sy hs hr1 hr5 hc1 hc5) hr5 hc5;have eJ:=(Cr hs hr1 hr5 hc1 hc5).1;have fl:=(Cv hs hr1 hr5 hc1 hc5).1;obtain⟨A,hA⟩:∃A,A=AD m:=⟨_,rfl⟩;obtain⟨B,hB⟩:∃B,B=AK (Ae m):=⟨_,rfl⟩;obtain⟨C,hC⟩:∃C,C=AK (Al m):=⟨_,rfl⟩;obtain⟨N,hN⟩:∃N,N=Gu (C0 (Ae m) (Al m)):=⟨_,rfl⟩;rw[←hN]at ew;rw[←hA,←hB,←hC,←hN]at aM;have HA:=Z hA;have HB:=Z hB;have HC:=Z hC;have HN:=Z hN;have HT:=Z ht;obtain⟨za,zb,zc,zd,z1,z2,z3,z4,z5⟩:=aM;clear hA hB hC hN ht;obtain⟨a,cap,rfl,-⟩:=hv;go_enter func45,ntmps45;go_wp2_with fail;refine(B8 _ _ _ Hv.o).mono ?_;rintro e w' ⟨rfl,rfl⟩;rw[aR.o];go_wp2_with fail;refine(Fw _ _ _ Hv.o).mono ?_;rintro e w1 ⟨rfl,b1⟩;rw[←HA.o];go_wp2_with fail;refine(Ei _ _ _ (Hv.o.keep b1)).mono ?_;rintro e w2 ⟨v2,rfl,o2,b2⟩;have cI:=b1.qaa b2 (A2 _);go_wp2_with fail;refine(Ct _ _ _ o2.ints J (HT.o.keep cI)).mono ?_;rintro e w3 ⟨rfl,b3⟩;rw[←HB.o];have di:=cI.qaa b3 (A2 _);clear o2;go_wp2_with fail;refine(CQ 34 (.inl rfl) _ _ _ (Hv.o.keep di)).mono ?_;rintro e w4 ⟨v4,rfl,o4,b4⟩;have eu:=di.qaa b4 (A2 _);go_wp2_with fail;refine(Ct _ _ _ o4.ints J (HT.o.keep eu)).mono ?_;rintro e w5 ⟨rfl,b5⟩;rw[←HC.o];have fD:=eu.qaa b5 (A2 _);clear o4;go_wp2_with fail;refine(YO _ m r c _ (Hv.o.keep fD) hs hr1 hr5 hc1 hc5).mono ?_;rintro e w6 ⟨rfl,b6⟩;have jA:=fD.qaa b6 (A2 _);by_cases hu:Bj r c m=[]
 ·rw[decide_eq_true hu];have Hr:=Z (show A++⟨#[32,114,111,119,115,32]⟩++B++⟨#[32,99,111,108,115,32]⟩++C++⟨#[32,117,110,105,113,117,101]⟩=CF r c m from by unfold CF;rw[if_pos hu,HA.o,HB.o,HC.o]);clear hu;go_wp2
  go_ret
  exact⟨I4 Hr.o,jA⟩
 ·rw[decide_eq_false hu];have Hr:=Z (show A++⟨#[32,114,111,119,115,32]⟩++B++⟨#[32,99,111,108,115,32]⟩++C++⟨#[32,102,114,101,101,32]⟩++AQ N=CF r c m from by unfold CF;rw[if_neg hu,HA.o,HB.o,HC.o,HN.o]);clear hu;go_wp2_with fail;refine(XO _ m r c _ (Hv.o.keep jA) hs hr1 hr5 hc1 hc5).mono ?_;rintro e w7 ⟨rfl,b7⟩;rw[←HN.o];have jW:=jA.qaa b7 (A2 _);go_wp2_with fail;refine(DQ _ (Cc.small J J) _ (HT.o.keep jW)).mono ?_;rintro e w8 ⟨rfl,b8⟩;have qH:=jW.qaa b8 (A2 _);go_wp2
  go_ret
  exact⟨I4 Hr.o,qH⟩
theorem ZA{c:Nat}(hs:Ax r c m)(hr1:1≤r)(hr5:r≤5)(hc1:1≤c)(hc5:c≤5){y:Nat}(hy:y<r):∃l,(C0 (Ae m) (Al m))[y]? =some l∧l.length=c∧∀x,x<c→∃f,l[x]? =some f∧(f<0↔D8 r c m (K4 r m y x) (TG r m y x)):=by
 have hS:=Dv hs hr1 hr5 hc1 hc5;have aj:=(Cr hs hr1 hr5 hc1 hc5).1;have ah:=(Cv hs hr1 hr5 hc1 hc5).1;have hok:AT (Ae m) (Al m)=true:=IG J J J J (by rw[aj,ah];exact hS);have bK:BF (Ae m) (Al m)=true:=(JH hok).2 ⟨m,by rw[aj,ah];exact hS⟩;have cj:∀g,g∈Bt (Ae m) (Al m)↔Da (Ae m) (Al m) r c g:=fun g=>by
  rw[D6 hok,Dy hok,aj,ah]
 have hm:=(cj m).2 hS;obtain⟨L,hL⟩:∃L,L=Bt (Ae m) (Al m):=⟨_,rfl⟩;rw[←hL]at hm cj;have hh:L.headD []∈L:=by
  cases L with
  |nil=>cases hm
  |cons a l=>simp
 have hF:C0 (Ae m) (Al m)=ER r c fun i j=>if ∀g∈L,AJ g i j=AJ m i j then AJ m i j else-1:=by
  unfold C0;rw[if_pos bK,aj,ah,←hL];unfold RK;refine Em fun i j _ _=>?_;by_cases h:∀g∈L,AJ g i j=AJ (L.headD []) i j
  ·rw[if_pos h,if_pos fun g hg=>(h g hg).trans (h m hm).symm,h m hm]
  ·rw[if_neg h,if_neg fun h'=>h fun g hg=>(h' g hg).trans (h' _ hh).symm]
 rw[hF];refine⟨_,FT (c:=c) (fun i j=>if ∀g∈L,AJ g i j=AJ m i j then AJ m i j else-1) hy,Jj,fun x hx=>⟨if ∀g∈L,AJ g y x=AJ m y x then AJ m y x else-1,?_,?_⟩⟩
 ·rw[Ak,AA hx];rfl
 ·rw[←Zj hs hr1 hr5 hc1 hc5 hy hx];have hb:=AS hs y x;constructor
  ·intro aF;apply Classical.byContradiction;intro hn;rw[if_pos fun g hg=>Classical.byContradiction fun aK=>hn ⟨g,(cj g).1 hg,aK⟩]at aF;omega
  ·rintro⟨g,hg,aK⟩;rw[if_neg fun h=>aK (h g ((cj g).2 hg))];omega
theorem Zn(v:Value)(m:I)(r c:Nat)(w:World)(hv:AI w v m)(hs:Ax r c m)(hr1:1≤r)(hr5:r≤5)(hc1:1≤c)(hc5:c≤5):Calls prog 183 #[v] w fun e w'=>e=.returned (.bool (decide (Bj r c m=[])))∧Below w.heap.size w w':=by
 have Hv:=Z hv;have aR:=Z (hs.ok hr1 hr5 hc1 hc5);obtain⟨a,cap,rfl,-⟩:=hv;go_enter func183,ntmps183;go_wp2_with fail;refine(Bh _ _ _ Hv.o).mono ?_;rintro e w' ⟨rfl,rfl⟩;rw[aR.o];go_wp2_with fail;refine(Oq _ m r c _ Hv.o hs hr1 hr5 hc1 hc5).mono ?_;rintro e w1 ⟨v1,rfl,o1,b1⟩;obtain⟨a1,c1,rfl⟩:=o1.shape;obtain⟨l,hl⟩:∃l,l=Bj r c m:=⟨_,rfl⟩;rw[←hl];clear o1;cases l with
 |nil=>
  have He:=Z (show true=decide (Bj r c m=[])from by rw[←hl];rfl);clear hl;go_wp2
  go_ret
  exact⟨AW He.o,b1⟩
 |cons s l=>
  have hd:(((s::l).length:Int)==0)=false:=by rw[Ai,An];omega
  obtain⟨n,hn⟩:∃n,n=(s::l).length:=⟨_,rfl⟩;rw[←hn]at hd⊢;have He:=Z (show false=decide (Bj r c m=[])from by rw[←hl];simp);clear hn hl;go_wp2
  go_ret
  exact⟨AW He.o,b1⟩
theorem A2O:(Tryz.prog.info? 4).map (fun i=>(i.zero,i.size,i.bytes))=some (some (.bool false),1,1):=by kernel_rfl
theorem Ag.qas(h:Ag E Q5 S w (.slice (some ⟨g,0,none⟩) n cap) xs){x:Bool}(hk:xs[k]? =some x):w.cell? ⟨g,k,none⟩=some (.bool x)∧w.frozen? ⟨g,k,none⟩=false:=by
 obtain⟨_,_,_,hf,T,u,hu,rfl,_⟩:=h.qal T8 hk;exact⟨hu,hf⟩
theorem Ag.qbr(h:Ag E Q5 S w (.slice (some ⟨g,0,none⟩) n cap) xs)(hk:k<xs.length)(c:Bool):Ag E Q5 S (w.setCell ⟨g,k,none⟩ (.bool c)) (.slice (some ⟨g,0,none⟩) n cap) (xs.set k c):=by
 obtain⟨_,_,_,_,T,u,_,_,_,h1,_⟩:=h.qal T8 (A3 hk);exact h1 (.bool c) c (fun _=>False) S rfl (fun _ x=>x.elim) (fun _ x=>x.elim) (fun _ x=>x)
structure RSt(n:Nat)(w wr:World)(qv:Value)(r c:Nat)(g:I)(a:Nat)(q:List Nat)(k w0:Nat):Prop where
 so:Ag 4 Q5 (fun b=>b=n) wr (.slice (some ⟨n,0,none⟩) (r+c) (r+c)) (JZ (r+c) q)
 qo:Ag 3 Ap (Iv (n+1) wr.heap.size) wr qv (H9 q)
 inv:NO r c g a q k w0
 bel:Below n w wr
 lt:n<wr.heap.size
theorem RSt.add{c a:Nat}{w2:World}{v2:Value}{g:I}(h:RSt n w wr qv r c g a q k x)(hu:q[k]? =some u)(hx:x<r+c)(he:QN r g u x)(hn:x∉q){o:Obj}(ho:Ag 3 Ap (fun b=>(Iv (n+1) wr.heap.size b∨False∨((wr.setCell ⟨n,x,none⟩ (.bool true)).alloc o).heap.size≤b)∧b<w2.heap.size) w2 v2 (H9 q++[(x:Int)]))(hb:AO (fun b=>qv.ownBlock=some b) ((wr.setCell ⟨n,x,none⟩ (.bool true)).alloc o) w2):RSt n w w2 v2 r c g a (q++[x]) k (x+1):=by
 have o2:=h.so.qbr (k:=x) (by rw[GU];exact hx) true;rw[Tf]at o2;have hl:=h.lt;have hz:((wr.setCell ⟨n,x,none⟩ (.bool true)).alloc o).heap.size=wr.heap.size+1:=Jj;have dK:=Below.qab (wr.setCell ⟨n,x,none⟩ (.bool true)) o;rw[As]at dK;have af:Below (n+1) ((wr.setCell ⟨n,x,none⟩ (.bool true)).alloc o) w2:=hb.below J fun b hb=>(h.qo.ownBlock b hb).1;have dg:Below (n+1) (wr.setCell ⟨n,x,none⟩ (.bool true)) w2:=(dK.mono J).trans af;have hs:=af.size;refine⟨(Ab T8).same (Ac dg fun b hb=>by have hb:b=n:=hb;omega) o2,?_,h.inv.add hu hx he hn,(h.bel.setCell (p:=⟨n,x,none⟩) (A2 _) _).trans (dg.mono (Nat.le_succ _)),J⟩;rw[A07];refine(Ab A8).mono (fun b hb=>⟨?_,hb.2⟩) ho;rcases hb.1 with h1|h1|h1
 ·exact h1.1
 ·exact h1.elim
 ·omega
theorem RSt.skip{c a:Nat}{g:I}(h:RSt n w wr qv r c g a q k x)(hu:q[k]? =some u)(hn:QN r g u x→x∈q):RSt n w wr qv r c g a q k (x+1):=⟨h.so,h.qo,h.inv.skip hu hn,h.bel,h.lt⟩
theorem Zl(v:Value)(m:I)(r c a:Nat)(w:World)(hv:AI w v m)(hs:Ax r c m)(hr1:1≤r)(hr5:r≤5)(hc1:1≤c)(hc5:c≤5)(ha:a<r+c):Calls prog 294 #[v,.int .i64 a] w fun e w'=>∃q:List Nat,(∀u,u∈q↔D8 r c m a u)∧e=.returned (.slice (some ⟨w.heap.size,0,none⟩) (r+c) (r+c))∧Ag 4 Q5 (fun b=>b=w.heap.size) w' (.slice (some ⟨w.heap.size,0,none⟩) (r+c) (r+c)) (JZ (r+c) q)∧Below w.heap.size w w':=by
 obtain⟨b,off,cp,rfl,hb,ah⟩:=hv.cells hs hr1 hc1;have fL:=Z ah;obtain⟨b0,o0,c0,bZ,bu,-⟩:=ah 0 J;rw[AF]at bZ;clear ah hv;go_enter func294,ntmps294;go_wp2_with (first|(at_make;(refine EJ _ rfl _ _ 224 rfl 4 underlying224 A2O rfl Jq (R:=Q5) false rfl T8 (r+c) (by rfl) (by rfl) J ?_;intro w1 aw hbel1 cn;have hlt1:w.heap.size<w1.heap.size:=J;have fN:=Z cn;have dd:=Z aw;obtain⟨tH,tI⟩:=aw.qas (k:=a) (x:=false) (List.getElem?_replicate_of_lt ha);clear cn aw)));have aG:=Z (show RSt w.heap.size w ((w1.setCell ⟨w.heap.size,a,none⟩ (.bool true)).alloc (.cells #[.int .i64 a] 3)) (.slice (some ⟨w1.heap.size,0,none⟩) 1 1) r c m a [a] 0 0 from by
  have aM:=fN.o;have bQ:(w1.setCell ⟨w.heap.size,a,none⟩ (.bool true)).heap.size=w1.heap.size:=As _ _ _;have af:=Below.qab (w1.setCell ⟨w.heap.size,a,none⟩ (.bool true)) (.cells #[.int .i64 a] 3);have o2:=dd.o.qbr (k:=a) (by simpa using ha) true;have o3:=(Ab T8).same (Ac af fun b hb=>by have hb:b=w.heap.size:=hb;omega) o2;rw[←ZO,Tf,List.nil_append]at o3;refine⟨o3,?_,ZB m ha,(hbel1.setCell (p:=⟨w.heap.size,a,none⟩) (A2 _) _).qaa af (A2 _),by simp;omega⟩;refine .inr ⟨w1.heap.size,#[.int .i64 a],rfl,⟨J,Jj⟩,?_,by simp[H9],by simp[maxLen],by simp[H9],fun _ _=>False,fun _ _ h=>h.elim,fun _ _ _ h=>h.elim,fun k x h=>by
   match k,h with
   |0,h=>simp[H9]at h;subst h;exact⟨_,rfl,rfl,Cc.small J J⟩⟩
  have h:=heap_alloc_new (w1.setCell ⟨w.heap.size,a,none⟩ (.bool true)) (.cells #[.int .i64 a] 3);rw[bQ]at h;exact h)
 clear dd tH tI;go_loopw [7,8,9,10,11] (fun qv i _ _ _ wr=>∃(k:Nat)(q:List Nat),i=.int .i64 k∧k≤q.length∧Hid (RSt w.heap.size w wr qv r c m a q k 0)) (fun _ i _ _ _ _=>r+c-(intOf i).toNat);exact⟨0,[a],rfl,A7 _,aG⟩;clear aG bZ;obtain⟨k,q,rfl,hk,St⟩:=hrel;have jf:=St.o.inv.len;obtain⟨n,hn⟩:∃n,n=q.length:=⟨_,rfl⟩;have Hn:=Z hn;rw[←hn]at jf hk;by_cases aF:k<n
 ·obtain⟨u,hu⟩:∃u,q[k]? =some u:=⟨_,A3 (by rw[←hn];exact aF)⟩;have hun:=St.o.inv.lt u (A4 hu);obtain⟨gq,cq,rfl,hgq,-,-,-⟩:=St.o.qo.qac (by rw[GK];omega);have dj:=(St.o.qo.qaf (A2F hu)).1;rw[GK,←hn];have Hu:=Z hu;clear hu hn;go_wp2;clear dj;go_loopw [7,10,11,38] (fun qv _ _ i wr=>∃(x:Nat)(q:List Nat),i=.int .i64 x∧x≤r+c∧Hid (q[k]? =some u)∧Hid (RSt w.heap.size w wr qv r c m a q k x)) (fun _ _ _ i _=>r+c-(intOf i).toNat);exact⟨0,q,rfl,A7 _,Hu,Z (by have:=St.o;rwa[GK,←Hn.o]at this)⟩;clear St;obtain⟨x,q2,rfl,hx,Hu,St⟩:=hrel;obtain⟨gq,cq,rfl,hgq,-,-,-⟩:=St.o.qo.qac (by rw[GK];have:=(A5.1 Hu.o).1;omega);obtain⟨N2,hN2⟩:∃N2,N2=(H9 q2).length:=⟨_,rfl⟩;have ct:=St.o.inv.len;rw[←GK,←hN2]at ct;have pC:(H9 q2).length<1099511627776:=by rw[←hN2];omega
  rw[←hN2]at St⊢;clear hN2;by_cases hltx:x<r+c
  ·obtain⟨xH,dA⟩:=St.o.so.qas (k:=x) (II q2 hltx);have sC:Cc (x:Int):=Cc.small J J;have bQ:(wr.setCell ⟨w.heap.size,x,none⟩ (.bool true)).heap.size=wr.heap.size:=As _ _ _;have af:=Below.qab (wr.setCell ⟨w.heap.size,x,none⟩ (.bool true)) (.cells #[.int .i64 x] 3);have Hq:=Z (show Ag 3 Ap (Iv (w.heap.size+1) wr.heap.size) ((wr.setCell ⟨w.heap.size,x,none⟩ (.bool true)).alloc (.cells #[.int .i64 x] 3)) (.slice (some ⟨gq,0,none⟩) N2 cq) (H9 q2)from
    (Ab A8).same (Ac af fun b hb=>by rw[bQ];exact hb.2) ((Ab A8).same (fun b hb=>Below.heap_setCell _ ⟨w.heap.size,x,none⟩ (.bool true) b (by have:=hb.1;show b≠w.heap.size;omega)) St.o.qo))
   have f9:=PD (wr.setCell ⟨w.heap.size,x,none⟩ (.bool true)) (.int .i64 x) 3 0 _ rfl;rw[bQ]at f9;have fO:=Z (show(∀b,Iv (w.heap.size+1) wr.heap.size b→b<((wr.setCell ⟨w.heap.size,x,none⟩ (.bool true)).alloc (.cells #[.int .i64 x] 3)).heap.size)∧((wr.setCell ⟨w.heap.size,x,none⟩ (.bool true)).alloc (.cells #[.int .i64 x] 3)).cell? ⟨wr.heap.size,0,none⟩=some (.int .i64 x)from⟨fun b hb=>by have:=hb.2;simp;omega,by simpa[Addr.add]using f9⟩);clear bQ af f9;have hxrc:(x:Int)<(r:Int)+(c:Int):=J;by_cases sq:u<r
   ·by_cases hwr:r≤x
    ·obtain⟨X,hX⟩:∃X:Nat,(x:Int)-(r:Int)=(X:Int):=⟨x-r,J⟩;have sD:X<c:=J;obtain⟨br,offr,cpr,jX,dL,jB⟩:=fL.o u sq;have jX:=(St.o.bel.cell (p:=⟨b,off+u,none⟩) hb).trans jX;have jB:=(St.o.bel.cell (p:=⟨br,offr+X,none⟩) dL).trans (jB X sD);have He:=Z (show QN r m u x↔AJ m u X=1 from⟨fun h=>by
      rcases h with⟨-,-,h⟩|⟨h,-⟩
      ·rwa[show x-r=X by omega]at h
      ·omega,fun h=>.inl ⟨sq,hwr,by rwa[show x-r=X by omega]⟩⟩)
     obtain⟨z,hz⟩:∃z,z=AJ m u X:=⟨_,rfl⟩;rw[←hz]at jB He;clear hz;by_cases h1:z=1
     ·have ng:(z==1)=true:=by simp[h1]
      have tJ:=Z (He.o.2 h1);clear h1;by_cases bV:x∈q2
      ·have hd:decide (x∈q2)=true:=decide_eq_true bV;rw[hd]at xH;have ec:=Z (St.o.skip Hu.o fun _=>bV);clear hd bV;go_wp2;go_roundw;exact⟨x+1,q2,by go_num,J,Hu,ec⟩;exact Jv
      ·have hd:decide (x∈q2)=false:=decide_eq_false bV;rw[hd]at xH;have dC:=Z bV;clear hd bV;go_wp2_with (first|(at_builtin;(refine F6 (w:=(wr.setCell ⟨w.heap.size,x,none⟩ (.bool true)).alloc (.cells #[.int .i64 x] 3)) (v:=.slice (some ⟨gq,0,none⟩) N2 cq) (u:=.int .i64 x) (xs:=H9 q2) (x:=(x:Int)) (gb:=wr.heap.size) (c:=1) rfl _ _ 32 rfl A8 3 underlying32 Bg rfl Jq (Iv (w.heap.size+1) wr.heap.size) (fun _=>False) rfl rfl (by exact fO.o.2) (by exact Hq.o) (by exact⟨rfl,sC⟩) (fun _ _ h=>h) (by exact fO.o.1) (fun _ h=>h.elim) pC ?_);intro v2 w2 hown2 hbel2)|fail);have ec:=Z (St.o.add Hu.o hltx tJ.o dC.o hown2 hbel2);have jk:=Z (show(q2++[x])[k]? =some u from by rw[Aq (A5.1 Hu.o).1];exact Hu.o);clear hown2;exact⟨⟨x+1,q2++[x],by go_num,J,jk,ec⟩,by simp[intOf];omega⟩
     ·have ng:(z==1)=false:=by simp[h1]
      have ec:=Z (St.o.skip Hu.o fun e=>absurd (He.o.1 e) h1);clear h1;go_wp2;go_roundw;exact⟨x+1,q2,by go_num,J,Hu,ec⟩;exact Jv
    ·have ec:=Z (St.o.skip Hu.o fun e=>by
      rcases e with⟨-,h,-⟩|⟨h,-⟩<;>omega)
     go_wp2;go_roundw;exact⟨x+1,q2,by go_num,J,Hu,ec⟩;exact Jv
   ·have hru:r≤u:=J;by_cases hwr:x<r
    ·obtain⟨X,hX⟩:∃X:Nat,(u:Int)-(r:Int)=(X:Int):=⟨u-r,J⟩;have sD:X<c:=J;obtain⟨br,offr,cpr,jX,dL,jB⟩:=fL.o x hwr;have jX:=(St.o.bel.cell (p:=⟨b,off+x,none⟩) hb).trans jX;have jB:=(St.o.bel.cell (p:=⟨br,offr+X,none⟩) dL).trans (jB X sD);have He:=Z (show QN r m u x↔AJ m x X=0 from⟨fun h=>by
      rcases h with⟨h,-⟩|⟨-,-,h⟩
      ·omega
      ·rwa[show u-r=X by omega]at h,fun h=>.inr ⟨J,hwr,by rwa[show u-r=X by omega]⟩⟩)
     obtain⟨z,hz⟩:∃z,z=AJ m x X:=⟨_,rfl⟩;rw[←hz]at jB He;clear hz;by_cases h1:z=0
     ·have ng:(z==0)=true:=by simp[h1]
      have tJ:=Z (He.o.2 h1);clear h1;by_cases bV:x∈q2
      ·have hd:decide (x∈q2)=true:=decide_eq_true bV;rw[hd]at xH;have ec:=Z (St.o.skip Hu.o fun _=>bV);clear hd bV;go_wp2;go_roundw;exact⟨x+1,q2,by go_num,J,Hu,ec⟩;exact Jv
      ·have hd:decide (x∈q2)=false:=decide_eq_false bV;rw[hd]at xH;have dC:=Z bV;clear hd bV;go_wp2_with (first|(at_builtin;(refine F6 (w:=(wr.setCell ⟨w.heap.size,x,none⟩ (.bool true)).alloc (.cells #[.int .i64 x] 3)) (v:=.slice (some ⟨gq,0,none⟩) N2 cq) (u:=.int .i64 x) (xs:=H9 q2) (x:=(x:Int)) (gb:=wr.heap.size) (c:=1) rfl _ _ 32 rfl A8 3 underlying32 Bg rfl Jq (Iv (w.heap.size+1) wr.heap.size) (fun _=>False) rfl rfl (by exact fO.o.2) (by exact Hq.o) (by exact⟨rfl,sC⟩) (fun _ _ h=>h) (by exact fO.o.1) (fun _ h=>h.elim) pC ?_);intro v2 w2 hown2 hbel2)|fail);have ec:=Z (St.o.add Hu.o hltx tJ.o dC.o hown2 hbel2);have jk:=Z (show(q2++[x])[k]? =some u from by rw[Aq (A5.1 Hu.o).1];exact Hu.o);clear hown2;exact⟨⟨x+1,q2++[x],by go_num,J,jk,ec⟩,by simp[intOf];omega⟩
     ·have ng:(z==0)=false:=by simp[h1]
      have ec:=Z (St.o.skip Hu.o fun e=>absurd (He.o.1 e) h1);clear h1;go_wp2;go_roundw;exact⟨x+1,q2,by go_num,J,Hu,ec⟩;exact Jv
    ·have ec:=Z (St.o.skip Hu.o fun e=>by
      rcases e with⟨h,-⟩|⟨-,h,-⟩<;>omega)
     go_wp2;go_roundw;exact⟨x+1,q2,by go_num,J,Hu,ec⟩;exact Jv
  ·have nh:x=r+c:=J;have au:=(A5.1 Hu.o).1;have ec:=Z (show RSt w.heap.size w wr (.slice (some ⟨gq,0,none⟩) N2 cq) r c m a q2 (k+1) 0 from⟨St.o.so,St.o.qo,St.o.inv.next J,St.o.bel,St.o.lt⟩);clear nh;go_wp2;go_roundw;exact⟨k+1,q2,by go_num,au,ec⟩;exact Jv
 ·obtain rfl:k=n:=J;obtain⟨gq,cq,rfl,hgq,-,-,-⟩:=St.o.qo.qac (by rw[GK,←hn];have:=List.length_pos_of_mem St.o.inv.start;omega);rw[GK,←hn];have aU:=Z (St.o.inv.all (Nat.le_of_eq hn.symm) ha);clear hn;go_wp2
  go_ret
  exact⟨q,aU.o,rfl,St.o.so,St.o.bel⟩
def Cj(m:I):ByteArray:=if AC m then CF m.length (m.headD []).length m else ByteArray.empty
theorem N9{c:Nat}(h:Ax r c m)(h1:1≤r)(h2:r≤5)(h3:1≤c)(h4:c≤5):Cj m=CF r c m:=by
 unfold Cj;rw[if_pos (h.ok h1 h2 h3 h4),h.1,h.head h1]
theorem Wh(v:Value)(m:I)(w:World)(hv:AI w v m)(ht:Tab w):Calls prog 45 #[v] w fun e w'=>e=.returned (.string (Cj m))∧Below w.heap.size w w':=by
 cases hok:AC m
 ·have Hr:=Z (show Cj m=ByteArray.empty from by simp[Cj,hok]);have aR:=Z hok;clear hok;obtain⟨a,cap,rfl,-⟩:=id hv;go_enter func45,ntmps45;go_wp2_with fail;refine(B8 _ _ _ hv).mono ?_;rintro e w' ⟨rfl,rfl⟩;rw[aR.o];go_wp2
  go_ret
  exact⟨I4 Hr.o.symm,A6 _ _⟩
 ·obtain⟨r,c,hr1,hr5,hc1,hc5,an⟩:=Az hok;rw[N9 an hr1 hr5 hc1 hc5];exact Yi v m r c w hv an hr1 hr5 hc1 hc5 ht
theorem RC(v:Value)(m:I)(r c a:Nat)(n:Int)(w:World)(hn:n=(a:Int))(hv:AI w v m)(hs:Ax r c m)(hr1:1≤r)(hr5:r≤5)(hc1:1≤c)(hc5:c≤5)(ha:a<r+c):Calls prog 294 #[v,.int .i64 n] w fun e w'=>∃q:List Nat,(∀u,u∈q↔D8 r c m a u)∧e=.returned (.slice (some ⟨w.heap.size,0,none⟩) (r+c) (r+c))∧Ag 4 Q5 (fun b=>b=w.heap.size) w' (.slice (some ⟨w.heap.size,0,none⟩) (r+c) (r+c)) (JZ (r+c) q)∧Below w.heap.size w w':=by
 subst hn;exact Zl v m r c a w hv hs hr1 hr5 hc1 hc5 ha
theorem A1q(v:Value)(m:I)(r c y x:Nat)(w:World)(hv:AI w v m)(hs:Ax r c m)(hr1:1≤r)(hr5:r≤5)(hc1:1≤c)(hc5:c≤5)(hy:y<r)(hx:x<c):
  Calls prog 253 #[v,.int .i64 y,.int .i64 x] w fun e w'=>∃z:Bool,e=.returned (.bool z)∧(z=false↔D8 r c m (K4 r m y x) (TG r m y x))∧Below w.heap.size w w':=by
 obtain⟨b,off,cp,rfl,hb,ah⟩:=hv.cells hs hr1 hc1;have Hv:=Z hv;obtain⟨br,offr,cpr,jX,dL,jB⟩:=ah y hy;replace jB:=jB x hx;have Hb:=Z (FB (r:=r) (c:=c) (y:=y) (x:=x).2 J);obtain⟨hf,ht⟩:=A1D (r:=r) (c:=c) (m:=m) hy hx;have Hf:=Z (show(AJ m y x=1→K4 r m y x=r+x∧TG r m y x=y)∧(AJ m y x≠1→K4 r m y x=y∧TG r m y x=r+x)from by
  unfold K4 TG;exact⟨fun h=>by rw[if_pos h,if_pos h];exact⟨rfl,rfl⟩,fun h=>by rw[if_neg h,if_neg h];exact⟨rfl,rfl⟩⟩)
 obtain⟨z,hz⟩:∃z,z=AJ m y x:=⟨_,rfl⟩;rw[←hz]at jB Hf;obtain⟨A,hA⟩:∃A,A=K4 r m y x:=⟨_,rfl⟩;obtain⟨B,hB⟩:∃B,B=TG r m y x:=⟨_,rfl⟩;rw[←hA,←hB]at Hf⊢;rw[←hA]at hf;rw[←hB]at ht;clear hz hA hB ah hv;by_cases h1:z=1
 ·obtain⟨e1,e2⟩:=Hf.o.1 h1;have ng:(z==1)=true:=by simp[h1]
  have Hn:=Z (show(r:Int)+(x:Int)=(A:Int)from by omega);have qI:=Z (show y=B from e2.symm);clear h1 e1 e2;go_enter func253,ntmps253;go_wp2_with fail;refine(DG _ _ _ _ _ _ _ Hv.o hs hr1 hr5 hc1 hc5).mono ?_;rintro e w' ⟨rfl,rfl⟩;rw[Hb.o];go_wp2_with fail;refine(RC _ m r c A _ _ Hn.o Hv.o hs hr1 hr5 hc1 hc5 hf).mono ?_;rintro e w2 ⟨q,hq,rfl,so,b2⟩;have tH:=(so.qas (k:=y) (II q J)).1;have yP:(y:Int)<(r:Int)+(c:Int):=J;have Hq:=Z (hq B);rw[←qI.o]at Hq;obtain⟨s,dY⟩:∃s,s=decide (y∈q):=⟨_,rfl⟩;rw[←dY]at tH;have Hs:=Z dY;clear dY so hq;go_wp2
  go_ret
  refine⟨!s,rfl,?_,b2⟩;rw[←qI.o,←Hq.o,Hs.o];simp
 ·obtain⟨e1,e2⟩:=Hf.o.2 h1;have ng:(z==1)=false:=by simp[h1]
  have Hn:=Z (show(y:Int)=(A:Int)from by omega);obtain⟨X,hX⟩:∃X:Nat,(r:Int)+(x:Int)=(X:Int):=⟨r+x,J⟩;have qI:=Z (show X=B from by omega);clear h1 e1 e2;go_enter func253,ntmps253;go_wp2_with fail;refine(DG _ _ _ _ _ _ _ Hv.o hs hr1 hr5 hc1 hc5).mono ?_;rintro e w' ⟨rfl,rfl⟩;rw[Hb.o];go_wp2_with fail;refine(RC _ m r c A _ _ Hn.o Hv.o hs hr1 hr5 hc1 hc5 hf).mono ?_;rintro e w2 ⟨q,hq,rfl,so,b2⟩;have tH:=(so.qas (k:=X) (II q (by have:=qI.o;omega))).1;have yP:X<r+c:=by have:=qI.o;omega
  have Hq:=Z (hq B);rw[←qI.o]at Hq;obtain⟨s,dY⟩:∃s,s=decide (X∈q):=⟨_,rfl⟩;rw[←dY]at tH;have Hs:=Z dY;clear dY so hq;go_wp2
  go_ret
  refine⟨!s,rfl,?_,b2⟩;rw[←qI.o,←Hq.o,Hs.o];simp
theorem Yl(v:Value)(m:I)(r c:Nat)(w:World)(hv:AI w v m)(hs:Ax r c m)(hr1:1≤r)(hr5:r≤5)(hc1:1≤c)(hc5:c≤5):Calls prog 184 #[v] w fun e w'=>e=.returned (.int .i64 (Gu (C0 (Ae m) (Al m))))∧Below w.heap.size w w':=by
 have Hv:=Z hv;have aR:=Z (hs.ok hr1 hr5 hc1 hc5);have ex:=Z (fun y (hy:y<r)=>ZA hs hr1 hr5 hc1 hc5 hy);have aN:=(Sy hs hr1 hr5 hc1 hc5).len;obtain⟨F,hF⟩:∃F,F=C0 (Ae m) (Al m):=⟨_,rfl⟩;rw[←hF]at ex aN⊢;have fP:=Z aN;obtain⟨b,off,cp,rfl,hb,ah⟩:=hv.cells hs hr1 hc1;have fL:=Z ah;clear hF ah hv aN;go_enter func184,ntmps184;go_wp2_with fail;refine(Bh _ _ _ Hv.o).mono ?_;rintro e w' ⟨rfl,rfl⟩;rw[aR.o];go_wp2;go_loopw [3,4,5,6,12] (fun n _ _ _ i wr=>∃k:Nat,k≤r∧i=.int .i64 k∧n=.int .i64 (Gu (F.take k))∧Gu (F.take k)≤5*k∧Hid (Below w.heap.size w wr)) (fun _ _ _ _ i _=>r-(intOf i).toNat);exact⟨0,A7 _,rfl,by simp[Gu],by simp[Gu],A6 _ _⟩;obtain⟨k,hk,rfl,rfl,hn,Hb⟩:=hrel;by_cases aF:k<r
 ·obtain⟨l,hl,dN,fJ⟩:=ex.o k aF;obtain⟨br,offr,cpr,jX,dL,-⟩:=fL.o k aF;have qJ:=(Hb.o.cell (p:=⟨b,off+k,none⟩) hb).trans jX;have Hl:=Z hl;have eT:=Z dN;have e8:=Z fJ;obtain⟨N,hN⟩:∃N,N=Gu (F.take k):=⟨_,rfl⟩;rw[←hN]at hn⊢;clear hl fJ jX dN;go_wp2;clear qJ;go_loopw [3,6,19] (fun n _ i wr=>∃x:Nat,x≤c∧i=.int .i64 x∧n=.int .i64 ((N+Ed (l.take x):Nat):Int)∧Ed (l.take x)≤x∧Hid (Below w.heap.size w wr)) (fun _ _ i _=>c-(intOf i).toNat);exact⟨0,A7 _,rfl,by simp[Ed],by simp[Ed],Hb⟩;clear Hb;obtain⟨x,hx,rfl,rfl,hnx,Hb⟩:=hrel;by_cases bW:x<c
  ·obtain⟨f,hf,hfr⟩:=e8.o x bW;have Hn:=Z (Qa hf);have Hfr:=Z hfr;clear hf hfr;obtain⟨N2,hN2⟩:∃N2,N2=Ed (l.take x):=⟨_,rfl⟩;rw[←hN2]at hnx⊢Hn;clear hN2;go_wp2_with fail;refine(A1q _ m r c k x _ (Hv.o.keep Hb.o) hs hr1 hr5 hc1 hc5 aF bW).mono ?_;rintro e w5 ⟨z,rfl,hz,b5⟩;have gd:=Z (Hb.o.qaa b5 (A2 _));cases z
   ·have Hlt:=Z (Hfr.o.2 (hz.1 rfl));clear hz;go_wp2;go_roundw;exact⟨x+1,J,by go_num,by rw[Hn.o,if_pos Hlt.o];go_num,by rw[Hn.o,if_pos Hlt.o];omega,gd⟩;exact Jv
   ·have Hge:=Z (show ¬f<0 from fun h=>by have:=hz.2 (Hfr.o.1 h);cases this);have pD:=Z (show Ed (l.take (x+1))=N2 from by rw[Hn.o,if_neg Hge.o];omega);clear hz;go_wp2;go_roundw;exact⟨x+1,J,by go_num,by rw[pD.o];go_num,by rw[pD.o];omega,gd⟩;exact Jv
  ·obtain rfl:x=c:=J;have iC:l.take x=l:=A9 (Nat.le_of_eq eT.o);rw[iC]at hnx⊢;have Hs:=Z (Pw Hl.o);go_wp2;go_roundw;exact⟨k+1,J,by go_num,by rw[Hs.o,←hN],by rw[Hs.o,←hN];omega,Hb⟩;exact Jv
 ·obtain rfl:k=r:=J;rw[A9 (Nat.le_of_eq fP.o)]at hn⊢;go_wp2
  go_ret
  exact⟨rfl,Hb.o⟩
theorem WI(v:Value)(m:I)(r c:Nat)(w:World)(hv:AI w v m)(hs:Ax r c m)(hr1:1≤r)(hr5:r≤5)(hc1:1≤c)(hc5:c≤5):Calls prog 124 #[v] w fun e w'=>e=.returned (.string (CF r c m))∧Below w.heap.size w w':=by
 have Hv:=Z hv;have aR:=Z (hs.ok hr1 hr5 hc1 hc5);have aM:=KM hs hr1 hr5 hc1 hc5;have ew:=Vx (Sy hs hr1 hr5 hc1 hc5) hr5 hc5;have eJ:=(Cr hs hr1 hr5 hc1 hc5).1;have fl:=(Cv hs hr1 hr5 hc1 hc5).1;obtain⟨A,hA⟩:∃A,A=AD m:=⟨_,rfl⟩;obtain⟨B,hB⟩:∃B,B=AK (Ae m):=⟨_,rfl⟩;obtain⟨C,hC⟩:∃C,C=AK (Al m):=⟨_,rfl⟩;obtain⟨N,hN⟩:∃N,N=Gu (C0 (Ae m) (Al m)):=⟨_,rfl⟩;rw[←hN]at ew;rw[←hA,←hB,←hC,←hN]at aM;have HA:=Z hA;have HB:=Z hB;have HC:=Z hC;have HN:=Z hN;obtain⟨za,zb,zc,zd,z1,z2,z3,z4,z5⟩:=aM;clear hA hB hC hN;obtain⟨a,cap,rfl,-⟩:=hv;go_enter func124,ntmps124;go_wp2_with fail;refine(Bh _ _ _ Hv.o).mono ?_;rintro e w' ⟨rfl,rfl⟩;rw[aR.o];go_wp2_with fail;refine(EK _ _ _ Hv.o).mono ?_;rintro e w1 ⟨rfl,b1⟩;rw[←HA.o];go_wp2_with fail;refine(FSa _ _ _ (Hv.o.keep b1)).mono ?_;rintro e w2 ⟨v2,rfl,o2,b2⟩;have cI:=b1.qaa b2 (A2 _);go_wp2_with fail;refine(Ce _ _ _ o2.ints J).mono ?_;rintro e w3 ⟨rfl,b3⟩;rw[←HB.o];have di:=cI.qaa b3 (A2 _);clear o2;go_wp2_with fail;refine(CQ 141 (.inr rfl) _ _ _ (Hv.o.keep di)).mono ?_;rintro e w4 ⟨v4,rfl,o4,b4⟩;have eu:=di.qaa b4 (A2 _);go_wp2_with fail;refine(Ce _ _ _ o4.ints J).mono ?_;rintro e w5 ⟨rfl,b5⟩;rw[←HC.o];have fD:=eu.qaa b5 (A2 _);clear o4;go_wp2_with fail;refine(Zn _ m r c _ (Hv.o.keep fD) hs hr1 hr5 hc1 hc5).mono ?_;rintro e w6 ⟨rfl,b6⟩;have jA:=fD.qaa b6 (A2 _);by_cases hu:Bj r c m=[]
 ·rw[decide_eq_true hu];have Hr:=Z (show A++⟨#[32,114,111,119,115,32]⟩++B++⟨#[32,99,111,108,115,32]⟩++C++⟨#[32,117,110,105,113,117,101]⟩=CF r c m from by unfold CF;rw[if_pos hu,HA.o,HB.o,HC.o]);clear hu;go_wp2
  go_ret
  exact⟨I4 Hr.o,jA⟩
 ·rw[decide_eq_false hu];have Hr:=Z (show A++⟨#[32,114,111,119,115,32]⟩++B++⟨#[32,99,111,108,115,32]⟩++C++⟨#[32,102,114,101,101,32]⟩++AQ N=CF r c m from by unfold CF;rw[if_neg hu,HA.o,HB.o,HC.o,HN.o]);clear hu;go_wp2_with fail;refine(Yl _ m r c _ (Hv.o.keep jA) hs hr1 hr5 hc1 hc5).mono ?_;rintro e w7 ⟨rfl,b7⟩;rw[←HN.o];have jW:=jA.qaa b7 (A2 _);go_wp2_with fail;refine(Dx _ (Cc.small J J) _).mono ?_;rintro e w8 ⟨rfl,b8⟩;have qH:=jW.qaa b8 (A2 _);go_wp2
  go_ret
  exact⟨I4 Hr.o,qH⟩
theorem Vf(v:Value)(m:I)(w:World)(hv:AI w v m):Calls prog 124 #[v] w fun e w'=>e=.returned (.string (Cj m))∧Below w.heap.size w w':=by
 cases hok:AC m
 ·have Hr:=Z (show Cj m=ByteArray.empty from by simp[Cj,hok]);have aR:=Z hok;clear hok;obtain⟨a,cap,rfl,-⟩:=id hv;go_enter func124,ntmps124;go_wp2_with fail;refine(Bh _ _ _ hv).mono ?_;rintro e w' ⟨rfl,rfl⟩;rw[aR.o];go_wp2
  go_ret
  exact⟨I4 Hr.o.symm,A6 _ _⟩
 ·obtain⟨r,c,hr1,hr5,hc1,hc5,an⟩:=Az hok;rw[N9 an hr1 hr5 hc1 hc5];exact WI v m r c w hv an hr1 hr5 hc1 hc5
def IU(xs ys:U):ByteArray:=⟨#[114,111,119,115,32]⟩++AK xs++⟨#[32,99,111,108,115,32]⟩++AK ys
def Cy(xs ys:U):ByteArray:=
 if AT xs ys then(if BF xs ys then IU xs ys++⟨#[32,105,109,97,103,101,115,32]⟩++AQ (Bt xs ys).length
  else IU xs ys++⟨#[32,110,111,110,101,58,32,99,111,108,117,109,110,115,32]⟩++AQ (Fq xs ys))
 else IU xs ys++⟨#[32,110,111,110,101]⟩
structure A4k(A B C:ByteArray):Prop where
 a:A.size≤33554432
 b:B.size≤33554432
 c:C.size≤20
 l1:(⟨#[114,111,119,115,32]⟩++A:ByteArray).size≤33554442
 l2:(⟨#[114,111,119,115,32]⟩++A++⟨#[32,99,111,108,115,32]⟩:ByteArray).size≤33554452
 l3:(⟨#[114,111,119,115,32]⟩++A++⟨#[32,99,111,108,115,32]⟩++B:ByteArray).size≤67108904
 l4:(⟨#[114,111,119,115,32]⟩++A++⟨#[32,99,111,108,115,32]⟩++B++⟨#[32,110,111,110,101,58,32,99,111,108,117,109,110,115,32]⟩:ByteArray).size≤67108934
 l5:(⟨#[114,111,119,115,32]⟩++A++⟨#[32,99,111,108,115,32]⟩++B++⟨#[32,105,109,97,103,101,115,32]⟩:ByteArray).size≤67108934
theorem Za(a:A.size≤33554432)(b:B.size≤33554432)(c:C.size≤20):A4k A B C:=by
 have e1:(⟨#[114,111,119,115,32]⟩:ByteArray).size=5:=rfl;have e2:(⟨#[32,99,111,108,115,32]⟩:ByteArray).size=6:=rfl;have e3:(⟨#[32,110,111,110,101,58,32,99,111,108,117,109,110,115,32]⟩:ByteArray).size=15:=rfl;have e4:(⟨#[32,105,109,97,103,101,115,32]⟩:ByteArray).size=8:=rfl;refine⟨a,b,c,?_,?_,?_,?_,?_⟩<;>simp only[AR,e1,e2,e3,e4]<;>omega
theorem UV{v:Value}{l:U}(h:Au w v l)(hl:l.length≤1048576):(AK l).size≤33554432:=by
 have:=Cq (Ju h);omega
theorem A2I{xs ys:U}(hok:AT xs ys=true):(Bt xs ys).length≤1073741824:=by
 obtain⟨x1,x5,y1,y5,-,-,-⟩:=BG hok;rw[D6 hok];exact Aj (JJ xs ys) (Aj (Nat.pow_le_pow_right Jq (Nat.mul_le_mul x5 (Nat.succ_le_succ y5))) Jq)
theorem TL(v v2:Value)(xs ys:U)(w:World)(hv:Au w v xs)(aS:Au w v2 ys)(hok:AT xs ys=true):Calls prog 207 #[v,v2] w fun e w'=>e=.returned (.int .i64 (BB xs ys).length)∧Below w.heap.size w w':=by
 have Hv:=Z hv;have aY:=Z aS;have aR:=Z hok;obtain⟨a,cap,rfl,-⟩:=hv;obtain⟨a2,cap2,rfl,-⟩:=aS;clear hok;go_enter func207,ntmps207;go_wp2_with fail;refine(Jo _ _ _ _ _ Hv.o aY.o).mono ?_;rintro e w1 ⟨v1,rfl,o1,b1⟩;rw[aR.o];rw[show Bt xs ys=BB xs ys from by unfold Bt;rw[aR.o];rfl]at o1;obtain⟨p1,p2,p3,rfl⟩:=o1.shape;have hl:=o1.qan.len;subst hl;clear o1;go_wp2
 go_ret
 exact⟨rfl,b1⟩
theorem Rb(F0:Nat)(eS:F0=36∨F0=146)(v v2:Value)(xs ys:U)(w:World)(hv:Au w v xs)(aS:Au w v2 ys)(hx:xs.length≤1048576)(hy:ys.length≤1048576)(ht:Tab w):Calls prog F0 #[v,v2] w fun e w'=>e=.returned (.string (Cy xs ys))∧Below w.heap.size w w':=by
 rcases eS with rfl|rfl
 all_goals
  have Hv:=Z hv;have aY:=Z aS;have s1:=UV hv hx;have s2:=UV aS hy;have nT:=OD xs ys;obtain⟨A,hA⟩:∃A,A=AK xs:=⟨_,rfl⟩;obtain⟨B,hB⟩:∃B,B=AK ys:=⟨_,rfl⟩;obtain⟨Wn,hW⟩:∃W,W=Fq xs ys:=⟨_,rfl⟩;rw[←hW]at nT;rw[←hA]at s1;rw[←hB]at s2;have HA:=Z hA;have HB:=Z hB;have HW:=Z hW;have HT:=Z ht;obtain⟨a,cap,rfl,-⟩:=hv;obtain⟨a2,cap2,rfl,-⟩:=aS;clear hA hB hW ht;cases hok:AT xs ys
  ·obtain⟨za,zb,zc,z1,z2,z3,z4,z5⟩:=Za (C:=ByteArray.empty) s1 s2 Jq;have Hr:=Z (show⟨#[114,111,119,115,32]⟩++A++⟨#[32,99,111,108,115,32]⟩++B++⟨#[32,110,111,110,101]⟩=Cy xs ys from by unfold Cy IU;rw[if_neg (by rw[hok];simp),HA.o,HB.o]);have aR:=Z hok;clear hok
   first|go_enter func36,ntmps36|go_enter func146,ntmps146
   go_wp2_with fail
   first|(go_at_call 43;refine(Ct _ xs _ Hv.o J HT.o).mono ?_)|(refine(Ce _ xs _ Hv.o J).mono ?_)
   rintro e w1 ⟨rfl,b1⟩;rw[←HA.o];go_wp2_with fail
   first|(go_at_call 43;refine(Ct _ ys _ (aY.o.keep b1) J (HT.o.keep b1)).mono ?_)|(refine(Ce _ ys _ (aY.o.keep b1) J).mono ?_)
   rintro e w2 ⟨rfl,b2⟩;rw[←HB.o];have cI:=b1.qaa b2 (A2 _);go_wp2_with fail
   first|(go_at_call 89;refine(Fx _ _ _ _ _ (Hv.o.keep cI) (aY.o.keep cI)).mono ?_)|(refine(EV _ _ _ _ _ (Hv.o.keep cI) (aY.o.keep cI)).mono ?_)
   rintro e w' ⟨rfl,rfl⟩;rw[aR.o];go_wp2
   go_ret
   exact⟨I4 Hr.o,cI⟩
  have tK:=A2I hok;rw[D6 hok]at tK;obtain⟨x1,x5,y1,y5,-,-,-⟩:=BG hok;obtain⟨Cn,hC⟩:∃C,C=(BB xs ys).length:=⟨_,rfl⟩;rw[←hC]at tK;have HC:=Z hC;have yQ:=Z (D6 hok);have aR:=Z hok;clear hC;cases bK:BF xs ys
  ·obtain⟨za,zb,zc,z1,z2,z3,z4,z5⟩:=Za (C:=AQ Wn) s1 s2 (CW J);have Hr:=Z (show⟨#[114,111,119,115,32]⟩++A++⟨#[32,99,111,108,115,32]⟩++B++⟨#[32,110,111,110,101,58,32,99,111,108,117,109,110,115,32]⟩++AQ Wn=Cy xs ys from by unfold Cy IU;rw[if_pos hok,if_neg (by rw[bK];simp),HA.o,HB.o,HW.o]);have dk:=Z bK;clear hok bK
   first|go_enter func36,ntmps36|go_enter func146,ntmps146
   go_wp2_with fail
   first|(go_at_call 43;refine(Ct _ xs _ Hv.o J HT.o).mono ?_)|(refine(Ce _ xs _ Hv.o J).mono ?_)
   rintro e w1 ⟨rfl,b1⟩;rw[←HA.o];go_wp2_with fail
   first|(go_at_call 43;refine(Ct _ ys _ (aY.o.keep b1) J (HT.o.keep b1)).mono ?_)|(refine(Ce _ ys _ (aY.o.keep b1) J).mono ?_)
   rintro e w2 ⟨rfl,b2⟩;rw[←HB.o];have cI:=b1.qaa b2 (A2 _);go_wp2_with fail
   first|(go_at_call 89;refine(Fx _ _ _ _ _ (Hv.o.keep cI) (aY.o.keep cI)).mono ?_)|(refine(EV _ _ _ _ _ (Hv.o.keep cI) (aY.o.keep cI)).mono ?_)
   rintro e w' ⟨rfl,rfl⟩;rw[aR.o];go_wp2_with fail
   first|(go_at_call 90;refine(OZ _ _ _ _ _ (Hv.o.keep cI) (aY.o.keep cI)).mono ?_)|(refine(DB _ _ _ _ _ (Hv.o.keep cI) (aY.o.keep cI)).mono ?_)
   rintro e w3 ⟨rfl,b3⟩;rw[dk.o];have di:=cI.qaa b3 (A2 _);go_wp2_with fail
   first|(go_at_call 91;refine(IW _ _ _ _ _ (Hv.o.keep di) (aY.o.keep di)).mono ?_)|(refine(IK _ _ _ _ _ (Hv.o.keep di) (aY.o.keep di)).mono ?_)
   rintro e w4 ⟨rfl,b4⟩;rw[←HW.o];have eu:=di.qaa b4 (A2 _);go_wp2_with fail
   first|(go_at_call 8;refine(DQ _ (Cc.small J J) _ (HT.o.keep eu)).mono ?_)|(refine(Dx _ (Cc.small J J) _).mono ?_)
   rintro e w5 ⟨rfl,b5⟩;have fD:=eu.qaa b5 (A2 _);go_wp2
   go_ret
   exact⟨I4 Hr.o,fD⟩
  ·obtain⟨za,zb,zc,z1,z2,z3,z4,z5⟩:=Za (C:=AQ Cn) s1 s2 (CW J);have Hr:=Z (show⟨#[114,111,119,115,32]⟩++A++⟨#[32,99,111,108,115,32]⟩++B++⟨#[32,105,109,97,103,101,115,32]⟩++AQ Cn=Cy xs ys from by unfold Cy IU;rw[if_pos hok,if_pos bK,HA.o,HB.o,HC.o,yQ.o]);have dk:=Z bK;clear hok bK
   first|go_enter func36,ntmps36|go_enter func146,ntmps146
   go_wp2_with fail
   first|(go_at_call 43;refine(Ct _ xs _ Hv.o J HT.o).mono ?_)|(refine(Ce _ xs _ Hv.o J).mono ?_)
   rintro e w1 ⟨rfl,b1⟩;rw[←HA.o];go_wp2_with fail
   first|(go_at_call 43;refine(Ct _ ys _ (aY.o.keep b1) J (HT.o.keep b1)).mono ?_)|(refine(Ce _ ys _ (aY.o.keep b1) J).mono ?_)
   rintro e w2 ⟨rfl,b2⟩;rw[←HB.o];have cI:=b1.qaa b2 (A2 _);go_wp2_with fail
   first|(go_at_call 89;refine(Fx _ _ _ _ _ (Hv.o.keep cI) (aY.o.keep cI)).mono ?_)|(refine(EV _ _ _ _ _ (Hv.o.keep cI) (aY.o.keep cI)).mono ?_)
   rintro e w' ⟨rfl,rfl⟩;rw[aR.o];go_wp2_with fail
   first|(go_at_call 90;refine(OZ _ _ _ _ _ (Hv.o.keep cI) (aY.o.keep cI)).mono ?_)|(refine(DB _ _ _ _ _ (Hv.o.keep cI) (aY.o.keep cI)).mono ?_)
   rintro e w3 ⟨rfl,b3⟩;rw[dk.o];have di:=cI.qaa b3 (A2 _);go_wp2_with fail
   first|(go_at_call 92;refine(TZ _ _ _ _ _ (Hv.o.keep di) (aY.o.keep di) aR.o).mono ?_)|(refine(TL _ _ _ _ _ (Hv.o.keep di) (aY.o.keep di) aR.o).mono ?_)
   rintro e w4 ⟨rfl,b4⟩;rw[←HC.o];have eu:=di.qaa b4 (A2 _);go_wp2_with fail
   first|(go_at_call 8;refine(DQ _ (Cc.small J J) _ (HT.o.keep eu)).mono ?_)|(refine(Dx _ (Cc.small J J) _).mono ?_)
   rintro e w5 ⟨rfl,b5⟩;have fD:=eu.qaa b5 (A2 _);go_wp2
   go_ret
   exact⟨I4 Hr.o,fD⟩
