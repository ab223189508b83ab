/- Base. -/
import Derived.Test.YthmocomfjgmjoaaGreatDoorQ20
import Derived.Test.YthmocomfjgmjoaaGreatDoorQ11
set_option maxHeartbeats 2000000
set_option maxRecDepth 100000
namespace Go.Proofs.YthmocomfjgmjoaaGreatDoor
open Go.RowKit
theorem Nk{r c:Nat}{m:List (List Int)}(h:Ac r c m)(h1:1≤r)(h2:r≤5)(h3:1≤c)(h4:c≤5):Ea (A6 m)∧Ea (A8 m):=
 ⟨fun x hx=>by have:=(Ch h h1 h2 h3 h4).2 x hx;exact BV.small (by omega) (by omega),fun x hx=>by have:=(Cl h h1 h2 h3 h4).2 x hx;exact BV.small (by omega) (by omega)⟩
def Ct(r c:Nat)(m:List (List Int)):ByteArray:=
 if AX r c m=[] then Ag m++⟨#[32,114,111,119,115,32]⟩++Aj (A6 m)++⟨#[32,99,111,108,115,32]⟩++Aj (A8 m)++⟨#[32,117,110,105,113,117,101]⟩
 else Ag m++⟨#[32,114,111,119,115,32]⟩++Aj (A6 m)++⟨#[32,99,111,108,115,32]⟩++Aj (A8 m)++⟨#[32,102,114,101,101,32]⟩++An (Gk (BT (A6 m) (A8 m)))
theorem VL{r c:Nat}{m:List (List Int)}(h:Ac r c m)(h1:1≤r)(h2:r≤5)(h3:1≤c)(h4:c≤5):(Ag m).size≤1000:=by
 unfold Ag;rw[if_pos (h.ok h1 h2 h3 h4)];have h5:=(Fi (h.ok h1 h2 h3 h4)).bulk;have h6:(EG m).size≤Dt ⟨#[47]⟩ (m.map Bd):=DP _ _;omega
structure A3o(A B C D:ByteArray):Prop where
 a:A.size≤1000
 b:B.size≤1000
 c:C.size≤1000
 d:D.size≤20
 l1:(A++⟨#[32,114,111,119,115,32]⟩:ByteArray).size≤2000
 l2:(A++⟨#[32,114,111,119,115,32]⟩++B:ByteArray).size≤3000
 l3:(A++⟨#[32,114,111,119,115,32]⟩++B++⟨#[32,99,111,108,115,32]⟩:ByteArray).size≤4000
 l4:(A++⟨#[32,114,111,119,115,32]⟩++B++⟨#[32,99,111,108,115,32]⟩++C:ByteArray).size≤5000
 l5:(A++⟨#[32,114,111,119,115,32]⟩++B++⟨#[32,99,111,108,115,32]⟩++C++⟨#[32,102,114,101,101,32]⟩:ByteArray).size≤6000
theorem A5C{A B C D:ByteArray}(a:A.size≤1000)(b:B.size≤1000)(c:C.size≤1000)(d:D.size≤20):A3o A B C D:=by
 have e1:(⟨#[32,114,111,119,115,32]⟩:ByteArray).size=6:=rfl;have e2:(⟨#[32,99,111,108,115,32]⟩:ByteArray).size=6:=rfl;have e3:(⟨#[32,102,114,101,101,32]⟩:ByteArray).size=6:=rfl;refine⟨a,b,c,d,?_,?_,?_,?_,?_⟩<;>simp only[Au,e1,e2,e3]<;>omega
theorem Vo{r c:Nat}{m F:List (List Int)}(h:A5e r c m F)(hr:r≤5)(hc:c≤5):Gk F≤25:=by
 have key:∀k,k≤r→Gk (F.take k)≤5*k:=by
  intro k;induction k with
  |zero=>intro _;simp[Gk]
  |succ k ih=>
   intro hk;obtain⟨l,hl,dX,-⟩:=h.row k (by omega);rw[Pa hl];have:=ih (by omega);have:=A2h l;omega
 have:=key r (Nat.le_refl _);rw[List.take_of_length_le (by rw[h.len];exact Nat.le_refl _)] at this;omega
theorem Ki{r c:Nat}{m:List (List Int)}(h:Ac r c m)(h1:1≤r)(h2:r≤5)(h3:1≤c)(h4:c≤5):A3o (Ag m) (Aj (A6 m)) (Aj (A8 m)) (An (Gk (BT (A6 m) (A8 m)))):=by
 obtain⟨i1,i2⟩:=Nk h h1 h2 h3 h4;have l1:=(Ch h h1 h2 h3 h4).1;have l2:=(Cl h h1 h2 h3 h4).1;have s1:=Cg i1;have s2:=Cg i2;have n1:=Vo (QU h h1 h2 h3 h4) h2 h4;exact A5C (VL h h1 h2 h3 h4) (by omega) (by omega) (Cb (by omega))
theorem Yf(v:Value)(m:List (List Int))(r c:Nat)(w:World)(hv:Ak w v m)(hs:Ac r c m)(hr1:1≤r)(hr5:r≤5)(hc1:1≤c)(hc5:c≤5)(ht:Tab w):Calls Tryz.prog 45 #[v] w fun e w'=>e=.returned (.string (Ct r c m))∧Below w.heap.size w w':=by
 have Hv:=Z hv;have aS:=Z (hs.ok hr1 hr5 hc1 hc5);have aI:=Ki hs hr1 hr5 hc1 hc5;have iB:=Vo (QU hs hr1 hr5 hc1 hc5) hr5 hc5;have eX:=(Ch hs hr1 hr5 hc1 hc5).1;have gB:=(Cl hs hr1 hr5 hc1 hc5).1;obtain⟨A,hA⟩:∃A,A=Ag m:=⟨_,rfl⟩;obtain⟨B,hB⟩:∃B,B=Aj (A6 m):=⟨_,rfl⟩;obtain⟨C,hC⟩:∃C,C=Aj (A8 m):=⟨_,rfl⟩;obtain⟨N,hN⟩:∃N,N=Gk (BT (A6 m) (A8 m)):=⟨_,rfl⟩;rw[←hN] at iB;rw[←hA,←hB,←hC,←hN] at aI;have HA:=Z hA;have HB:=Z hB;have HC:=Z hC;have HN:=Z hN;have HT:=Z ht;obtain⟨za,zb,zc,zd,z1,z2,z3,z4,z5⟩:=aI;clear hA hB hC hN ht;obtain⟨a,cap,rfl,-⟩:=hv;go_enter Tryz.func45,Tryz.ntmps45;go_wp2_with (fail);refine(AP _ _ _ Hv.o).mono ?_;rintro e w' ⟨rfl,rfl⟩;rw[aS.o];go_wp2_with (fail);refine(Fh _ _ _ Hv.o).mono ?_;rintro e w1 ⟨rfl,b1⟩;rw[←HA.o];go_wp2_with (fail);refine(E7 _ _ _ (Hv.o.keep b1)).mono ?_;rintro e w2 ⟨v2,rfl,o2,b2⟩;have cI:=b1.trans_pure b2 (Nat.le_refl _);go_wp2_with (fail);refine(Ck _ _ _ o2.ints (by omega) (HT.o.keep cI)).mono ?_;rintro e w3 ⟨rfl,b3⟩;rw[←HB.o];have dd:=cI.trans_pure b3 (Nat.le_refl _);clear o2;go_wp2_with (fail);refine(EA _ _ _ (Hv.o.keep dd)).mono ?_;rintro e w4 ⟨v4,rfl,o4,b4⟩;have eH:=dd.trans_pure b4 (Nat.le_refl _);go_wp2_with (fail);refine(Ck _ _ _ o4.ints (by omega) (HT.o.keep eH)).mono ?_;rintro e w5 ⟨rfl,b5⟩;rw[←HC.o];have e8:=eH.trans_pure b5 (Nat.le_refl _);clear o4;go_wp2_with (fail);refine(A0w _ m r c _ (Hv.o.keep e8) hs hr1 hr5 hc1 hc5).mono ?_;rintro e w6 ⟨rfl,b6⟩;have ju:=e8.trans_pure b6 (Nat.le_refl _);by_cases hu:AX r c m=[]
 ·rw[decide_eq_true hu];have Hr:=Z (show A++⟨#[32,114,111,119,115,32]⟩++B++⟨#[32,99,111,108,115,32]⟩++C++⟨#[32,117,110,105,113,117,101]⟩=Ct r c m from by unfold Ct;rw[if_pos hu,HA.o,HB.o,HC.o]);clear hu;go_wp2
  go_ret
  exact⟨Fl Hr.o,ju⟩
 ·rw[decide_eq_false hu];have Hr:=Z (show A++⟨#[32,114,111,119,115,32]⟩++B++⟨#[32,99,111,108,115,32]⟩++C++⟨#[32,102,114,101,101,32]⟩++An N=Ct r c m from by unfold Ct;rw[if_neg hu,HA.o,HB.o,HC.o,HN.o]);clear hu;go_wp2_with (fail);refine(Ze _ m r c _ (Hv.o.keep ju) hs hr1 hr5 hc1 hc5).mono ?_;rintro e w7 ⟨rfl,b7⟩;rw[←HN.o];have lO:=ju.trans_pure b7 (Nat.le_refl _);go_wp2_with (fail);refine(Cs _ (BV.small (by omega) (by omega)) _ (HT.o.keep lO)).mono ?_;rintro e w8 ⟨rfl,b8⟩;have tH:=lO.trans_pure b8 (Nat.le_refl _);go_wp2
  go_ret
  exact⟨Fl Hr.o,tH⟩
theorem Zz{r c:Nat}{m:List (List Int)}(hs:Ac r c m)(hr1:1≤r)(hr5:r≤5)(hc1:1≤c)(hc5:c≤5){y:Nat}(hy:y<r):∃l,(BT (A6 m) (A8 m))[y]? =some l∧l.length=c∧∀x,x<c→∃f,l[x]? =some f∧(f<0↔CW r c m (Jr r m y x) (Tx r m y x)):=by
 have hS:=Dq hs hr1 hr5 hc1 hc5;have aw:=(Ch hs hr1 hr5 hc1 hc5).1;have az:=(Cl hs hr1 hr5 hc1 hc5).1;have aD:AF (A6 m) (A8 m)=true:=Ip (by omega) (by omega) (by omega) (by omega) (by rw[aw,az];exact hS);have bR:Bu (A6 m) (A8 m)=true:=(IZ aD).2 ⟨m,by rw[aw,az];exact hS⟩;have dG:∀g,g∈AZ (A6 m) (A8 m)↔CY (A6 m) (A8 m) r c g:=fun g=>by
  rw[Cu aD,Dp aD,aw,az]
 have hm:=(dG m).2 hS;obtain⟨L,hL⟩:∃L,L=AZ (A6 m) (A8 m):=⟨_,rfl⟩;rw[←hL] at hm dG;have hh:L.headD []∈L:=by
  cases L with
  |nil=>cases hm
  |cons a l=>simp
 have hF:BT (A6 m) (A8 m)=ED r c fun i j=>if ∀g∈L,Al g i j=Al m i j then Al m i j else-1:=by
  unfold BT;rw[if_pos bR,aw,az,←hL];unfold Rw;refine Eh fun i j _ _=>?_;by_cases h:∀g∈L,Al g i j=Al (L.headD []) i j
  ·rw[if_pos h,if_pos fun g hg=>(h g hg).trans (h m hm).symm,h m hm]
  ·rw[if_neg h,if_neg fun h'=>h fun g hg=>(h' g hg).trans (h' _ hh).symm]
 rw[hF];refine⟨_,FI (c:=c) (fun i j=>if ∀g∈L,Al g i j=Al m i j then Al m i j else-1) hy,by simp,fun x hx=>⟨if ∀g∈L,Al g y x=Al m y x then Al m y x else-1,?_,?_⟩⟩
 ·rw[List.getElem?_map,List.getElem?_range hx];rfl
 ·rw[←A0d hs hr1 hr5 hc1 hc5 hy hx];have hb:=AE hs y x;constructor
  ·intro aH;apply Classical.byContradiction;intro hn;rw[if_pos fun g hg=>Classical.byContradiction fun aO=>hn ⟨g,(dG g).1 hg,aO⟩] at aH;omega
  ·rintro⟨g,hg,aO⟩;rw[if_neg fun h=>aO (h g ((dG g).2 hg))];omega
theorem A0b(v:Value)(m:List (List Int))(r c:Nat)(w:World)(hv:Ak w v m)(hs:Ac r c m)(hr1:1≤r)(hr5:r≤5)(hc1:1≤c)(hc5:c≤5):Calls Tryz.prog 183 #[v] w fun e w'=>e=.returned (.bool (decide (AX r c m=[])))∧Below w.heap.size w w':=by
 have Hv:=Z hv;have aS:=Z (hs.ok hr1 hr5 hc1 hc5);obtain⟨a,cap,rfl,-⟩:=hv;go_enter Tryz.func183,Tryz.ntmps183;go_wp2_with (fail);refine(AU _ _ _ Hv.o).mono ?_;rintro e w' ⟨rfl,rfl⟩;rw[aS.o];go_wp2_with (fail);refine(O0 _ m r c _ Hv.o hs hr1 hr5 hc1 hc5).mono ?_;rintro e w1 ⟨v1,rfl,o1,b1⟩;obtain⟨a1,c1,rfl⟩:=o1.shape;obtain⟨l,hl⟩:∃l,l=AX r c m:=⟨_,rfl⟩;rw[←hl];clear o1;cases l with
 |nil=>
  have He:=Z (show true=decide (AX r c m=[]) from by rw[←hl];rfl);clear hl;go_wp2
  go_ret
  exact⟨AI He.o,b1⟩
 |cons s l=>
  have hd:(((s::l).length:Int)==0)=false:=by rw[beq_eq_false_iff_ne,List.length_cons];omega
  obtain⟨n,hn⟩:∃n,n=(s::l).length:=⟨_,rfl⟩;rw[←hn] at hd⊢;have He:=Z (show false=decide (AX r c m=[]) from by rw[←hl];simp);clear hn hl;go_wp2
  go_ret
  exact⟨AI He.o,b1⟩
theorem A3X:(Tryz.prog.info? 4).map (fun i=>(i.zero,i.size,i.bytes))=some (some (.bool false),1,1):=by kernel_rfl
theorem A4.bools_cell{E:TypeId}{S:Bk}{w:World}{g n cap:Nat}{xs:List Bool}(h:A4 E Q5 S w (.slice (some ⟨g,0,none⟩) n cap) xs){k:Nat}{x:Bool}(hk:xs[k]? =some x):w.cell? ⟨g,k,none⟩=some (.bool x)∧w.frozen? ⟨g,k,none⟩=false:=by
 obtain⟨_,_,_,hf,T,u,hu,rfl,_⟩:=h.focus T6 hk;exact⟨hu,hf⟩
theorem A4.setBool{E:TypeId}{S:Bk}{w:World}{g n cap:Nat}{xs:List Bool}(h:A4 E Q5 S w (.slice (some ⟨g,0,none⟩) n cap) xs){k:Nat}(hk:k<xs.length)(c:Bool):A4 E Q5 S (w.setCell ⟨g,k,none⟩ (.bool c)) (.slice (some ⟨g,0,none⟩) n cap) (xs.set k c):=by
 obtain⟨_,_,_,_,T,u,_,_,_,h1,_⟩:=h.focus T6 (List.getElem?_eq_getElem hk);exact h1 (.bool c) c (fun _=>False) S rfl (fun _ x=>x.elim) (fun _ x=>x.elim) (fun _ x=>x)
structure RSt(n:Nat)(w wr:World)(qv:Value)(r c:Nat)(g:List (List Int))(a:Nat)(q:List Nat)(k w0:Nat):Prop where
 so:A4 4 Q5 (fun b=>b=n) wr (.slice (some ⟨n,0,none⟩) (r+c) (r+c)) (Jp (r+c) q)
 qo:A4 3 A7 (Iv (n+1) wr.heap.size) wr qv (GS q)
 inv:Nw r c g a q k w0
 bel:Below n w wr
 lt:n<wr.heap.size
theorem RSt.add{n r c a k x u:Nat}{w wr w2:World}{qv v2:Value}{g:List (List Int)}{q:List Nat}(h:RSt n w wr qv r c g a q k x)(hu:q[k]? =some u)(hx:x<r+c)(he:Qw r g u x)(hn:x∉q){o:Obj}(ho:A4 3 A7 (fun b=>(Iv (n+1) wr.heap.size b∨False∨((wr.setCell ⟨n,x,none⟩ (.bool true)).alloc o).heap.size≤b)∧b<w2.heap.size) w2 v2 (GS q++[(x:Int)]))(hb:Ar (fun b=>qv.ownBlock=some b) ((wr.setCell ⟨n,x,none⟩ (.bool true)).alloc o) w2):RSt n w w2 v2 r c g a (q++[x]) k (x+1):=by
 have o2:=h.so.setBool (k:=x) (by rw[GE];exact hx) true;rw[RV] at o2;have hl:=h.lt;have hz:((wr.setCell ⟨n,x,none⟩ (.bool true)).alloc o).heap.size=wr.heap.size+1:=by simp
 have dU:=Below.pureAlloc (wr.setCell ⟨n,x,none⟩ (.bool true)) o;rw[A9] at dU;have au:Below (n+1) ((wr.setCell ⟨n,x,none⟩ (.bool true)).alloc o) w2:=hb.below (by omega) fun b hb=>(h.qo.ownBlock b hb).1;have bW:Below (n+1) (wr.setCell ⟨n,x,none⟩ (.bool true)) w2:=(dU.mono (by omega)).trans au;have hs:=au.size;refine⟨(A3 T6).same (A5 bW fun b hb=>by have hb:b=n:=hb;omega) o2,?_,h.inv.add hu hx he hn,(h.bel.setCell (p:=⟨n,x,none⟩) (Nat.le_refl _) _).trans (bW.mono (Nat.le_succ _)),by omega⟩;rw[Zy];refine(A3 A2).mono (fun b hb=>⟨?_,hb.2⟩) ho;rcases hb.1 with h1|h1|h1
 ·exact h1.1
 ·exact h1.elim
 ·omega
theorem RSt.skip{n r c a k x u:Nat}{w wr:World}{qv:Value}{g:List (List Int)}{q:List Nat}(h:RSt n w wr qv r c g a q k x)(hu:q[k]? =some u)(hn:Qw r g u x→x∈q):RSt n w wr qv r c g a q k (x+1):=⟨h.so,h.qo,h.inv.skip hu hn,h.bel,h.lt⟩
theorem Zp(v:Value)(m:List (List Int))(r c a:Nat)(w:World)(hv:Ak w v m)(hs:Ac r c m)(hr1:1≤r)(hr5:r≤5)(hc1:1≤c)(hc5:c≤5)(ha:a<r+c):Calls Tryz.prog 294 #[v,.int .i64 a] w fun e w'=>∃q:List Nat,(∀u,u∈q↔CW r c m a u)∧e=.returned (.slice (some ⟨w.heap.size,0,none⟩) (r+c) (r+c))∧A4 4 Q5 (fun b=>b=w.heap.size) w' (.slice (some ⟨w.heap.size,0,none⟩) (r+c) (r+c)) (Jp (r+c) q)∧Below w.heap.size w w':=by
 obtain⟨b,off,cp,rfl,hb,az⟩:=hv.cells hs hr1 hc1;have fY:=Z az;obtain⟨b0,o0,c0,cF,aX,-⟩:=az 0 (by omega);rw[Nat.add_zero] at cF;clear az hv;go_enter Tryz.func294,Tryz.ntmps294;go_wp2_with (first|(at_make;(refine Ez _ rfl _ _ 224 rfl 4 Tryz.underlying224 A3X rfl (by decide) (R:=Q5) false rfl T6 (r+c) (by rfl) (by rfl) (by omega) ?_;intro w1 bH hbel1 dH;have hlt1:w.heap.size<w1.heap.size:=(by omega);have f8:=Z dH;have eC:=Z bH;obtain⟨tI,tJ⟩:=bH.bools_cell (k:=a) (x:=false) (List.getElem?_replicate_of_lt ha);clear dH bH)));have aJ:=Z (show RSt w.heap.size w ((w1.setCell ⟨w.heap.size,a,none⟩ (.bool true)).alloc (.cells #[.int .i64 a] 3)) (.slice (some ⟨w1.heap.size,0,none⟩) 1 1) r c m a [a] 0 0 from by
  have aI:=f8.o;have bT:(w1.setCell ⟨w.heap.size,a,none⟩ (.bool true)).heap.size=w1.heap.size:=A9 _ _ _;have au:=Below.pureAlloc (w1.setCell ⟨w.heap.size,a,none⟩ (.bool true)) (.cells #[.int .i64 a] 3);have o2:=eC.o.setBool (k:=a) (by simpa using ha) true;have o3:=(A3 T6).same (A5 au fun b hb=>by have hb:b=w.heap.size:=hb;omega) o2;rw[←A0m,RV,List.nil_append] at o3;refine⟨o3,?_,ZP m ha,(hbel1.setCell (p:=⟨w.heap.size,a,none⟩) (Nat.le_refl _) _).trans_pure au (Nat.le_refl _),by simp;omega⟩;refine .inr ⟨w1.heap.size,#[.int .i64 a],rfl,⟨by omega,by simp⟩,?_,by simp[GS],by simp[maxLen],by simp[GS],fun _ _=>False,fun _ _ h=>h.elim,fun _ _ _ h=>h.elim,fun k x h=>by
   match k,h with
   |0,h=>simp[GS] at h;subst h;exact⟨_,rfl,rfl,BV.small (by omega) (by omega)⟩⟩
  have h:=heap_alloc_new (w1.setCell ⟨w.heap.size,a,none⟩ (.bool true)) (.cells #[.int .i64 a] 3);rw[bT] at h;exact h)
 clear eC tI tJ;go_loopw [7,8,9,10,11] (fun qv i _ _ _ wr=>∃(k:Nat)(q:List Nat),i=.int .i64 k∧k≤q.length∧Hid (RSt w.heap.size w wr qv r c m a q k 0)) (fun _ i _ _ _ _=>r+c-(intOf i).toNat)
 case atStart=>exact⟨0,[a],rfl,Nat.zero_le _,aJ⟩
 case round=>
  clear aJ cF;obtain⟨k,q,rfl,hk,St⟩:=hrel;have iR:=St.o.inv.len;obtain⟨n,hn⟩:∃n,n=q.length:=⟨_,rfl⟩;have Hn:=Z hn;rw[←hn] at iR hk;by_cases aH:k<n
  ·obtain⟨u,hu⟩:∃u,q[k]? =some u:=⟨_,List.getElem?_eq_getElem (by rw[←hn];exact aH)⟩;have hun:=St.o.inv.lt u (List.mem_of_getElem? hu);obtain⟨gq,cq,rfl,hgq,-,-,-⟩:=St.o.qo.inv_ne (by rw[Gx];omega);have di:=(St.o.qo.ints_cell (A3r hu)).1;rw[Gx,←hn];have Hu:=Z hu;clear hu hn;go_wp2;clear di;go_loopw [7,10,11,38] (fun qv _ _ i wr=>∃(x:Nat)(q:List Nat),i=.int .i64 x∧x≤r+c∧Hid (q[k]? =some u)∧Hid (RSt w.heap.size w wr qv r c m a q k x)) (fun _ _ _ i _=>r+c-(intOf i).toNat)
   case atStart=>exact⟨0,q,rfl,Nat.zero_le _,Hu,Z (by have:=St.o;rwa[Gx,←Hn.o] at this)⟩
   case round=>
    clear St;obtain⟨x,q2,rfl,hx,Hu,St⟩:=hrel;obtain⟨gq,cq,rfl,hgq,-,-,-⟩:=St.o.qo.inv_ne (by rw[Gx];have:=(List.getElem?_eq_some_iff.1 Hu.o).1;omega);obtain⟨N2,hN2⟩:∃N2,N2=(GS q2).length:=⟨_,rfl⟩;have fo:=St.o.inv.len;rw[←Gx,←hN2] at fo;have pO:(GS q2).length<1099511627776:=by rw[←hN2];omega
    rw[←hN2] at St⊢;clear hN2;by_cases hltx:x<r+c
    ·obtain⟨xB,dK⟩:=St.o.so.bools_cell (k:=x) (It q2 hltx);have sF:BV (x:Int):=BV.small (by omega) (by omega);have bT:(wr.setCell ⟨w.heap.size,x,none⟩ (.bool true)).heap.size=wr.heap.size:=A9 _ _ _;have au:=Below.pureAlloc (wr.setCell ⟨w.heap.size,x,none⟩ (.bool true)) (.cells #[.int .i64 x] 3);have Hq:=Z (show A4 3 A7 (Iv (w.heap.size+1) wr.heap.size) ((wr.setCell ⟨w.heap.size,x,none⟩ (.bool true)).alloc (.cells #[.int .i64 x] 3)) (.slice (some ⟨gq,0,none⟩) N2 cq) (GS q2) from
      (A3 A2).same (A5 au fun b hb=>by rw[bT];exact hb.2) ((A3 A2).same (fun b hb=>Below.heap_setCell _ ⟨w.heap.size,x,none⟩ (.bool true) b (by have:=hb.1;show b≠w.heap.size;omega)) St.o.qo))
     have fZ:=Pm (wr.setCell ⟨w.heap.size,x,none⟩ (.bool true)) (.int .i64 x) 3 0 _ rfl;rw[bT] at fZ;have f9:=Z (show(∀b,Iv (w.heap.size+1) wr.heap.size b→b<((wr.setCell ⟨w.heap.size,x,none⟩ (.bool true)).alloc (.cells #[.int .i64 x] 3)).heap.size)∧((wr.setCell ⟨w.heap.size,x,none⟩ (.bool true)).alloc (.cells #[.int .i64 x] 3)).cell? ⟨wr.heap.size,0,none⟩=some (.int .i64 x) from⟨fun b hb=>by have:=hb.2;simp;omega,by simpa[Addr.add] using fZ⟩);clear bT au fZ;have hxrc:(x:Int)<(r:Int)+(c:Int):=by omega
     by_cases sq:u<r
     ·by_cases hwr:r≤x
      ·obtain⟨X,hX⟩:∃X:Nat,(x:Int)-(r:Int)=(X:Int):=⟨x-r,by omega⟩;have sG:X<c:=by omega
       obtain⟨br,offr,cpr,je,dL,jO⟩:=fY.o u sq;have je:=(St.o.bel.cell (p:=⟨b,off+u,none⟩) hb).trans je;have jO:=(St.o.bel.cell (p:=⟨br,offr+X,none⟩) dL).trans (jO X sG);have He:=Z (show Qw r m u x↔Al m u X=1 from⟨fun h=>by
        rcases h with⟨-,-,h⟩|⟨h,-⟩
        ·rwa[show x-r=X by omega] at h
        ·omega,fun h=>.inl ⟨sq,hwr,by rwa[show x-r=X by omega]⟩⟩)
       obtain⟨z,hz⟩:∃z,z=Al m u X:=⟨_,rfl⟩;rw[←hz] at jO He;clear hz;by_cases h1:z=1
       ·have nw:(z==1)=true:=by simp[h1]
        have tK:=Z (He.o.2 h1);clear h1;by_cases cA:x∈q2
        ·have hd:decide (x∈q2)=true:=decide_eq_true cA;rw[hd] at xB;have fB:=Z (St.o.skip Hu.o fun _=>cA);clear hd cA;go_wp2;go_roundw
         case rel=>exact⟨x+1,q2,by go_num,by omega,Hu,fB⟩
         case measure=>simp[intOf];omega
        ·have hd:decide (x∈q2)=false:=decide_eq_false cA;rw[hd] at xB;have dM:=Z cA;clear hd cA;go_wp2_with (first|(at_builtin;(refine F4 (w:=(wr.setCell ⟨w.heap.size,x,none⟩ (.bool true)).alloc (.cells #[.int .i64 x] 3)) (v:=.slice (some ⟨gq,0,none⟩) N2 cq) (u:=.int .i64 x) (xs:=GS q2) (x:=(x:Int)) (gb:=wr.heap.size) (c:=1) rfl _ _ 32 rfl A2 3 Tryz.underlying32 As rfl (by decide) (Iv (w.heap.size+1) wr.heap.size) (fun _=>False) rfl rfl (by exact f9.o.2) (by exact Hq.o) (by exact⟨rfl,sF⟩) (fun _ _ h=>h) (by exact f9.o.1) (fun _ h=>h.elim) pO ?_);intro v2 w2 hown2 aT)|fail);have fB:=Z (St.o.add Hu.o hltx tK.o dM.o hown2 aT);have jv:=Z (show(q2++[x])[k]? =some u from by rw[List.getElem?_append_left (List.getElem?_eq_some_iff.1 Hu.o).1];exact Hu.o);clear hown2;exact⟨⟨x+1,q2++[x],by go_num,by omega,jv,fB⟩,by simp[intOf];omega⟩
       ·have nw:(z==1)=false:=by simp[h1]
        have fB:=Z (St.o.skip Hu.o fun e=>absurd (He.o.1 e) h1);clear h1;go_wp2;go_roundw
        case rel=>exact⟨x+1,q2,by go_num,by omega,Hu,fB⟩
        case measure=>simp[intOf];omega
      ·have fB:=Z (St.o.skip Hu.o fun e=>by
        rcases e with⟨-,h,-⟩|⟨h,-⟩<;>omega)
       go_wp2;go_roundw
       case rel=>exact⟨x+1,q2,by go_num,by omega,Hu,fB⟩
       case measure=>simp[intOf];omega
     ·have hru:r≤u:=by omega
      by_cases hwr:x<r
      ·obtain⟨X,hX⟩:∃X:Nat,(u:Int)-(r:Int)=(X:Int):=⟨u-r,by omega⟩;have sG:X<c:=by omega
       obtain⟨br,offr,cpr,je,dL,jO⟩:=fY.o x hwr;have je:=(St.o.bel.cell (p:=⟨b,off+x,none⟩) hb).trans je;have jO:=(St.o.bel.cell (p:=⟨br,offr+X,none⟩) dL).trans (jO X sG);have He:=Z (show Qw r m u x↔Al m x X=0 from⟨fun h=>by
        rcases h with⟨h,-⟩|⟨-,-,h⟩
        ·omega
        ·rwa[show u-r=X by omega] at h,fun h=>.inr ⟨by omega,hwr,by rwa[show u-r=X by omega]⟩⟩)
       obtain⟨z,hz⟩:∃z,z=Al m x X:=⟨_,rfl⟩;rw[←hz] at jO He;clear hz;by_cases h1:z=0
       ·have nw:(z==0)=true:=by simp[h1]
        have tK:=Z (He.o.2 h1);clear h1;by_cases cA:x∈q2
        ·have hd:decide (x∈q2)=true:=decide_eq_true cA;rw[hd] at xB;have fB:=Z (St.o.skip Hu.o fun _=>cA);clear hd cA;go_wp2;go_roundw
         case rel=>exact⟨x+1,q2,by go_num,by omega,Hu,fB⟩
         case measure=>simp[intOf];omega
        ·have hd:decide (x∈q2)=false:=decide_eq_false cA;rw[hd] at xB;have dM:=Z cA;clear hd cA;go_wp2_with (first|(at_builtin;(refine F4 (w:=(wr.setCell ⟨w.heap.size,x,none⟩ (.bool true)).alloc (.cells #[.int .i64 x] 3)) (v:=.slice (some ⟨gq,0,none⟩) N2 cq) (u:=.int .i64 x) (xs:=GS q2) (x:=(x:Int)) (gb:=wr.heap.size) (c:=1) rfl _ _ 32 rfl A2 3 Tryz.underlying32 As rfl (by decide) (Iv (w.heap.size+1) wr.heap.size) (fun _=>False) rfl rfl (by exact f9.o.2) (by exact Hq.o) (by exact⟨rfl,sF⟩) (fun _ _ h=>h) (by exact f9.o.1) (fun _ h=>h.elim) pO ?_);intro v2 w2 hown2 aT)|fail);have fB:=Z (St.o.add Hu.o hltx tK.o dM.o hown2 aT);have jv:=Z (show(q2++[x])[k]? =some u from by rw[List.getElem?_append_left (List.getElem?_eq_some_iff.1 Hu.o).1];exact Hu.o);clear hown2;exact⟨⟨x+1,q2++[x],by go_num,by omega,jv,fB⟩,by simp[intOf];omega⟩
       ·have nw:(z==0)=false:=by simp[h1]
        have fB:=Z (St.o.skip Hu.o fun e=>absurd (He.o.1 e) h1);clear h1;go_wp2;go_roundw
        case rel=>exact⟨x+1,q2,by go_num,by omega,Hu,fB⟩
        case measure=>simp[intOf];omega
      ·have fB:=Z (St.o.skip Hu.o fun e=>by
        rcases e with⟨h,-⟩|⟨-,h,-⟩<;>omega)
       go_wp2;go_roundw
       case rel=>exact⟨x+1,q2,by go_num,by omega,Hu,fB⟩
       case measure=>simp[intOf];omega
    ·have ny:x=r+c:=by omega
     have ah:=(List.getElem?_eq_some_iff.1 Hu.o).1;have fB:=Z (show RSt w.heap.size w wr (.slice (some ⟨gq,0,none⟩) N2 cq) r c m a q2 (k+1) 0 from⟨St.o.so,St.o.qo,St.o.inv.next (by omega),St.o.bel,St.o.lt⟩);clear ny;go_wp2;go_roundw
     case rel=>exact⟨k+1,q2,by go_num,ah,fB⟩
     case measure=>simp[intOf];omega
  ·obtain rfl:k=n:=by omega
   obtain⟨gq,cq,rfl,hgq,-,-,-⟩:=St.o.qo.inv_ne (by rw[Gx,←hn];have:=List.length_pos_of_mem St.o.inv.start;omega);rw[Gx,←hn];have aZ:=Z (St.o.inv.all (Nat.le_of_eq hn.symm) ha);clear hn;go_wp2
   go_ret
   exact⟨q,aZ.o,rfl,St.o.so,St.o.bel⟩
def BU(m:List (List Int)):ByteArray:=if Af m then Ct m.length (m.headD []).length m else ByteArray.empty
theorem MD{r c:Nat}{m:List (List Int)}(h:Ac r c m)(h1:1≤r)(h2:r≤5)(h3:1≤c)(h4:c≤5):BU m=Ct r c m:=by
 unfold BU;rw[if_pos (h.ok h1 h2 h3 h4),h.1,h.head h1]
theorem Ws(v:Value)(m:List (List Int))(w:World)(hv:Ak w v m)(ht:Tab w):Calls Tryz.prog 45 #[v] w fun e w'=>e=.returned (.string (BU m))∧Below w.heap.size w w':=by
 cases aD:Af m
 ·have Hr:=Z (show BU m=ByteArray.empty from by simp[BU,aD]);have aS:=Z aD;clear aD;obtain⟨a,cap,rfl,-⟩:=id hv;go_enter Tryz.func45,Tryz.ntmps45;go_wp2_with (fail);refine(AP _ _ _ hv).mono ?_;rintro e w' ⟨rfl,rfl⟩;rw[aS.o];go_wp2
  go_ret
  exact⟨Fl Hr.o.symm,Below.refl _ _⟩
 ·obtain⟨r,c,hr1,hr5,hc1,hc5,bA⟩:=Ad aD;rw[MD bA hr1 hr5 hc1 hc5];exact Yf v m r c w hv bA hr1 hr5 hc1 hc5 ht
theorem Rb(v:Value)(m:List (List Int))(r c a:Nat)(n:Int)(w:World)(hn:n=(a:Int))(hv:Ak w v m)(hs:Ac r c m)(hr1:1≤r)(hr5:r≤5)(hc1:1≤c)(hc5:c≤5)(ha:a<r+c):Calls Tryz.prog 294 #[v,.int .i64 n] w fun e w'=>∃q:List Nat,(∀u,u∈q↔CW r c m a u)∧e=.returned (.slice (some ⟨w.heap.size,0,none⟩) (r+c) (r+c))∧A4 4 Q5 (fun b=>b=w.heap.size) w' (.slice (some ⟨w.heap.size,0,none⟩) (r+c) (r+c)) (Jp (r+c) q)∧Below w.heap.size w w':=by
 subst hn;exact Zp v m r c a w hv hs hr1 hr5 hc1 hc5 ha
theorem A28(v:Value)(m:List (List Int))(r c y x:Nat)(w:World)(hv:Ak w v m)(hs:Ac r c m)(hr1:1≤r)(hr5:r≤5)(hc1:1≤c)(hc5:c≤5)(hy:y<r)(hx:x<c):
  Calls Tryz.prog 253 #[v,.int .i64 y,.int .i64 x] w fun e w'=>∃z:Bool,e=.returned (.bool z)∧(z=false↔CW r c m (Jr r m y x) (Tx r m y x))∧Below w.heap.size w w':=by
 obtain⟨b,off,cp,rfl,hb,az⟩:=hv.cells hs hr1 hc1;have Hv:=Z hv;obtain⟨br,offr,cpr,je,dL,jO⟩:=az y hy;replace jO:=jO x hx;have Hb:=Z (Fs (r:=r) (c:=c) (y:=y) (x:=x).2 (by omega));obtain⟨hf,ht⟩:=A1R (r:=r) (c:=c) (m:=m) hy hx;have Hf:=Z (show(Al m y x=1→Jr r m y x=r+x∧Tx r m y x=y)∧(Al m y x≠1→Jr r m y x=y∧Tx r m y x=r+x) from by
  unfold Jr Tx;exact⟨fun h=>by rw[if_pos h,if_pos h];exact⟨rfl,rfl⟩,fun h=>by rw[if_neg h,if_neg h];exact⟨rfl,rfl⟩⟩)
 obtain⟨z,hz⟩:∃z,z=Al m y x:=⟨_,rfl⟩;rw[←hz] at jO Hf;obtain⟨A,hA⟩:∃A,A=Jr r m y x:=⟨_,rfl⟩;obtain⟨B,hB⟩:∃B,B=Tx r m y x:=⟨_,rfl⟩;rw[←hA,←hB] at Hf⊢;rw[←hA] at hf;rw[←hB] at ht;clear hz hA hB az hv;by_cases h1:z=1
 ·obtain⟨e1,e2⟩:=Hf.o.1 h1;have nw:(z==1)=true:=by simp[h1]
  have Hn:=Z (show(r:Int)+(x:Int)=(A:Int) from by omega);have qW:=Z (show y=B from e2.symm);clear h1 e1 e2;go_enter Tryz.func253,Tryz.ntmps253;go_wp2_with (fail);refine(Dj _ _ _ _ _ _ _ Hv.o hs hr1 hr5 hc1 hc5).mono ?_;rintro e w' ⟨rfl,rfl⟩;rw[Hb.o];go_wp2_with (fail);refine(Rb _ m r c A _ _ Hn.o Hv.o hs hr1 hr5 hc1 hc5 hf).mono ?_;rintro e w2 ⟨q,hq,rfl,so,b2⟩;have tI:=(so.bools_cell (k:=y) (It q (by omega))).1;have yA:(y:Int)<(r:Int)+(c:Int):=by omega
  have Hq:=Z (hq B);rw[←qW.o] at Hq;obtain⟨s,dj⟩:∃s,s=decide (y∈q):=⟨_,rfl⟩;rw[←dj] at tI;have Hs:=Z dj;clear dj so hq;go_wp2
  go_ret
  refine⟨!s,rfl,?_,b2⟩;rw[←qW.o,←Hq.o,Hs.o];simp
 ·obtain⟨e1,e2⟩:=Hf.o.2 h1;have nw:(z==1)=false:=by simp[h1]
  have Hn:=Z (show(y:Int)=(A:Int) from by omega);obtain⟨X,hX⟩:∃X:Nat,(r:Int)+(x:Int)=(X:Int):=⟨r+x,by omega⟩;have qW:=Z (show X=B from by omega);clear h1 e1 e2;go_enter Tryz.func253,Tryz.ntmps253;go_wp2_with (fail);refine(Dj _ _ _ _ _ _ _ Hv.o hs hr1 hr5 hc1 hc5).mono ?_;rintro e w' ⟨rfl,rfl⟩;rw[Hb.o];go_wp2_with (fail);refine(Rb _ m r c A _ _ Hn.o Hv.o hs hr1 hr5 hc1 hc5 hf).mono ?_;rintro e w2 ⟨q,hq,rfl,so,b2⟩;have tI:=(so.bools_cell (k:=X) (It q (by have:=qW.o;omega))).1;have yA:X<r+c:=by have:=qW.o;omega
  have Hq:=Z (hq B);rw[←qW.o] at Hq;obtain⟨s,dj⟩:∃s,s=decide (X∈q):=⟨_,rfl⟩;rw[←dj] at tI;have Hs:=Z dj;clear dj so hq;go_wp2
  go_ret
  refine⟨!s,rfl,?_,b2⟩;rw[←qW.o,←Hq.o,Hs.o];simp
theorem Xj(v:Value)(m:List (List Int))(r c:Nat)(w:World)(hv:Ak w v m)(hs:Ac r c m)(hr1:1≤r)(hr5:r≤5)(hc1:1≤c)(hc5:c≤5):Calls Tryz.prog 184 #[v] w fun e w'=>e=.returned (.int .i64 (Gk (BT (A6 m) (A8 m))))∧Below w.heap.size w w':=by
 have Hv:=Z hv;have aS:=Z (hs.ok hr1 hr5 hc1 hc5);have ek:=Z (fun y (hy:y<r)=>Zz hs hr1 hr5 hc1 hc5 hy);have aP:=(QU hs hr1 hr5 hc1 hc5).len;obtain⟨F,hF⟩:∃F,F=BT (A6 m) (A8 m):=⟨_,rfl⟩;rw[←hF] at ek aP⊢;have fa:=Z aP;obtain⟨b,off,cp,rfl,hb,az⟩:=hv.cells hs hr1 hc1;have fY:=Z az;clear hF az hv aP;go_enter Tryz.func184,Tryz.ntmps184;go_wp2_with (fail);refine(AU _ _ _ Hv.o).mono ?_;rintro e w' ⟨rfl,rfl⟩;rw[aS.o];go_wp2;go_loopw [3,4,5,6,12] (fun n _ _ _ i wr=>∃k:Nat,k≤r∧i=.int .i64 k∧n=.int .i64 (Gk (F.take k))∧Gk (F.take k)≤5*k∧Hid (Below w.heap.size w wr)) (fun _ _ _ _ i _=>r-(intOf i).toNat)
 case atStart=>exact⟨0,Nat.zero_le _,rfl,by simp[Gk],by simp[Gk],Below.refl _ _⟩
 case round=>
  obtain⟨k,hk,rfl,rfl,hn,Hb⟩:=hrel;by_cases aH:k<r
  ·obtain⟨l,hl,dX,fJ⟩:=ek.o k aH;obtain⟨br,offr,cpr,je,dL,-⟩:=fY.o k aH;have qX:=(Hb.o.cell (p:=⟨b,off+k,none⟩) hb).trans je;have Hl:=Z hl;have eo:=Z dX;have ej:=Z fJ;obtain⟨N,hN⟩:∃N,N=Gk (F.take k):=⟨_,rfl⟩;rw[←hN] at hn⊢;clear hl fJ je dX;go_wp2;clear qX;go_loopw [3,6,19] (fun n _ i wr=>∃x:Nat,x≤c∧i=.int .i64 x∧n=.int .i64 ((N+E4 (l.take x):Nat):Int)∧E4 (l.take x)≤x∧Hid (Below w.heap.size w wr)) (fun _ _ i _=>c-(intOf i).toNat)
   case atStart=>exact⟨0,Nat.zero_le _,rfl,by simp[E4],by simp[E4],Hb⟩
   case round=>
    clear Hb;obtain⟨x,hx,rfl,rfl,hnx,Hb⟩:=hrel;by_cases bt:x<c
    ·obtain⟨f,hf,hfr⟩:=ej.o x bt;have Hn:=Z (Qn hf);have Hfr:=Z hfr;clear hf hfr;obtain⟨N2,hN2⟩:∃N2,N2=E4 (l.take x):=⟨_,rfl⟩;rw[←hN2] at hnx⊢Hn;clear hN2;go_wp2_with (fail);refine(A28 _ m r c k x _ (Hv.o.keep Hb.o) hs hr1 hr5 hc1 hc5 aH bt).mono ?_;rintro e w5 ⟨z,rfl,hz,b5⟩;have hZ:=Z (Hb.o.trans_pure b5 (Nat.le_refl _));cases z
     ·have Hlt:=Z (Hfr.o.2 (hz.1 rfl));clear hz;go_wp2;go_roundw
      case rel=>exact⟨x+1,by omega,by go_num,by rw[Hn.o,if_pos Hlt.o];go_num,by rw[Hn.o,if_pos Hlt.o];omega,hZ⟩
      case measure=>simp[intOf];omega
     ·have Hge:=Z (show ¬f<0 from fun h=>by have:=hz.2 (Hfr.o.1 h);cases this);have pP:=Z (show E4 (l.take (x+1))=N2 from by rw[Hn.o,if_neg Hge.o];omega);clear hz;go_wp2;go_roundw
      case rel=>exact⟨x+1,by omega,by go_num,by rw[pP.o];go_num,by rw[pP.o];omega,hZ⟩
      case measure=>simp[intOf];omega
    ·obtain rfl:x=c:=by omega
     have fN:l.take x=l:=List.take_of_length_le (Nat.le_of_eq eo.o);rw[fN] at hnx⊢;have Hs:=Z (Pa Hl.o);go_wp2;go_roundw
     case rel=>exact⟨k+1,by omega,by go_num,by rw[Hs.o,←hN],by rw[Hs.o,←hN];omega,Hb⟩
     case measure=>simp[intOf];omega
  ·obtain rfl:k=r:=by omega
   rw[List.take_of_length_le (Nat.le_of_eq fa.o)] at hn⊢;go_wp2
   go_ret
   exact⟨rfl,Hb.o⟩
theorem WM(v:Value)(m:List (List Int))(r c:Nat)(w:World)(hv:Ak w v m)(hs:Ac r c m)(hr1:1≤r)(hr5:r≤5)(hc1:1≤c)(hc5:c≤5):Calls Tryz.prog 124 #[v] w fun e w'=>e=.returned (.string (Ct r c m))∧Below w.heap.size w w':=by
 have Hv:=Z hv;have aS:=Z (hs.ok hr1 hr5 hc1 hc5);have aI:=Ki hs hr1 hr5 hc1 hc5;have iB:=Vo (QU hs hr1 hr5 hc1 hc5) hr5 hc5;have eX:=(Ch hs hr1 hr5 hc1 hc5).1;have gB:=(Cl hs hr1 hr5 hc1 hc5).1;obtain⟨A,hA⟩:∃A,A=Ag m:=⟨_,rfl⟩;obtain⟨B,hB⟩:∃B,B=Aj (A6 m):=⟨_,rfl⟩;obtain⟨C,hC⟩:∃C,C=Aj (A8 m):=⟨_,rfl⟩;obtain⟨N,hN⟩:∃N,N=Gk (BT (A6 m) (A8 m)):=⟨_,rfl⟩;rw[←hN] at iB;rw[←hA,←hB,←hC,←hN] at aI;have HA:=Z hA;have HB:=Z hB;have HC:=Z hC;have HN:=Z hN;obtain⟨za,zb,zc,zd,z1,z2,z3,z4,z5⟩:=aI;clear hA hB hC hN;obtain⟨a,cap,rfl,-⟩:=hv;go_enter Tryz.func124,Tryz.ntmps124;go_wp2_with (fail);refine(AU _ _ _ Hv.o).mono ?_;rintro e w' ⟨rfl,rfl⟩;rw[aS.o];go_wp2_with (fail);refine(Ex _ _ _ Hv.o).mono ?_;rintro e w1 ⟨rfl,b1⟩;rw[←HA.o];go_wp2_with (fail);refine(FE _ _ _ (Hv.o.keep b1)).mono ?_;rintro e w2 ⟨v2,rfl,o2,b2⟩;have cI:=b1.trans_pure b2 (Nat.le_refl _);go_wp2_with (fail);refine(C9 _ _ _ o2.ints (by omega)).mono ?_;rintro e w3 ⟨rfl,b3⟩;rw[←HB.o];have dd:=cI.trans_pure b3 (Nat.le_refl _);clear o2;go_wp2_with (fail);refine(GH _ _ _ (Hv.o.keep dd)).mono ?_;rintro e w4 ⟨v4,rfl,o4,b4⟩;have eH:=dd.trans_pure b4 (Nat.le_refl _);go_wp2_with (fail);refine(C9 _ _ _ o4.ints (by omega)).mono ?_;rintro e w5 ⟨rfl,b5⟩;rw[←HC.o];have e8:=eH.trans_pure b5 (Nat.le_refl _);clear o4;go_wp2_with (fail);refine(A0b _ m r c _ (Hv.o.keep e8) hs hr1 hr5 hc1 hc5).mono ?_;rintro e w6 ⟨rfl,b6⟩;have ju:=e8.trans_pure b6 (Nat.le_refl _);by_cases hu:AX r c m=[]
 ·rw[decide_eq_true hu];have Hr:=Z (show A++⟨#[32,114,111,119,115,32]⟩++B++⟨#[32,99,111,108,115,32]⟩++C++⟨#[32,117,110,105,113,117,101]⟩=Ct r c m from by unfold Ct;rw[if_pos hu,HA.o,HB.o,HC.o]);clear hu;go_wp2
  go_ret
  exact⟨Fl Hr.o,ju⟩
 ·rw[decide_eq_false hu];have Hr:=Z (show A++⟨#[32,114,111,119,115,32]⟩++B++⟨#[32,99,111,108,115,32]⟩++C++⟨#[32,102,114,101,101,32]⟩++An N=Ct r c m from by unfold Ct;rw[if_neg hu,HA.o,HB.o,HC.o,HN.o]);clear hu;go_wp2_with (fail);refine(Xj _ m r c _ (Hv.o.keep ju) hs hr1 hr5 hc1 hc5).mono ?_;rintro e w7 ⟨rfl,b7⟩;rw[←HN.o];have lO:=ju.trans_pure b7 (Nat.le_refl _);go_wp2_with (fail);refine(Dr _ (BV.small (by omega) (by omega)) _).mono ?_;rintro e w8 ⟨rfl,b8⟩;have tH:=lO.trans_pure b8 (Nat.le_refl _);go_wp2
  go_ret
  exact⟨Fl Hr.o,tH⟩
theorem Vt(v:Value)(m:List (List Int))(w:World)(hv:Ak w v m):Calls Tryz.prog 124 #[v] w fun e w'=>e=.returned (.string (BU m))∧Below w.heap.size w w':=by
 cases aD:Af m
 ·have Hr:=Z (show BU m=ByteArray.empty from by simp[BU,aD]);have aS:=Z aD;clear aD;obtain⟨a,cap,rfl,-⟩:=id hv;go_enter Tryz.func124,Tryz.ntmps124;go_wp2_with (fail);refine(AU _ _ _ hv).mono ?_;rintro e w' ⟨rfl,rfl⟩;rw[aS.o];go_wp2
  go_ret
  exact⟨Fl Hr.o.symm,Below.refl _ _⟩
 ·obtain⟨r,c,hr1,hr5,hc1,hc5,bA⟩:=Ad aD;rw[MD bA hr1 hr5 hc1 hc5];exact WM v m r c w hv bA hr1 hr5 hc1 hc5
def Fk(xs ys:List Int):ByteArray:=⟨#[114,111,119,115,32]⟩++Aj xs++⟨#[32,99,111,108,115,32]⟩++Aj ys
def BB(xs ys:List Int):ByteArray:=
 if AF xs ys then(if Bu xs ys then Fk xs ys++⟨#[32,105,109,97,103,101,115,32]⟩++An (AZ xs ys).length
  else Fk xs ys++⟨#[32,110,111,110,101,58,32,99,111,108,117,109,110,115,32]⟩++An (Fb xs ys))
 else Fk xs ys++⟨#[32,110,111,110,101]⟩
structure A5G(A B C:ByteArray):Prop where
 a:A.size≤33554432
 b:B.size≤33554432
 c:C.size≤20
 l1:(⟨#[114,111,119,115,32]⟩++A:ByteArray).size≤33554442
 l2:(⟨#[114,111,119,115,32]⟩++A++⟨#[32,99,111,108,115,32]⟩:ByteArray).size≤33554452
 l3:(⟨#[114,111,119,115,32]⟩++A++⟨#[32,99,111,108,115,32]⟩++B:ByteArray).size≤67108904
 l4:(⟨#[114,111,119,115,32]⟩++A++⟨#[32,99,111,108,115,32]⟩++B++⟨#[32,110,111,110,101,58,32,99,111,108,117,109,110,115,32]⟩:ByteArray).size≤67108934
 l5:(⟨#[114,111,119,115,32]⟩++A++⟨#[32,99,111,108,115,32]⟩++B++⟨#[32,105,109,97,103,101,115,32]⟩:ByteArray).size≤67108934
theorem Ph{A B C:ByteArray}(a:A.size≤33554432)(b:B.size≤33554432)(c:C.size≤20):A5G A B C:=by
 have e1:(⟨#[114,111,119,115,32]⟩:ByteArray).size=5:=rfl;have e2:(⟨#[32,99,111,108,115,32]⟩:ByteArray).size=6:=rfl;have e3:(⟨#[32,110,111,110,101,58,32,99,111,108,117,109,110,115,32]⟩:ByteArray).size=15:=rfl;have e4:(⟨#[32,105,109,97,103,101,115,32]⟩:ByteArray).size=8:=rfl;refine⟨a,b,c,?_,?_,?_,?_,?_⟩<;>simp only[Au,e1,e2,e3,e4]<;>omega
theorem Mj{w:World}{v:Value}{l:List Int}(h:Ab w v l)(hl:l.length≤1048576):(Aj l).size≤33554432:=by
 have:=Cg (Jf h);omega
theorem YM{xs ys:List Int}(aD:AF xs ys=true):(AZ xs ys).length≤1073741824:=by
 obtain⟨x1,x5,y1,y5,-,-,-⟩:=BC aD;rw[Cu aD];exact Nat.le_trans (J3 xs ys) (Nat.le_trans (Nat.pow_le_pow_right (by decide) (Nat.mul_le_mul x5 (Nat.succ_le_succ y5))) (by decide))
theorem Tt(v v2:Value)(xs ys:List Int)(w:World)(hv:Ab w v xs)(aW:Ab w v2 ys)(aD:AF xs ys=true):Calls Tryz.prog 207 #[v,v2] w fun e w'=>e=.returned (.int .i64 (Bi xs ys).length)∧Below w.heap.size w w':=by
 have Hv:=Z hv;have aj:=Z aW;have aS:=Z aD;obtain⟨a,cap,rfl,-⟩:=hv;obtain⟨a2,cap2,rfl,-⟩:=aW;clear aD;go_enter Tryz.func207,Tryz.ntmps207;go_wp2_with (fail);refine(J5 _ _ _ _ _ Hv.o aj.o).mono ?_;rintro e w1 ⟨v1,rfl,o1,b1⟩;rw[aS.o];rw[show AZ xs ys=Bi xs ys from by unfold AZ;rw[aS.o];rfl] at o1;obtain⟨p1,p2,p3,rfl⟩:=o1.shape;have hl:=o1.grids.len;subst hl;clear o1;go_wp2
 go_ret
 exact⟨rfl,b1⟩
theorem Zt(v v2:Value)(xs ys:List Int)(w:World)(hv:Ab w v xs)(aW:Ab w v2 ys)(hx:xs.length≤1048576)(hy:ys.length≤1048576)(ht:Tab w):Calls Tryz.prog 36 #[v,v2] w fun e w'=>e=.returned (.string (BB xs ys))∧Below w.heap.size w w':=by
 have Hv:=Z hv;have aj:=Z aW;have s1:=Mj hv hx;have s2:=Mj aW hy;have lr:=LD xs ys;obtain⟨A,hA⟩:∃A,A=Aj xs:=⟨_,rfl⟩;obtain⟨B,hB⟩:∃B,B=Aj ys:=⟨_,rfl⟩;obtain⟨Wn,hW⟩:∃W,W=Fb xs ys:=⟨_,rfl⟩;rw[←hW] at lr;rw[←hA] at s1;rw[←hB] at s2;have HA:=Z hA;have HB:=Z hB;have HW:=Z hW;have HT:=Z ht;obtain⟨a,cap,rfl,-⟩:=hv;obtain⟨a2,cap2,rfl,-⟩:=aW;clear hA hB hW ht;cases aD:AF xs ys
 ·obtain⟨za,zb,zc,z1,z2,z3,z4,z5⟩:=Ph (C:=ByteArray.empty) s1 s2 (by decide);have Hr:=Z (show⟨#[114,111,119,115,32]⟩++A++⟨#[32,99,111,108,115,32]⟩++B++⟨#[32,110,111,110,101]⟩=BB xs ys from by unfold BB Fk;rw[if_neg (by rw[aD];simp),HA.o,HB.o]);have aS:=Z aD;clear aD;go_enter Tryz.func36,Tryz.ntmps36;go_wp2_with (fail);refine(Ck _ xs _ Hv.o (by omega) HT.o).mono ?_;rintro e w1 ⟨rfl,b1⟩;rw[←HA.o];go_wp2_with (fail);refine(Ck _ ys _ (aj.o.keep b1) (by omega) (HT.o.keep b1)).mono ?_;rintro e w2 ⟨rfl,b2⟩;rw[←HB.o];have cI:=b1.trans_pure b2 (Nat.le_refl _);go_wp2_with (fail);refine(Fj _ _ _ _ _ (Hv.o.keep cI) (aj.o.keep cI)).mono ?_;rintro e w' ⟨rfl,rfl⟩;rw[aS.o];go_wp2
  go_ret
  exact⟨Fl Hr.o,cI⟩
 have mN:=YM aD;rw[Cu aD] at mN;obtain⟨x1,x5,y1,y5,-,-,-⟩:=BC aD;obtain⟨Cn,hC⟩:∃C,C=(Bi xs ys).length:=⟨_,rfl⟩;rw[←hC] at mN;have HC:=Z hC;have nz:=Z (Cu aD);have aS:=Z aD;clear hC;cases bR:Bu xs ys
 ·obtain⟨za,zb,zc,z1,z2,z3,z4,z5⟩:=Ph (C:=An Wn) s1 s2 (Cb (by omega));have Hr:=Z (show⟨#[114,111,119,115,32]⟩++A++⟨#[32,99,111,108,115,32]⟩++B++⟨#[32,110,111,110,101,58,32,99,111,108,117,109,110,115,32]⟩++An Wn=BB xs ys from by unfold BB Fk;rw[if_pos aD,if_neg (by rw[bR];simp),HA.o,HB.o,HW.o]);have dk:=Z bR;clear aD bR;go_enter Tryz.func36,Tryz.ntmps36;go_wp2_with (fail);refine(Ck _ xs _ Hv.o (by omega) HT.o).mono ?_;rintro e w1 ⟨rfl,b1⟩;rw[←HA.o];go_wp2_with (fail);refine(Ck _ ys _ (aj.o.keep b1) (by omega) (HT.o.keep b1)).mono ?_;rintro e w2 ⟨rfl,b2⟩;rw[←HB.o];have cI:=b1.trans_pure b2 (Nat.le_refl _);go_wp2_with (fail);refine(Fj _ _ _ _ _ (Hv.o.keep cI) (aj.o.keep cI)).mono ?_;rintro e w' ⟨rfl,rfl⟩;rw[aS.o];go_wp2_with (fail);refine(NY _ _ _ _ _ (Hv.o.keep cI) (aj.o.keep cI)).mono ?_;rintro e w3 ⟨rfl,b3⟩;rw[dk.o];have dd:=cI.trans_pure b3 (Nat.le_refl _);go_wp2_with (fail);refine(IF _ _ _ _ _ (Hv.o.keep dd) (aj.o.keep dd)).mono ?_;rintro e w4 ⟨rfl,b4⟩;rw[←HW.o];have eH:=dd.trans_pure b4 (Nat.le_refl _);go_wp2_with (fail);refine(Cs _ (BV.small (by omega) (by omega)) _ (HT.o.keep eH)).mono ?_;rintro e w5 ⟨rfl,b5⟩;have e8:=eH.trans_pure b5 (Nat.le_refl _);go_wp2
  go_ret
  exact⟨Fl Hr.o,e8⟩
 ·obtain⟨za,zb,zc,z1,z2,z3,z4,z5⟩:=Ph (C:=An Cn) s1 s2 (Cb (by omega));have Hr:=Z (show⟨#[114,111,119,115,32]⟩++A++⟨#[32,99,111,108,115,32]⟩++B++⟨#[32,105,109,97,103,101,115,32]⟩++An Cn=BB xs ys from by unfold BB Fk;rw[if_pos aD,if_pos bR,HA.o,HB.o,HC.o,nz.o]);have dk:=Z bR;clear aD bR;go_enter Tryz.func36,Tryz.ntmps36;go_wp2_with (fail);refine(Ck _ xs _ Hv.o (by omega) HT.o).mono ?_;rintro e w1 ⟨rfl,b1⟩;rw[←HA.o];go_wp2_with (fail);refine(Ck _ ys _ (aj.o.keep b1) (by omega) (HT.o.keep b1)).mono ?_;rintro e w2 ⟨rfl,b2⟩;rw[←HB.o];have cI:=b1.trans_pure b2 (Nat.le_refl _);go_wp2_with (fail);refine(Fj _ _ _ _ _ (Hv.o.keep cI) (aj.o.keep cI)).mono ?_;rintro e w' ⟨rfl,rfl⟩;rw[aS.o];go_wp2_with (fail);refine(NY _ _ _ _ _ (Hv.o.keep cI) (aj.o.keep cI)).mono ?_;rintro e w3 ⟨rfl,b3⟩;rw[dk.o];have dd:=cI.trans_pure b3 (Nat.le_refl _);go_wp2_with (fail);refine(TV _ _ _ _ _ (Hv.o.keep dd) (aj.o.keep dd) aS.o).mono ?_;rintro e w4 ⟨rfl,b4⟩;rw[←HC.o];have eH:=dd.trans_pure b4 (Nat.le_refl _);go_wp2_with (fail);refine(Cs _ (BV.small (by omega) (by omega)) _ (HT.o.keep eH)).mono ?_;rintro e w5 ⟨rfl,b5⟩;have e8:=eH.trans_pure b5 (Nat.le_refl _);go_wp2
  go_ret
  exact⟨Fl Hr.o,e8⟩
theorem A0M(v v2:Value)(xs ys:List Int)(w:World)(hv:Ab w v xs)(aW:Ab w v2 ys)(hx:xs.length≤1048576)(hy:ys.length≤1048576)(ht:Tab w):Calls Tryz.prog 146 #[v,v2] w fun e w'=>e=.returned (.string (BB xs ys))∧Below w.heap.size w w':=by
 have Hv:=Z hv;have aj:=Z aW;have s1:=Mj hv hx;have s2:=Mj aW hy;have lr:=LD xs ys;obtain⟨A,hA⟩:∃A,A=Aj xs:=⟨_,rfl⟩;obtain⟨B,hB⟩:∃B,B=Aj ys:=⟨_,rfl⟩;obtain⟨Wn,hW⟩:∃W,W=Fb xs ys:=⟨_,rfl⟩;rw[←hW] at lr;rw[←hA] at s1;rw[←hB] at s2;have HA:=Z hA;have HB:=Z hB;have HW:=Z hW;have HT:=Z ht;obtain⟨a,cap,rfl,-⟩:=hv;obtain⟨a2,cap2,rfl,-⟩:=aW;clear hA hB hW ht;cases aD:AF xs ys
 ·obtain⟨za,zb,zc,z1,z2,z3,z4,z5⟩:=Ph (C:=ByteArray.empty) s1 s2 (by decide);have Hr:=Z (show⟨#[114,111,119,115,32]⟩++A++⟨#[32,99,111,108,115,32]⟩++B++⟨#[32,110,111,110,101]⟩=BB xs ys from by unfold BB Fk;rw[if_neg (by rw[aD];simp),HA.o,HB.o]);have aS:=Z aD;clear aD;go_enter Tryz.func146,Tryz.ntmps146;go_wp2_with (fail);refine(C9 _ xs _ Hv.o (by omega)).mono ?_;rintro e w1 ⟨rfl,b1⟩;rw[←HA.o];go_wp2_with (fail);refine(C9 _ ys _ (aj.o.keep b1) (by omega)).mono ?_;rintro e w2 ⟨rfl,b2⟩;rw[←HB.o];have cI:=b1.trans_pure b2 (Nat.le_refl _);go_wp2_with (fail);refine(EL _ _ _ _ _ (Hv.o.keep cI) (aj.o.keep cI)).mono ?_;rintro e w' ⟨rfl,rfl⟩;rw[aS.o];go_wp2
  go_ret
  exact⟨Fl Hr.o,cI⟩
 have mN:=YM aD;rw[Cu aD] at mN;obtain⟨x1,x5,y1,y5,-,-,-⟩:=BC aD;obtain⟨Cn,hC⟩:∃C,C=(Bi xs ys).length:=⟨_,rfl⟩;rw[←hC] at mN;have HC:=Z hC;have nz:=Z (Cu aD);have aS:=Z aD;clear hC;cases bR:Bu xs ys
 ·obtain⟨za,zb,zc,z1,z2,z3,z4,z5⟩:=Ph (C:=An Wn) s1 s2 (Cb (by omega));have Hr:=Z (show⟨#[114,111,119,115,32]⟩++A++⟨#[32,99,111,108,115,32]⟩++B++⟨#[32,110,111,110,101,58,32,99,111,108,117,109,110,115,32]⟩++An Wn=BB xs ys from by unfold BB Fk;rw[if_pos aD,if_neg (by rw[bR];simp),HA.o,HB.o,HW.o]);have dk:=Z bR;clear aD bR;go_enter Tryz.func146,Tryz.ntmps146;go_wp2_with (fail);refine(C9 _ xs _ Hv.o (by omega)).mono ?_;rintro e w1 ⟨rfl,b1⟩;rw[←HA.o];go_wp2_with (fail);refine(C9 _ ys _ (aj.o.keep b1) (by omega)).mono ?_;rintro e w2 ⟨rfl,b2⟩;rw[←HB.o];have cI:=b1.trans_pure b2 (Nat.le_refl _);go_wp2_with (fail);refine(EL _ _ _ _ _ (Hv.o.keep cI) (aj.o.keep cI)).mono ?_;rintro e w' ⟨rfl,rfl⟩;rw[aS.o];go_wp2_with (fail);refine(DA _ _ _ _ _ (Hv.o.keep cI) (aj.o.keep cI)).mono ?_;rintro e w3 ⟨rfl,b3⟩;rw[dk.o];have dd:=cI.trans_pure b3 (Nat.le_refl _);go_wp2_with (fail);refine(IG _ _ _ _ _ (Hv.o.keep dd) (aj.o.keep dd)).mono ?_;rintro e w4 ⟨rfl,b4⟩;rw[←HW.o];have eH:=dd.trans_pure b4 (Nat.le_refl _);go_wp2_with (fail);refine(Dr _ (BV.small (by omega) (by omega)) _).mono ?_;rintro e w5 ⟨rfl,b5⟩;have e8:=eH.trans_pure b5 (Nat.le_refl _);go_wp2
  go_ret
  exact⟨Fl Hr.o,e8⟩
 ·obtain⟨za,zb,zc,z1,z2,z3,z4,z5⟩:=Ph (C:=An Cn) s1 s2 (Cb (by omega));have Hr:=Z (show⟨#[114,111,119,115,32]⟩++A++⟨#[32,99,111,108,115,32]⟩++B++⟨#[32,105,109,97,103,101,115,32]⟩++An Cn=BB xs ys from by unfold BB Fk;rw[if_pos aD,if_pos bR,HA.o,HB.o,HC.o,nz.o]);have dk:=Z bR;clear aD bR;go_enter Tryz.func146,Tryz.ntmps146;go_wp2_with (fail);refine(C9 _ xs _ Hv.o (by omega)).mono ?_;rintro e w1 ⟨rfl,b1⟩;rw[←HA.o];go_wp2_with (fail);refine(C9 _ ys _ (aj.o.keep b1) (by omega)).mono ?_;rintro e w2 ⟨rfl,b2⟩;rw[←HB.o];have cI:=b1.trans_pure b2 (Nat.le_refl _);go_wp2_with (fail);refine(EL _ _ _ _ _ (Hv.o.keep cI) (aj.o.keep cI)).mono ?_;rintro e w' ⟨rfl,rfl⟩;rw[aS.o];go_wp2_with (fail);refine(DA _ _ _ _ _ (Hv.o.keep cI) (aj.o.keep cI)).mono ?_;rintro e w3 ⟨rfl,b3⟩;rw[dk.o];have dd:=cI.trans_pure b3 (Nat.le_refl _);go_wp2_with (fail);refine(Tt _ _ _ _ _ (Hv.o.keep dd) (aj.o.keep dd) aS.o).mono ?_;rintro e w4 ⟨rfl,b4⟩;rw[←HC.o];have eH:=dd.trans_pure b4 (Nat.le_refl _);go_wp2_with (fail);refine(Dr _ (BV.small (by omega) (by omega)) _).mono ?_;rintro e w5 ⟨rfl,b5⟩;have e8:=eH.trans_pure b5 (Nat.le_refl _);go_wp2
  go_ret
  exact⟨Fl Hr.o,e8⟩
