/- Base. -/
import Derived.Test.YthmocomfjgmjoaaGreatDoorQ09
set_option maxHeartbeats 4000000
set_option maxRecDepth 100000
namespace Go.Proofs.YthmocomfjgmjoaaGreatDoor
open Go.RowKit Go.Proofs.Tryz
variable {a dx dy:Int}{m:I}{y:Int}
abbrev QT(dx dy:Int):Value:=.agg #[.int .i64 dx,.int .i64 dy]
theorem RF(a b:Int)(w:World)(ha:-3≤a)(pK:a≤3)(hb:-3≤b)(af:b≤3):Calls prog 276 #[.int .i64 a,.int .i64 b] w fun e w'=>e=.returned (.int .i64 (Int.gcd a b:Nat))∧w=w':=by
 have HG:=Z (show Nat.gcd a.natAbs b.natAbs=Int.gcd a b from rfl);go_enter func276,ntmps276;go_wp2
 all_goals
  go_loop [0,1,5] (fun u v _=>∃A B:Nat,u=.int .i64 A∧v=.int .i64 B∧A≤3∧B≤3∧Hid (Nat.gcd A B=Int.gcd a b)) (fun _ v _=>(intOf v).toNat);exact⟨a.natAbs,b.natAbs,by congr 1;omega,by congr 1;omega,J,J,HG⟩;obtain⟨A,B,rfl,rfl,hA,hB,Hg⟩:=hrel;by_cases h0:B=0
  ·subst h0;have Hr:=Z (show A=Int.gcd a b from by rw[←Hg.o,Nat.gcd_zero_right]);go_wp2
   go_ret
   exact⟨CY (by rw[Hr.o]),rfl⟩
  ·have aK:((B:Int) !=0)=true:=by rw[bne_iff_ne];omega
   have aF:A % B<B:=Nat.mod_lt _ J;have fr:=Z (show Nat.gcd B (A % B)=Int.gcd a b from by rw[←Hg.o,Nat.gcd_comm B,←Nat.gcd_rec,Nat.gcd_comm]);go_wp2
   go_round
   exact⟨B,A % B,rfl,by first|rfl|(rw[Int.natCast_emod]),hB,J,fr⟩;exact Jv
theorem A1M(h1:C1 0 3 dx=true)(h2:C1 (-3) 3 dy=true):(dx=0∨dx=1∨dx=2∨dx=3)∧(dy=-3∨dy=-2∨dy=-1∨dy=0∨dy=1∨dy=2∨dy=3):=by
 rw[Bz]at h1 h2;omega
theorem JV(dx dy:Int)(w:World):Calls prog 100 #[QT dx dy] w fun e w'=>e=.returned (.bool (CI dx dy))∧Below w.heap.size w w':=by
 have Hb:=Z (Below.qab w (.cells #[.int .i64 dx,.int .i64 dy] 73));cases h1:C1 0 3 dx
 ·have Hr:=Z (show CI dx dy=false from by simp[CI,h1]);have H1:=Z h1;clear h1;go_enter func100,ntmps100;go_wp2_with fail;refine(Bi _ _ _ _).mono ?_;rintro e w' ⟨rfl,rfl⟩;rw[H1.o];go_wp2
  go_ret
  exact⟨AW Hr.o.symm,Hb.o⟩
 cases h2:C1 (-3) 3 dy
 ·have Hr:=Z (show CI dx dy=false from by simp[CI,h2]);have H1:=Z h1;clear h1;have H2:=Z h2;clear h2;go_enter func100,ntmps100;go_wp2_with fail;refine(Bi _ _ _ _).mono ?_;rintro e w' ⟨rfl,rfl⟩;rw[H1.o];go_wp2_with fail;refine(Bi _ _ _ _).mono ?_;rintro e w' ⟨rfl,rfl⟩;rw[H2.o];go_wp2
  go_ret
  exact⟨AW Hr.o.symm,Hb.o⟩
 obtain⟨e1,e2⟩:=A1M h1 h2;clear h1 h2;rcases e1 with rfl|rfl|rfl|rfl<;>rcases e2 with rfl|rfl|rfl|rfl|rfl|rfl|rfl
 all_goals
  go_enter func100,ntmps100;go_wp2_with fail;refine(Bi _ _ _ _).mono ?_;rintro e w' ⟨rfl,rfl⟩;rw[show ∀x,C1 0 3 x=C1 0 3 x from fun _=>rfl];simp only[show C1 0 3 0=true from rfl,show C1 0 3 1=true from rfl,show C1 0 3 2=true from rfl,show C1 0 3 3=true from rfl];go_wp2_with fail;refine(Bi _ _ _ _).mono ?_;rintro e w' ⟨rfl,rfl⟩;simp only[show C1 (-3) 3 (-3)=true from rfl,show C1 (-3) 3 (-2)=true from rfl,show C1 (-3) 3 (-1)=true from rfl,show C1 (-3) 3 0=true from rfl,show C1 (-3) 3 1=true from rfl,show C1 (-3) 3 2=true from rfl,show C1 (-3) 3 3=true from rfl];go_wp2
  first
   |(go_ret;exact⟨rfl,Hb.o⟩)
   |(refine wp_loop_rounds 3 ?_;rw[rounds_succ];go_wp2;first|(go_ret;exact⟨rfl,Hb.o⟩)|(rw[rounds_succ];go_wp2;first|(go_ret;exact⟨rfl,Hb.o⟩)|(rw[rounds_succ];go_wp2;go_ret;exact⟨rfl,Hb.o⟩)))
theorem A0u(h0:0≤a)(h3:a≤3)(ja:0≤y)(hy:y≤4):0≤a*y∧a*y≤12:=by
 have e1:a=0∨a=1∨a=2∨a=3:=J;rcases e1 with rfl|rfl|rfl|rfl<;>omega
theorem Oz(h0:-3≤a)(h3:a≤3)(ja:0≤y)(hy:y≤4):-12≤a*y∧a*y≤12:=by
 have e1:a=-3∨a=-2∨a=-1∨a=0∨a=1∨a=2∨a=3:=J;rcases e1 with rfl|rfl|rfl|rfl|rfl|rfl|rfl<;>omega
structure A50(c:Nat)(dx dy y x:Int):Prop where
 d:CI dx dy=true
 c1:1≤c
 c5:c≤5
 y0:0≤y
 y4:y≤4
 x0:0≤x
 x4:x≤4
theorem X6(c:Nat)(dx dy y x:Int)(w:World)(h:A50 c dx dy y x):Calls prog 164 #[.int .i64 c,QT dx dy,.int .i64 y,.int .i64 x] w fun e w'=>e=.returned (.int .i64 (F7 c dx dy y x))∧Below w.heap.size w w':=by
 have Hb:=Z (Below.qab w (.cells #[.int .i64 dx,.int .i64 dy] 73));obtain⟨d1,d2,d3,d4⟩:=FW h.d;obtain⟨-,hc1,hc5,ja,hy4,eR,hx4⟩:=h;obtain⟨p1,p2⟩:=A0u d1 d2 ja hy4;obtain⟨q1,q2⟩:=Oz d3 d4 eR hx4;obtain⟨r1,r2⟩:=Oz (y:=(c:Int)-1) d3 d4 J J;have Hr:=Z (show F7 c dx dy y x=dx*y-dy*x+max 0 (dy*((c:Int)-1))from rfl);go_enter func164,ntmps164;go_wp2
 all_goals go_ret
 all_goals exact⟨CY (by rw[Hr.o];omega),Hb.o⟩
theorem A1I(r c:Nat)(dx dy:Int)(w:World)(hr1:1≤r)(hr5:r≤5)(hc1:1≤c)(hc5:c≤5):Calls prog 228 #[.int .i64 r,.int .i64 c,QT dx dy] w fun e w'=>e=.returned (.bool (CI dx dy))∧Below w.heap.size w w':=by
 have Hb:=Z (Below.qab w (.cells #[.int .i64 dx,.int .i64 dy] 73));have H1:=Z (show C1 1 5 (r:Int)=true from Ft J J);have H2:=Z (show C1 1 5 (c:Int)=true from Ft J J);go_enter func228,ntmps228;go_wp2_with fail;refine(Bi _ _ _ _).mono ?_;rintro e w' ⟨rfl,rfl⟩;rw[H1.o];go_wp2_with fail;refine(Bi _ _ _ _).mono ?_;rintro e w' ⟨rfl,rfl⟩;rw[H2.o];go_wp2_with fail;refine(JV _ _ _).mono ?_;rintro e w2 ⟨rfl,b2⟩;go_wp2
 go_ret
 exact⟨rfl,Hb.o.qaa b2 (A2 _)⟩
theorem A2G{α:Type}{P:Program}(w:World)(t E:TypeId){z:Value}{bytes:Nat}(ht:P.underlying t=some (.slice E))(cH:(P.info? E).map (fun i=>(i.zero,i.size,i.bytes))=some (some z,1,bytes))(eM:z.cells=#[z])(dF:bytes≤64){R:CP α}(x:α)(hx:R (fun _=>False) w z x)(hR:LZ R)
  (n:Nat)(hn:n≤1099511627776):
  ∃w',(Instr.makeSlice t (.int .i64 (n:Int)) (.int .i64 (n:Int))).run P w=.ok (.slice (some ⟨w.heap.size,0,none⟩) n n) w'∧Ag E R (fun b=>b=w.heap.size) w' (.slice (some ⟨w.heap.size,0,none⟩) n n) (List.replicate n x)∧Below w.heap.size w w'∧w'.heap.size=w.heap.size+1:=by
 obtain⟨i,hi,hz,aV,du⟩:=info_parts cH;have hr:=run_make (P:=P) w t E i z ht hi hz .i64 .i64 n n J (Int.le_refl _) (by
  subst du;have h:i.bytes*n≤64*1099511627776:=Nat.mul_le_mul dF hn;have h':((i.bytes*n:Nat):Int)≤281474976710656:=J;rwa[Int.natCast_mul]at h') J
 simp only[Int.toNat_natCast]at hr;refine⟨_,hr,?_,Below.qab w _,Jj⟩;refine .inr ⟨w.heap.size,madeCells z.cells (n*i.size),by simp[size_madeCells,aV],rfl,?_,by simp[size_madeCells,aV],by simp[size_madeCells,aV,maxLen];omega,by simp;omega,fun _ _=>False,fun _ _ h=>h.elim,fun _ _ _ h=>h.elim,?_⟩
 ·exact heap_alloc_new w _
 ·intro k y hk;have pP:k<n:=by
   have:=(A5.1 hk).1;simpa using this
  have:y=x:=by
   rw[List.getElem?_replicate,if_pos pP]at hk;exact(Option.some.inj hk).symm
  subst this;refine⟨z,by simp[madeCells,aV,eM,pP,Nat.mod_one],hR.same (fun _ h=>h.elim) hx⟩
theorem DZ{w w2:World}(h:Below w.drew.heap.size w.drew w2):Below w.heap.size w w2:=⟨h.os,h.tape,h.output,h.size,h.block⟩
theorem LG.mono{b:Int}{l:U}(h:LG a l)(gZ:a≤b):LG b l:=fun v hv=>⟨(h v hv).1,by have:=(h v hv).2;omega⟩
theorem Uj(m:I)(c:Nat)(dx dy:Int)(y:Nat):∀(k:Nat)(l:U),(Gw m c dx dy y k l).length=l.length
 |0,_=>rfl
 |k+1,l=>by rw[Gw,Uj m c dx dy y k,Kv]
theorem MX(m:I)(r c:Nat)(dx dy:Int):∀(k:Nat)(l:U),(Ef m r c dx dy k l).length=l.length
 |0,_=>rfl
 |k+1,l=>by rw[Ef,MX m r c dx dy k,Uj]
theorem LK{r c:Nat}(hs:Ax r c m)(hr:1≤r)(h:AC m=true)(hd:CI dx dy=true):BQ m dx dy=Ef m r c dx dy r (List.replicate (Qh r c dx dy).toNat 0):=by
 obtain⟨e1,e2⟩:=J9 hs hr;unfold BQ;rw[if_pos ⟨h,hd⟩,e1,e2]
theorem HZ(h:¬(AC m=true∧CI dx dy=true)):BQ m dx dy=[]:=by
 unfold BQ;rw[if_neg h]
def Qy(w:World)(l:U)(e:Ending)(w':World):Prop:=∃v,e=.returned v∧Ag 3 Ap (Iv w.heap.size w'.heap.size) w' v l∧Below w.heap.size w w'∧((v=.slice none 0 0∧l=[])∨(∃g c,v=.slice (some ⟨g,0,none⟩) l.length c∧0<l.length))
theorem Wq(r c:Nat)(dx dy:Int)(w:World)(hd:CI dx dy=true)(hr1:1≤r)(hr5:r≤5)(hc1:1≤c)(hc5:c≤5):Calls prog 163 #[.int .i64 r,.int .i64 c,QT dx dy] w fun e w'=>e=.returned (.int .i64 (Qh r c dx dy))∧Below w.heap.size w w':=by
 have gv:=Z (B9.new w #[.int .i64 dx,.int .i64 dy] 73);have eI:=Z (Below.qab w (.cells #[.int .i64 dx,.int .i64 dy] 73));have lQ:=FW hd;have hn:=Kr lQ hr1 hr5 hc1 hc5;have hA:=GQ (r:=r) (c:=c) lQ (y:=(r:Int)-1) (x:=0) J J J J;have hB:=GQ (r:=r) (c:=c) lQ (y:=(r:Int)-1) (x:=(c:Int)-1) J J J J;have hA1:0≤F7 c dx dy ((r:Int)-1) 0:=hA.1;have hA2:F7 c dx dy ((r:Int)-1) 0≤25:=J;have fI:0≤F7 c dx dy ((r:Int)-1) ((c:Int)-1):=hB.1;have pQ:F7 c dx dy ((r:Int)-1) ((c:Int)-1)≤25:=J;have Hr:=Z (show Qh r c dx dy=max (F7 c dx dy ((r:Int)-1) 0) (F7 c dx dy ((r:Int)-1) ((c:Int)-1))+1 from rfl);have Hd:=Z hd;clear hd lQ hn hA hB;go_enter func163,ntmps163;go_wp2_with fail;refine(A1I r c dx dy _ hr1 hr5 hc1 hc5).mono ?_;rintro e w1 ⟨rfl,b1⟩;rw[Hd.o];have mZ:B9 w1 w.heap.size #[.int .i64 dx,.int .i64 dy] 73:=gv.o.keep b1;replace gv:=Z (show B9 w1.drew w.heap.size #[.int .i64 dx,.int .i64 dy] 73 from mZ);replace eI:=Z (eI.o.qaa b1 (A2 _)).drew;have c0:w1.cell? ⟨w.heap.size,0,none⟩=some (.int .i64 dx):=gv.o.cell 0;have c1:w1.cell? ⟨w.heap.size,1,none⟩=some (.int .i64 dy):=gv.o.cell 1;have hw1:IntKind.i64.wrap ((r:Int)-1)=(r:Int)-1:=IntWalk.i64_in _ J;have hw2:IntKind.i64.wrap ((c:Int)-1)=(c:Int)-1:=IntWalk.i64_in _ J;have hw3:IntKind.i64.wrap (F7 c dx dy ((r:Int)-1) 0+1)=F7 c dx dy ((r:Int)-1) 0+1:=IntWalk.i64_in _ J;have hw4:IntKind.i64.wrap (F7 c dx dy ((r:Int)-1) ((c:Int)-1)+1)=F7 c dx dy ((r:Int)-1) ((c:Int)-1)+1:=IntWalk.i64_in _ J;clear b1 mZ;go_wp2;go_region_with (go_at_call 164;refine(X6 c dx dy _ _ _ ?_).mono ?_;exact⟨Hd.o,hc1,hc5,J,J,J,J⟩;rintro e w2 ⟨rfl,af⟩;replace gv:=Z (gv.o.keep af);replace eI:=Z (eI.o.qaa af (A2 _));have c0:w2.cell? ⟨w.heap.size,0,none⟩=some (.int .i64 dx):=gv.o.cell 0;have c1:w2.cell? ⟨w.heap.size,1,none⟩=some (.int .i64 dy):=gv.o.cell 1)
 all_goals clear hw1 hw2 hw3 hw4
 all_goals go_wp2
 all_goals go_ret
 all_goals exact⟨CY (by rw[Hr.o,IntKind.wrap_i64];omega),eI.o⟩
theorem A2o(v:Value)(m:I)(r c:Nat)(dx dy:Int)(w:World)(hv:AI w v m)(hs:Ax r c m)(hr1:1≤r)(hr5:r≤5)(hc1:1≤c)(hc5:c≤5)(hd:CI dx dy=true):
  Calls prog 101 #[v,QT dx dy] w (Qy w (Ef m r c dx dy r (List.replicate (Qh r c dx dy).toNat 0))):=by
 have lQ:=FW hd;have hn:=Kr lQ hr1 hr5 hc1 hc5;obtain⟨N,hN⟩:∃N:Nat,Qh r c dx dy=N:=⟨(Qh r c dx dy).toNat,J⟩;obtain⟨F,hF⟩:∃F,F=Ef m r c dx dy r (List.replicate (Qh r c dx dy).toNat 0):=⟨_,rfl⟩;have pR:F.length=N:=by rw[hF,MX,List.length_replicate,hN];rfl
 rw[←hF];have HF:=Z (show Ef m r c dx dy r (List.replicate N 0)=F from by rw[hF,hN];rfl);have tx:=Z pR;have HN:=Z hN;have lu:1≤N:=J;have lb:0<r:=J;have jt:N≤25:=J;obtain⟨b,off,cp,rfl,hb,ah⟩:=hv.cells hs hr1 hc1;have fL:=Z ah;obtain⟨b0,o0,c0',bE,bu,-⟩:=ah 0 J;rw[AF]at bE;obtain⟨W1,hW1⟩:∃W1,W1=w.alloc (.cells #[.int .i64 dx,.int .i64 dy] 73):=⟨_,rfl⟩;have fI:B9 W1 w.heap.size #[.int .i64 dx,.int .i64 dy] 73:=by rw[hW1];exact B9.new _ _ _
 have qk:Below w.heap.size w W1:=by rw[hW1];exact Below.qab _ _
 have jI:=(qk.cell (p:=⟨b,off,none⟩) hb).trans bE;have c0:W1.cell? ⟨w.heap.size,0,none⟩=some (.int .i64 dx):=fI.cell 0;have c1:W1.cell? ⟨w.heap.size,1,none⟩=some (.int .i64 dy):=fI.cell 1;have oB:=Z fI;have lR:=Z qk;have Hd:=Z hd;clear ah hF pR hN hn fI qk hd bE;go_enter func101,ntmps101;go_wp2;rw[←hW1];clear hW1;go_region_with (go_at_call 163;refine(Wq r c dx dy _ Hd.o hr1 hr5 hc1 hc5).mono ?_;rintro e w2 ⟨rfl,b2⟩;rw[HN.o];obtain⟨w3,jX,o3,b3,z3⟩:=A2G (P:=prog) w2 32 3 underlying32 Bg rfl Jq (R:=Ap) 0 ⟨rfl,Cc.small Jq Jq⟩ A8 N J)
 all_goals
  have dg:Below w.heap.size w w3:=(lR.o.qaa (by first|exact b2|exact DZ b2) (A2 _)).qaa b3 (A2 _);have ji:Hid (B9 w3 w.heap.size #[.int .i64 dx,.int .i64 dy] 73):=Z ((oB.o.keep (by first|exact b2|exact DZ b2)).keep b3);have tz:w.heap.size<w2.heap.size:=Aa oB.o.lt (Below.size (by first|exact b2|exact DZ b2:Below W1.heap.size W1 w2));have m4:w2.heap.size<w3.heap.size:=J;have cY:=Z o3;have bN:=Z dg;clear b2 b3 o3 jX z3 dg c0 c1 jI;go_wp2;go_loopw [6,7,8,9,21] (fun _ _ _ _ i wr=>∃(k:Nat)(l:U),k≤r∧i=.int .i64 k∧Hid (Ef m r c dx dy (r-k) l=F)∧Hid (l.length=N)∧Hid (LG ((5*k:Nat):Int) l)∧Hid (Ag 3 Ap (fun b=>b=w2.heap.size) wr (.slice (some ⟨w2.heap.size,0,none⟩) N N) l)∧Hid (B9 wr w.heap.size #[.int .i64 dx,.int .i64 dy] 73)∧Hid (Below w.heap.size w wr)∧w2.heap.size<wr.heap.size) (fun _ _ _ _ i _=>r-(intOf i).toNat);exact⟨0,List.replicate N 0,A7 _,rfl,HF,Z Jj,Z (fun v hv=>by rw[List.mem_replicate]at hv;omega),cY,ji,bN,m4⟩;clear cY ji bN m4;obtain⟨k,l,hk,rfl,Hl,iX,Hup,Ho,HB,Hb,hDs⟩:=hrel;by_cases aF:k<r
  ·obtain⟨br,offr,cpr,aD,dL,hrx⟩:=fL.o k aF;have gE:=(Hb.o.cell (p:=⟨b,off+k,none⟩) hb).trans aD;have uA:=Z hrx;have qD:=Z (show Ef m r c dx dy (r-(k+1)) (Gw m c dx dy k c l)=F from by rw[←Rp aF];exact Hl.o);have dM:decide ((k:Int)<(r:Int))=true:=by simp;omega
   clear aD hrx;go_wp2;clear gE;go_loopw [8,9,28] (fun _ _ i wr=>∃(x:Nat)(l:U),x≤c∧i=.int .i64 x∧Hid (Ef m r c dx dy (r-(k+1)) (Gw m c dx dy k (c-x) l)=F)∧Hid (l.length=N)∧Hid (LG ((5*k+x:Nat):Int) l)∧Hid (Ag 3 Ap (fun b=>b=w2.heap.size) wr (.slice (some ⟨w2.heap.size,0,none⟩) N N) l)∧Hid (B9 wr w.heap.size #[.int .i64 dx,.int .i64 dy] 73)∧Hid (Below w.heap.size w wr)∧w2.heap.size<wr.heap.size) (fun _ _ i _=>c-(intOf i).toNat);exact⟨0,l,A7 _,rfl,Z (by rw[Nat.sub_zero];exact qD.o),iX,Hup,Ho,HB,Hb,hDs⟩;clear Hl qD iX Hup Ho HB Hb hDs;obtain⟨x,l,hx,rfl,Hl,iX,Hup,Ho,HB,Hb,hDs⟩:=hrel;by_cases bW:x<c
   ·have aH:=(Hb.o.cell (p:=⟨br,offr+x,none⟩) dL).trans (uA.o x bW);have fU:=AS hs k x;have iY:=GQ (r:=r) (c:=c) lQ (y:=(k:Int)) (x:=(x:Int)) J J J J;obtain⟨z,hz⟩:∃z,z=AJ m k x:=⟨_,rfl⟩;rw[←hz]at aH fU;obtain⟨K,hK⟩:∃K:Nat,F7 c dx dy k x=K:=⟨(F7 c dx dy k x).toNat,J⟩;have ql:K<N:=by have:=HN.o;omega
    have jY:=Z (show Ef m r c dx dy (r-(k+1)) (Gw m c dx dy k (c-(x+1)) (IN l K z))=F from by
     have h:=Hl.o;rw[Tb bW,hK,←hz]at h;exact h)
    have HK:=Z hK;have bA:l[K]? =some (l.getD K 0):=BO 0 (by rw[iX.o];exact ql);have lk:=Hup.o _ (A4 bA);have kA:=Z (show LG ((5*k+(x+1):Nat):Int) (IN l K z)from by
     have h:=Hup.o.add (k:=K) (v:=z) (by rw[iX.o];exact ql) fU.1 fU.2;have e:((5*k+x:Nat):Int)+1=((5*k+(x+1):Nat):Int):=J;rwa[e]at h)
    have qm:=Z (show(IN l K z).length=N from by rw[Kv];exact iX.o);obtain⟨u,hu⟩:∃u,u=l.getD K 0:=⟨_,rfl⟩;rw[←hu]at bA lk;have qn:=Z (show l.set K (u+z)=IN l K z from by rw[hu];rfl);have cT:=fU.1;have bL:=fU.2;have eK:=lk.1;have lH:u≤50:=J;have c0:wr.cell? ⟨w.heap.size,0,none⟩=some (.int .i64 dx):=HB.o.cell 0;have c1:wr.cell? ⟨w.heap.size,1,none⟩=some (.int .i64 dy):=HB.o.cell 1;have ex:=Z bA;clear hz hK fU lk iY hu bA;go_wp2_with fail;refine(X6 c dx dy k x _ ⟨Hd.o,hc1,hc5,J,J,J,J⟩).mono ?_;rintro e w5 ⟨rfl,b5⟩;rw[HK.o];have o5:=(Ab A8).same (Ac b5 fun b hb=>by have:b=w2.heap.size:=hb;omega) Ho.o;obtain⟨e1,e2,-⟩:=o5.qaf ex.o;have o6:=o5.qak (k:=K) (by rw[iX.o];exact ql) (c:=u+z) (Cc.small J J);rw[qn.o]at o6;have lB:=Z o6;have zN:=Z ((HB.o.keep b5).qah (g':=w2.heap.size) (j:=K) J (.int .i64 (u+z)));have nw:=Z ((Hb.o.qaa b5 (A2 _)).setCell (p:=⟨w2.heap.size,K,none⟩) (by show w.heap.size≤w2.heap.size;omega) (.int .i64 (u+z)));have py:=b5.size;clear o5 o6 b5 c0 c1 aH;go_wp2;go_roundw;exact⟨x+1,IN l K z,J,by go_num,jY,qm,kA,lB,zN,nw,by rw[As];omega⟩;exact Jv
   ·obtain rfl:x=c:=J;have jY:=Z (show Ef m r x dx dy (r-(k+1)) l=F from by
     have h:=Hl.o;rw[Nat.sub_self]at h;exact h)
    have kA:=Z (show LG ((5*(k+1):Nat):Int) l from Hup.o.mono J);go_wp2;go_roundw;exact⟨k+1,l,J,by go_num,jY,iX,kA,Ho,HB,Hb,hDs⟩;exact Jv
  ·obtain rfl:k=r:=J;have aU:=Z (show l=F from by
    have h:=Hl.o;rw[Nat.sub_self]at h;exact h)
   go_wp2
   go_ret
   refine⟨.slice (some ⟨w2.heap.size,0,none⟩) N N,rfl,?_,Hb.o,.inr ⟨w2.heap.size,N,by rw[tx.o],by rw[tx.o];omega⟩⟩;rw[←aU.o];exact(Ab A8).mono (fun b hb=>⟨by have:b=w2.heap.size:=hb;omega,by have:b=w2.heap.size:=hb;omega⟩) Ho.o
theorem SY(v:Value)(m:I)(dx dy:Int)(w:World)(hv:AI w v m):Calls prog 42 #[v,QT dx dy] w (Qy w (BQ m dx dy)):=by
 have bu:=Below.qab w (.cells #[.int .i64 dx,.int .i64 dy] 73);have Hv:=Z (hv.keep bu);have fV:=Z bu;have oB:=Z (B9.new w #[.int .i64 dx,.int .i64 dy] 73);obtain⟨a,cap0,rfl,-⟩:=id hv;clear bu;cases hok:AC m
 ·have Hr:=Z (HZ (m:=m) (dx:=dx) (dy:=dy) (by rw[hok];simp));have aR:=Z hok;clear hok;go_enter func42,ntmps42;go_wp2_with fail;refine(B8 _ _ _ Hv.o).mono ?_;rintro e w' ⟨rfl,rfl⟩;rw[aR.o];go_wp2
  go_ret
  exact⟨_,rfl,by rw[Hr.o];exact Ag.nil _ _ _ _,fV.o,.inl ⟨rfl,Hr.o⟩⟩
 obtain⟨r,c,hr1,hr5,hc1,hc5,hs⟩:=Az hok;have aR:=Z hok;cases hd:CI dx dy
 ·have Hr:=Z (HZ (m:=m) (dx:=dx) (dy:=dy) (by rw[hd];simp));have Hd:=Z hd;clear hok hd;go_enter func42,ntmps42;go_wp2_with fail;refine(B8 _ _ _ Hv.o).mono ?_;rintro e w' ⟨rfl,rfl⟩;rw[aR.o];go_wp2_with fail;refine(JV _ _ _).mono ?_;rintro e w2 ⟨rfl,b2⟩;rw[Hd.o];go_wp2
  go_ret
  exact⟨_,rfl,by rw[Hr.o];exact Ag.nil _ _ _ _,fV.o.qaa b2 (A2 _),.inl ⟨rfl,Hr.o⟩⟩
 ·rw[LK hs hr1 hok hd];have Hd:=Z hd;clear hok hd;go_enter func42,ntmps42;go_wp2_with fail;refine(B8 _ _ _ Hv.o).mono ?_;rintro e w' ⟨rfl,rfl⟩;rw[aR.o];go_wp2_with fail;refine(JV _ _ _).mono ?_;rintro e w2 ⟨rfl,b2⟩;rw[Hd.o];have fa:=Z (oB.o.keep b2);have c0:w2.cell? ⟨w.heap.size,0,none⟩=some (.int .i64 dx):=fa.o.cell 0;have c1:w2.cell? ⟨w.heap.size,1,none⟩=some (.int .i64 dy):=fa.o.cell 1;have be:=Z (fV.o.qaa b2 (A2 _));have aY:=Z (Hv.o.keep b2);clear b2;go_wp2_with fail;refine(A2o _ m r c dx dy _ aY.o hs hr1 hr5 hc1 hc5 Hd.o).mono ?_;rintro e w3 ⟨v3,rfl,o3,b3,h3⟩;obtain⟨t1,t2,t3,rfl⟩:=o3.shape;have cY:=Z ((Ab A8).mono (S':=Iv w.heap.size w3.heap.size) (fun b hb=>⟨by have:=hb.1;have:=be.o.size;omega,hb.2⟩) o3);have bN:=Z (be.o.qaa b3 (A2 _));have H3:=Z h3;clear o3 b3 h3;go_wp2
  go_ret
  exact⟨_,rfl,cY.o,bN.o,H3.o⟩
