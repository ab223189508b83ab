/- Base. -/
import Derived.Test.YthmocomfjgmjoaaGreatDoorQ09
set_option maxHeartbeats 4000000
set_option maxRecDepth 100000
namespace Go.Proofs.YthmocomfjgmjoaaGreatDoor
open Go.RowKit
abbrev QH(dx dy:Int):Value:=.agg #[.int .i64 dx,.int .i64 dy]
theorem Rv(a b:Int)(w:World)(ha:-3≤a)(pV:a≤3)(hb:-3≤b)(au:b≤3):Calls Tryz.prog 276 #[.int .i64 a,.int .i64 b] w fun e w'=>e=.returned (.int .i64 (Int.gcd a b:Nat))∧w=w':=by
 have HG:=Z (show Nat.gcd a.natAbs b.natAbs=Int.gcd a b from rfl);go_enter Tryz.func276,Tryz.ntmps276;go_wp2
 all_goals
  go_loop [0,1,5] (fun u v _=>∃A B:Nat,u=.int .i64 A∧v=.int .i64 B∧A≤3∧B≤3∧Hid (Nat.gcd A B=Int.gcd a b)) (fun _ v _=>(intOf v).toNat)
  case atStart=>exact⟨a.natAbs,b.natAbs,by congr 1;omega,by congr 1;omega,by omega,by omega,HG⟩
  case round=>
   obtain⟨A,B,rfl,rfl,hA,hB,Hg⟩:=hrel;by_cases h0:B=0
   ·subst h0;have Hr:=Z (show A=Int.gcd a b from by rw[←Hg.o,Nat.gcd_zero_right]);go_wp2
    go_ret
    exact⟨CM (by rw[Hr.o]),rfl⟩
   ·have aO:((B:Int) !=0)=true:=by rw[bne_iff_ne];omega
    have aH:A % B<B:=Nat.mod_lt _ (by omega);have gG:=Z (show Nat.gcd B (A % B)=Int.gcd a b from by rw[←Hg.o,Nat.gcd_comm B,←Nat.gcd_rec,Nat.gcd_comm]);go_wp2
    go_round
    case rel=>exact⟨B,A % B,rfl,by first|rfl|(rw[Int.natCast_emod]),hB,by omega,gG⟩
    case measure=>simp[intOf];omega
theorem A1E{dx dy:Int}(h1:BR 0 3 dx=true)(h2:BR (-3) 3 dy=true):(dx=0∨dx=1∨dx=2∨dx=3)∧(dy=-3∨dy=-2∨dy=-1∨dy=0∨dy=1∨dy=2∨dy=3):=by
 rw[AT] at h1 h2;omega
theorem Jy(dx dy:Int)(w:World):Calls Tryz.prog 100 #[QH dx dy] w fun e w'=>e=.returned (.bool (Cx dx dy))∧Below w.heap.size w w':=by
 have Hb:=Z (Below.pureAlloc w (.cells #[.int .i64 dx,.int .i64 dy] 73));cases h1:BR 0 3 dx
 ·have Hr:=Z (show Cx dx dy=false from by simp[Cx,h1]);have H1:=Z h1;clear h1;go_enter Tryz.func100,Tryz.ntmps100;go_wp2_with (fail);refine(B6 _ _ _ _).mono ?_;rintro e w' ⟨rfl,rfl⟩;rw[H1.o];go_wp2
  go_ret
  exact⟨AI Hr.o.symm,Hb.o⟩
 cases h2:BR (-3) 3 dy
 ·have Hr:=Z (show Cx dx dy=false from by simp[Cx,h2]);have H1:=Z h1;clear h1;have H2:=Z h2;clear h2;go_enter Tryz.func100,Tryz.ntmps100;go_wp2_with (fail);refine(B6 _ _ _ _).mono ?_;rintro e w' ⟨rfl,rfl⟩;rw[H1.o];go_wp2_with (fail);refine(B6 _ _ _ _).mono ?_;rintro e w' ⟨rfl,rfl⟩;rw[H2.o];go_wp2
  go_ret
  exact⟨AI Hr.o.symm,Hb.o⟩
 obtain⟨e1,e2⟩:=A1E h1 h2;clear h1 h2;rcases e1 with rfl|rfl|rfl|rfl<;>rcases e2 with rfl|rfl|rfl|rfl|rfl|rfl|rfl
 all_goals
  go_enter Tryz.func100,Tryz.ntmps100;go_wp2_with (fail);refine(B6 _ _ _ _).mono ?_;rintro e w' ⟨rfl,rfl⟩;rw[show ∀x,BR 0 3 x=BR 0 3 x from fun _=>rfl];simp only[show BR 0 3 0=true from rfl,show BR 0 3 1=true from rfl,show BR 0 3 2=true from rfl,show BR 0 3 3=true from rfl];go_wp2_with (fail);refine(B6 _ _ _ _).mono ?_;rintro e w' ⟨rfl,rfl⟩;simp only[show BR (-3) 3 (-3)=true from rfl,show BR (-3) 3 (-2)=true from rfl,show BR (-3) 3 (-1)=true from rfl,show BR (-3) 3 0=true from rfl,show BR (-3) 3 1=true from rfl,show BR (-3) 3 2=true from rfl,show BR (-3) 3 3=true from rfl];go_wp2
  first
   |(go_ret;exact⟨rfl,Hb.o⟩)
   |(refine wp_loop_rounds 3 ?_;rw[rounds_succ];go_wp2;first|(go_ret;exact⟨rfl,Hb.o⟩)|(rw[rounds_succ];go_wp2;first|(go_ret;exact⟨rfl,Hb.o⟩)|(rw[rounds_succ];go_wp2;go_ret;exact⟨rfl,Hb.o⟩)))
theorem A13{a y:Int}(h0:0≤a)(h3:a≤3)(jm:0≤y)(hy:y≤4):0≤a*y∧a*y≤12:=by
 have e1:a=0∨a=1∨a=2∨a=3:=by omega
 rcases e1 with rfl|rfl|rfl|rfl<;>omega
theorem NT{a y:Int}(h0:-3≤a)(h3:a≤3)(jm:0≤y)(hy:y≤4):-12≤a*y∧a*y≤12:=by
 have e1:a=-3∨a=-2∨a=-1∨a=0∨a=1∨a=2∨a=3:=by omega
 rcases e1 with rfl|rfl|rfl|rfl|rfl|rfl|rfl<;>omega
structure A6z(c:Nat)(dx dy y x:Int):Prop where
 d:Cx dx dy=true
 c1:1≤c
 c5:c≤5
 y0:0≤y
 y4:y≤4
 x0:0≤x
 x4:x≤4
theorem Z4(c:Nat)(dx dy y x:Int)(w:World)(h:A6z c dx dy y x):Calls Tryz.prog 164 #[.int .i64 c,QH dx dy,.int .i64 y,.int .i64 x] w fun e w'=>e=.returned (.int .i64 (EU c dx dy y x))∧Below w.heap.size w w':=by
 have Hb:=Z (Below.pureAlloc w (.cells #[.int .i64 dx,.int .i64 dy] 73));obtain⟨d1,d2,d3,d4⟩:=FF h.d;obtain⟨-,hc1,hc5,jm,hy4,eu,hx4⟩:=h;obtain⟨p1,p2⟩:=A13 d1 d2 jm hy4;obtain⟨q1,q2⟩:=NT d3 d4 eu hx4;obtain⟨r1,r2⟩:=NT (y:=(c:Int)-1) d3 d4 (by omega) (by omega);have Hr:=Z (show EU c dx dy y x=dx*y-dy*x+max 0 (dy*((c:Int)-1)) from rfl);go_enter Tryz.func164,Tryz.ntmps164;go_wp2
 all_goals go_ret
 all_goals exact⟨CM (by rw[Hr.o];omega),Hb.o⟩
theorem A1W(r c:Nat)(dx dy:Int)(w:World)(hr1:1≤r)(hr5:r≤5)(hc1:1≤c)(hc5:c≤5):Calls Tryz.prog 228 #[.int .i64 r,.int .i64 c,QH dx dy] w fun e w'=>e=.returned (.bool (Cx dx dy))∧Below w.heap.size w w':=by
 have Hb:=Z (Below.pureAlloc w (.cells #[.int .i64 dx,.int .i64 dy] 73));have H1:=Z (show BR 1 5 (r:Int)=true from Fg (by omega) (by omega));have H2:=Z (show BR 1 5 (c:Int)=true from Fg (by omega) (by omega));go_enter Tryz.func228,Tryz.ntmps228;go_wp2_with (fail);refine(B6 _ _ _ _).mono ?_;rintro e w' ⟨rfl,rfl⟩;rw[H1.o];go_wp2_with (fail);refine(B6 _ _ _ _).mono ?_;rintro e w' ⟨rfl,rfl⟩;rw[H2.o];go_wp2_with (fail);refine(Jy _ _ _).mono ?_;rintro e w2 ⟨rfl,b2⟩;go_wp2
 go_ret
 exact⟨rfl,Hb.o.trans_pure b2 (Nat.le_refl _)⟩
theorem A4a{α:Type}{P:Program}(w:World)(t E:TypeId){z:Value}{bytes:Nat}(ht:P.underlying t=some (.slice E))(cW:(P.info? E).map (fun i=>(i.zero,i.size,i.bytes))=some (some z,1,bytes))(eZ:z.cells=#[z])(dP:bytes≤64){R:CG α}(x:α)(hx:R (fun _=>False) w z x)(hR:M3 R)
  (n:Nat)(hn:n≤1099511627776):
  ∃w',(Instr.makeSlice t (.int .i64 (n:Int)) (.int .i64 (n:Int))).run P w=.ok (.slice (some ⟨w.heap.size,0,none⟩) n n) w'∧A4 E R (fun b=>b=w.heap.size) w' (.slice (some ⟨w.heap.size,0,none⟩) n n) (List.replicate n x)∧Below w.heap.size w w'∧w'.heap.size=w.heap.size+1:=by
 obtain⟨i,hi,hz,af,eM⟩:=info_parts cW;have hr:=run_make (P:=P) w t E i z ht hi hz .i64 .i64 n n (by omega) (Int.le_refl _) (by
  subst eM;have h:i.bytes*n≤64*1099511627776:=Nat.mul_le_mul dP hn;have h':((i.bytes*n:Nat):Int)≤281474976710656:=by omega
  rwa[Int.natCast_mul] at h') (by omega)
 simp only[Int.toNat_natCast] at hr;refine⟨_,hr,?_,Below.pureAlloc w _,by simp⟩;refine .inr ⟨w.heap.size,madeCells z.cells (n*i.size),by simp[size_madeCells,af],rfl,?_,by simp[size_madeCells,af],by simp[size_madeCells,af,maxLen];omega,by simp;omega,fun _ _=>False,fun _ _ h=>h.elim,fun _ _ _ h=>h.elim,?_⟩
 ·exact heap_alloc_new w _
 ·intro k y hk;have p7:k<n:=by
   have:=(List.getElem?_eq_some_iff.1 hk).1;simpa using this
  have:y=x:=by
   rw[List.getElem?_replicate,if_pos p7] at hk;exact(Option.some.inj hk).symm
  subst this;refine⟨z,by simp[madeCells,af,eZ,p7,Nat.mod_one],hR.same (fun _ h=>h.elim) hx⟩
theorem DR{w w2:World}(h:Below w.drew.heap.size w.drew w2):Below w.heap.size w w2:=⟨h.os,h.tape,h.output,h.size,h.block⟩
theorem Lh.mono{a b:Int}{l:List Int}(h:Lh a l)(gx:a≤b):Lh b l:=fun v hv=>⟨(h v hv).1,by have:=(h v hv).2;omega⟩
theorem UE(m:List (List Int))(c:Nat)(dx dy:Int)(y:Nat):∀(k:Nat)(l:List Int),(Gl m c dx dy y k l).length=l.length
 |0,_=>rfl
 |k+1,l=>by rw[Gl,UE m c dx dy y k,JR]
theorem Ms(m:List (List Int))(r c:Nat)(dx dy:Int):∀(k:Nat)(l:List Int),(E6 m r c dx dy k l).length=l.length
 |0,_=>rfl
 |k+1,l=>by rw[E6,Ms m r c dx dy k,UE]
theorem LR{m:List (List Int)}{r c:Nat}{dx dy:Int}(hs:Ac r c m)(hr:1≤r)(h:Af m=true)(hd:Cx dx dy=true):BA m dx dy=E6 m r c dx dy r (List.replicate (Qf r c dx dy).toNat 0):=by
 obtain⟨e1,e2⟩:=IB hs hr;unfold BA;rw[if_pos ⟨h,hd⟩,e1,e2]
theorem H9{m:List (List Int)}{dx dy:Int}(h:¬(Af m=true∧Cx dx dy=true)):BA m dx dy=[]:=by
 unfold BA;rw[if_neg h]
def PV(w:World)(l:List Int)(e:Ending)(w':World):Prop:=∃v,e=.returned v∧A4 3 A7 (Iv w.heap.size w'.heap.size) w' v l∧Below w.heap.size w w'∧((v=.slice none 0 0∧l=[])∨(∃g c,v=.slice (some ⟨g,0,none⟩) l.length c∧0<l.length))
theorem Vh(r c:Nat)(dx dy:Int)(w:World)(hd:Cx dx dy=true)(hr1:1≤r)(hr5:r≤5)(hc1:1≤c)(hc5:c≤5):Calls Tryz.prog 163 #[.int .i64 r,.int .i64 c,QH dx dy] w fun e w'=>e=.returned (.int .i64 (Qf r c dx dy))∧Below w.heap.size w w':=by
 have iM:=Z (Aw.new w #[.int .i64 dx,.int .i64 dy] 73);have eU:=Z (Below.pureAlloc w (.cells #[.int .i64 dx,.int .i64 dy] 73));have l8:=FF hd;have hn:=K5 l8 hr1 hr5 hc1 hc5;have hA:=GC (r:=r) (c:=c) l8 (y:=(r:Int)-1) (x:=0) (by omega) (by omega) (by omega) (by omega);have hB:=GC (r:=r) (c:=c) l8 (y:=(r:Int)-1) (x:=(c:Int)-1) (by omega) (by omega) (by omega) (by omega);have hA1:0≤EU c dx dy ((r:Int)-1) 0:=hA.1;have hA2:EU c dx dy ((r:Int)-1) 0≤25:=by omega
 have fV:0≤EU c dx dy ((r:Int)-1) ((c:Int)-1):=hB.1;have p8:EU c dx dy ((r:Int)-1) ((c:Int)-1)≤25:=by omega
 have Hr:=Z (show Qf r c dx dy=max (EU c dx dy ((r:Int)-1) 0) (EU c dx dy ((r:Int)-1) ((c:Int)-1))+1 from rfl);have Hd:=Z hd;clear hd l8 hn hA hB;go_enter Tryz.func163,Tryz.ntmps163;go_wp2_with (fail);refine(A1W r c dx dy _ hr1 hr5 hc1 hc5).mono ?_;rintro e w1 ⟨rfl,b1⟩;rw[Hd.o];have md:Aw w1 w.heap.size #[.int .i64 dx,.int .i64 dy] 73:=iM.o.keep b1;replace iM:=Z (show Aw w1.drew w.heap.size #[.int .i64 dx,.int .i64 dy] 73 from md);replace eU:=Z (eU.o.trans_pure b1 (Nat.le_refl _)).drew;have c0:w1.cell? ⟨w.heap.size,0,none⟩=some (.int .i64 dx):=iM.o.cell 0;have c1:w1.cell? ⟨w.heap.size,1,none⟩=some (.int .i64 dy):=iM.o.cell 1;have iI:IntKind.i64.wrap ((r:Int)-1)=(r:Int)-1:=IntWalk.i64_in _ (by omega);have dc:IntKind.i64.wrap ((c:Int)-1)=(c:Int)-1:=IntWalk.i64_in _ (by omega);have kj:IntKind.i64.wrap (EU c dx dy ((r:Int)-1) 0+1)=EU c dx dy ((r:Int)-1) 0+1:=IntWalk.i64_in _ (by omega);have fS:IntKind.i64.wrap (EU c dx dy ((r:Int)-1) ((c:Int)-1)+1)=EU c dx dy ((r:Int)-1) ((c:Int)-1)+1:=IntWalk.i64_in _ (by omega);clear b1 md;go_wp2;go_region_with (go_at_call 164;refine(Z4 c dx dy _ _ _ ?_).mono ?_;exact⟨Hd.o,hc1,hc5,by omega,by omega,by omega,by omega⟩;rintro e w2 ⟨rfl,au⟩;replace iM:=Z (iM.o.keep au);replace eU:=Z (eU.o.trans_pure au (Nat.le_refl _));have c0:w2.cell? ⟨w.heap.size,0,none⟩=some (.int .i64 dx):=iM.o.cell 0;have c1:w2.cell? ⟨w.heap.size,1,none⟩=some (.int .i64 dy):=iM.o.cell 1)
 all_goals clear iI dc kj fS
 all_goals go_wp2
 all_goals go_ret
 all_goals exact⟨CM (by rw[Hr.o,IntKind.wrap_i64];omega),eU.o⟩
theorem A4l(v:Value)(m:List (List Int))(r c:Nat)(dx dy:Int)(w:World)(hv:Ak w v m)(hs:Ac r c m)(hr1:1≤r)(hr5:r≤5)(hc1:1≤c)(hc5:c≤5)(hd:Cx dx dy=true):
  Calls Tryz.prog 101 #[v,QH dx dy] w (PV w (E6 m r c dx dy r (List.replicate (Qf r c dx dy).toNat 0))):=by
 have l8:=FF hd;have hn:=K5 l8 hr1 hr5 hc1 hc5;obtain⟨N,hN⟩:∃N:Nat,Qf r c dx dy=N:=⟨(Qf r c dx dy).toNat,by omega⟩;obtain⟨F,hF⟩:∃F,F=E6 m r c dx dy r (List.replicate (Qf r c dx dy).toNat 0):=⟨_,rfl⟩;have p9:F.length=N:=by rw[hF,Ms,List.length_replicate,hN];rfl
 rw[←hF];have HF:=Z (show E6 m r c dx dy r (List.replicate N 0)=F from by rw[hF,hN];rfl);have tv:=Z p9;have HN:=Z hN;have mH:1≤N:=by omega
 have kh:0<r:=by omega
 have kE:N≤25:=by omega
 obtain⟨b,off,cp,rfl,hb,az⟩:=hv.cells hs hr1 hc1;have fY:=Z az;obtain⟨b0,o0,c0',bG,aX,-⟩:=az 0 (by omega);rw[Nat.add_zero] at bG;obtain⟨W1,hW1⟩:∃W1,W1=w.alloc (.cells #[.int .i64 dx,.int .i64 dy] 73):=⟨_,rfl⟩;have fV:Aw W1 w.heap.size #[.int .i64 dx,.int .i64 dy] 73:=by rw[hW1];exact Aw.new _ _ _
 have qx:Below w.heap.size w W1:=by rw[hW1];exact Below.pureAlloc _ _
 have jW:=(qx.cell (p:=⟨b,off,none⟩) hb).trans bG;have c0:W1.cell? ⟨w.heap.size,0,none⟩=some (.int .i64 dx):=fV.cell 0;have c1:W1.cell? ⟨w.heap.size,1,none⟩=some (.int .i64 dy):=fV.cell 1;have oL:=Z fV;have l9:=Z qx;have Hd:=Z hd;clear az hF p9 hN hn fV qx hd bG;go_enter Tryz.func101,Tryz.ntmps101;go_wp2;rw[←hW1];clear hW1;go_region_with (go_at_call 163;refine(Vh r c dx dy _ Hd.o hr1 hr5 hc1 hc5).mono ?_;rintro e w2 ⟨rfl,b2⟩;rw[HN.o];obtain⟨w3,je,o3,b3,z3⟩:=A4a (P:=Tryz.prog) w2 32 3 Tryz.underlying32 As rfl (by decide) (R:=A7) 0 ⟨rfl,BV.small (by decide) (by decide)⟩ A2 N (by omega))
 all_goals
  have bW:Below w.heap.size w w3:=(l9.o.trans_pure (by first|exact b2|exact DR b2) (Nat.le_refl _)).trans_pure b3 (Nat.le_refl _);have js:Hid (Aw w3 w.heap.size #[.int .i64 dx,.int .i64 dy] 73):=Z ((oL.o.keep (by first|exact b2|exact DR b2)).keep b3);have tw:w.heap.size<w2.heap.size:=Nat.lt_of_lt_of_le oL.o.lt (Below.size (by first|exact b2|exact DR b2:Below W1.heap.size W1 w2));have me:w2.heap.size<w3.heap.size:=by omega
  have cn:=Z o3;have bM:=Z bW;clear b2 b3 o3 je z3 bW c0 c1 jW;go_wp2;go_loopw [6,7,8,9,21] (fun _ _ _ _ i wr=>∃(k:Nat)(l:List Int),k≤r∧i=.int .i64 k∧Hid (E6 m r c dx dy (r-k) l=F)∧Hid (l.length=N)∧Hid (Lh ((5*k:Nat):Int) l)∧Hid (A4 3 A7 (fun b=>b=w2.heap.size) wr (.slice (some ⟨w2.heap.size,0,none⟩) N N) l)∧Hid (Aw wr w.heap.size #[.int .i64 dx,.int .i64 dy] 73)∧Hid (Below w.heap.size w wr)∧w2.heap.size<wr.heap.size) (fun _ _ _ _ i _=>r-(intOf i).toNat)
  case atStart=>exact⟨0,List.replicate N 0,Nat.zero_le _,rfl,HF,Z (by simp),Z (fun v hv=>by rw[List.mem_replicate] at hv;omega),cn,js,bM,me⟩
  case round=>
   clear cn js bM me;obtain⟨k,l,hk,rfl,Hl,it,Hup,Ho,HB,Hb,hDs⟩:=hrel;by_cases aH:k<r
   ·obtain⟨br,offr,cpr,aG,dL,hrx⟩:=fY.o k aH;have gV:=(Hb.o.cell (p:=⟨b,off+k,none⟩) hb).trans aG;have tx:=Z hrx;have nu:=Z (show E6 m r c dx dy (r-(k+1)) (Gl m c dx dy k c l)=F from by rw[←Sx aH];exact Hl.o);have dW:decide ((k:Int)<(r:Int))=true:=by simp;omega
    clear aG hrx;go_wp2;clear gV;go_loopw [8,9,28] (fun _ _ i wr=>∃(x:Nat)(l:List Int),x≤c∧i=.int .i64 x∧Hid (E6 m r c dx dy (r-(k+1)) (Gl m c dx dy k (c-x) l)=F)∧Hid (l.length=N)∧Hid (Lh ((5*k+x:Nat):Int) l)∧Hid (A4 3 A7 (fun b=>b=w2.heap.size) wr (.slice (some ⟨w2.heap.size,0,none⟩) N N) l)∧Hid (Aw wr w.heap.size #[.int .i64 dx,.int .i64 dy] 73)∧Hid (Below w.heap.size w wr)∧w2.heap.size<wr.heap.size) (fun _ _ i _=>c-(intOf i).toNat)
    case atStart=>exact⟨0,l,Nat.zero_le _,rfl,Z (by rw[Nat.sub_zero];exact nu.o),it,Hup,Ho,HB,Hb,hDs⟩
    case round=>
     clear Hl nu it Hup Ho HB Hb hDs;obtain⟨x,l,hx,rfl,Hl,it,Hup,Ho,HB,Hb,hDs⟩:=hrel;by_cases bt:x<c
     ·have aM:=(Hb.o.cell (p:=⟨br,offr+x,none⟩) dL).trans (tx.o x bt);have fg:=AE hs k x;have iu:=GC (r:=r) (c:=c) l8 (y:=(k:Int)) (x:=(x:Int)) (by omega) (by omega) (by omega) (by omega);obtain⟨z,hz⟩:∃z,z=Al m k x:=⟨_,rfl⟩;rw[←hz] at aM fg;obtain⟨K,hK⟩:∃K:Nat,EU c dx dy k x=K:=⟨(EU c dx dy k x).toNat,by omega⟩;have qy:K<N:=by have:=HN.o;omega
      have jf:=Z (show E6 m r c dx dy (r-(k+1)) (Gl m c dx dy k (c-(x+1)) (IQ l K z))=F from by
       have h:=Hl.o;rw[Ta bt,hK,←hz] at h;exact h)
      have HK:=Z hK;have bB:l[K]? =some (l.getD K 0):=BE 0 (by rw[it.o];exact qy);have mB:=Hup.o _ (List.mem_of_getElem? bB);have kL:=Z (show Lh ((5*k+(x+1):Nat):Int) (IQ l K z) from by
       have h:=Hup.o.add (k:=K) (v:=z) (by rw[it.o];exact qy) fg.1 fg.2;have e:((5*k+x:Nat):Int)+1=((5*k+(x+1):Nat):Int):=by omega
       rwa[e] at h)
      have qz:=Z (show(IQ l K z).length=N from by rw[JR];exact it.o);obtain⟨u,hu⟩:∃u,u=l.getD K 0:=⟨_,rfl⟩;rw[←hu] at bB mB;have rA:=Z (show l.set K (u+z)=IQ l K z from by rw[hu];rfl);have dB:=fg.1;have bZ:=fg.2;have eL:=mB.1;have lV:u≤50:=by omega
      have c0:wr.cell? ⟨w.heap.size,0,none⟩=some (.int .i64 dx):=HB.o.cell 0;have c1:wr.cell? ⟨w.heap.size,1,none⟩=some (.int .i64 dy):=HB.o.cell 1;have ek:=Z bB;clear hz hK fg mB iu hu bB;go_wp2_with (fail);refine(Z4 c dx dy k x _ ⟨Hd.o,hc1,hc5,by omega,by omega,by omega,by omega⟩).mono ?_;rintro e w5 ⟨rfl,b5⟩;rw[HK.o];have o5:=(A3 A2).same (A5 b5 fun b hb=>by have:b=w2.heap.size:=hb;omega) Ho.o;obtain⟨e1,e2,-⟩:=o5.ints_cell ek.o;have o6:=o5.setInt (k:=K) (by rw[it.o];exact qy) (c:=u+z) (BV.small (by omega) (by omega));rw[rA.o] at o6;have lP:=Z o6;have yu:=Z ((HB.o.keep b5).set_ne (g':=w2.heap.size) (j:=K) (by omega) (.int .i64 (u+z)));have oJ:=Z ((Hb.o.trans_pure b5 (Nat.le_refl _)).setCell (p:=⟨w2.heap.size,K,none⟩) (by show w.heap.size≤w2.heap.size;omega) (.int .i64 (u+z)));have qN:=b5.size;clear o5 o6 b5 c0 c1 aM;go_wp2;go_roundw
      case rel=>exact⟨x+1,IQ l K z,by omega,by go_num,jf,qz,kL,lP,yu,oJ,by rw[A9];omega⟩
      case measure=>simp[intOf];omega
     ·obtain rfl:x=c:=by omega
      have jf:=Z (show E6 m r x dx dy (r-(k+1)) l=F from by
       have h:=Hl.o;rw[Nat.sub_self] at h;exact h)
      have kL:=Z (show Lh ((5*(k+1):Nat):Int) l from Hup.o.mono (by omega));go_wp2;go_roundw
      case rel=>exact⟨k+1,l,by omega,by go_num,jf,it,kL,Ho,HB,Hb,hDs⟩
      case measure=>simp[intOf];omega
   ·obtain rfl:k=r:=by omega
    have aZ:=Z (show l=F from by
     have h:=Hl.o;rw[Nat.sub_self] at h;exact h)
    go_wp2
    go_ret
    refine⟨.slice (some ⟨w2.heap.size,0,none⟩) N N,rfl,?_,Hb.o,.inr ⟨w2.heap.size,N,by rw[tv.o],by rw[tv.o];omega⟩⟩;rw[←aZ.o];exact(A3 A2).mono (fun b hb=>⟨by have:b=w2.heap.size:=hb;omega,by have:b=w2.heap.size:=hb;omega⟩) Ho.o
theorem R5(v:Value)(m:List (List Int))(dx dy:Int)(w:World)(hv:Ak w v m):Calls Tryz.prog 42 #[v,QH dx dy] w (PV w (BA m dx dy)):=by
 have aX:=Below.pureAlloc w (.cells #[.int .i64 dx,.int .i64 dy] 73);have Hv:=Z (hv.keep aX);have er:=Z aX;have oL:=Z (Aw.new w #[.int .i64 dx,.int .i64 dy] 73);obtain⟨a,cap0,rfl,-⟩:=id hv;clear aX;cases aD:Af m
 ·have Hr:=Z (H9 (m:=m) (dx:=dx) (dy:=dy) (by rw[aD];simp));have aS:=Z aD;clear aD;go_enter Tryz.func42,Tryz.ntmps42;go_wp2_with (fail);refine(AP _ _ _ Hv.o).mono ?_;rintro e w' ⟨rfl,rfl⟩;rw[aS.o];go_wp2
  go_ret
  exact⟨_,rfl,by rw[Hr.o];exact A4.nil _ _ _ _,er.o,.inl ⟨rfl,Hr.o⟩⟩
 obtain⟨r,c,hr1,hr5,hc1,hc5,hs⟩:=Ad aD;have aS:=Z aD;cases hd:Cx dx dy
 ·have Hr:=Z (H9 (m:=m) (dx:=dx) (dy:=dy) (by rw[hd];simp));have Hd:=Z hd;clear aD hd;go_enter Tryz.func42,Tryz.ntmps42;go_wp2_with (fail);refine(AP _ _ _ Hv.o).mono ?_;rintro e w' ⟨rfl,rfl⟩;rw[aS.o];go_wp2_with (fail);refine(Jy _ _ _).mono ?_;rintro e w2 ⟨rfl,b2⟩;rw[Hd.o];go_wp2
  go_ret
  exact⟨_,rfl,by rw[Hr.o];exact A4.nil _ _ _ _,er.o.trans_pure b2 (Nat.le_refl _),.inl ⟨rfl,Hr.o⟩⟩
 ·rw[LR hs hr1 aD hd];have Hd:=Z hd;clear aD hd;go_enter Tryz.func42,Tryz.ntmps42;go_wp2_with (fail);refine(AP _ _ _ Hv.o).mono ?_;rintro e w' ⟨rfl,rfl⟩;rw[aS.o];go_wp2_with (fail);refine(Jy _ _ _).mono ?_;rintro e w2 ⟨rfl,b2⟩;rw[Hd.o];have fl:=Z (oL.o.keep b2);have c0:w2.cell? ⟨w.heap.size,0,none⟩=some (.int .i64 dx):=fl.o.cell 0;have c1:w2.cell? ⟨w.heap.size,1,none⟩=some (.int .i64 dy):=fl.o.cell 1;have bj:=Z (er.o.trans_pure b2 (Nat.le_refl _));have aj:=Z (Hv.o.keep b2);clear b2;go_wp2_with (fail);refine(A4l _ m r c dx dy _ aj.o hs hr1 hr5 hc1 hc5 Hd.o).mono ?_;rintro e w3 ⟨v3,rfl,o3,b3,h3⟩;obtain⟨t1,t2,t3,rfl⟩:=o3.shape;have cn:=Z ((A3 A2).mono (S':=Iv w.heap.size w3.heap.size) (fun b hb=>⟨by have:=hb.1;have:=bj.o.size;omega,hb.2⟩) o3);have bM:=Z (bj.o.trans_pure b3 (Nat.le_refl _));have H3:=Z h3;clear o3 b3 h3;go_wp2
  go_ret
  exact⟨_,rfl,cn.o,bM.o,H3.o⟩
