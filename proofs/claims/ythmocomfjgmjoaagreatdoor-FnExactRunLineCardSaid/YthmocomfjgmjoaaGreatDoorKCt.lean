/- Base. -/
import Derived.Test.YthmocomfjgmjoaaGreatDoorQ34
set_option maxHeartbeats 800000
namespace Go.Proofs.YthmocomfjgmjoaaGreatDoor
open Go.RowKit Go.Proofs.Tryz
variable {left:Int}{n:Nat}
theorem A4n(n:Nat)(left:Int)(h:left≤1048576):Cp n left≤1048576:=by unfold Cp;split<;>omega
theorem Of(_h0:0≤left)(h:Cp n left<0):left<n:=by unfold Cp at h;split at h<;>omega
theorem L5(h:¬Cp n left<0):Cp n left=left-n∧(n:Int)≤left:=by
 unfold Cp at h⊢;by_cases hh:(n:Int)≤left
 ·rw[if_pos hh];exact⟨rfl,hh⟩
 ·rw[if_neg hh]at h;omega
theorem PL(h:left<n):Cp n left=-1:=if_neg J
theorem QB(a b c:Value)(m:I)(r k:U)(left:Int)(w:World)(h1:AI w a m)(h2:Au w b r)(h3:Au w c k)(h0:0≤left)(eJ:left≤1048576):
  Calls prog 16 #[.agg #[a,b,c],.int .i64 left] w fun e w'=>e=.returned (.int .i64 (Cp (bulk m+r.length+k.length) left))∧w'=w.alloc (.cells #[a,b,c] 40):=by
 have hb:∀o,Below w.heap.size w (w.alloc o):=fun o=>Below.qab w o;have Hb:=Z hb;clear hb;obtain⟨T,hT⟩:∃T,Cp (bulk m+r.length+k.length) left=T:=⟨_,rfl⟩;rw[hT];have HT:=Z hT;clear hT;go_enter func16,ntmps16;go_wp2_with fail;refine(A1G _ _ _ _ (h1.keep (Hb.o _)) h0 eJ).mono ?_;rintro e w' ⟨rfl,rfl⟩;by_cases ew:Cp (bulk m) left<0
 ·have Hf:=Z (show T=-1 from by rw[←HT.o];exact PL (by have:=Of h0 ew;omega));go_wp2
  go_ret
  exact⟨CY Hf.o.symm,rfl⟩
 obtain⟨e1,e2⟩:=L5 ew;rw[e1]at ew⊢;clear e1;go_wp2_with fail;refine(OV _ _ _ _ (h2.keep (Hb.o _)) J J).mono ?_;rintro e w' ⟨rfl,rfl⟩;by_cases hneg2:Cp r.length (left-bulk m)<0
 ·have Hf:=Z (show T=-1 from by rw[←HT.o];exact PL (by have:=Of J hneg2;omega));go_wp2
  go_ret
  exact⟨CY Hf.o.symm,rfl⟩
 obtain⟨e3,e4⟩:=L5 hneg2;rw[e3]at hneg2⊢;clear e3;go_wp2_with fail;refine(OV _ _ _ _ (h3.keep (Hb.o _)) J J).mono ?_;rintro e w' ⟨rfl,rfl⟩;by_cases hneg3:Cp k.length (left-bulk m-r.length)<0
 ·have Hf:=Z (show T=-1 from by rw[←HT.o];exact PL (by have:=Of J hneg3;omega));go_wp2
  go_ret
  exact⟨CY Hf.o.symm,rfl⟩
 obtain⟨e5,e6⟩:=L5 hneg3;rw[e5]at hneg3⊢;have Hf:=Z (show T=left-bulk m-r.length-k.length from by rw[←HT.o];unfold Cp;rw[if_pos J];omega);clear e5;go_wp2
 go_ret
 exact⟨CY Hf.o.symm,rfl⟩
theorem Js(a b c:Value)(m:I)(r k:U)(w:World)(h1:AI w a m)(h2:Au w b r)(h3:Au w c k)(hm:m.length≤1048576)(d8:cells m≤1048576)(hr:r.length≤1048576)(hk:k.length≤1048576):
  Calls prog 18 #[.agg #[a,b,c]] w fun e w'=>∃a' b' c',e=.returned (.agg #[a',b',c'])∧AU (Iv w.heap.size w'.heap.size) w' a' b' c' m r k∧Below w.heap.size w w':=by
 obtain⟨aa,ca,rfl,-⟩:=id h1;obtain⟨ab,cb,rfl,-⟩:=id h2;obtain⟨ac,cc,rfl,-⟩:=id h3;go_enter func18,ntmps18;go_wp2_with fail;have B1:=B9.new w #[.slice aa m.length ca,.slice ab r.length cb,.slice ac k.length cc] 40;have b1:=Below.qab w (.cells #[.slice aa m.length ca,.slice ab r.length cb,.slice ac k.length cc] 40);obtain⟨W1,hW1⟩:∃W,W=w.alloc (.cells #[.slice aa m.length ca,.slice ab r.length cb,.slice ac k.length cc] 40):=⟨_,rfl⟩;have z1:W1.heap.size=w.heap.size+1:=by rw[hW1];simp
 rw[←hW1]at B1 b1⊢;have B2:=B9.new W1 BS 34;have b2:=Below.qab W1 (.cells BS 34);obtain⟨W2,nj⟩:∃W,W=W1.alloc (.cells BS 34):=⟨_,rfl⟩;have z2:W2.heap.size=w.heap.size+1+1:=by rw[nj];simp[z1]
 rw[←nj]at B2 b2⊢;have B3:=B9.new W2 BS 34;have b3:=Below.qab W2 (.cells BS 34);obtain⟨W3,hW3⟩:∃W,W=W2.alloc (.cells BS 34):=⟨_,rfl⟩;have z3:W3.heap.size=w.heap.size+1+1+1:=by rw[hW3];simp[z2]
 rw[←hW3]at B3 b3⊢;rw[z2]at B3;rw[z1]at B2;replace B1:=(B1.keep b2).keep b3;replace B2:=B2.keep b3;have di:Below w.heap.size w W3:=(b1.qaa b2 J).qaa b3 J;have Z3:=Z z3;clear hW1 nj hW3 z1 z2 z3 b1 b2 b3;refine(A1b _ _ _ (h1.keep di) hm d8).mono ?_;rintro e w4 ⟨a',rfl,o4,b4⟩;obtain⟨p1,p2,p3,rfl⟩:=o4.shape;have s4:W3.heap.size≤w4.heap.size:=b4.size;replace B1:=B1.keep b4;replace B2:=B2.keep b4;replace B3:=B3.keep b4;have c1:w4.cell? ⟨w.heap.size,1,none⟩=some (.slice ab r.length cb):=B1.cell 1;have c2:w4.cell? ⟨w.heap.size,2,none⟩=some (.slice ac k.length cc):=B1.cell 2;have c3:w4.cell? ⟨w.heap.size+1+1,0,none⟩=some (.slice none 0 0):=B3.cell 0;have f3:=B3.frozen 0;have eu:=di.qaa b4 (A2 _);go_wp2_with fail;obtain⟨W5,hW5⟩:∃W,W=w4.setCell ⟨w.heap.size+1+1,0,none⟩ (.slice p1 p2 p3):=⟨_,rfl⟩;rw[←hW5];replace B1:=B1.qah (j:=0) (g':=w.heap.size+1+1) J (.slice p1 p2 p3);replace B2:=B2.qah (j:=0) (g':=w.heap.size+1+1) J (.slice p1 p2 p3);replace B3:=B3.set (j:=0) (.slice p1 p2 p3);replace o4:=(Ab (Ab A8)).same (w':=W5) (fun b hb=>by rw[hW5];exact Below.heap_setCell w4 _ _ b (by have:=hb.1;rw[Z3.o]at this;simp;omega)) o4;have fD:Below w.heap.size w W5:=by rw[hW5];exact eu.setCell (by simp;omega) _
 have z5:W5.heap.size=w4.heap.size:=by rw[hW5,As]
 rw[←hW5]at B1 B2 B3;have Z5:=Z z5;clear hW5 z5 c1 c2 c3 f3;refine(Sn _ _ _ (h2.keep fD) J).mono ?_;rintro e w6 ⟨b',rfl,o6,b6⟩;obtain⟨q1,q2,q3,rfl⟩:=o6.shape;have s6:W5.heap.size≤w6.heap.size:=b6.size;replace B1:=B1.keep b6;replace B2:=B2.keep b6;replace B3:=B3.keep b6;replace o4:=Ag.keep (Ab A8) o4 b6 (by rw[Z5.o];exact A2 _);have jA:=fD.qaa b6 (A2 _);have c2:w6.cell? ⟨w.heap.size,2,none⟩=some (.slice ac k.length cc):=B1.cell 2;have c3:w6.cell? ⟨w.heap.size+1+1,1,none⟩=some (.slice none 0 0):=B3.cell 1;have f3:=B3.frozen 1;go_wp2_with fail;obtain⟨W7,hW7⟩:∃W,W=w6.setCell ⟨w.heap.size+1+1,1,none⟩ (.slice q1 q2 q3):=⟨_,rfl⟩;rw[←hW7];replace B2:=B2.qah (j:=1) (g':=w.heap.size+1+1) J (.slice q1 q2 q3);replace B3:=B3.set (j:=1) (.slice q1 q2 q3);have xA:∀b,W3.heap.size≤b→W7.heap[b]? =w6.heap[b]? :=fun b hb=>by rw[hW7];exact Below.heap_setCell w6 _ _ b (by rw[Z3.o]at hb;simp;omega)
 replace o4:=(Ab (Ab A8)).same (w':=W7) (fun b hb=>xA b hb.1) o4;replace o6:=(Ab A8).same (w':=W7) (fun b hb=>xA b (by have:=hb.1;rw[Z5.o]at this;omega)) o6;have jW:Below w.heap.size w W7:=by rw[hW7];exact jA.setCell (by simp;omega) _
 have z7:W7.heap.size=w6.heap.size:=by rw[hW7,As]
 rw[←hW7]at B2 B3;have Z7:=Z z7;clear hW7 z7 c2 c3 f3 xA;refine(Sn _ _ _ (h3.keep jW) J).mono ?_;rintro e w8 ⟨c',rfl,o8,b8⟩;obtain⟨t1,t2,t3,rfl⟩:=o8.shape;have s8:W7.heap.size≤w8.heap.size:=b8.size;replace B2:=B2.keep b8;replace B3:=B3.keep b8;replace o4:=Ag.keep (Ab A8) o4 b8 (by rw[Z7.o];rw[←Z5.o];exact s6);replace o6:=Ag.keep A8 o6 b8 (by rw[Z7.o];exact A2 _);have qH:=jW.qaa b8 (A2 _);have c30:w8.cell? ⟨w.heap.size+1+1,0,none⟩=some (.slice p1 p2 p3):=B3.cell 0;have c31:w8.cell? ⟨w.heap.size+1+1,1,none⟩=some (.slice q1 q2 q3):=B3.cell 1;have c32:w8.cell? ⟨w.heap.size+1+1,2,none⟩=some (.slice none 0 0):=B3.cell 2;have f32:=B3.frozen 2;have c20:w8.cell? ⟨w.heap.size+1,0,none⟩=some (.slice none 0 0):=B2.cell 0;have c21:w8.cell? ⟨w.heap.size+1,1,none⟩=some (.slice none 0 0):=B2.cell 1;have c22:w8.cell? ⟨w.heap.size+1,2,none⟩=some (.slice none 0 0):=B2.cell 2;have f20:=B2.frozen 0;have f21:=B2.frozen 1;have f22:=B2.frozen 2;go_wp2_with fail;obtain⟨W9,hW9⟩:∃W,W=((((w8.setCell ⟨w.heap.size+1+1,2,none⟩ (.slice t1 t2 t3)).setCell ⟨w.heap.size+1,0,none⟩ (.slice p1 p2 p3)).setCell ⟨w.heap.size+1,1,none⟩ (.slice q1 q2 q3)).setCell ⟨w.heap.size+1,2,none⟩ (.slice t1 t2 t3)):=⟨_,rfl⟩;have xM:=B9.qaz (a:=.slice p1 p2 p3) (b:=.slice q1 q2 q3) (c:=.slice t1 t2 t3) (B2.qah (j:=2) (g':=w.heap.size+1+1) J (.slice t1 t2 t3));have yX:Below w.heap.size w W9:=by rw[hW9];exact Below.qaz (qH.setCell (by simp;omega) _) J _ _ _
 have cO:∀b,W3.heap.size≤b→W9.heap[b]? =w8.heap[b]? :=by
  intro b hb;rw[Z3.o]at hb;rw[hW9,GE _ _ _ _ _ _ J,Below.heap_setCell _ _ _ b (by simp;omega)]
 have z9:W9.heap.size=w8.heap.size:=by rw[hW9,GS,As]
 rw[←hW9]at xM⊢;clear hW9;replace o4:=(Ab (Ab A8)).same (w':=W9) (fun b hb=>cO b hb.1) o4;replace o6:=(Ab A8).same (w':=W9) (fun b hb=>cO b (by have:=hb.1;rw[Z5.o]at this;omega)) o6;replace o8:=(Ab A8).same (w':=W9) (fun b hb=>cO b (by have:=hb.1;rw[Z7.o]at this;rw[Z5.o]at s6;omega)) o8;have c0:W9.cell? ⟨w.heap.size+1,0,none⟩=some (.slice p1 p2 p3):=xM.cell 0;have c1:W9.cell? ⟨w.heap.size+1,1,none⟩=some (.slice q1 q2 q3):=xM.cell 1;have c2:W9.cell? ⟨w.heap.size+1,2,none⟩=some (.slice t1 t2 t3):=xM.cell 2;have k3:=Z3.o;have k5:=Z5.o;have k7:=Z7.o;refine bodyPost_ret (v:=.agg #[.slice p1 p2 p3,.slice q1 q2 q3,.slice t1 t2 t3]) (by simp[results,results18,go_sem,c0,c1,c2]) rfl ⟨_,_,_,rfl,Cx.of (k:=⟨m,r,k⟩) o4 o6 o8 ?_ ?_ ?_ (.inl J) (.inl J) (.inl J),yX⟩
 ·intro x hx;have:=hx.1;have:=hx.2;exact⟨J,J⟩
 ·intro x hx;have:=hx.1;have:=hx.2;exact⟨J,J⟩
 ·intro x hx;have:=hx.1;have:=hx.2;exact⟨J,J⟩
