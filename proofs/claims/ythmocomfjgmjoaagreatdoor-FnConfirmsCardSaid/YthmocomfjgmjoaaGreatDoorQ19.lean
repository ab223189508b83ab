/- Base. -/
import Derived.Test.YthmocomfjgmjoaaGreatDoorQ18
set_option maxHeartbeats 2000000
set_option maxRecDepth 100000
namespace Go.Proofs.YthmocomfjgmjoaaGreatDoor
open Go.RowKit
def NX(s:Sw):ByteArray:=Gq s.1 s.2.1 s.2.2.1 s.2.2.2
def Em(W:List Sw)(k:Nat):ByteArray:=(W.take k).foldl (fun acc s=>acc++(⟨#[32]⟩++NX s)) (An (W.length:Int)++⟨#[32,115,119,105,116,99,104,101,115]⟩)
theorem KJ(W:List Sw):Em W 0=An (W.length:Int)++⟨#[32,115,119,105,116,99,104,101,115]⟩:=rfl
theorem Kb{W:List Sw}{k:Nat}{s:Sw}(h:W[k]? =some s):Em W (k+1)=Em W k++(⟨#[32]⟩++NX s):=by
 unfold Em;rw[List.take_add_one,h,List.foldl_append];rfl
def VM(s:Sw):Prop:=s.1≤100∧s.2.1≤100∧s.2.2.1≤100∧s.2.2.2≤100
theorem Kz{r c:Nat}(hr:r≤5)(hc:c≤5):∀{p:List Sw}{g h:List (List Int)},CK r c g p h→∀s∈p,VM s
 |[],_,_,_,s,hs=>by simp at hs
 |x::p,g,h,hp,s,hs=>by
  obtain⟨h1,h2⟩:=hp;rcases List.mem_cons.1 hs with rfl|hs
  ·obtain⟨a1,a2,a3,a4,-⟩:=h1;unfold Sw.y1 Sw.y2 at a1;unfold Sw.y2 at a2;unfold Sw.x1 Sw.x2 at a3;unfold Sw.x2 at a4;exact⟨by omega,by omega,by omega,by omega⟩
  ·exact Kz hr hc h2 s hs
theorem NH{s:Sw}(h:VM s):(NX s).size≤84:=by
 obtain⟨h1,h2,h3,h4⟩:=h;have hI:∀n:Nat,n≤100→BV (n:Int):=fun n hn=>BV.small (by omega) (by omega);unfold NX Gq;have:=MG (sep:=⟨#[58]⟩) (l:=[(s.1:Int),s.2.1,s.2.2.1,s.2.2.2]) (by decide) (fun x hx=>by
  simp only[List.mem_cons,List.not_mem_nil,or_false] at hx;rcases hx with rfl|rfl|rfl|rfl
  ·exact hI _ h1
  ·exact hI _ h2
  ·exact hI _ h3
  ·exact hI _ h4)
 simpa using this
theorem Im{W:List Sw}(hl:W.length≤33554432)(hs:∀s∈W,VM s):∀k,(Em W k).size≤40+100*k
 |0=>by
  have e1:(⟨#[32,115,119,105,116,99,104,101,115]⟩:ByteArray).size=9:=rfl;have:=Cb (n:=(W.length:Int)) (by omega);rw[KJ,Au,e1];omega
 |k+1=>by
  have ih:=Im hl hs k;cases e:W[k]? with
  |none=>
   have:Em W (k+1)=Em W k:=by unfold Em;rw[List.take_add_one,e];simp
   rw[this];omega
  |some s=>
   have e2:(⟨#[32]⟩:ByteArray).size=1:=rfl;have:=NH (hs s (List.mem_of_getElem? e));rw[Kb e,Au,Au,e2];omega
theorem A2H(a b c:ByteArray):a++(b++c)=a++b++c:=by
 apply Dm;simp only[Cd,List.append_assoc]
theorem A0R(v v2:Value)(m t:List (List Int))(r c:Nat)(w:World)(hv:Ak w v m)(aW:Ak w v2 t)(hs:Ac r c m)(hs2:Ac r c t)(hr1:1≤r)(hr4:r≤4)(hc1:1≤c)(hc4:c≤4)(e1:A6 m=A6 t)(e2:A8 m=A8 t)(ht:Tab w):
  Calls Tryz.prog 40 #[v,v2] w fun e w'=>∃W,JU r c m t W∧e=.returned (.string (Em W W.length))∧Below w.heap.size w w':=by
 have Hv:=Z hv;have aj:=Z aW;have HT:=Z ht;have E1:=Z e1;have E2:=Z e2;obtain⟨a,cap,rfl,-⟩:=hv;obtain⟨a2,cap2,rfl,-⟩:=aW;clear e1 e2 ht;go_enter Tryz.func40,Tryz.ntmps40;go_wp2_with (fail);refine(A45 _ _ m t r c _ Hv.o aj.o hs hs2 hr1 hr4 hc1 hc4 E1.o E2.o).mono ?_;rintro e w1 ⟨v1,W,rfl,hW,hWl,oW,b1⟩;have HW:=Z hW;have iK:=Kz (by omega) (by omega) hW.1;have m6:=Z iK;have bV:=Z (Im hWl iK);have lZ:=Z (KJ W);have bu:=Z (fun k s=>Kb (W:=W) (k:=k) (s:=s));have dB:=Cb (n:=(W.length:Int)) (by omega);have aC:=Z oW;obtain⟨wa,wc,rfl⟩:=oW.shape;obtain⟨NW,hNW⟩:∃NW,NW=W.length:=⟨_,rfl⟩;have oO:=Z (HT.o.keep b1);rw[←hNW] at hWl dB lZ aC⊢;have sO:=Z hNW;clear hW iK hNW oW;go_wp2_with (fail);refine(Cs _ (BV.small (by omega) (by omega)) _ oO.o).mono ?_;rintro e w2 ⟨rfl,b2⟩;have sN:=b1.trans_pure b2 (Nat.le_refl _);have ae:=Z (aC.o.keep b2);have HT2:=Z (oO.o.keep b2);obtain⟨F0,hF0⟩:∃F0,F0=An (NW:Int):=⟨_,rfl⟩;rw[←hF0] at lZ dB⊢;clear hF0;go_wp2;go_loopw [7,9,24] (fun s _ i wr=>∃k:Nat,k≤NW∧i=.int .i64 k∧s=.string (Em W k)∧Hid (Below w2.heap.size w2 wr)) (fun _ _ i _=>NW-(intOf i).toNat)
 case atStart=>exact⟨0,Nat.zero_le _,rfl,by rw[lZ.o],Z (Below.refl _ _)⟩
 case round=>
  obtain⟨k,hk,rfl,rfl,Hb⟩:=hrel;obtain⟨wi,rfl⟩:∃wi:World,wi=wr:=⟨_,rfl⟩;by_cases aH:k<NW
  ·obtain⟨sp,aK⟩:∃sp,W[k]? =some sp:=⟨_,List.getElem?_eq_getElem (by rw[←sO.o];exact aH)⟩;obtain⟨g,cp,he,-,ai,-,bP⟩:=ae.o.at (by rw[←sO.o];omega);obtain⟨rfl,-⟩:wa=some ⟨g,0,none⟩∧wc=cp:=by
    simp only[Value.slice.injEq] at he;exact⟨he.1,he.2.2⟩
   have c0:=(Hb.o.cell (p:=⟨g,k*4+0,none⟩) ai).trans (bP k sp aK 0 (.int .i64 sp.1) rfl);have c1:=(Hb.o.cell (p:=⟨g,k*4+1,none⟩) ai).trans (bP k sp aK 1 (.int .i64 sp.2.1) rfl);have c2:=(Hb.o.cell (p:=⟨g,k*4+2,none⟩) ai).trans (bP k sp aK 2 (.int .i64 sp.2.2.1) rfl);have c3:=(Hb.o.cell (p:=⟨g,k*4+3,none⟩) ai).trans (bP k sp aK 3 (.int .i64 sp.2.2.2) rfl);rw[Nat.add_zero] at c0;have iK:=m6.o sp (List.mem_of_getElem? aK);have aI:=bV.o k;have hz:=NH iK;have aJ:=Z (bu.o k sp aK);have f9:=Z (Below.pureAlloc wi (.cells (FT sp).toArray 65));have HTx:=Z ((HT2.o.keep Hb.o).keep f9.o);obtain⟨h1,h2,h3,h4⟩:=iK;obtain⟨P,hP⟩:∃P,P=Em W k:=⟨_,rfl⟩;rw[←hP] at aI aJ⊢;have jK:Gq sp.1 sp.2.1 sp.2.2.1 sp.2.2.2=NX sp:=rfl;have y8:=Z jK;have bT:(⟨#[32]⟩++NX sp:ByteArray).size≤85:=by
    have e2:(⟨#[32]⟩:ByteArray).size=1:=rfl;rw[Au,e2];omega
   clear he bP aK hP jK;go_wp2_with (fail);refine(QR sp.1 sp.2.1 sp.2.2.1 sp.2.2.2 (BV.small (by omega) (by omega)) (BV.small (by omega) (by omega)) (BV.small (by omega) (by omega)) (BV.small (by omega) (by omega)) _ HTx.o).mono ?_;rintro e w3 ⟨rfl,b3⟩;rw[y8.o];obtain⟨S,hS⟩:∃S,S=NX sp:=⟨_,rfl⟩;rw[←hS] at hz bT aJ⊢;have bM:=Z (Hb.o.trans_pure (f9.o.trans_pure b3 (Nat.le_refl _)) (Nat.le_refl _));clear hS c0 c1 c2 c3;go_wp2;go_roundw
   case rel=>exact⟨k+1,by omega,by go_num,by rw[aJ.o],bM⟩
   case measure=>simp[intOf];omega
  ·obtain rfl:k=NW:=by omega
   have jV:=sN.trans_pure Hb.o (Nat.le_refl _);go_wp2
   go_ret
   exact⟨W,HW.o,by rw[←sO.o];rfl,jV⟩
def I6(m t:List (List Int)):Bool:=Ec m t&&(decide (m.length≤4)&&decide ((m.headD []).length≤4))
def OC(m t:List (List Int))(T:ByteArray):Prop:=(I6 m t=true→∃W,JU m.length (m.headD []).length m t W∧T=Em W W.length)∧(I6 m t=false→T=⟨#[110,111,110,101]⟩)
theorem OC.eq{m t:List (List Int)}{T U:ByteArray}(h:OC m t T)(h2:OC m t U):T=U:=by
 cases e:I6 m t
 ·rw[h.2 e,h2.2 e]
 ·obtain⟨W,a1,a2⟩:=h.1 e;obtain⟨V,b1,b2⟩:=h2.1 e;rw[a2,b2,a1.eq b1]
structure QY(m t:List (List Int))(r c:Nat):Prop where
 hs:Ac r c m
 hs2:Ac r c t
 hr1:1≤r
 hr5:r≤5
 hc1:1≤c
 hc5:c≤5
 e1:A6 m=A6 t
 e2:A8 m=A8 t
 l1:m.length=r
 l2:(m.headD []).length=c
theorem Pw{m t:List (List Int)}(h:Ec m t=true):∃r c,QY m t r c:=by
 unfold Ec at h;simp only[Bool.and_eq_true,decide_eq_true_eq] at h;obtain⟨h1,h2,h3⟩:=h;obtain⟨r,c,a1,a2,a3,a4,a5,a6⟩:=VC h1;obtain⟨b1,b2⟩:=Dw a5 a1;exact⟨r,c,a5,a6,a1,a2,a3,a4,h2,h3,b1,b2⟩
theorem LE{m t:List (List Int)}(h:I6 m t=true):Ec m t=true∧∃r c,QY m t r c∧r≤4∧c≤4:=by
 unfold I6 at h;simp only[Bool.and_eq_true,decide_eq_true_eq] at h;obtain⟨h1,h2,h3⟩:=h;obtain⟨r,c,ha⟩:=Pw h1;exact⟨h1,r,c,ha,by rw[←ha.l1];exact h2,by rw[←ha.l2];exact h3⟩
theorem A0r(v v2:Value)(m t:List (List Int))(w:World)(hv:Ak w v m)(aW:Ak w v2 t)(m5:I6 m t=false):Calls Tryz.prog 96 #[v,v2] w fun e w'=>e=.returned (.tuple #[.slice none 0 0,.bool false])∧Below w.heap.size w w':=by
 have Hv:=Z hv;have aj:=Z aW;cases dr:Ec m t
 ·obtain⟨a,cap,rfl,-⟩:=hv;obtain⟨a2,cap2,rfl,-⟩:=aW;have lz:=Z dr;clear dr m5;go_enter Tryz.func96,Tryz.ntmps96;go_wp2_with (fail);refine(Nh _ _ m t _ Hv.o aj.o).mono ?_;rintro e w1 ⟨rfl,b1⟩;rw[lz.o];go_wp2;refine bodyPost_ret (v:=.tuple #[.slice none 0 0,.bool false]) (by simp[results,Tryz.results96,go_sem]) rfl ?_;exact⟨rfl,b1⟩
 obtain⟨r,c,ha⟩:=Pw dr;have hrc:¬(r≤4∧c≤4):=by
  intro h;unfold I6 at m5;rw[dr,ha.l1,ha.l2,decide_eq_true h.1,decide_eq_true h.2] at m5;cases m5
 obtain⟨b,off,cp,rfl,hb,hm⟩:=hv.rowsT ha.hs.trectM ha.hr1 ha.hc1;obtain⟨b0,o0,c0,cF,-⟩:=hm 0 ha.hr1;obtain⟨a2,cap2,rfl,-⟩:=aW;have lz:=Z dr;have km:=Z cF;clear dr m5 hm cF;have hr1:=ha.hr1;have hc1:=ha.hc1;by_cases hr:r≤4
 ·have h1:decide ((4:Int)<(r:Int))=false:=by rw[decide_eq_false_iff_not];omega
  have mJ:¬(4:Int)<(r:Int):=by omega
  have h2:decide ((4:Int)<(c:Int))=true:=by rw[decide_eq_true_eq];omega
  have nX:(4:Int)<(c:Int):=by omega
  go_enter Tryz.func96,Tryz.ntmps96;go_wp2_with (fail);refine(Nh _ _ m t _ Hv.o aj.o).mono ?_;rintro e w1 ⟨rfl,b1⟩;rw[lz.o];have cF:=km.o w1 b1;rw[Nat.add_zero] at cF;go_wp2;refine bodyPost_ret (v:=.tuple #[.slice none 0 0,.bool false]) (by simp[results,Tryz.results96,go_sem]) rfl ?_;exact⟨rfl,b1⟩
 ·have h1:decide ((4:Int)<(r:Int))=true:=by rw[decide_eq_true_eq];omega
  have mJ:(4:Int)<(r:Int):=by omega
  go_enter Tryz.func96,Tryz.ntmps96;go_wp2_with (fail);refine(Nh _ _ m t _ Hv.o aj.o).mono ?_;rintro e w1 ⟨rfl,b1⟩;rw[lz.o];go_wp2;refine bodyPost_ret (v:=.tuple #[.slice none 0 0,.bool false]) (by simp[results,Tryz.results96,go_sem]) rfl ?_;exact⟨rfl,b1⟩
theorem Y0(v v2:Value)(m t:List (List Int))(w:World)(hv:Ak w v m)(aW:Ak w v2 t)(ht:Tab w):Calls Tryz.prog 40 #[v,v2] w fun e w'=>∃T,e=.returned (.string T)∧OC m t T∧Below w.heap.size w w':=by
 cases hp:I6 m t
 ·have Hp:=Z hp;have Hv:=Z hv;have aj:=Z aW;obtain⟨a,cap,rfl,-⟩:=hv;obtain⟨a2,cap2,rfl,-⟩:=aW;clear hp;go_enter Tryz.func40,Tryz.ntmps40;go_wp2_with (fail);refine(A0r _ _ m t _ Hv.o aj.o Hp.o).mono ?_;rintro e w1 ⟨rfl,b1⟩;go_wp2
  go_ret
  exact⟨_,rfl,⟨fun h=>(by rw[Hp.o] at h;cases h),fun _=>rfl⟩,b1⟩
 ·obtain⟨-,r,c,ha,hr4,hc4⟩:=LE hp;refine(A0R v v2 m t r c w hv aW ha.hs ha.hs2 ha.hr1 hr4 ha.hc1 hc4 ha.e1 ha.e2 ht).mono ?_;rintro e w1 ⟨W,hW,rfl,b1⟩;refine⟨_,rfl,⟨fun _=>⟨W,by rw[ha.l1,ha.l2];exact hW,rfl⟩,fun h=>(by rw[hp] at h;cases h)⟩,b1⟩
