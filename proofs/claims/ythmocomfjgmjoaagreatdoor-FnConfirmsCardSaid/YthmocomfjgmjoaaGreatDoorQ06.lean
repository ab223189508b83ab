/- Base. -/
import Derived.Test.YthmocomfjgmjoaaGreatDoorQ02
import Derived.Laws.EntriesVeiled
set_option maxHeartbeats 1600000
set_option maxRecDepth 100000
namespace Go.Proofs.YthmocomfjgmjoaaGreatDoor
open Go.RowKit
theorem Mx(v v2:Value)(xs ys:List Int)(w:World)(hv:Ab w v xs)(aW:Ab w v2 ys):Calls Tryz.prog 227 #[v,v2] w fun e w'=>e=.returned (.bool (decide (xs=ys)))∧∃n,w'=w.drewN n:=by
 obtain⟨a,cap,rfl,ak,cY,-,hc⟩:=hv;obtain⟨a2,cap2,rfl,de,hle2,-,cH⟩:=aW;by_cases hl:xs.length=ys.length
 ·have eX:xs.length≤ys.length:=by omega
  have gB:ys.length≤xs.length:=by omega
  have Hl:=Z hl;clear hl;go_enter Tryz.func227,Tryz.ntmps227;go_wp2;go_loopw [5,13] (fun _ i wr=>∃k:Nat,k≤xs.length∧i=.int .i64 k∧xs.take k=ys.take k∧∃n,wr=w.drewN n) (fun _ i _=>xs.length-(intOf i).toNat)
  case atStart=>exact⟨0,Nat.zero_le _,rfl,rfl,0,rfl⟩
  case round=>
   obtain⟨k,hk,rfl,dJ,n,rfl⟩:=hrel;have gU:=Z dJ;clear dJ;by_cases aH:k<xs.length
   ·obtain⟨b,off,rfl,hb,bQ⟩:=hc (by omega);obtain⟨x,hx⟩:∃x,xs[k]? =some x:=⟨_,List.getElem?_eq_getElem aH⟩;obtain⟨u,aQ,rfl,-⟩:=bQ k x hx;obtain⟨b2,off2,rfl,au,hc2'⟩:=cH (by omega);obtain⟨y,hy⟩:∃y,ys[k]? =some y:=⟨_,List.getElem?_eq_getElem (by omega)⟩;obtain⟨u2,eP,rfl,-⟩:=hc2' k y hy;have bt:k<ys.length:=by omega
    have Hx:=Z hx;have Hy:=Z hy;clear hx hc bQ hy cH hc2';by_cases cf:x=y
    ·subst cf;go_wp2;go_quiet (fail);go_wp2;go_roundw
     case rel=>exact⟨k+1,by omega,by go_num,F3 gU.o Hx.o Hy.o,_,rfl⟩
     case measure=>simp[intOf];omega
    ·have aO:(x==y)=false:=by simpa using cf
     have rh:=Z cf;clear cf;go_wp2;go_quiet (fail);go_wp2
     go_ret
     exact⟨AI (Eq.symm (by simp;intro h;have h1:=Hx.o;rw[h,Hy.o] at h1;exact rh.o (Option.some.inj h1).symm)),A4k _ _ _⟩
   ·go_wp2
    go_ret
    exact⟨AI (Eq.symm (by have h:=gU.o;have hl:=Hl.o;rw[List.take_of_length_le (by omega),List.take_of_length_le (by omega)] at h;simp[h])),n,rfl⟩
 ·have aO:decide (xs=ys)=false:=by simp;intro h;exact hl (by rw[h])
  rw[aO];clear aO;have vK:((xs.length:Int)==(ys.length:Int))=false:=by simp;omega
  go_enter Tryz.func227,Tryz.ntmps227;go_wp2
  go_ret
  exact⟨rfl,0,rfl⟩
theorem X6{n:Nat}(h:n≤5):wrap64 ((2:Int)^n)=((2^n:Nat):Int):=by
 exact match n,h with
 |0,_=>by unfold wrap64;decide
 |1,_=>by unfold wrap64;decide
 |2,_=>by unfold wrap64;decide
 |3,_=>by unfold wrap64;decide
 |4,_=>by unfold wrap64;decide
 |5,_=>by unfold wrap64;decide
theorem A3z(k m:Nat):bits .and .i64 ((k:Int) /2^m) 1=((k/2^m % 2:Nat):Int):=by
 rw[A4v];push_cast;rfl
theorem OO{n:Nat}(h:n≤5):2^n≤32:=Nat.pow_le_pow_right (n:=2) (by decide) h
theorem Sz(v:Value)(rs:List Int)(n:Nat)(w:World)(hv:Ab w v rs)(h1:1≤n)(h2:n≤5):Calls Tryz.prog 179 #[v,.int .i64 n] w (M7 32 (A4 3 A7) w (Bj rs n)):=by
 have cA:BR 1 5 n=true:=Fg (by omega) (by omega);obtain⟨N,hN⟩:∃N:Nat,N=2^n:=⟨_,rfl⟩;have hN32:N≤32:=by rw[hN];exact OO h2
 have jp:wrap64 ((2:Int)^n)=(N:Int):=by rw[hN];exact X6 h2
 have HN:=Z hN;clear hN;go_enter Tryz.func179,Tryz.ntmps179;go_wp2_with (first|(go_at_call 95;refine(B6 _ _ _ _).mono ?_;rintro e w' ⟨rfl,rfl⟩));have dM:=Z cA;clear cA;go_loopw [5,6,7,8] (fun v i _ _ wr=>∃k:Nat,k≤N∧i=.int .i64 k∧A4 32 (A4 3 A7) (Iv w.heap.size wr.heap.size) wr v (Ek n rs k)∧Below w.heap.size w wr) (fun _ i _ _ _=>N-(intOf i).toNat)
 case atStart=>exact⟨0,Nat.zero_le _,rfl,A4.nil _ _ _ _,Below.refl _ _⟩
 case round=>
  obtain⟨k,hk,rfl,aB,aA⟩:=hrel;obtain⟨wo,rfl⟩:∃wo:World,wo=wr:=⟨_,rfl⟩;have aV:=aA.size;have aC:=Z aB;clear aB;by_cases aH:k<N
  ·go_wp2_with (first|(at_make;refine Ez _ rfl _ _ 32 rfl 3 Tryz.underlying32 As rfl (by decide) (R:=A7) 0 ⟨rfl,BV.small (by decide) (by decide)⟩ A2 n rfl rfl (by omega) ?_;intro w1 bH hbel1 dH;have f8:=Z dH;clear dH));have nG:A4 3 A7 (fun b=>b=wo.heap.size) w1 (.slice (some ⟨wo.heap.size,0,none⟩) n n) ((AO n k).take 0++List.replicate (n-0) 0):=by simpa using bH
   have eC:=Z nG;clear bH nG;go_loopw [8,22] (fun _ i wr=>∃j:Nat,j≤n∧i=.int .i64 j∧A4 3 A7 (fun b=>b=wo.heap.size) wr (.slice (some ⟨wo.heap.size,0,none⟩) n n) ((AO n k).take j++List.replicate (n-j) 0)∧Below wo.heap.size wo wr∧wr.heap.size=w1.heap.size) (fun _ i _=>n-(intOf i).toNat)
   case atStart=>exact⟨0,Nat.zero_le _,rfl,eC.o,hbel1,rfl⟩
   case round=>
    clear eC hbel1;obtain⟨j,hj,rfl,hown2,aT,pA⟩:=hrel;have lk:=Z pA;clear pA;by_cases bt:j<n
    ·have hl:((AO n k).take j++List.replicate (n-j) 0).length=n:=by simp[F7];omega
     obtain⟨y,pK,hfd⟩:=hown2.ints_at (k:=j) (by rw[hl];exact bt);have ae:=Z hown2;have Hl:=Z hl;clear hown2 hl;go_wp2;go_roundw
     case rel=>
      refine⟨j+1,by omega,by go_num,?_,aT.setCell (Nat.le_refl _) _,by rw[A9,lk.o]⟩;rw[A3z,←A3j bt];exact ae.o.setInt (by rw[Hl.o];exact bt) (BV.small (by omega) (by omega))
     case measure=>simp[intOf];omega
    ·have aP:=F7 n k;have dX:(AO n k).length≤5:=by omega
     obtain rfl:j=n:=by omega
     have bL:A4 3 A7 (fun b=>b=wo.heap.size) wr (.slice (some ⟨wo.heap.size,0,none⟩) j j) (AO j k):=by
      rw[List.take_of_length_le (by omega),Nat.sub_self] at hown2;simpa using hown2
     have qR:=Nv (AO j k);have hqr:Ab wr (.slice (some ⟨wo.heap.size,0,none⟩) j j) (AO j k):=bL.ints;have bW:=aA.trans (aT.mono aV);have cV:=Z bL;clear hown2 bL aP;have it:=Z (J6 j rs k);have lb:=Z (O1 j rs k);have aI:=lk.o;have dH:=f8.o;have u5:wo.heap.size≤wr.heap.size:=aT.size;go_wp2_with (fail);refine(Xe _ _ _ hqr (by omega)).mono ?_;rintro e w5 ⟨v5,rfl,hown5,hbel5⟩;have s5:=hbel5.size;have vL:=bW.trans_pure hbel5 (Nat.le_refl _);go_wp2_with (fail);refine(Mx _ _ _ _ _ hown5.ints (hv.keep vL)).mono ?_;rintro e w' ⟨rfl,n6,rfl⟩;have iT:Below wo.heap.size wo (w5.drewN n6):=(below_drewN (aT.trans_pure hbel5 (Nat.le_refl _)) n6);have aR:=below_drewN vL n6;have ri:(Ek j rs k).length<1099511627776:=by have:=it.o;omega
     have cO:A4 3 A7 (Iv wo.heap.size (w5.drewN n6).heap.size) (w5.drewN n6) (.slice (some ⟨wo.heap.size,0,none⟩) j j) (AO j k):=
      ((A3 A2).same (below_drewN hbel5 n6|>fun h=>A5 h (fun b hb=>by have hb:b=wo.heap.size:=hb;omega)) cV.o).point A2 (Nat.le_refl _) (by show wo.heap.size<w5.heap.size;omega)
     have ti:wo.heap.size≤(w5.drewN n6).heap.size:=by show wo.heap.size≤w5.heap.size;omega
     have gg:=Z cO;clear cO aI dH;by_cases he:BQ (AO j k)=rs
     ·have hd:decide (BQ (AO j k)=rs)=true:=by simp[he]
      have He:=Z he;clear he;go_wp2_with (first|(at_builtin;refine Aa rfl _ _ 31 rfl (A3 A2) 32 Tryz.underlying31 Es rfl (by decide) w.heap.size wo.heap.size aV ti rfl rfl (by exact A4.keep (A3 A2) aC.o iT (Nat.le_refl _)) (by exact gg.o) ri ?_;intro v7 w7 hown7 j8 _));have hb7:=aR.trans j8;have j9:=Z hown7;clear hown7;go_wp2;go_roundw
      case rel=>exact⟨k+1,by omega,by go_num,by rw[lb.o,if_pos He.o];exact j9.o,hb7⟩
      case measure=>simp[intOf];omega
     ·have hd:decide (BQ (AO j k)=rs)=false:=by simp[he]
      have He:=Z he;clear he;go_wp2;go_roundw
      case rel=>exact⟨k+1,by omega,by go_num,by rw[lb.o,if_neg He.o];exact A4.grow (A3 A2) aC.o (Nat.le_refl _) iT,aR⟩
      case measure=>simp[intOf];omega
  ·go_wp2
   go_ret
   obtain rfl:k=N:=by omega
   refine⟨_,rfl,?_,aA⟩;have h:=aC.o;rw[HN.o] at h;exact h
def Ys(w:World)(r:Option (List Int))(e:Ending)(w':World):Prop:=
 Below w.heap.size w w'∧match r with
 |none=>e=.returned (.tuple #[.slice none 0 0,.bool false])
 |some o=>∃v',e=.returned (.tuple #[v',.bool true])∧A4 3 A7 (Iv w.heap.size w'.heap.size) w' v' o
theorem A4.set_self{α:Type}{E:TypeId}{R:CG α}{S:Bk}{w:World}{v:Value}{xs:List α}{k:Nat}{x:α}(h:A4 E R S w v xs)(hk:xs[k]? =some x):A4 E R S w v (xs.set k x):=by
 obtain⟨h1,h2⟩:=List.getElem?_eq_some_iff.1 hk;have:xs.set k x=xs:=by rw[←h2];exact List.set_getElem_self h1
 rwa[this]
def VX(S:Bk)(L:List (List Int))(g cap:Nat)(wr:World)(v6:Value)(acc:Option (List Int))(k:Nat):Prop:=
 match acc with
 |none=>v6=.slice none 0 0∧A4 32 (A4 3 A7) S wr (.slice (some ⟨g,0,none⟩) L.length cap) L
 |some o=>∃k0,k0<k∧A4 32 (A4 3 A7) S wr (.slice (some ⟨g,0,none⟩) L.length cap) (L.set k0 o)∧wr.cell? ⟨g,k0,none⟩=some v6
theorem YK(v v2:Value)(rs st:List Int)(w:World)(hv:Ab w v rs)(aW:Ab w v2 st):Calls Tryz.prog 249 #[v,v2] w (Ys w (Bh rs st)):=by
 obtain⟨a2,cap2,rfl,de,hle2,-,cH⟩:=id aW;cases aD:Il st
 ·have Hr:=Z (show Bh rs st=none from by simp[Bh,aD]);have fM:=aD;unfold Il at fM;cases cA:BR 1 5 st.length
  ·go_enter Tryz.func249,Tryz.ntmps249;go_wp2_with (first|(go_at_call 95;refine(B6 _ _ _ _).mono ?_;rintro e w' ⟨rfl,rfl⟩))
   go_ret2
   rw[Hr.o];exact⟨Below.refl _ _,rfl⟩
  ·have be:st.all (BR (-1) 1)=false:=by simpa[cA] using fM
   go_enter Tryz.func249,Tryz.ntmps249;go_wp2_with (first|(go_at_call 95;refine(B6 _ _ _ _).mono ?_;rintro e w' ⟨rfl,rfl⟩)|(go_at_call 157;refine(C6 _ _ _ _ _ aW).mono ?_;rintro e w' ⟨rfl,rfl⟩))
   go_ret2
   rw[Hr.o];exact⟨Below.refl _ _,rfl⟩
 have Hr:=Z (show Bh rs st=C8 (Bj rs st.length) st (Bj rs st.length).length from by simp[Bh,aD]);have fM:=aD;unfold Il at fM;rw[Bool.and_eq_true] at fM;obtain⟨cA,be⟩:=fM;have hb:=AT.1 cA;have eA:1≤st.length:=by omega
 have fZ:st.length≤5:=by omega
 clear hb aD;obtain⟨L,hL⟩:∃L,L=Bj rs st.length:=⟨_,rfl⟩;rw[←hL] at Hr;have dG:∀l∈L,l.length=st.length∧∀x∈l,0≤x∧x≤1:=fun l hl=>Je (by rw[hL] at hl;exact hl);have vA:L.length≤32:=by rw[hL];exact Nat.le_trans (J6 _ _ _) (OO fZ)
 have dD:=Sz v rs st.length w hv eA fZ;rw[←hL] at dD;have rj:=Z (fun k hk o ho=>KC (n:=st.length) (rs:=rs) (st:=st) k hk o ho);rw[←hL] at rj;have d8:=Z dG;have bU:=Z dD;clear hL dG dD;have xt:=fun(w:World) (a:Option Addr) (n c n' c':Nat)=>Lib.run_eql_slice_nil (P:=Tryz.prog) w 32 3 a n c n' c' Tryz.underlying32;have hneq:=fun(w:World) (a:Option Addr) (n c n' c':Nat)=>run_neq_slice_nil_any (P:=Tryz.prog) w 32 3 a n c n' c' Tryz.underlying32;go_enter Tryz.func249,Tryz.ntmps249;go_wp2_with (first|(go_at_call 95;refine(B6 _ _ _ _).mono ?_;rintro e w' ⟨rfl,rfl⟩)|(go_at_call 157;refine(C6 _ _ _ _ _ aW).mono ?_;rintro e w' ⟨rfl,rfl⟩));refine bU.o.mono ?_;rintro e w1 ⟨v1,rfl,aB,aA⟩;have dM:=Z cA;have pD:=Z be;have fV:=aA.size;clear cA be;rcases aB.inv with⟨rfl,hLnil⟩|⟨g,cap,rfl,hg,ak,gy,-⟩
 ·have kh:Bh rs st=none:=by rw[Hr.o,hLnil];rfl
  have iF:=Z kh;clear hLnil kh aB;go_wp2;refine wp_loop_rounds 1 ?_;rw[rounds_succ];go_wp2
  go_ret2
  rw[iF.o];exact⟨aA,rfl⟩
 have hS:∀b,Iv w.heap.size w1.heap.size b→b<w1.heap.size:=fun b hb=>hb.2;have aC:=Z aB;have HS:=Z hS;clear aB hS;go_wp2;go_loopw [6,8,9,10,11,12,13,28] (fun v6 _ _ _ _ _ _ i wr=>∃k:Nat,k≤L.length∧i=.int .i64 k∧VX (Iv w.heap.size w1.heap.size) L g cap wr v6 (C8 L st k) k∧Below w.heap.size w wr∧wr.heap.size=w1.heap.size) (fun _ _ _ _ _ _ _ i _=>L.length-(intOf i).toNat)
 case atStart=>exact⟨0,Nat.zero_le _,rfl,⟨rfl,aC.o⟩,aA,rfl⟩
 case round=>
  clear aC aA;obtain⟨k,hk,rfl,bB,aA,aI⟩:=hrel;have bV:=Z aI;clear aI;by_cases aH:k<L.length
  ·obtain⟨line,cO⟩:∃l,L[k]? =some l:=⟨_,List.getElem?_eq_getElem aH⟩;obtain⟨dX,hlb⟩:=d8.o line (List.mem_of_getElem? cO);obtain⟨Lc,aB,hLc,hLcl⟩:∃Lc,A4 32 (A4 3 A7) (Iv w.heap.size w1.heap.size) wr (.slice (some ⟨g,0,none⟩) L.length cap) Lc∧Lc[k]? =some line∧Lc.length=L.length:=by
    unfold VX at bB;cases cC:C8 L st k with
    |none=>rw[cC] at bB;exact⟨L,bB.2,cO,rfl⟩
    |some o=>
     rw[cC] at bB;obtain⟨k0,aN,ho,_⟩:=bB;exact⟨_,ho,by rw[List.getElem?_set_ne (by omega)];exact cO,by simp⟩
   obtain⟨q,cq,aM,-,hq,hqg,di,-,sS,-⟩:=AC aB hLc (by omega);rw[dX] at aM di;obtain⟨b,off,rfl,hb,bQ⟩:=cH (by omega);have dL:∀j x,st[j]? =some x→wr.cell? ⟨b,off+j,none⟩=some (.int .i64 x):=fun j x hx=>by
    obtain⟨u,hu,rfl,-⟩:=bQ j x hx;rw[aA.cell (p:=⟨b,off+j,none⟩) hb,hu]
   have nk:=Z dL;have Hqc:=Z sS;have gg:=Z cO;have eo:=Z dX;have ek:=Z bB;have aC:=Z aB;have HLc:=Z hLc;have oj:decide ((k:Int)<(L.length:Int))=true:=by simp;omega
   clear cH bQ dL sS cO dX bB aB hLc hLcl hlb;go_wp2
   go_loop [9,10,11,34] (fun a _ _ i=>∃j:Nat,j≤st.length∧i=.int .i64 j∧a=.bool (Fn st line j)) (fun _ _ _ i=>st.length-(intOf i).toNat)
   case atStart=>exact⟨0,Nat.zero_le _,rfl,rfl⟩
   case round=>
    obtain⟨j,hj,rfl,rfl⟩:=hrel;by_cases bt:j<st.length
    ·obtain⟨x,hx⟩:∃x,st[j]? =some x:=⟨_,List.getElem?_eq_getElem bt⟩;obtain⟨c,hc⟩:∃c,line[j]? =some c:=⟨_,List.getElem?_eq_getElem (by rw[eo.o];exact bt)⟩;have fW:=nk.o j x hx;have ct:=Hqc.o j c hc;have Hs:=Z (MH st line j);have He:=Z (NC hx hc);have xF:st[j]?.getD 0=x:=by rw[hx];rfl
     clear hx hc xF;cases fr:Fn st line j
     ·have jH:=Z fr;go_wp2
      go_round
      case rel=>exact⟨j+1,by omega,by go_num,by rw[Hs.o,jH.o];rfl⟩
      case measure=>simp[intOf];omega
     ·have jH:=Z fr;by_cases eu:x<0
      ·go_wp2
       go_round
       case rel=>exact⟨j+1,by omega,by go_num,by rw[Hs.o,jH.o,He.o];simp[eu]⟩
       case measure=>simp[intOf];omega
      ·have hd:decide (x<0)=false:=by simp;omega
       have Hd:=Z hd;go_wp2
       go_round
       case rel=>exact⟨j+1,by omega,by go_num,by rw[Hs.o,jH.o,He.o,Hd.o];simp⟩
       case measure=>simp[intOf];omega
    ·have pa:j=line.length:=by have:=eo.o;omega
     have Hjn:=Z pa;clear pa;have eR:=Z (Ij (st:=st) gg.o);cases fr:Fn st line j
     ·have jH:=Z (show C8 L st (k+1)=C8 L st k from by rw[eR.o];simp[FL,Ju,←Hjn.o,fr]);go_wp2;go_roundw
      case rel=>
       refine⟨k+1,by omega,by go_num,?_,aA,bV.o⟩;rw[jH.o];have h:=ek.o;unfold VX at h⊢
       split
       ·rename_i e;rw[e] at h;exact h
       ·rename_i o e;rw[e] at h
        obtain⟨k0,h1,h2⟩:=h;exact⟨k0,by omega,h2⟩
      case measure=>simp[intOf];omega
     ·have dZ:C8 L st (k+1)=some (match C8 L st k with|none=>line|some o=>Fe o line):=by
       rw[eR.o];unfold FL Ju;rw[←Hjn.o,fr];rfl
      clear fr;cases cC:C8 L st k with
      |none=>
       have bB:=ek.o;rw[cC] at dZ bB;obtain⟨rfl,hownL⟩:=bB;have bu:=Z dZ;have dR:=Z hownL;clear dZ hownL cC;go_wp2
       go_loop [12,13,63] (fun _ _ i=>∃j:Nat,j≤st.length∧i=.int .i64 j) (fun _ _ i=>st.length-(intOf i).toNat)
       case atStart=>exact⟨0,Nat.zero_le _,rfl⟩
       case round=>
        obtain⟨i,hi,rfl⟩:=hrel;by_cases hlt3:i<st.length
        ·obtain⟨c,hc⟩:∃c,line[i]? =some c:=⟨_,List.getElem?_eq_getElem (by rw[eo.o];exact hlt3)⟩;have ct:=Hqc.o i c hc;clear hc;go_wp2
         go_round
         case rel=>exact⟨i+1,by omega,by go_num⟩
         case measure=>simp[intOf];omega
        ·go_wp2;go_roundw
         case rel=>
          refine⟨k+1,by omega,by go_num,?_,aA,bV.o⟩;rw[bu.o];exact⟨k,Nat.lt_succ_self k,dR.o.set_self gg.o,aM⟩
         case measure=>simp[intOf];omega
      |some o=>
       have bB:=ek.o;rw[cC] at dZ bB;obtain⟨k0,aN,hownL,hcell0⟩:=bB;obtain⟨iL,-⟩:=rj.o _ (by omega) o cC;have jC:(L.set k0 o)[k0]? =some o:=by rw[List.getElem?_set_self (by omega)]
       obtain⟨q0,cq0,cF,-⟩:=AC hownL jC (by omega);rw[iL] at cF;obtain rfl:u6=.slice (some ⟨q0,0,none⟩) st.length cq0:=by rw[hcell0] at cF;exact Option.some.inj cF
       obtain⟨wo,rfl⟩:∃wo:World,wo=wr:=⟨_,rfl⟩;have dC:A4 32 (A4 3 A7) (Iv w.heap.size w1.heap.size) wo (.slice (some ⟨g,0,none⟩) L.length cap) (L.set k0 (D9 o line 0)):=by rw[OG];exact hownL
       have gt:o.length=line.length:=by rw[iL,eo.o]
       have bu:=Z dZ;have iY:=Z dC;have ml:=Z iL;have ex:=Z gt;have km:=Z cF;have eF:=Z aM;clear dZ hownL dC cC jC iL gt cF hcell0 aM;go_wp2;go_loopw [12,13,63] (fun _ _ i wr=>∃j:Nat,j≤st.length∧i=.int .i64 j∧A4 32 (A4 3 A7) (Iv w.heap.size w1.heap.size) wr (.slice (some ⟨g,0,none⟩) L.length cap) (L.set k0 (D9 o line j))∧wr.cell? ⟨g,k0,none⟩=some (.slice (some ⟨q0,0,none⟩) st.length cq0)∧wr.cell? ⟨g,k,none⟩=some (.slice (some ⟨q,0,none⟩) st.length cq)∧Below w.heap.size w wr∧wr.heap.size=w1.heap.size) (fun _ _ i _=>st.length-(intOf i).toNat)
       case atStart=>exact⟨0,Nat.zero_le _,rfl,iY.o,km.o,eF.o,aA,bV.o⟩
       case round=>
        clear iY km eF aA bV;obtain⟨i,hi,rfl,hownM,cF,aQ,aA,aI⟩:=hrel;have bV:=Z aI;clear aI;by_cases hlt3:i<st.length
        ·obtain⟨c,hc⟩:∃c,line[i]? =some c:=⟨_,List.getElem?_eq_getElem (by rw[eo.o];exact hlt3)⟩;obtain⟨a,ha⟩:∃a,o[i]? =some a:=⟨_,List.getElem?_eq_getElem (by rw[ml.o];exact hlt3)⟩;have bJ:=Lw ex.o i;have rk:=Nm ex.o ha;have jC:(L.set k0 (D9 o line i))[k0]? =some (D9 o line i):=by rw[List.getElem?_set_self (by omega)]
         have hkk:(L.set k0 (D9 o line i))[k]? =some line:=by rw[List.getElem?_set_ne (by omega)];exact gg.o
         obtain⟨q0',cq0',hc0',hgS,hq0S,hq0g,hcq0,cP,eh,ap⟩:=AC hownM jC (by rw[bJ,ml.o];omega);rw[bJ,ml.o] at hc0' hcq0 cP;obtain⟨rfl,rfl⟩:q0=q0'∧cq0=cq0':=by rw[cF] at hc0';simpa using hc0'
         obtain⟨q',cq',gX,-,hqS',hqg',-,-,hval',-⟩:=AC hownM hkk (by rw[eo.o];omega);rw[eo.o] at gX;obtain⟨rfl,rfl⟩:q=q'∧cq=cq':=by rw[aQ] at gX;simpa using gX
         have hca:=eh i a rk;have ct:=hval' i c hc;obtain⟨-,hfa⟩:=cP i hlt3;have hwB:w.heap.size≤q0:=hq0S.1;by_cases ly:a=c
         ·subst ly;have gf:=Z (ON ex.o ha hc);have gh:=Z hownM;clear hc ha rk jC hkk hc0' gX eh hval' ap cP hownM bJ;go_wp2;go_roundw
          case rel=>exact⟨i+1,by omega,by go_num,by rw[gf.o];exact gh.o,cF,aQ,aA,bV.o⟩
          case measure=>simp[intOf];omega
         ·have aO:(a==c)=false:=by simpa using ly
          have gj:=KB ex.o ha hc;rw[show Fq a c=-1 from by simp[Fq,ly]] at gj;have bN:=ap wr (fun _ _=>rfl) i (-1) (by rw[bJ,ml.o];exact hlt3) (BV.small (by decide) (by decide));rw[List.set_set,←gj] at bN;have cJ:=Z bN;have vM:(wr.setCell ⟨q0,i,none⟩ (.int .i64 (-1))).cell? ⟨g,k0,none⟩=some (.slice (some ⟨q0,0,none⟩) st.length cq0):=by
           rw[World.cell?_of_block (w:=wr) (Below.heap_setCell wr _ _ g (fun e=>hq0g e.symm))];exact cF
          have vN:(wr.setCell ⟨q0,i,none⟩ (.int .i64 (-1))).cell? ⟨g,k,none⟩=some (.slice (some ⟨q,0,none⟩) st.length cq):=by
           rw[World.cell?_of_block (w:=wr) (Below.heap_setCell wr _ _ g (fun e=>hq0g e.symm))];exact aQ
          have Hc0n:=Z vM;have Hckn:=Z vN;have Hac:=Z ly;clear hc ha rk jC hkk hc0' gX eh hval' ap cP hownM bJ gj bN vM vN ly;go_wp2;go_roundw
          case rel=>exact⟨i+1,by omega,by go_num,cJ.o,Hc0n.o,Hckn.o,aA.setCell hwB _,by rw[A9,bV.o]⟩
          case measure=>simp[intOf];omega
        ·have nH:i=line.length:=by have:=eo.o;omega
         have gh:=Z (show A4 32 (A4 3 A7) (Iv w.heap.size w1.heap.size) wr (.slice (some ⟨g,0,none⟩) L.length cap) (L.set k0 (Fe o line)) from by rw[←PY ex.o,←nH];exact hownM);have km:=Z cF;clear hownM nH cF aQ;go_wp2;go_roundw
         case rel=>
          refine⟨k+1,by omega,by go_num,?_,aA,bV.o⟩;rw[bu.o];exact⟨k0,by omega,gh.o,km.o⟩
         case measure=>simp[intOf];omega
  ·have hkL:k=L.length:=by omega
   subst hkL;cases cC:C8 L st L.length with
   |none=>
    rw[cC] at bB;obtain⟨rfl,-⟩:=bB;have lm:=Z cC;clear cC;go_wp2
    go_ret2
    rw[Hr.o,lm.o];exact⟨aA,rfl⟩
   |some o=>
    rw[cC] at bB;obtain⟨k0,aN,aB,aM⟩:=bB;have jC:(L.set k0 o)[k0]? =some o:=by rw[List.getElem?_set_self aN]
    obtain⟨iN,fR⟩:=rj.o _ (Nat.le_refl _) o cC;obtain⟨-,-,-,-,T,u,hu,hr,hT,-⟩:=aB.focus (A3 A2) jC;obtain rfl:u=u6:=by rw[aM] at hu;exact(Option.some.inj hu).symm
    obtain⟨q,cq,rfl,-⟩:=hr.inv_ne (by omega);have lm:=Z cC;have Hr':=Z hr;have HT:=Z hT;clear cC aB aM jC hr hT hu iN fR;go_wp2
    go_ret2
    rw[Hr.o,lm.o];exact⟨aA,_,rfl,(A3 A2).mono (fun b hb=>by rw[bV.o];exact(HT.o b hb).1) Hr'.o⟩
theorem Ac.cell{r c:Nat}{m:List (List Int)}(h:Ac r c m){y:Nat}(hy:y<r):∃row,m[y]? =some row∧row.length=c:=by
 obtain⟨row,h1,h2,_⟩:=h.row hy;exact⟨row,h1,h2⟩
theorem T0(r c key:Nat)(w:World)(hr1:1≤r)(fD:r≤5)(hc1:1≤c)(cH:c≤5)(oR:key≤33554432):Calls Tryz.prog 263 #[.int .i64 r,.int .i64 c,.int .i64 key] w (M7 32 (A4 3 A7) w (DU r c key)):=by
 obtain⟨N,hN⟩:∃N,N=r*c:=⟨_,rfl⟩;have kE:N≤25:=by rw[hN];exact Nat.mul_le_mul fD cH
 have jo:(r:Int)*(c:Int)=(N:Int):=by rw[hN];simp
 have HN:=Z hN;clear hN;go_enter Tryz.func263,Tryz.ntmps263;go_wp2_with (fail);refine(KI r c _ (by omega) (by omega)).mono ?_;rintro e w1 ⟨v1,rfl,aB,aA⟩;obtain⟨g,cap,rfl,hg,ak,gy,-⟩:=aB.inv_ne (by simp[Bv];omega);have xb:(Bv r c).length=r:=by simp[Bv]
 rw[xb] at aB ak⊢;have bY:A4 32 (A4 3 A7) (Iv w.heap.size w1.heap.size) w1 (.slice (some ⟨g,0,none⟩) r cap) (Cw r c key N):=by
  rw[HN.o,WZ];exact aB
 have aC:=Z bY;clear aB bY xb;go_wp2;clear jo;go_loopw [2,8] (fun bits kk wr=>∃(j:Nat)(z:Int),j≤N∧kk=.int .i64 z∧z=(j:Int)-1∧bits=.int .i64 ((key/2^(N-j):Nat):Int)∧A4 32 (A4 3 A7) (Iv w.heap.size w1.heap.size) wr (.slice (some ⟨g,0,none⟩) r cap) (Cw r c key j)∧Below w.heap.size w wr∧wr.heap.size=w1.heap.size) (fun _ kk _=>(intOf kk+1).toNat)
 case atStart=>exact⟨N,_,Nat.le_refl _,rfl,rfl,by simp,aC.o,aA,rfl⟩
 case round=>
  clear aC aA;obtain⟨j,z,hj,rfl,hz,rfl,aB,aA,aI⟩:=hrel;have bV:=Z aI;cases j with
  |zero=>
   obtain rfl:z=-1:=by omega
   have aC:=Z aB;clear aB aI hz;go_wp2
   go_ret
   exact⟨_,rfl,by rw[bV.o];exact aC.o,aA⟩
  |succ k=>
   obtain rfl:z=(k:Int):=by omega
   have hkN:k<r*c:=by rw[←HN.o];omega
   have lI:k/c<r:=by rw[Nat.div_lt_iff_lt_mul (by omega)];exact hkN
   have fk:k % c<c:=Nat.mod_lt _ (by omega);obtain⟨row,aG,aw⟩:=(ME r c key (k+1)).cell lI;obtain⟨q,cq,aM,-,hq,hqg,di,cP,-,ap⟩:=AC aB aG (by omega);obtain⟨⟨o,ke⟩,gN⟩:=cP (k % c) (by omega);rw[aw] at aM di;have bN:=ap wr (fun _ _=>rfl) (k % c) (D6 (r*c) key k) (by omega) (BV.small (by have:=(IN (r*c) key k).1;omega) (by have:=(IN (r*c) key k).2;omega));rw[←Wk (by omega) hkN aG] at bN;have cJ:=Z bN;have oQ:=Z (A57 key N k (by omega));have eh:D6 (r*c) key k=(((key/2^(N-(k+1)):Nat):Int)) % 2:=by
    unfold D6;rw[←HN.o];push_cast;congr 2;show _=_;rw[show N-1-k=N-(k+1) from by omega]
   have kR:=Z eh;have vF:=hq.1;have wq:(0:Int)≤(k:Int) / (c:Int):=Int.ediv_nonneg (by omega) (by omega);have iS:(k:Int) / (c:Int)<(r:Int):=by rw[←Int.natCast_ediv];omega
   have ws:(0:Int)≤(k:Int) % (c:Int):=Int.emod_nonneg _ (by omega);have wt:(k:Int) % (c:Int)<(c:Int):=Int.emod_lt_of_pos _ (by omega);obtain⟨P,hP⟩:∃P:Nat,P=key/2^(N-(k+1)):=⟨_,rfl⟩;rw[←hP];have HP:=Z hP;have hPb:P≤33554432:=by rw[hP];exact Nat.le_trans (Nat.div_le_self _ _) oR
   clear aB ap cP bN eh aG hz aI hP;go_wp2
   go_region
   all_goals
    go_wp2;go_roundw
    case rel=>exact⟨k,_,by omega,rfl,by omega,by rw[←oQ.o,←HP.o];simp,by have h:=cJ.o;rw[kR.o,←HP.o] at h;exact h,(aA.setCell vF _).drew,by show(wr.setCell _ _).heap.size=_;rw[A9];exact bV.o⟩
    case measure=>simp[intOf]
theorem JV(v v2:Value)(xs ys:List Int)(w:World)(hv:Ab w v xs)(aW:Ab w v2 ys):Calls Tryz.prog 303 #[v,v2] w fun e w'=>e=.returned (.bool (decide (xs=ys)))∧∃n,w'=w.drewN n:=by
 obtain⟨a,cap,rfl,ak,cY,-,hc⟩:=hv;obtain⟨a2,cap2,rfl,de,hle2,-,cH⟩:=aW;by_cases hl:xs.length=ys.length
 ·have eX:xs.length≤ys.length:=by omega
  have gB:ys.length≤xs.length:=by omega
  have Hl:=Z hl;clear hl;go_enter Tryz.func303,Tryz.ntmps303;go_wp2;go_loopw [5,6,14] (fun _ _ i wr=>∃k:Nat,k≤xs.length∧i=.int .i64 k∧xs.take k=ys.take k∧∃n,wr=w.drewN n) (fun _ _ i _=>xs.length-(intOf i).toNat)
  case atStart=>exact⟨0,Nat.zero_le _,rfl,rfl,0,rfl⟩
  case round=>
   obtain⟨k,hk,rfl,dJ,n,rfl⟩:=hrel;have gU:=Z dJ;clear dJ;by_cases aH:k<xs.length
   ·obtain⟨b,off,rfl,hb,bQ⟩:=hc (by omega);obtain⟨x,hx⟩:∃x,xs[k]? =some x:=⟨_,List.getElem?_eq_getElem aH⟩;obtain⟨u,aQ,rfl,-⟩:=bQ k x hx;obtain⟨b2,off2,rfl,au,hc2'⟩:=cH (by omega);obtain⟨y,hy⟩:∃y,ys[k]? =some y:=⟨_,List.getElem?_eq_getElem (by omega)⟩;obtain⟨u2,eP,rfl,-⟩:=hc2' k y hy;have bt:k<ys.length:=by omega
    have Hx:=Z hx;have Hy:=Z hy;clear hx hc bQ hy cH hc2';by_cases cf:x=y
    ·subst cf;go_wp2
     try(go_quiet (fail))
     go_wp2;go_roundw
     case rel=>exact⟨k+1,by omega,by go_num,F3 gU.o Hx.o Hy.o,_,rfl⟩
     case measure=>simp[intOf];omega
    ·have aO:(x==y)=false:=by simpa using cf
     have rh:=Z cf;clear cf;go_wp2
     try(go_quiet (fail))
     go_wp2
     go_ret
     exact⟨AI (Eq.symm (by simp;intro h;have h1:=Hx.o;rw[h,Hy.o] at h1;exact rh.o (Option.some.inj h1).symm)),_,rfl⟩
   ·go_wp2
    go_ret
    exact⟨AI (Eq.symm (by have h:=gU.o;have hl:=Hl.o;rw[List.take_of_length_le (by omega),List.take_of_length_le (by omega)] at h;simp[h])),n,rfl⟩
 ·have aO:decide (xs=ys)=false:=by simp;intro h;exact hl (by rw[h])
  rw[aO];clear aO;have vK:((xs.length:Int)==(ys.length:Int))=false:=by simp;omega
  go_enter Tryz.func303,Tryz.ntmps303;go_wp2
  go_ret
  exact⟨rfl,0,rfl⟩
theorem SZ(v:Value)(rs:List Int)(n:Nat)(w:World)(hv:Ab w v rs)(h1:1≤n)(h2:n≤5):Calls Tryz.prog 300 #[v,.int .i64 n] w (M7 32 (A4 3 A7) w (Bj rs n)):=by
 have cA:BR 1 5 n=true:=Fg (by omega) (by omega);obtain⟨N,hN⟩:∃N:Nat,N=2^n:=⟨_,rfl⟩;have hN32:N≤32:=by rw[hN];exact OO h2
 have jp:wrap64 ((2:Int)^n)=(N:Int):=by rw[hN];exact X6 h2
 have HN:=Z hN;clear hN;go_enter Tryz.func300,Tryz.ntmps300;go_wp2_with (first|(go_at_call 201;refine(AR _ _ _ _).mono ?_;rintro e w' ⟨rfl,rfl⟩));have dM:=Z cA;clear cA;go_loopw [5,6,7] (fun v i _ wr=>∃k:Nat,k≤N∧i=.int .i64 k∧A4 32 (A4 3 A7) (Iv w.heap.size wr.heap.size) wr v (Ek n rs k)∧Below w.heap.size w wr) (fun _ i _ _=>N-(intOf i).toNat)
 case atStart=>exact⟨0,Nat.zero_le _,rfl,Bq _ _ _ (A3 A2),Below.pureAlloc _ _⟩
 case round=>
  obtain⟨k,hk,rfl,aB,aA⟩:=hrel;obtain⟨wo,rfl⟩:∃wo:World,wo=wr:=⟨_,rfl⟩;have aV:=aA.size;have aC:=Z aB;clear aB;by_cases aH:k<N
  ·have lb:=Z (O1 n rs k);have ri:(Ek n rs k).length<1099511627776:=by have:=J6 n rs k;omega
   have ep:=F7 n k;have aw:=Nv (AO n k);have gE:(AO n k).length≤5:=by omega
   have oK:=Z ep;clear ep;go_wp2_with (fail);refine(T0 1 n k _ (by decide) (by decide) (by omega) (by omega) (by omega)).mono ?_;rintro e w3 ⟨v3,rfl,bL,bK⟩;rw[A2F] at bL;have s3:=bK.size;have bW:=aA.trans_pure bK (Nat.le_refl _);obtain⟨g,cap,rfl,hg,ak,-,-⟩:=bL.inv_ne (by simp);obtain⟨-,-,-,-,T,u,aM,hr,hT,-⟩:=bL.focus (A3 A2) (k:=0) (x:=AO n k) rfl;have jk:=(A3 A2).mono (fun b hb=>(hT b hb).1) hr;obtain⟨q,cq,rfl,-⟩:=hr.inv_ne (by rw[oK.o];omega);rw[oK.o] at aM jk;have fs:([AO n k]:List (List Int)).length=1:=rfl;rw[fs] at ak⊢;clear hr hT fs bL;go_wp2_with (fail);refine(Y6 _ _ _ jk.ints (by omega)).mono ?_;rintro e w5 ⟨v5,rfl,hown5,hbel5⟩;have s5:=hbel5.size;have vL:=bW.trans_pure hbel5 (Nat.le_refl _);go_wp2_with (fail);refine(JV _ _ _ _ _ hown5.ints (hv.keep vL)).mono ?_;rintro e w' ⟨rfl,n6,rfl⟩;have iT:Below wo.heap.size wo (w5.drewN n6):=below_drewN (bK.trans_pure hbel5 (Nat.le_refl _)) n6;have aR:=below_drewN vL n6;have cO:A4 3 A7 (Iv wo.heap.size (w5.drewN n6).heap.size) (w5.drewN n6) (.slice (some ⟨q,0,none⟩) n cq) (AO n k):=
    A4.grow A2 jk (Nat.le_refl _) (below_drewN hbel5 n6)
   have ti:wo.heap.size≤(w5.drewN n6).heap.size:=by show wo.heap.size≤w5.heap.size;omega
   have gg:=Z cO;clear cO jk;by_cases he:BQ (AO n k)=rs
   ·have hd:decide (BQ (AO n k)=rs)=true:=by simp[he]
    have He:=Z he;clear he;go_wp2_with (first|(at_builtin;refine Aa rfl _ _ 31 rfl (A3 A2) 32 Tryz.underlying31 Es rfl (by decide) w.heap.size wo.heap.size aV ti rfl rfl (by exact A4.keep (A3 A2) aC.o iT (Nat.le_refl _)) (by exact gg.o) ri ?_;intro v7 w7 hown7 j8 _));have hb7:=aR.trans j8;have j9:=Z hown7;clear hown7;go_wp2;go_roundw
    case rel=>exact⟨k+1,by omega,by go_num,by rw[lb.o,if_pos He.o];exact j9.o,hb7⟩
    case measure=>simp[intOf];omega
   ·have hd:decide (BQ (AO n k)=rs)=false:=by simp[he]
    have He:=Z he;clear he;go_wp2;go_roundw
    case rel=>exact⟨k+1,by omega,by go_num,by rw[lb.o,if_neg He.o];exact A4.grow (A3 A2) aC.o (Nat.le_refl _) iT,aR⟩
    case measure=>simp[intOf];omega
  ·go_wp2
   go_ret
   obtain rfl:k=N:=by omega
   refine⟨_,rfl,?_,aA⟩;have h:=aC.o;rw[HN.o] at h;exact h
theorem A6k{v:Value}{b b':Bool}(h:b=b'):Ending.returned (.tuple #[v,.bool b])=Ending.returned (.tuple #[v,.bool b']):=by rw[h]
theorem VB{st line:List Int}{k:Nat}(hk:k<line.length)(h:Mg st line k=false):Ju st line=false:=by
 unfold Ju Fn;rw[List.all_eq_false];exact⟨k,by simpa using hk,by simp[h]⟩
theorem A3S{x:Int}(h:BR (-1) 1 x=true):x=-1∨x=0∨x=1:=by rw[AT] at h;omega
theorem WO(v v2:Value)(line st:List Int)(w:World)(hv:Ab w v line)(aW:Ab w v2 st)(hl:st.length=line.length)(hs:st.all (BR (-1) 1)=true):Calls Tryz.prog 323 #[v,v2] w fun e w'=>e=.returned (.bool (Ju st line))∧w=w':=by
 obtain⟨a,cap,rfl,ak,cY,-,hc⟩:=hv;obtain⟨a2,cap2,rfl,de,hle2,-,cH⟩:=aW;have Hl:=Z hl;have Hs:=Z hs;have eX:st.length≤line.length:=by omega
 have gB:line.length≤st.length:=by omega
 clear hl hs;go_enter Tryz.func323,Tryz.ntmps323;go_wp2
 go_loop [5,6,9] (fun _ _ i=>∃k:Nat,k≤st.length∧i=.int .i64 k∧Fn st line k=true) (fun _ _ i=>st.length-(intOf i).toNat)
 case atStart=>exact⟨0,Nat.zero_le _,rfl,rfl⟩
 case round=>
  obtain⟨k,hk,rfl,fr⟩:=hrel;have jH:=Z fr;clear fr;by_cases aH:k<st.length
  ·obtain⟨b,off,rfl,hb,bQ⟩:=hc (by omega);obtain⟨y,hy⟩:∃y,line[k]? =some y:=⟨_,List.getElem?_eq_getElem (by omega)⟩;obtain⟨u,aQ,rfl,-⟩:=bQ k y hy;obtain⟨b2,off2,rfl,au,hc2'⟩:=cH (by omega);obtain⟨x,hx⟩:∃x,st[k]? =some x:=⟨_,List.getElem?_eq_getElem aH⟩;obtain⟨u2,eP,rfl,-⟩:=hc2' k x hx;have hxv:=A3S (List.all_eq_true.1 Hs.o x (List.mem_of_getElem? hx));have bt:k<line.length:=by omega
   have He:=Z (NC hx hy);have Hsu:=Z (MH st line k);clear hc bQ cH hc2' hx hy;by_cases cM:x=-1
   ·subst cM;clear hxv;go_wp2
    go_round
    case rel=>exact⟨k+1,by omega,by go_num,by rw[Hsu.o,jH.o,He.o];rfl⟩
    case measure=>simp[intOf];omega
   ·have eu:decide (x<0)=false:=by simp;omega
    have Hx0:=Z eu;by_cases cf:x=y
    ·subst cf;have aO:(x==-1)=false:=by simpa using cM
     clear hxv eu;go_wp2
     go_round
     case rel=>exact⟨k+1,by omega,by go_num,by rw[Hsu.o,jH.o,He.o,Hx0.o];simp⟩
     case measure=>simp[intOf];omega
    ·have aO:(x==-1)=false:=by simpa using cM
     have iD:(x==y)=false:=by simpa using cf
     have Hne2:=Z iD;have Hf:=Z (VB bt (by rw[He.o,Hx0.o,iD];rfl));clear hxv eu cf;go_wp2
     go_ret
     exact⟨AI Hf.o.symm,rfl⟩
  ·have Hf:=Z (show Ju st line=true from by unfold Ju;rw[show line.length=k from by omega];exact jH.o);go_wp2
   go_ret
   exact⟨AI Hf.o.symm,rfl⟩
theorem A2o{w w':World}{r:Option (List Int)}{e:Ending}(h:Ys w r e w'):∃v',e=.returned (.tuple #[v',.bool r.isSome])∧A4 3 A7 (Iv w.heap.size w'.heap.size) w' v' (r.getD [])∧Below w.heap.size w w':=by
 obtain⟨h1,h2⟩:=h;cases r with
 |none=>exact⟨_,h2,A4.nil _ _ _ _,h1⟩
 |some o=>obtain⟨v',e,ho⟩:=h2;exact⟨v',e,ho,h1⟩
theorem On(v v2:Value)(rs st:List Int)(w:World)(hv:Ab w v rs)(aW:Ab w v2 st):Calls Tryz.prog 249 #[v,v2] w fun e w'=>∃v',e=.returned (.tuple #[v',.bool (Bh rs st).isSome])∧A4 3 A7 (Iv w.heap.size w'.heap.size) w' v' ((Bh rs st).getD [])∧Below w.heap.size w w':=
 (YK v v2 rs st w hv aW).mono fun _ _ h=>A2o h
def G6(w w1 wr:World):Bk:=fun b=>(b=w.heap.size∨w1.heap.size≤b)∧b<wr.heap.size
theorem Wp(v v2:Value)(rs st:List Int)(w:World)(hv:Ab w v rs)(aW:Ab w v2 st):Calls Tryz.prog 319 #[v,v2] w fun e w'=>∃v',e=.returned (.tuple #[v',.bool (Bh rs st).isSome])∧A4 3 A7 (Iv w.heap.size w'.heap.size) w' v' ((Bh rs st).getD [])∧Below w.heap.size w w':=by
 obtain⟨a2,cap2,rfl,de,hle2,-,cH⟩:=id aW;cases cA:BR 1 5 st.length
 ·have Hr:=Z (show Bh rs st=none from by simp[Bh,Il,cA]);go_enter Tryz.func319,Tryz.ntmps319;go_wp2_with (first|(go_at_call 201;refine(AR _ _ _ _).mono ?_;rintro e w' ⟨rfl,rfl⟩))
  go_ret2
  rw[Hr.o];exact⟨_,rfl,A4.nil _ _ _ _,Below.refl _ _⟩
 have hb:=AT.1 cA;have eA:1≤st.length:=by omega
 have fZ:st.length≤5:=by omega
 clear hb;go_enter Tryz.func319,Tryz.ntmps319;go_wp2_with (first|(go_at_call 201;refine(AR _ _ _ _).mono ?_;rintro e w' ⟨rfl,rfl⟩));have dM:=Z cA;clear cA
 go_loop [7,19] (fun _ i=>∃k:Nat,k≤st.length∧i=.int .i64 k∧(st.take k).all (BR (-1) 1)=true) (fun _ i=>st.length-(intOf i).toNat)
 case atStart=>exact⟨0,Nat.zero_le _,rfl,rfl⟩
 case round=>
  obtain⟨k,hk,rfl,aR⟩:=hrel;have aY:=Z aR;clear aR;by_cases aH:k<st.length
  ·obtain⟨b,off,rfl,-,bQ⟩:=cH (by omega);obtain⟨x,hx⟩:∃x,st[k]? =some x:=⟨_,List.getElem?_eq_getElem aH⟩;obtain⟨u,aQ,rfl,-⟩:=bQ k x hx;have Hs:=Z (BO (BR (-1) 1) hx);have Hx:=Z hx;clear hx cH bQ;cases cA:BR (-1) 1 x
   ·have Hf:=Z (BH _ Hx.o cA);have Hr:=Z (show Bh rs st=none from by simp[Bh,Il,Hf.o]);go_wp2_with (first|(go_at_call 201;refine(AR _ _ _ _).mono ?_;rintro e w' ⟨rfl,rfl⟩))
    go_ret2
    rw[Hr.o];exact⟨_,rfl,A4.nil _ _ _ _,Below.refl _ _⟩
   ·have Hinx:=Z cA;go_wp2_with (first|(go_at_call 201;refine(AR _ _ _ _).mono ?_;rintro e w' ⟨rfl,rfl⟩))
    go_round
    case rel=>exact⟨k+1,by omega,by go_num,by rw[Hs.o,aY.o,Hinx.o];rfl⟩
    case measure=>simp[intOf];omega
  ·have pD:=Z (DK aY.o (by omega));have aD:Il st=true:=by simp[Il,dM.o,pD.o]
   have Hr:=Z (show Bh rs st=C8 (Bj rs st.length) st (Bj rs st.length).length from by simp[Bh,aD]);obtain⟨L,hL⟩:∃L,L=Bj rs st.length:=⟨_,rfl⟩;rw[←hL] at Hr;have dG:∀l∈L,l.length=st.length∧∀x∈l,0≤x∧x≤1:=fun l hl=>Je (by rw[hL] at hl;exact hl);have vA:L.length≤32:=by rw[hL];exact Nat.le_trans (J6 _ _ _) (OO fZ)
   have lr:Below w.heap.size w (w.alloc (.cells #[] 3)):=Below.pureAlloc _ _;have dD:=SZ v rs st.length _ (hv.keep lr) eA fZ;rw[←hL] at dD;have rj:=Z (fun k hk o ho=>KC (n:=st.length) (rs:=rs) (st:=st) k hk o ho);rw[←hL] at rj;have d8:=Z dG;have bU:=Z dD;clear hL dG dD aD aY;go_wp2_with (fail);refine bU.o.mono ?_;rintro e w1 ⟨v1,rfl,hownL,hbel1⟩;have cX:=hbel1.size;have hs1':w.heap.size+1≤w1.heap.size:=by simpa using cX
   have rm:Below w.heap.size w w1:=lr.trans_pure hbel1 (Nat.le_refl _);have dA:A4 3 A7 (G6 w w1 w1) w1 (.slice (some ⟨w.heap.size,0,none⟩) 0 0) []:=by
    have h0:=Bq (R:=A7) w 3 w.heap.size A2;have h1:=A4.keep A2 h0 hbel1 (Nat.le_refl _);exact(A3 A2).mono (fun b hb=>by
     have h1:=hb.1;have h2:=hb.2;simp at h2;exact⟨.inl (by omega),by omega⟩) h1
   have ig:∀b,Iv (w.alloc (.cells #[] 3)).heap.size w1.heap.size b→w.heap.size<b∧b<w1.heap.size:=fun b hb=>⟨by have:=hb.1;simp at this;omega,hb.2⟩;obtain⟨SL,hSL⟩:∃SL:Bk,SL=Iv (w.alloc (.cells #[] 3)).heap.size w1.heap.size:=⟨_,rfl⟩;rw[←hSL] at hownL ig;clear hSL cX lr;have pW:=Z ig;clear ig;rcases hownL.inv with⟨rfl,hLnil⟩|⟨g,cap,rfl,hg,ak,gy,-⟩
   ·have kh:Bh rs st=none:=by rw[Hr.o,hLnil];rfl
    have iF:=Z kh;have pE:=Z dA;clear hLnil kh hownL dA;go_wp2;refine wp_loop_rounds 1 ?_;rw[rounds_succ];go_wp2
    go_ret2
    rw[iF.o];exact⟨_,rfl,(A3 A2).mono (fun b hb=>⟨by rcases hb.1 with h|h<;>omega,hb.2⟩) pE.o,rm⟩
   ·have pE:=Z dA;have dR:=Z hownL;clear dA hownL;go_wp2;go_loopw [8,10,11,12,33] (fun v8 _ _ _ i wr=>∃k:Nat,k≤L.length∧i=.int .i64 k∧A4 3 A7 (G6 w w1 wr) wr v8 ((C8 L st k).getD [])∧A4 32 (A4 3 A7) SL wr (.slice (some ⟨g,0,none⟩) L.length cap) L∧Below w.heap.size w wr∧w1.heap.size≤wr.heap.size) (fun _ _ _ _ i _=>L.length-(intOf i).toNat)
    case atStart=>exact⟨0,Nat.zero_le _,rfl,pE.o,dR.o,rm,Nat.le_refl _⟩
    case round=>
     clear pE dR rm;obtain⟨k,hk,rfl,bq,hownL,aA,aI⟩:=hrel;obtain⟨wo,rfl⟩:∃wo:World,wo=wr:=⟨_,rfl⟩;by_cases aH:k<L.length
     ·obtain⟨line,cO⟩:∃l,L[k]? =some l:=⟨_,List.getElem?_eq_getElem aH⟩;obtain⟨dX,hlb⟩:=d8.o line (List.mem_of_getElem? cO);obtain⟨-,-,-,-,T,u,aM,hr,hT,-⟩:=hownL.focus (A3 A2) cO;have vO:Ab wo u line:=hr.ints;have jk:A4 3 A7 SL wo u line:=(A3 A2).mono (fun b hb=>(hT b hb).1) hr;obtain⟨q,cq,rfl,hqS,di,-,-⟩:=jk.inv_ne (by omega);rw[dX] at aM vO jk di;have hqL:=pW.o q hqS;have sS:∀(x:Nat)(o:Int),line[x]? =some o→wo.cell? ⟨q,x,none⟩=some (.int .i64 o):=fun x o h=>vO.at0 h;have eR:=Z (Ij (st:=st) cO);have vP:=WO _ _ line st wo vO (aW.keep aA) dX.symm pD.o;have Hagc:=Z vP;have Hqc:=Z sS;have rn:=Z jk;have HlR:=Z vO;have eo:=Z dX;have df:=Z bq;have dR:=Z hownL;have hwg:w.heap.size≤wo.heap.size:=aA.size;clear cO hlb hr hT vO jk sS vP dX bq hownL;go_wp2_with (fail);refine Hagc.o.mono ?_;rintro e w' ⟨rfl,rfl⟩;cases fr:Ju st line
      ·have aJ:=Z (show C8 L st (k+1)=C8 L st k from by rw[eR.o];simp[FL,fr]);go_wp2;go_roundw
       case rel=>exact⟨k+1,by omega,by go_num,by rw[aJ.o];exact df.o,dR.o,aA,aI⟩
       case measure=>simp[intOf];omega
      ·have dZ:C8 L st (k+1)=some (match C8 L st k with|none=>line|some o=>Fe o line):=by
        rw[eR.o];unfold FL;rw[fr];rfl
       clear fr;cases cC:C8 L st k with
       |none=>
        have bq:=df.o;rw[cC] at dZ bq;have bu:=Z dZ;have gA:([]:List Int).length+line.length≤1099511627776:=by rw[eo.o];simp;omega
        obtain⟨y1,y2,y3,rfl⟩:=bq.shape;have hz:y2=0:=bq.ints.len;subst hz;have jL:=Z bq;clear dZ bq cC;go_wp2_with (first|(at_builtin;refine DJ rfl _ _ 32 rfl 3 Tryz.underlying32 As rfl (G6 w w1 wo) rfl rfl (by exact jL.o) (by exact HlR.o) gA ?_;intro v7 w7 hown7 honly7 _));have gn:A4 3 A7 (G6 w w1 w7) w7 v7 line:=by
         have h:=(A3 A2).mono (S':=G6 w w1 w7) (fun b hb=>by
          rcases hb with hb|hb
          ·exact⟨hb.1,Nat.lt_of_lt_of_le hb.2 honly7.size⟩
          ·exact⟨.inr (by omega),hb.2⟩) hown7
         simpa using h
        have ro:∀b,SL b→¬((Value.slice y1 0 y3).ownBlock=some b):=fun b hb he=>by
         have h1:=pW.o b hb;have h2:=A4.ownBlock' jL.o b he;rcases h2.1 with h3|h3<;>omega
        have nI:∀b,SL b→b<wo.heap.size:=fun b hb=>by have:=pW.o b hb;omega
        have nJ:=A4.only (A3 A2) dR.o honly7 nI ro;have hr7:=A4.only A2 rn.o honly7 nI ro;have vQ:=hr7.ints;obtain⟨q7,c7,rfl,-,hc7,-,-⟩:=gn.inv_ne (by rw[eo.o];omega);have h7R:=gn.ints;rw[eo.o] at hc7 h7R gn⊢;have j8:Below w.heap.size w w7:=aA.trans (honly7.below hwg fun b hb=>by have h2:=A4.ownBlock' jL.o b hb;rcases h2.1 with h3|h3<;>omega);have hsz7:w1.heap.size≤w7.heap.size:=Nat.le_trans aI honly7.size;have j9:=Z gn;have rp:=Z nJ;have H7R:=Z h7R;have HlR7:=Z vQ;clear hown7 gn ro nI nJ hr7 h7R vQ honly7;go_wp2
        go_loop [11,12,49] (fun _ _ i=>∃j:Nat,j≤st.length∧i=.int .i64 j) (fun _ _ i=>st.length-(intOf i).toNat)
        case atStart=>exact⟨0,Nat.zero_le _,rfl⟩
        case round=>
         obtain⟨i,hi,rfl⟩:=hrel;by_cases hlt3:i<st.length
         ·obtain⟨c,hc⟩:∃c,line[i]? =some c:=⟨_,List.getElem?_eq_getElem (by rw[eo.o];exact hlt3)⟩;have ct:=HlR7.o.at0 hc;have ke:=H7R.o.at0 hc;clear hc;go_wp2
          go_round
          case rel=>exact⟨i+1,by omega,by go_num⟩
          case measure=>simp[intOf];omega
         ·go_wp2;go_roundw
          case rel=>exact⟨k+1,by omega,by go_num,by rw[bu.o];exact j9.o,rp.o,j8,hsz7⟩
          case measure=>simp[intOf];omega
       |some o=>
        have bq:=df.o;rw[cC] at dZ bq;obtain⟨iL,-⟩:=rj.o _ (by omega) o cC;have bq:A4 3 A7 (G6 w w1 wo) wo u8 o:=bq;obtain⟨q7,c7,rfl,hq7,hc7,-,-⟩:=bq.inv_ne (by omega);rw[iL] at hc7 bq;have hnz:((o.length:Int)==0)=false:=by rw[beq_eq_false_iff_ne];omega
        rw[iL] at hnz⊢;have vR:∀b,SL b→b≠q7:=fun b hb e=>by
         have h1:=pW.o b hb;rcases hq7.1 with h3|h3<;>omega
        have hq7B:w.heap.size≤q7:=by rcases hq7.1 with h3|h3<;>omega
        have gt:o.length=line.length:=by rw[iL,eo.o]
        have pz:A4 3 A7 (G6 w w1 wo) wo (.slice (some ⟨q7,0,none⟩) st.length c7) (D9 o line 0):=by rw[OG];exact bq
        have bu:=Z dZ;have qA:=Z pz;have ml:=Z iL;have ex:=Z gt;have Hq7L:=Z vR;clear dZ cC iL bq gt pz df vR;go_wp2;go_loopw [11,12,49] (fun _ _ i wr=>∃j:Nat,j≤st.length∧i=.int .i64 j∧A4 3 A7 (G6 w w1 wo) wr (.slice (some ⟨q7,0,none⟩) st.length c7) (D9 o line j)∧A4 32 (A4 3 A7) SL wr (.slice (some ⟨g,0,none⟩) L.length cap) L∧A4 3 A7 SL wr (.slice (some ⟨q,0,none⟩) st.length cq) line∧Below w.heap.size w wr∧wr.heap.size=wo.heap.size) (fun _ _ i _=>st.length-(intOf i).toNat)
        case atStart=>exact⟨0,Nat.zero_le _,rfl,qA.o,dR.o,rn.o,aA,rfl⟩
        case round=>
         clear qA dR rn aA;obtain⟨i,hi,rfl,hownM,hownL,jk,aA,hszr⟩:=hrel;have vS:=Z hszr;by_cases hlt3:i<st.length
         ·obtain⟨c,hc⟩:∃c,line[i]? =some c:=⟨_,List.getElem?_eq_getElem (by rw[eo.o];exact hlt3)⟩;obtain⟨a,ha⟩:∃a,o[i]? =some a:=⟨_,List.getElem?_eq_getElem (by rw[ml.o];exact hlt3)⟩;have bJ:=Lw ex.o i;have rk:=Nm ex.o ha;have ct:=jk.ints.at0 hc;obtain⟨hca,hfa,-⟩:=hownM.ints_cell rk;by_cases ly:a=c
          ·subst ly;have gf:=Z (ON ex.o ha hc);have gh:=Z hownM;have dR:=Z hownL;have rn:=Z jk;clear hc ha rk hownM hownL jk bJ hszr;go_wp2;go_roundw
           case rel=>exact⟨i+1,by omega,by go_num,by rw[gf.o];exact gh.o,dR.o,rn.o,aA,vS.o⟩
           case measure=>simp[intOf];omega
          ·have aO:(a==c)=false:=by simpa using ly
           have gj:=KB ex.o ha hc;rw[show Fq a c=-1 from by simp[Fq,ly]] at gj;have bN:=hownM.setInt (k:=i) (c:=-1) (by rw[bJ,ml.o];exact hlt3) (BV.small (by decide) (by decide));rw[←gj] at bN;have cR:IR SL wr (wr.setCell ⟨q7,i,none⟩ (.int .i64 (-1))):=fun b hb=>Below.heap_setCell wr _ _ b (Hq7L.o b hb);have nK:=(A3 (A3 A2)).same cR hownL;have vT:=(A3 A2).same cR jk;have cJ:=Z bN;have dR:=Z nK;have rn:=Z vT;clear hc ha rk hownM hownL jk bJ gj bN cR nK vT hszr;go_wp2;go_roundw
           case rel=>exact⟨i+1,by omega,by go_num,cJ.o,dR.o,rn.o,aA.setCell hq7B _,by rw[A9,vS.o]⟩
           case measure=>simp[intOf];omega
         ·have nH:i=line.length:=by have:=eo.o;omega
          have gh:=Z (show A4 3 A7 (G6 w w1 wr) wr (.slice (some ⟨q7,0,none⟩) st.length c7) (Fe o line) from by
           rw[←PY ex.o,←nH];exact(A3 A2).mono (fun b hb=>⟨hb.1,by rw[hszr];exact hb.2⟩) hownM)
          have dR:=Z hownL;have hszw:w1.heap.size≤wr.heap.size:=by omega
          clear hownM nH hownL jk hszr;go_wp2;go_roundw
          case rel=>exact⟨k+1,by omega,by go_num,by rw[bu.o];exact gh.o,dR.o,aA,hszw⟩
          case measure=>simp[intOf];omega
     ·have hkL:k=L.length:=by omega
      subst hkL;have aF:A4 3 A7 (Iv w.heap.size wo.heap.size) wo u8 ((Bh rs st).getD []):=by
       rw[Hr.o];exact(A3 A2).mono (fun b hb=>⟨by rcases hb.1 with h|h<;>omega,hb.2⟩) bq
      obtain⟨y1,y2,y3,rfl⟩:=bq.shape;have li:=bq.ints.len;cases cC:C8 L st L.length with
      |none=>
       rw[cC] at li;have jm:y2=0:=li;subst jm;have eJ:=Z (show(Bh rs st).isSome=false from by rw[Hr.o,cC];rfl);have aZ:=Z aF;clear bq hownL li cC aF;go_wp2
       go_ret2
       rw[eJ.o];exact⟨_,rfl,aZ.o,aA⟩
      |some o=>
       rw[cC] at li;have li:y2=o.length:=li;obtain⟨iL,-⟩:=rj.o _ (Nat.le_refl _) o cC;have bF:0<y2:=by omega
       have eJ:=Z (show(Bh rs st).isSome=true from by rw[Hr.o,cC];rfl);have aZ:=Z aF;have hd:decide ((0:Int)<(y2:Int))=true:=by simp;omega
       have hol1:1≤o.length:=by omega
       clear bq hownL li cC aF iL;go_wp2
       go_ret2
       rw[eJ.o];exact⟨_,A6k (by simp;omega),aZ.o,aA⟩
theorem MN(v v2:Value)(xs ys:List (List Int))(w:World)(hv:Ak w v xs)(aW:Ak w v2 ys):Calls Tryz.prog 299 #[v,v2] w fun e w'=>e=.returned (.bool (decide (xs=ys)))∧∃n,w'=w.drewN n:=by
 have Hv:=Z hv;have aj:=Z aW;obtain⟨a,cap,rfl,ak,cY,-,-⟩:=hv;obtain⟨a2,cap2,rfl,de,hle2,-,-⟩:=aW;by_cases hl:xs.length=ys.length
 ·have eX:xs.length≤ys.length:=by omega
  have gB:ys.length≤xs.length:=by omega
  have Hl:=Z hl;clear hl;have hbe:((xs.length:Int) !=(ys.length:Int))=false:=by rw[bne_eq_false_iff_eq];omega
  have hbe2:((xs.length:Int)==(ys.length:Int))=true:=by rw[beq_iff_eq];omega
  go_enter Tryz.func299,Tryz.ntmps299;go_wp2;go_loopw [4,5,6,14] (fun _ _ _ i wr=>∃k n:Nat,k≤xs.length∧i=.int .i64 k∧xs.take k=ys.take k∧wr=w.drewN n) (fun _ _ _ i _=>xs.length-(intOf i).toNat)
  case atStart=>exact⟨0,0,Nat.zero_le _,rfl,rfl,rfl⟩
  case round=>
   obtain⟨k,n,hk,rfl,dJ,rfl⟩:=hrel;have gU:=Z dJ;clear dJ;by_cases aH:k<xs.length
   ·obtain⟨x,hx⟩:∃x,xs[k]? =some x:=⟨_,List.getElem?_eq_getElem aH⟩;obtain⟨y,hy⟩:∃y,ys[k]? =some y:=⟨_,List.getElem?_eq_getElem (by omega)⟩;obtain⟨b,off,c1,he,hb,-⟩:=Hv.o.inv_ne (by omega);obtain⟨rfl,-⟩:a=some ⟨b,off,none⟩∧cap=c1:=by simpa using he
    obtain⟨b2,off2,c2,dh,au,-⟩:=aj.o.inv_ne (by omega);obtain⟨rfl,-⟩:a2=some ⟨b2,off2,none⟩∧cap2=c2:=by simpa using dh
    obtain⟨u,aQ,hu⟩:=Sl.at Hv.o hx;obtain⟨u2,eP,ec⟩:=Sl.at aj.o hy;have hu:Ab w u x:=hu;have ec:Ab w u2 y:=ec;obtain⟨p1,p2,rfl,-⟩:=id hu;obtain⟨q1,q2,rfl,-⟩:=id ec;have Hu:=Z (hu.keep (below_drewN (Below.refl _ _) n));have jv:=Z (ec.keep (below_drewN (Below.refl _ _) n));have Hx:=Z hx;have Hy:=Z hy;clear hx hy he dh hu ec;by_cases cf:x=y
    ·subst cf;go_wp2_with (fail);refine(JV _ _ x x _ Hu.o jv.o).mono ?_;rintro e w' ⟨rfl,m,rfl⟩;rw[decide_eq_true (rfl:x=x)];go_wp2;go_roundw
     case rel=>exact⟨k+1,n+m,by omega,by go_num,F3 gU.o Hx.o Hy.o,by first|rfl|exact World.drewN_drewN _ _ _⟩
     case measure=>simp[intOf];omega
    ·have Hd:=Z (show decide (x=y)=false from by simpa using cf);have Hne:=Z cf;clear cf;go_wp2_with (fail);refine(JV _ _ x y _ Hu.o jv.o).mono ?_;rintro e w' ⟨rfl,m,rfl⟩;rw[Hd.o];go_wp2
     go_ret
     exact⟨AI (Eq.symm (by simp;intro h;have h1:=Hx.o;rw[h,Hy.o] at h1;exact Hne.o (Option.some.inj h1).symm)),n+m,rfl⟩
   ·have dW:decide ((k:Int)<(xs.length:Int))=false:=by simp;omega
    go_wp2
    go_ret
    exact⟨AI (Eq.symm (by have h:=gU.o;have hl:=Hl.o;rw[List.take_of_length_le (by omega),List.take_of_length_le (by omega)] at h;simp[h])),n,rfl⟩
 ·have aO:decide (xs=ys)=false:=by simp;intro h;exact hl (by rw[h])
  rw[aO];clear aO;have vK:((xs.length:Int)==(ys.length:Int))=false:=by simp;omega
  go_enter Tryz.func299,Tryz.ntmps299;go_wp2
  go_ret
  exact⟨rfl,0,rfl⟩
theorem MI(v v2:Value)(xs ys:List (List Int))(w:World)(hv:Ak w v xs)(aW:Ak w v2 ys):Calls Tryz.prog 299 #[v,v2] w fun e w'=>e=.returned (.bool (decide (xs=ys)))∧Below w.heap.size w w':=
 (MN v v2 xs ys w hv aW).mono fun _ _ ⟨he,n,hn⟩=>⟨he,by subst hn;exact below_drewN (Below.refl _ _) n⟩
theorem A18(v v2:Value)(xs ys:List Int)(w:World)(hv:Ab w v xs)(aW:Ab w v2 ys):Calls Tryz.prog 248 #[v,v2] w fun e w'=>e=.returned (.bool (decide (xs=ys)))∧∃n,w'=w.drewN n:=by
 go_enter Tryz.func248,Tryz.ntmps248;go_wp2_with (fail);refine(Mx _ _ xs ys _ hv aW).mono ?_;rintro e w' ⟨rfl,m,rfl⟩;go_wp2
 go_ret
 exact⟨rfl,m,rfl⟩
theorem WS(v v2:Value)(xs ys:List (List Int))(w:World)(hv:Ak w v xs)(aW:Ak w v2 ys):Calls Tryz.prog 247 #[v,v2,.func (.func 248) #[] #[]] w fun e w'=>e=.returned (.bool (decide (xs=ys)))∧∃n,w'=w.drewN n:=by
 have Hv:=Z hv;have aj:=Z aW;obtain⟨a,cap,rfl,ak,cY,-,-⟩:=hv;obtain⟨a2,cap2,rfl,de,hle2,-,-⟩:=aW;by_cases hl:xs.length=ys.length
 ·have eX:xs.length≤ys.length:=by omega
  have gB:ys.length≤xs.length:=by omega
  have Hl:=Z hl;clear hl;have hbe:((xs.length:Int) !=(ys.length:Int))=false:=by rw[bne_eq_false_iff_eq];omega
  have hbe2:((xs.length:Int)==(ys.length:Int))=true:=by rw[beq_iff_eq];omega
  go_enter Tryz.func247,Tryz.ntmps247;go_wp2;go_loopw [7,8,9,17] (fun _ _ _ i wr=>∃k n:Nat,k≤xs.length∧i=.int .i64 k∧xs.take k=ys.take k∧wr=w.drewN n) (fun _ _ _ i _=>xs.length-(intOf i).toNat)
  case atStart=>exact⟨0,0,Nat.zero_le _,rfl,rfl,rfl⟩
  case round=>
   obtain⟨k,n,hk,rfl,dJ,rfl⟩:=hrel;have gU:=Z dJ;clear dJ;by_cases aH:k<xs.length
   ·obtain⟨x,hx⟩:∃x,xs[k]? =some x:=⟨_,List.getElem?_eq_getElem aH⟩;obtain⟨y,hy⟩:∃y,ys[k]? =some y:=⟨_,List.getElem?_eq_getElem (by omega)⟩;obtain⟨b,off,c1,he,hb,-⟩:=Hv.o.inv_ne (by omega);obtain⟨rfl,-⟩:a=some ⟨b,off,none⟩∧cap=c1:=by simpa using he
    obtain⟨b2,off2,c2,dh,au,-⟩:=aj.o.inv_ne (by omega);obtain⟨rfl,-⟩:a2=some ⟨b2,off2,none⟩∧cap2=c2:=by simpa using dh
    obtain⟨u,aQ,hu⟩:=Sl.at Hv.o hx;obtain⟨u2,eP,ec⟩:=Sl.at aj.o hy;have hu:Ab w u x:=hu;have ec:Ab w u2 y:=ec;obtain⟨p1,p2,rfl,-⟩:=id hu;obtain⟨q1,q2,rfl,-⟩:=id ec;have Hu:=Z (hu.keep (below_drewN (Below.refl _ _) n));have jv:=Z (ec.keep (below_drewN (Below.refl _ _) n));have Hx:=Z hx;have Hy:=Z hy;clear hx hy he dh hu ec;by_cases cf:x=y
    ·subst cf;go_wp2_with (fail);refine(A18 _ _ x x _ Hu.o jv.o).mono ?_;rintro e w' ⟨rfl,m,rfl⟩;rw[decide_eq_true (rfl:x=x)];go_wp2;go_roundw
     case rel=>exact⟨k+1,n+m,by omega,by go_num,F3 gU.o Hx.o Hy.o,by first|rfl|exact World.drewN_drewN _ _ _⟩
     case measure=>simp[intOf];omega
    ·have Hd:=Z (show decide (x=y)=false from by simpa using cf);have Hne:=Z cf;clear cf;go_wp2_with (fail);refine(A18 _ _ x y _ Hu.o jv.o).mono ?_;rintro e w' ⟨rfl,m,rfl⟩;rw[Hd.o];go_wp2
     go_ret
     exact⟨AI (Eq.symm (by simp;intro h;have h1:=Hx.o;rw[h,Hy.o] at h1;exact Hne.o (Option.some.inj h1).symm)),n+m,rfl⟩
   ·have dW:decide ((k:Int)<(xs.length:Int))=false:=by simp;omega
    go_wp2
    go_ret
    exact⟨AI (Eq.symm (by have h:=gU.o;have hl:=Hl.o;rw[List.take_of_length_le (by omega),List.take_of_length_le (by omega)] at h;simp[h])),n,rfl⟩
 ·have aO:decide (xs=ys)=false:=by simp;intro h;exact hl (by rw[h])
  rw[aO];clear aO;have vK:((xs.length:Int)==(ys.length:Int))=false:=by simp;omega
  go_enter Tryz.func247,Tryz.ntmps247;go_wp2
  go_ret
  exact⟨rfl,0,rfl⟩
theorem Tj(v v2:Value)(xs ys:List (List Int))(w:World)(hv:Ak w v xs)(aW:Ak w v2 ys):Calls Tryz.prog 178 #[v,v2] w fun e w'=>e=.returned (.bool (decide (xs=ys)))∧∃n,w'=w.drewN n:=by
 go_enter Tryz.func178,Tryz.ntmps178;go_wp2_with (fail);refine(WS _ _ xs ys _ hv aW).mono ?_;rintro e w' ⟨rfl,m,rfl⟩;go_wp2
 go_ret
 exact⟨rfl,m,rfl⟩
theorem ML(v v2:Value)(xs ys:List (List Int))(w:World)(hv:Ak w v xs)(aW:Ak w v2 ys):Calls Tryz.prog 178 #[v,v2] w fun e w'=>e=.returned (.bool (decide (xs=ys)))∧Below w.heap.size w w':=
 (Tj v v2 xs ys w hv aW).mono fun _ _ ⟨he,n,hn⟩=>⟨he,by subst hn;exact below_drewN (Below.refl _ _) n⟩
end Go.Proofs.YthmocomfjgmjoaaGreatDoor
namespace Go.Proofs.YthmocomfjgmjoaaGreatDoor
def Du(l:List Int):Nat:=l.foldl (fun a x=>2*a+x.toNat) 0
theorem A3Q(l:List Int)(x:Int):Du (l++[x])=2*Du l+x.toNat:=by simp[Du]
theorem Tg(n key:Nat):AO (n+1) key=AO n (key/2)++[((key % 2:Nat):Int)]:=by
 unfold AO;rw[List.range_succ,List.map_append]
 congr 1
 ·apply List.map_congr_left;intro x hx;have hx:x<n:=by simpa using hx
  have e:n+1-1-x=(n-1-x)+1:=by omega
  rw[e,Nat.pow_succ,Nat.mul_comm,←Nat.div_div_eq_div_mul]
 ·simp
theorem A3m{P:List Int→Prop}(h0:P [])(h1:∀l x,P l→P (l++[x]))(l:List Int):P l:=by
 have:∀n(l:List Int),l.length=n→P l:=by
  intro n;induction n with
  |zero=>intro l hl;rw[List.eq_nil_of_length_eq_zero hl];exact h0
  |succ n ih=>
   intro l hl;rcases List.eq_nil_or_concat l with rfl|⟨q,x,rfl⟩
   ·simp at hl
   ·rw[List.concat_eq_append] at hl⊢;exact h1 q x (ih q (by simpa using hl))
 exact this _ l rfl
theorem Yn(l:List Int):(∀x∈l,0≤x∧x≤1)→Du l<2^l.length∧AO l.length (Du l)=l:=by
 refine A3m (P:=fun l=>(∀x∈l,0≤x∧x≤1)→Du l<2^l.length∧AO l.length (Du l)=l) ?_ ?_ l
 ·intro _;simp[Du,AO]
 ·intro l x ih h;obtain⟨i1,i2⟩:=ih (fun y hy=>h y (by simp[hy]));have hx:=h x (by simp);rw[A3Q,List.length_append,List.length_singleton,Nat.pow_succ,Tg];have e1:(2*Du l+x.toNat) /2=Du l:=by omega
  have e2:(((2*Du l+x.toNat) % 2:Nat):Int)=x:=by omega
  rw[e1,e2,i2];exact⟨by omega,rfl⟩
