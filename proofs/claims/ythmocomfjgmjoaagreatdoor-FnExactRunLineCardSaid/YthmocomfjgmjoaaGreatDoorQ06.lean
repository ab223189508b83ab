/- Base. -/
import Derived.Test.YthmocomfjgmjoaaGreatDoorQ02
import Derived.Laws.EntriesVeiled
set_option maxHeartbeats 1600000
set_option maxRecDepth 100000
namespace Go.Proofs.YthmocomfjgmjoaaGreatDoor
open Go.RowKit
variable {k n:Nat}{v:Value}{w:World}
theorem MV(v v2:Value)(xs ys:U)(w:World)(hv:Au w v xs)(aS:Au w v2 ys):Calls Tryz.prog 227 #[v,v2] w fun e w'=>e=.returned (.bool (decide (xs=ys)))∧∃n,w'=w.drewN n:=by
 obtain⟨a,cap,rfl,ae,cJ,-,hc⟩:=hv;obtain⟨a2,cap2,rfl,dc,hle2,-,cM⟩:=aS;by_cases hl:xs.length=ys.length
 ·have eJ:xs.length≤ys.length:=J;have fl:ys.length≤xs.length:=J;have Hl:=Z hl;clear hl;go_enter Tryz.func227,Tryz.ntmps227;go_wp2;go_loopw [5,13] (fun _ i wr=>∃k:Nat,k≤xs.length∧i=.int .i64 k∧xs.take k=ys.take k∧∃n,wr=w.drewN n) (fun _ i _=>xs.length-(intOf i).toNat);exact⟨0,A7 _,rfl,rfl,0,rfl⟩;obtain⟨k,hk,rfl,cu,n,rfl⟩:=hrel;have gC:=Z cu;clear cu;by_cases aF:k<xs.length
  ·obtain⟨b,off,rfl,hb,bO⟩:=hc J;obtain⟨x,hx⟩:∃x,xs[k]? =some x:=⟨_,A3 aF⟩;obtain⟨u,aW,rfl,-⟩:=bO k x hx;obtain⟨b2,off2,rfl,af,hc2'⟩:=cM J;obtain⟨y,hy⟩:∃y,ys[k]? =some y:=⟨_,A3 J⟩;obtain⟨u2,dw,rfl,-⟩:=hc2' k y hy;have bW:k<ys.length:=J;have Hx:=Z hx;have Hy:=Z hy;clear hx hc bO hy cM hc2';by_cases cK:x=y
   ·subst cK;go_wp2;go_quiet (fail);go_wp2;go_roundw;exact⟨k+1,J,by go_num,F8 gC.o Hx.o Hy.o,_,rfl⟩;exact Jv
   ·have aK:(x==y)=false:=by simpa using cK
    have r7:=Z cK;clear cK;go_wp2;go_quiet (fail);go_wp2
    go_ret
    exact⟨AW (Eq.symm (by simp;intro h;have h1:=Hx.o;rw[h,Hy.o]at h1;exact r7.o (Option.some.inj h1).symm)),A2y _ _ _⟩
  ·go_wp2
   go_ret
   exact⟨AW (Eq.symm (by have h:=gC.o;have hl:=Hl.o;rw[A9 J,A9 J]at h;simp[h])),n,rfl⟩
 ·have aK:decide (xs=ys)=false:=by simp;intro h;exact hl (by rw[h])
  rw[aK];clear aK;have vT:((xs.length:Int)==(ys.length:Int))=false:=by simp;omega
  go_enter Tryz.func227,Tryz.ntmps227;go_wp2
  go_ret
  exact⟨rfl,0,rfl⟩
theorem XN(h:n≤5):wrap64 ((2:Int)^n)=((2^n:Nat):Int):=by
 exact match n,h with
 |0,_=>by unfold wrap64;decide
 |1,_=>by unfold wrap64;decide
 |2,_=>by unfold wrap64;decide
 |3,_=>by unfold wrap64;decide
 |4,_=>by unfold wrap64;decide
 |5,_=>by unfold wrap64;decide
theorem A2H(k m:Nat):bits .and .i64 ((k:Int) /2^m) 1=((k/2^m % 2:Nat):Int):=by
 rw[A2l];push_cast;rfl
theorem OW(h:n≤5):2^n≤32:=Nat.pow_le_pow_right (n:=2) Jq h
theorem Ru(v:Value)(rs:U)(n:Nat)(w:World)(hv:Au w v rs)(h1:1≤n)(h2:n≤5):Calls Tryz.prog 179 #[v,.int .i64 n] w (N7 32 (Ag 3 Ap) w (BC rs n)):=by
 have bV:C1 1 5 n=true:=Ft J J;obtain⟨N,hN⟩:∃N:Nat,N=2^n:=⟨_,rfl⟩;have hN32:N≤32:=by rw[hN];exact OW h2
 have je:wrap64 ((2:Int)^n)=(N:Int):=by rw[hN];exact XN h2
 have HN:=Z hN;clear hN;go_enter Tryz.func179,Tryz.ntmps179;go_wp2_with (first|(go_at_call 95;refine(Bi _ _ _ _).mono ?_;rintro e w' ⟨rfl,rfl⟩));have dC:=Z bV;clear bV;go_loopw [5,6,7,8] (fun v i _ _ wr=>∃k:Nat,k≤N∧i=.int .i64 k∧Ag 32 (Ag 3 Ap) (Iv w.heap.size wr.heap.size) wr v (Er n rs k)∧Below w.heap.size w wr) (fun _ i _ _ _=>N-(intOf i).toNat);exact⟨0,A7 _,rfl,Ag.nil _ _ _ _,A6 _ _⟩;obtain⟨k,hk,rfl,aB,aA⟩:=hrel;obtain⟨wo,rfl⟩:∃wo:World,wo=wr:=⟨_,rfl⟩;have bD:=aA.size;have aC:=Z aB;clear aB;by_cases aF:k<N
 ·go_wp2_with (first|(at_make;refine EJ _ rfl _ _ 32 rfl 3 Tryz.underlying32 Bg rfl Jq (R:=Ap) 0 ⟨rfl,Cc.small Jq Jq⟩ A8 n rfl rfl J ?_;intro w1 aw hbel1 cn;have fN:=Z cn;clear cn));have mw:Ag 3 Ap (fun b=>b=wo.heap.size) w1 (.slice (some ⟨wo.heap.size,0,none⟩) n n) ((B6 n k).take 0++List.replicate (n-0) 0):=by simpa using aw
  have dd:=Z mw;clear aw mw;go_loopw [8,22] (fun _ i wr=>∃j:Nat,j≤n∧i=.int .i64 j∧Ag 3 Ap (fun b=>b=wo.heap.size) wr (.slice (some ⟨wo.heap.size,0,none⟩) n n) ((B6 n k).take j++List.replicate (n-j) 0)∧Below wo.heap.size wo wr∧wr.heap.size=w1.heap.size) (fun _ i _=>n-(intOf i).toNat);exact⟨0,A7 _,rfl,dd.o,hbel1,rfl⟩;clear dd hbel1;obtain⟨j,hj,rfl,hown2,hbel2,oV⟩:=hrel;have lY:=Z oV;clear oV;by_cases bW:j<n
  ·have hl:((B6 n k).take j++List.replicate (n-j) 0).length=n:=by simp[Fd];omega
   obtain⟨y,oy,hfd⟩:=hown2.ints_at (k:=j) (by rw[hl];exact bW);have aX:=Z hown2;have Hl:=Z hl;clear hown2 hl;go_wp2;go_roundw
   case rel=>
    refine⟨j+1,J,by go_num,?_,hbel2.setCell (A2 _) _,by rw[As,lY.o]⟩;rw[A2H,←A2m bW];exact aX.o.qak (by rw[Hl.o];exact bW) (Cc.small J J)
   case measure=>exact Jv
  ·have aN:=Fd n k;have dN:(B6 n k).length≤5:=J;obtain rfl:j=n:=J;have bC:Ag 3 Ap (fun b=>b=wo.heap.size) wr (.slice (some ⟨wo.heap.size,0,none⟩) j j) (B6 j k):=by
    rw[A9 J,Nat.sub_self]at hown2;simpa using hown2
   have qC:=O0 (B6 j k);have hqr:Au wr (.slice (some ⟨wo.heap.size,0,none⟩) j j) (B6 j k):=bC.ints;have dg:=aA.trans (hbel2.mono bD);have cG:=Z bC;clear hown2 bC aN;have iX:=Z (Jf j rs k);have lZ:=Z (OK j rs k);have aM:=lY.o;have cn:=fN.o;have ud:wo.heap.size≤wr.heap.size:=hbel2.size;go_wp2_with fail;refine(WG _ _ _ hqr J).mono ?_;rintro e w5 ⟨v5,rfl,hown5,hbel5⟩;have s5:=hbel5.size;have vU:=dg.qaa hbel5 (A2 _);go_wp2_with fail;refine(MV _ _ _ _ _ hown5.ints (hv.keep vU)).mono ?_;rintro e w' ⟨rfl,n6,rfl⟩;have iw:Below wo.heap.size wo (w5.drewN n6):=(below_drewN (hbel2.qaa hbel5 (A2 _)) n6);have aQ:=below_drewN vU n6;have r8:(Er j rs k).length<1099511627776:=by have:=iX.o;omega
   have bt:Ag 3 Ap (Iv wo.heap.size (w5.drewN n6).heap.size) (w5.drewN n6) (.slice (some ⟨wo.heap.size,0,none⟩) j j) (B6 j k):=
    ((Ab A8).same (below_drewN hbel5 n6|>fun h=>Ac h (fun b hb=>by have hb:b=wo.heap.size:=hb;omega)) cG.o).qbg A8 (A2 _) (by show wo.heap.size<w5.heap.size;omega)
   have tk:wo.heap.size≤(w5.drewN n6).heap.size:=by show wo.heap.size≤w5.heap.size;omega
   have gP:=Z bt;clear bt aM cn;by_cases he:C3 (B6 j k)=rs
   ·have hd:decide (C3 (B6 j k)=rs)=true:=by simp[he]
    have He:=Z he;clear he;go_wp2_with (first|(at_builtin;refine AH rfl _ _ 31 rfl (Ab A8) 32 Tryz.underlying31 EI rfl Jq w.heap.size wo.heap.size bD tk rfl rfl (by exact Ag.keep (Ab A8) aC.o iw (A2 _)) (by exact gP.o) r8 ?_;intro v7 w7 hown7 jP _));have hb7:=aQ.trans jP;have jQ:=Z hown7;clear hown7;go_wp2;go_roundw;exact⟨k+1,J,by go_num,by rw[lZ.o,if_pos He.o];exact jQ.o,hb7⟩;exact Jv
   ·have hd:decide (C3 (B6 j k)=rs)=false:=by simp[he]
    have He:=Z he;clear he;go_wp2;go_roundw;exact⟨k+1,J,by go_num,by rw[lZ.o,if_neg He.o];exact Ag.grow (Ab A8) aC.o (A2 _) iw,aQ⟩;exact Jv
 ·go_wp2
  go_ret
  obtain rfl:k=N:=J;refine⟨_,rfl,?_,aA⟩;have h:=aC.o;rw[HN.o]at h;exact h
def XK(w:World)(r:Option U)(e:Ending)(w':World):Prop:=
 Below w.heap.size w w'∧match r with
 |none=>e=.returned (.tuple #[.slice none 0 0,.bool false])
 |some o=>∃v',e=.returned (.tuple #[v',.bool true])∧Ag 3 Ap (Iv w.heap.size w'.heap.size) w' v' o
theorem Ag.qby{α:Type}{E:TypeId}{R:CP α}{S:Bk}{xs:List α}{x:α}(h:Ag E R S w v xs)(hk:xs[k]? =some x):Ag E R S w v (xs.set k x):=by
 obtain⟨h1,h2⟩:=A5.1 hk;have:xs.set k x=xs:=by rw[←h2];exact List.set_getElem_self h1
 rwa[this]
def VQ(S:Bk)(L:I)(g cap:Nat)(wr:World)(v6:Value)(acc:Option U)(k:Nat):Prop:=
 match acc with
 |none=>v6=.slice none 0 0∧Ag 32 (Ag 3 Ap) S wr (.slice (some ⟨g,0,none⟩) L.length cap) L
 |some o=>∃k0,k0<k∧Ag 32 (Ag 3 Ap) S wr (.slice (some ⟨g,0,none⟩) L.length cap) (L.set k0 o)∧wr.cell? ⟨g,k0,none⟩=some v6
theorem WK(v v2:Value)(rs st:U)(w:World)(hv:Au w v rs)(aS:Au w v2 st):Calls Tryz.prog 249 #[v,v2] w (XK w (BA rs st)):=by
 obtain⟨a2,cap2,rfl,dc,hle2,-,cM⟩:=id aS;cases hok:Is st
 ·have Hr:=Z (show BA rs st=none from by simp[BA,hok]);have et:=hok;unfold Is at et;cases bV:C1 1 5 st.length
  ·go_enter Tryz.func249,Tryz.ntmps249;go_wp2_with (first|(go_at_call 95;refine(Bi _ _ _ _).mono ?_;rintro e w' ⟨rfl,rfl⟩))
   go_ret2
   rw[Hr.o];exact⟨A6 _ _,rfl⟩
  ·have fm:st.all (C1 (-1) 1)=false:=by simpa[bV]using et
   go_enter Tryz.func249,Tryz.ntmps249;go_wp2_with (first|(go_at_call 95;refine(Bi _ _ _ _).mono ?_;rintro e w' ⟨rfl,rfl⟩)|(go_at_call 157;refine(C8 _ _ _ _ _ aS).mono ?_;rintro e w' ⟨rfl,rfl⟩))
   go_ret2
   rw[Hr.o];exact⟨A6 _ _,rfl⟩
 have Hr:=Z (show BA rs st=Cg (BC rs st.length) st (BC rs st.length).length from by simp[BA,hok]);have et:=hok;unfold Is at et;rw[Af]at et;obtain⟨bV,fm⟩:=et;have hb:=Bz.1 bV;have ep:1≤st.length:=J;have f9:st.length≤5:=J;clear hb hok;obtain⟨L,hL⟩:∃L,L=BC rs st.length:=⟨_,rfl⟩;rw[←hL]at Hr;have cj:∀l∈L,l.length=st.length∧∀x∈l,0≤x∧x≤1:=fun l hl=>Jn (by rw[hL]at hl;exact hl);have vJ:L.length≤32:=by rw[hL];exact Aj (Jf _ _ _) (OW f9)
 have cV:=Ru v rs st.length w hv ep f9;rw[←hL]at cV;have r9:=Z (fun k hk o ho=>Lr (n:=st.length) (rs:=rs) (st:=st) k hk o ho);rw[←hL]at r9;have dQ:=Z cj;have bG:=Z cV;clear hL cj cV;have yH:=fun(w:World) (a:Option Addr) (n c n' c':Nat)=>Lib.run_eql_slice_nil (P:=Tryz.prog) w 32 3 a n c n' c' Tryz.underlying32;have hneq:=fun(w:World) (a:Option Addr) (n c n' c':Nat)=>run_neq_slice_nil_any (P:=Tryz.prog) w 32 3 a n c n' c' Tryz.underlying32;go_enter Tryz.func249,Tryz.ntmps249;go_wp2_with (first|(go_at_call 95;refine(Bi _ _ _ _).mono ?_;rintro e w' ⟨rfl,rfl⟩)|(go_at_call 157;refine(C8 _ _ _ _ _ aS).mono ?_;rintro e w' ⟨rfl,rfl⟩));refine bG.o.mono ?_;rintro e w1 ⟨v1,rfl,aB,aA⟩;have dC:=Z bV;have tP:=Z fm;have fI:=aA.size;clear bV fm;rcases aB.inv with⟨rfl,hLnil⟩|⟨g,cap,rfl,hg,ae,iG,-⟩
 ·have lb:BA rs st=none:=by rw[Hr.o,hLnil];rfl
  have gg:=Z lb;clear hLnil lb aB;go_wp2;refine wp_loop_rounds 1 ?_;rw[rounds_succ];go_wp2
  go_ret2
  rw[gg.o];exact⟨aA,rfl⟩
 have hS:∀b,Iv w.heap.size w1.heap.size b→b<w1.heap.size:=fun b hb=>hb.2;have aC:=Z aB;have HS:=Z hS;clear aB hS;go_wp2;go_loopw [6,8,9,10,11,12,13,28] (fun v6 _ _ _ _ _ _ i wr=>∃k:Nat,k≤L.length∧i=.int .i64 k∧VQ (Iv w.heap.size w1.heap.size) L g cap wr v6 (Cg L st k) k∧Below w.heap.size w wr∧wr.heap.size=w1.heap.size) (fun _ _ _ _ _ _ _ i _=>L.length-(intOf i).toNat);exact⟨0,A7 _,rfl,⟨rfl,aC.o⟩,aA,rfl⟩;clear aC aA;obtain⟨k,hk,rfl,bA,aA,aM⟩:=hrel;have bX:=Z aM;clear aM;by_cases aF:k<L.length
 ·obtain⟨line,bt⟩:∃l,L[k]? =some l:=⟨_,A3 aF⟩;obtain⟨dN,hlb⟩:=dQ.o line (A4 bt);obtain⟨Lc,aB,hLc,hLcl⟩:∃Lc,Ag 32 (Ag 3 Ap) (Iv w.heap.size w1.heap.size) wr (.slice (some ⟨g,0,none⟩) L.length cap) Lc∧Lc[k]? =some line∧Lc.length=L.length:=by
   unfold VQ at bA;cases bY:Cg L st k with
   |none=>rw[bY]at bA;exact⟨L,bA.2,bt,rfl⟩
   |some o=>
    rw[bY]at bA;obtain⟨k0,ap,ho,_⟩:=bA;exact⟨_,ho,by rw[List.getElem?_set_ne J];exact bt,Jj⟩
  obtain⟨q,cq,aH,-,hq,hqg,dj,-,sP,-⟩:=AV aB hLc J;rw[dN]at aH dj;obtain⟨b,off,rfl,hb,bO⟩:=cM J;have dL:∀j x,st[j]? =some x→wr.cell? ⟨b,off+j,none⟩=some (.int .i64 x):=fun j x hx=>by
   obtain⟨u,hu,rfl,-⟩:=bO j x hx;rw[aA.cell (p:=⟨b,off+j,none⟩) hb,hu]
  have n9:=Z dL;have Hqc:=Z sP;have gP:=Z bt;have eT:=Z dN;have ex:=Z bA;have aC:=Z aB;have HLc:=Z hLc;have rC:decide ((k:Int)<(L.length:Int))=true:=by simp;omega
  clear cM bO dL sP bt dN bA aB hLc hLcl hlb;go_wp2;go_loop [9,10,11,34] (fun a _ _ i=>∃j:Nat,j≤st.length∧i=.int .i64 j∧a=.bool (Fs st line j)) (fun _ _ _ i=>st.length-(intOf i).toNat);exact⟨0,A7 _,rfl,rfl⟩;obtain⟨j,hj,rfl,rfl⟩:=hrel;by_cases bW:j<st.length
  ·obtain⟨x,hx⟩:∃x,st[j]? =some x:=⟨_,A3 bW⟩;obtain⟨c,hc⟩:∃c,line[j]? =some c:=⟨_,A3 (by rw[eT.o];exact bW)⟩;have fK:=n9.o j x hx;have cP:=Hqc.o j c hc;have Hs:=Z (Nf st line j);have He:=Z (NP hx hc);have xL:st[j]?.getD 0=x:=by rw[hx];rfl
   clear hx hc xL;cases fe:Fs st line j
   ·have iq:=Z fe;go_wp2
    go_round
    exact⟨j+1,J,by go_num,by rw[Hs.o,iq.o];rfl⟩;exact Jv
   ·have iq:=Z fe;by_cases eR:x<0
    ·go_wp2
     go_round
     exact⟨j+1,J,by go_num,by rw[Hs.o,iq.o,He.o];simp[eR]⟩;exact Jv
    ·have hd:decide (x<0)=false:=by simp;omega
     have Hd:=Z hd;go_wp2
     go_round
     exact⟨j+1,J,by go_num,by rw[Hs.o,iq.o,He.o,Hd.o];simp⟩;exact Jv
  ·have pS:j=line.length:=by have:=eT.o;omega
   have Hjn:=Z pS;clear pS;have eA:=Z (IB (st:=st) gP.o);cases fe:Fs st line j
   ·have iq:=Z (show Cg L st (k+1)=Cg L st k from by rw[eA.o];simp[FY,K5,←Hjn.o,fe]);go_wp2;go_roundw
    case rel=>
     refine⟨k+1,J,by go_num,?_,aA,bX.o⟩;rw[iq.o];have h:=ex.o;unfold VQ at h⊢
     split
     ·rename_i e;rw[e]at h;exact h
     ·rename_i o e;rw[e]at h
      obtain⟨k0,h1,h2⟩:=h;exact⟨k0,J,h2⟩
    case measure=>exact Jv
   ·have dO:Cg L st (k+1)=some (match Cg L st k with|none=>line|some o=>Fn o line):=by
     rw[eA.o];unfold FY K5;rw[←Hjn.o,fe];rfl
    clear fe;cases bY:Cg L st k with
    |none=>
     have bA:=ex.o;rw[bY]at dO bA;obtain⟨rfl,hownL⟩:=bA;have bT:=Z dO;have dI:=Z hownL;clear dO hownL bY;go_wp2;go_loop [12,13,63] (fun _ _ i=>∃j:Nat,j≤st.length∧i=.int .i64 j) (fun _ _ i=>st.length-(intOf i).toNat);exact⟨0,A7 _,rfl⟩;obtain⟨i,hi,rfl⟩:=hrel;by_cases hlt3:i<st.length
     ·obtain⟨c,hc⟩:∃c,line[i]? =some c:=⟨_,A3 (by rw[eT.o];exact hlt3)⟩;have cP:=Hqc.o i c hc;clear hc;go_wp2
      go_round
      exact⟨i+1,J,by go_num⟩;exact Jv
     ·go_wp2;go_roundw
      case rel=>
       refine⟨k+1,J,by go_num,?_,aA,bX.o⟩;rw[bT.o];exact⟨k,Nat.lt_succ_self k,dI.o.qby gP.o,aH⟩
      case measure=>exact Jv
    |some o=>
     have bA:=ex.o;rw[bY]at dO bA;obtain⟨k0,ap,hownL,hcell0⟩:=bA;obtain⟨gt,-⟩:=r9.o _ J o bY;have ii:(L.set k0 o)[k0]? =some o:=by rw[List.getElem?_set_self J]
     obtain⟨q0,cq0,bZ,-⟩:=AV hownL ii J;rw[gt]at bZ;obtain rfl:u6=.slice (some ⟨q0,0,none⟩) st.length cq0:=by rw[hcell0]at bZ;exact Option.some.inj bZ
     obtain⟨wo,rfl⟩:∃wo:World,wo=wr:=⟨_,rfl⟩;have cU:Ag 32 (Ag 3 Ap) (Iv w.heap.size w1.heap.size) wo (.slice (some ⟨g,0,none⟩) L.length cap) (L.set k0 (Dh o line 0)):=by rw[Ou];exact hownL
     have jV:o.length=line.length:=by rw[gt,eT.o]
     have bT:=Z dO;have iI:=Z cU;have ma:=Z gt;have eZ:=Z jV;have k9:=Z bZ;have de:=Z aH;clear dO hownL cU bY ii gt jV bZ hcell0 aH;go_wp2;go_loopw [12,13,63] (fun _ _ i wr=>∃j:Nat,j≤st.length∧i=.int .i64 j∧Ag 32 (Ag 3 Ap) (Iv w.heap.size w1.heap.size) wr (.slice (some ⟨g,0,none⟩) L.length cap) (L.set k0 (Dh o line j))∧wr.cell? ⟨g,k0,none⟩=some (.slice (some ⟨q0,0,none⟩) st.length cq0)∧wr.cell? ⟨g,k,none⟩=some (.slice (some ⟨q,0,none⟩) st.length cq)∧Below w.heap.size w wr∧wr.heap.size=w1.heap.size) (fun _ _ i _=>st.length-(intOf i).toNat);exact⟨0,A7 _,rfl,iI.o,k9.o,de.o,aA,bX.o⟩;clear iI k9 de aA bX;obtain⟨i,hi,rfl,hownM,bZ,aW,aA,aM⟩:=hrel;have bX:=Z aM;clear aM;by_cases hlt3:i<st.length
     ·obtain⟨c,hc⟩:∃c,line[i]? =some c:=⟨_,A3 (by rw[eT.o];exact hlt3)⟩;obtain⟨a,ha⟩:∃a,o[i]? =some a:=⟨_,A3 (by rw[ma.o];exact hlt3)⟩;have bF:=Mn eZ.o i;have rc:=Oa eZ.o ha;have ii:(L.set k0 (Dh o line i))[k0]? =some (Dh o line i):=by rw[List.getElem?_set_self J]
      have hkk:(L.set k0 (Dh o line i))[k]? =some line:=by rw[List.getElem?_set_ne J];exact gP.o
      obtain⟨q0',cq0',hc0',hgS,hq0S,hq0g,hcq0,hfree,eB,ai⟩:=AV hownM ii (by rw[bF,ma.o];omega);rw[bF,ma.o]at hc0' hcq0 hfree;obtain⟨rfl,rfl⟩:q0=q0'∧cq0=cq0':=by rw[bZ]at hc0';simpa using hc0'
      obtain⟨q',cq',gy,-,hqS',hqg',-,-,hval',-⟩:=AV hownM hkk (by rw[eT.o];omega);rw[eT.o]at gy;obtain⟨rfl,rfl⟩:q=q'∧cq=cq':=by rw[aW]at gy;simpa using gy
      have hca:=eB i a rc;have cP:=hval' i c hc;obtain⟨-,hfa⟩:=hfree i hlt3;have hwB:w.heap.size≤q0:=hq0S.1;by_cases lg:a=c
      ·subst lg;have gO:=Z (OC eZ.o ha hc);have gQ:=Z hownM;clear hc ha rc ii hkk hc0' gy eB hval' ai hfree hownM bF;go_wp2;go_roundw;exact⟨i+1,J,by go_num,by rw[gO.o];exact gQ.o,bZ,aW,aA,bX.o⟩;exact Jv
      ·have aK:(a==c)=false:=by simpa using lg
       have gR:=KD eZ.o ha hc;rw[show Fz a c=-1 from by simp[Fz,lg]]at gR;have bH:=ai wr (fun _ _=>rfl) i (-1) (by rw[bF,ma.o];exact hlt3) (Cc.small Jq Jq);rw[List.set_set,←gR]at bH;have bq:=Z bH;have vV:(wr.setCell ⟨q0,i,none⟩ (.int .i64 (-1))).cell? ⟨g,k0,none⟩=some (.slice (some ⟨q0,0,none⟩) st.length cq0):=by
        rw[World.cell?_of_block (w:=wr) (Below.heap_setCell wr _ _ g (fun e=>hq0g e.symm))];exact bZ
       have vW:(wr.setCell ⟨q0,i,none⟩ (.int .i64 (-1))).cell? ⟨g,k,none⟩=some (.slice (some ⟨q,0,none⟩) st.length cq):=by
        rw[World.cell?_of_block (w:=wr) (Below.heap_setCell wr _ _ g (fun e=>hq0g e.symm))];exact aW
       have Hc0n:=Z vV;have Hckn:=Z vW;have Hac:=Z lg;clear hc ha rc ii hkk hc0' gy eB hval' ai hfree hownM bF gR bH vV vW lg;go_wp2;go_roundw;exact⟨i+1,J,by go_num,bq.o,Hc0n.o,Hckn.o,aA.setCell hwB _,by rw[As,bX.o]⟩;exact Jv
     ·have my:i=line.length:=by have:=eT.o;omega
      have gQ:=Z (show Ag 32 (Ag 3 Ap) (Iv w.heap.size w1.heap.size) wr (.slice (some ⟨g,0,none⟩) L.length cap) (L.set k0 (Fn o line))from by rw[←Qf eZ.o,←my];exact hownM);have k9:=Z bZ;clear hownM my bZ aW;go_wp2;go_roundw
      case rel=>
       refine⟨k+1,J,by go_num,?_,aA,bX.o⟩;rw[bT.o];exact⟨k0,J,gQ.o,k9.o⟩
      case measure=>exact Jv
 ·have hkL:k=L.length:=J;subst hkL;cases bY:Cg L st L.length with
  |none=>
   rw[bY]at bA;obtain⟨rfl,-⟩:=bA;have l6:=Z bY;clear bY;go_wp2
   go_ret2
   rw[Hr.o,l6.o];exact⟨aA,rfl⟩
  |some o=>
   rw[bY]at bA;obtain⟨k0,ap,aB,aH⟩:=bA;have ii:(L.set k0 o)[k0]? =some o:=by rw[List.getElem?_set_self ap]
   obtain⟨gx,ke⟩:=r9.o _ (A2 _) o bY;obtain⟨-,-,-,-,T,u,hu,hr,hT,-⟩:=aB.qal (Ab A8) ii;obtain rfl:u=u6:=by rw[aH]at hu;exact(Option.some.inj hu).symm
   obtain⟨q,cq,rfl,-⟩:=hr.qac J;have l6:=Z bY;have Hr':=Z hr;have HT:=Z hT;clear bY aB aH ii hr hT hu gx ke;go_wp2
   go_ret2
   rw[Hr.o,l6.o];exact⟨aA,_,rfl,(Ab A8).mono (fun b hb=>by rw[bX.o];exact(HT.o b hb).1) Hr'.o⟩
theorem Ax.cell{r c:Nat}{m:I}(h:Ax r c m){y:Nat}(hy:y<r):∃row,m[y]? =some row∧row.length=c:=by
 obtain⟨row,h1,h2,_⟩:=h.row hy;exact⟨row,h1,h2⟩
theorem SE(r c key:Nat)(w:World)(hr1:1≤r)(eH:r≤5)(hc1:1≤c)(cM:c≤5)(oG:key≤33554432):Calls Tryz.prog 263 #[.int .i64 r,.int .i64 c,.int .i64 key] w (N7 32 (Ag 3 Ap) w (E0 r c key)):=by
 obtain⟨N,hN⟩:∃N,N=r*c:=⟨_,rfl⟩;have jt:N≤25:=by rw[hN];exact Nat.mul_le_mul eH cM
 have jd:(r:Int)*(c:Int)=(N:Int):=by rw[hN];simp
 have HN:=Z hN;clear hN;go_enter Tryz.func263,Tryz.ntmps263;go_wp2_with fail;refine(KN r c _ J J).mono ?_;rintro e w1 ⟨v1,rfl,aB,aA⟩;obtain⟨g,cap,rfl,hg,ae,iG,-⟩:=aB.qac (by simp[BJ];omega);have xp:(BJ r c).length=r:=by simp[BJ]
 rw[xp]at aB ae⊢;have bI:Ag 32 (Ag 3 Ap) (Iv w.heap.size w1.heap.size) w1 (.slice (some ⟨g,0,none⟩) r cap) (CG r c key N):=by
  rw[HN.o,Yc];exact aB
 have aC:=Z bI;clear aB bI xp;go_wp2;clear jd;go_loopw [2,8] (fun bits kk wr=>∃(j:Nat)(z:Int),j≤N∧kk=.int .i64 z∧z=(j:Int)-1∧bits=.int .i64 ((key/2^(N-j):Nat):Int)∧Ag 32 (Ag 3 Ap) (Iv w.heap.size w1.heap.size) wr (.slice (some ⟨g,0,none⟩) r cap) (CG r c key j)∧Below w.heap.size w wr∧wr.heap.size=w1.heap.size) (fun _ kk _=>(intOf kk+1).toNat);exact⟨N,_,A2 _,rfl,rfl,Jj,aC.o,aA,rfl⟩;clear aC aA;obtain⟨j,z,hj,rfl,hz,rfl,aB,aA,aM⟩:=hrel;have bX:=Z aM;cases j with
 |zero=>
  obtain rfl:z=-1:=J;have aC:=Z aB;clear aB aM hz;go_wp2
  go_ret
  exact⟨_,rfl,by rw[bX.o];exact aC.o,aA⟩
 |succ k=>
  obtain rfl:z=(k:Int):=J;have hkN:k<r*c:=by rw[←HN.o];omega
  have ku:k/c<r:=by rw[Nat.div_lt_iff_lt_mul J];exact hkN
  have f4:k % c<c:=Nat.mod_lt _ J;obtain⟨row,aD,aj⟩:=(Ni r c key (k+1)).cell ku;obtain⟨q,cq,aH,-,hq,hqg,dj,hfree,-,ai⟩:=AV aB aD J;obtain⟨⟨o,kv⟩,g8⟩:=hfree (k % c) J;rw[aj]at aH dj;have bH:=ai wr (fun _ _=>rfl) (k % c) (Dm (r*c) key k) J (Cc.small (by have:=(J3 (r*c) key k).1;omega) (by have:=(J3 (r*c) key k).2;omega));rw[←VN J hkN aD]at bH;have bq:=Z bH;have oF:=Z (A3C key N k J);have eB:Dm (r*c) key k=(((key/2^(N-(k+1)):Nat):Int)) % 2:=by
   unfold Dm;rw[←HN.o];push_cast;congr 2;show _=_;rw[show N-1-k=N-(k+1)from by omega]
  have kH:=Z eB;have vO:=hq.1;have kU:(0:Int)≤(k:Int) / (c:Int):=Int.ediv_nonneg J J;have iB:(k:Int) / (c:Int)<(r:Int):=by rw[←Int.natCast_ediv];omega
  have xC:(0:Int)≤(k:Int) % (c:Int):=Int.emod_nonneg _ J;have xD:(k:Int) % (c:Int)<(c:Int):=Int.emod_lt_of_pos _ J;obtain⟨P,hP⟩:∃P:Nat,P=key/2^(N-(k+1)):=⟨_,rfl⟩;rw[←hP];have HP:=Z hP;have hPb:P≤33554432:=by rw[hP];exact Aj (Nat.div_le_self _ _) oG
  clear aB ai hfree bH eB aD hz aM hP;go_wp2
  go_region
  all_goals
   go_wp2;go_roundw
   case rel=>exact⟨k,_,J,rfl,J,by rw[←oF.o,←HP.o];simp,by have h:=bq.o;rw[kH.o,←HP.o]at h;exact h,(aA.setCell vO _).drew,by show(wr.setCell _ _).heap.size=_;rw[As];exact bX.o⟩
   case measure=>simp[intOf]
theorem Kt(v v2:Value)(xs ys:U)(w:World)(hv:Au w v xs)(aS:Au w v2 ys):Calls Tryz.prog 303 #[v,v2] w fun e w'=>e=.returned (.bool (decide (xs=ys)))∧∃n,w'=w.drewN n:=by
 obtain⟨a,cap,rfl,ae,cJ,-,hc⟩:=hv;obtain⟨a2,cap2,rfl,dc,hle2,-,cM⟩:=aS;by_cases hl:xs.length=ys.length
 ·have eJ:xs.length≤ys.length:=J;have fl:ys.length≤xs.length:=J;have Hl:=Z hl;clear hl;go_enter Tryz.func303,Tryz.ntmps303;go_wp2;go_loopw [5,6,14] (fun _ _ i wr=>∃k:Nat,k≤xs.length∧i=.int .i64 k∧xs.take k=ys.take k∧∃n,wr=w.drewN n) (fun _ _ i _=>xs.length-(intOf i).toNat);exact⟨0,A7 _,rfl,rfl,0,rfl⟩;obtain⟨k,hk,rfl,cu,n,rfl⟩:=hrel;have gC:=Z cu;clear cu;by_cases aF:k<xs.length
  ·obtain⟨b,off,rfl,hb,bO⟩:=hc J;obtain⟨x,hx⟩:∃x,xs[k]? =some x:=⟨_,A3 aF⟩;obtain⟨u,aW,rfl,-⟩:=bO k x hx;obtain⟨b2,off2,rfl,af,hc2'⟩:=cM J;obtain⟨y,hy⟩:∃y,ys[k]? =some y:=⟨_,A3 J⟩;obtain⟨u2,dw,rfl,-⟩:=hc2' k y hy;have bW:k<ys.length:=J;have Hx:=Z hx;have Hy:=Z hy;clear hx hc bO hy cM hc2';by_cases cK:x=y
   ·subst cK;go_wp2
    try(go_quiet (fail))
    go_wp2;go_roundw;exact⟨k+1,J,by go_num,F8 gC.o Hx.o Hy.o,_,rfl⟩;exact Jv
   ·have aK:(x==y)=false:=by simpa using cK
    have r7:=Z cK;clear cK;go_wp2
    try(go_quiet (fail))
    go_wp2
    go_ret
    exact⟨AW (Eq.symm (by simp;intro h;have h1:=Hx.o;rw[h,Hy.o]at h1;exact r7.o (Option.some.inj h1).symm)),_,rfl⟩
  ·go_wp2
   go_ret
   exact⟨AW (Eq.symm (by have h:=gC.o;have hl:=Hl.o;rw[A9 J,A9 J]at h;simp[h])),n,rfl⟩
 ·have aK:decide (xs=ys)=false:=by simp;intro h;exact hl (by rw[h])
  rw[aK];clear aK;have vT:((xs.length:Int)==(ys.length:Int))=false:=by simp;omega
  go_enter Tryz.func303,Tryz.ntmps303;go_wp2
  go_ret
  exact⟨rfl,0,rfl⟩
theorem RT(v:Value)(rs:U)(n:Nat)(w:World)(hv:Au w v rs)(h1:1≤n)(h2:n≤5):Calls Tryz.prog 300 #[v,.int .i64 n] w (N7 32 (Ag 3 Ap) w (BC rs n)):=by
 have bV:C1 1 5 n=true:=Ft J J;obtain⟨N,hN⟩:∃N:Nat,N=2^n:=⟨_,rfl⟩;have hN32:N≤32:=by rw[hN];exact OW h2
 have je:wrap64 ((2:Int)^n)=(N:Int):=by rw[hN];exact XN h2
 have HN:=Z hN;clear hN;go_enter Tryz.func300,Tryz.ntmps300;go_wp2_with (first|(go_at_call 201;refine(Bd _ _ _ _).mono ?_;rintro e w' ⟨rfl,rfl⟩));have dC:=Z bV;clear bV;go_loopw [5,6,7] (fun v i _ wr=>∃k:Nat,k≤N∧i=.int .i64 k∧Ag 32 (Ag 3 Ap) (Iv w.heap.size wr.heap.size) wr v (Er n rs k)∧Below w.heap.size w wr) (fun _ i _ _=>N-(intOf i).toNat);exact⟨0,A7 _,rfl,BK _ _ _ (Ab A8),Below.qab _ _⟩;obtain⟨k,hk,rfl,aB,aA⟩:=hrel;obtain⟨wo,rfl⟩:∃wo:World,wo=wr:=⟨_,rfl⟩;have bD:=aA.size;have aC:=Z aB;clear aB;by_cases aF:k<N
 ·have lZ:=Z (OK n rs k);have r8:(Er n rs k).length<1099511627776:=by have:=Jf n rs k;omega
  have eU:=Fd n k;have aj:=O0 (B6 n k);have fp:(B6 n k).length≤5:=J;have ny:=Z eU;clear eU;go_wp2_with fail;refine(SE 1 n k _ Jq Jq J J J).mono ?_;rintro e w3 ⟨v3,rfl,bC,hbel3⟩;rw[A1C]at bC;have s3:=hbel3.size;have dg:=aA.qaa hbel3 (A2 _);obtain⟨g,cap,rfl,hg,ae,-,-⟩:=bC.qac Jj;obtain⟨-,-,-,-,T,u,aH,hr,hT,-⟩:=bC.qal (Ab A8) (k:=0) (x:=B6 n k) rfl;have j8:=(Ab A8).mono (fun b hb=>(hT b hb).1) hr;obtain⟨q,cq,rfl,-⟩:=hr.qac (by rw[ny.o];omega);rw[ny.o]at aH j8;have ff:([B6 n k]:I).length=1:=rfl;rw[ff]at ae⊢;clear hr hT ff bC;go_wp2_with fail;refine(WO _ _ _ j8.ints J).mono ?_;rintro e w5 ⟨v5,rfl,hown5,hbel5⟩;have s5:=hbel5.size;have vU:=dg.qaa hbel5 (A2 _);go_wp2_with fail;refine(Kt _ _ _ _ _ hown5.ints (hv.keep vU)).mono ?_;rintro e w' ⟨rfl,n6,rfl⟩;have iw:Below wo.heap.size wo (w5.drewN n6):=below_drewN (hbel3.qaa hbel5 (A2 _)) n6;have aQ:=below_drewN vU n6;have bt:Ag 3 Ap (Iv wo.heap.size (w5.drewN n6).heap.size) (w5.drewN n6) (.slice (some ⟨q,0,none⟩) n cq) (B6 n k):=
   Ag.grow A8 j8 (A2 _) (below_drewN hbel5 n6)
  have tk:wo.heap.size≤(w5.drewN n6).heap.size:=by show wo.heap.size≤w5.heap.size;omega
  have gP:=Z bt;clear bt j8;by_cases he:C3 (B6 n k)=rs
  ·have hd:decide (C3 (B6 n k)=rs)=true:=by simp[he]
   have He:=Z he;clear he;go_wp2_with (first|(at_builtin;refine AH rfl _ _ 31 rfl (Ab A8) 32 Tryz.underlying31 EI rfl Jq w.heap.size wo.heap.size bD tk rfl rfl (by exact Ag.keep (Ab A8) aC.o iw (A2 _)) (by exact gP.o) r8 ?_;intro v7 w7 hown7 jP _));have hb7:=aQ.trans jP;have jQ:=Z hown7;clear hown7;go_wp2;go_roundw;exact⟨k+1,J,by go_num,by rw[lZ.o,if_pos He.o];exact jQ.o,hb7⟩;exact Jv
  ·have hd:decide (C3 (B6 n k)=rs)=false:=by simp[he]
   have He:=Z he;clear he;go_wp2;go_roundw;exact⟨k+1,J,by go_num,by rw[lZ.o,if_neg He.o];exact Ag.grow (Ab A8) aC.o (A2 _) iw,aQ⟩;exact Jv
 ·go_wp2
  go_ret
  obtain rfl:k=N:=J;refine⟨_,rfl,?_,aA⟩;have h:=aC.o;rw[HN.o]at h;exact h
theorem A4V{b b':Bool}(h:b=b'):Ending.returned (.tuple #[v,.bool b])=Ending.returned (.tuple #[v,.bool b']):=by rw[h]
theorem VY{st line:U}(hk:k<line.length)(h:MI st line k=false):K5 st line=false:=by
 unfold K5 Fs;rw[List.all_eq_false];exact⟨k,by simpa using hk,by simp[h]⟩
theorem A2n{x:Int}(h:C1 (-1) 1 x=true):x=-1∨x=0∨x=1:=by rw[Bz]at h;omega
theorem WE(v v2:Value)(line st:U)(w:World)(hv:Au w v line)(aS:Au w v2 st)(hl:st.length=line.length)(hs:st.all (C1 (-1) 1)=true):Calls Tryz.prog 323 #[v,v2] w fun e w'=>e=.returned (.bool (K5 st line))∧w=w':=by
 obtain⟨a,cap,rfl,ae,cJ,-,hc⟩:=hv;obtain⟨a2,cap2,rfl,dc,hle2,-,cM⟩:=aS;have Hl:=Z hl;have Hs:=Z hs;have eJ:st.length≤line.length:=J;have fl:line.length≤st.length:=J;clear hl hs;go_enter Tryz.func323,Tryz.ntmps323;go_wp2;go_loop [5,6,9] (fun _ _ i=>∃k:Nat,k≤st.length∧i=.int .i64 k∧Fs st line k=true) (fun _ _ i=>st.length-(intOf i).toNat);exact⟨0,A7 _,rfl,rfl⟩;obtain⟨k,hk,rfl,fe⟩:=hrel;have iq:=Z fe;clear fe;by_cases aF:k<st.length
 ·obtain⟨b,off,rfl,hb,bO⟩:=hc J;obtain⟨y,hy⟩:∃y,line[k]? =some y:=⟨_,A3 J⟩;obtain⟨u,aW,rfl,-⟩:=bO k y hy;obtain⟨b2,off2,rfl,af,hc2'⟩:=cM J;obtain⟨x,hx⟩:∃x,st[k]? =some x:=⟨_,A3 aF⟩;obtain⟨u2,dw,rfl,-⟩:=hc2' k x hx;have hxv:=A2n (Ar.1 Hs.o x (A4 hx));have bW:k<line.length:=J;have He:=Z (NP hx hy);have Hsu:=Z (Nf st line k);clear hc bO cM hc2' hx hy;by_cases bj:x=-1
  ·subst bj;clear hxv;go_wp2
   go_round
   exact⟨k+1,J,by go_num,by rw[Hsu.o,iq.o,He.o];rfl⟩;exact Jv
  ·have eR:decide (x<0)=false:=by simp;omega
   have Hx0:=Z eR;by_cases cK:x=y
   ·subst cK;have aK:(x==-1)=false:=by simpa using bj
    clear hxv eR;go_wp2
    go_round
    exact⟨k+1,J,by go_num,by rw[Hsu.o,iq.o,He.o,Hx0.o];simp⟩;exact Jv
   ·have aK:(x==-1)=false:=by simpa using bj
    have gh:(x==y)=false:=by simpa using cK
    have Hne2:=Z gh;have Hf:=Z (VY bW (by rw[He.o,Hx0.o,gh];rfl));clear hxv eR cK;go_wp2
    go_ret
    exact⟨AW Hf.o.symm,rfl⟩
 ·have Hf:=Z (show K5 st line=true from by unfold K5;rw[show line.length=k from by omega];exact iq.o);go_wp2
  go_ret
  exact⟨AW Hf.o.symm,rfl⟩
theorem A1k{w':World}{r:Option U}{e:Ending}(h:XK w r e w'):∃v',e=.returned (.tuple #[v',.bool r.isSome])∧Ag 3 Ap (Iv w.heap.size w'.heap.size) w' v' (r.getD [])∧Below w.heap.size w w':=by
 obtain⟨h1,h2⟩:=h;cases r with
 |none=>exact⟨_,h2,Ag.nil _ _ _ _,h1⟩
 |some o=>obtain⟨v',e,ho⟩:=h2;exact⟨v',e,ho,h1⟩
theorem P8(v v2:Value)(rs st:U)(w:World)(hv:Au w v rs)(aS:Au w v2 st):Calls Tryz.prog 249 #[v,v2] w fun e w'=>∃v',e=.returned (.tuple #[v',.bool (BA rs st).isSome])∧Ag 3 Ap (Iv w.heap.size w'.heap.size) w' v' ((BA rs st).getD [])∧Below w.heap.size w w':=
 (WK v v2 rs st w hv aS).mono fun _ _ h=>A1k h
def Gg(w w1 wr:World):Bk:=fun b=>(b=w.heap.size∨w1.heap.size≤b)∧b<wr.heap.size
theorem VG(v v2:Value)(rs st:U)(w:World)(hv:Au w v rs)(aS:Au w v2 st):Calls Tryz.prog 319 #[v,v2] w fun e w'=>∃v',e=.returned (.tuple #[v',.bool (BA rs st).isSome])∧Ag 3 Ap (Iv w.heap.size w'.heap.size) w' v' ((BA rs st).getD [])∧Below w.heap.size w w':=by
 obtain⟨a2,cap2,rfl,dc,hle2,-,cM⟩:=id aS;cases bV:C1 1 5 st.length
 ·have Hr:=Z (show BA rs st=none from by simp[BA,Is,bV]);go_enter Tryz.func319,Tryz.ntmps319;go_wp2_with (first|(go_at_call 201;refine(Bd _ _ _ _).mono ?_;rintro e w' ⟨rfl,rfl⟩))
  go_ret2
  rw[Hr.o];exact⟨_,rfl,Ag.nil _ _ _ _,A6 _ _⟩
 have hb:=Bz.1 bV;have ep:1≤st.length:=J;have f9:st.length≤5:=J;clear hb;go_enter Tryz.func319,Tryz.ntmps319;go_wp2_with (first|(go_at_call 201;refine(Bd _ _ _ _).mono ?_;rintro e w' ⟨rfl,rfl⟩));have dC:=Z bV;clear bV;go_loop [7,19] (fun _ i=>∃k:Nat,k≤st.length∧i=.int .i64 k∧(st.take k).all (C1 (-1) 1)=true) (fun _ i=>st.length-(intOf i).toNat);exact⟨0,A7 _,rfl,rfl⟩;obtain⟨k,hk,rfl,aQ⟩:=hrel;have aT:=Z aQ;clear aQ;by_cases aF:k<st.length
 ·obtain⟨b,off,rfl,-,bO⟩:=cM J;obtain⟨x,hx⟩:∃x,st[k]? =some x:=⟨_,A3 aF⟩;obtain⟨u,aW,rfl,-⟩:=bO k x hx;have Hs:=Z (BX (C1 (-1) 1) hx);have Hx:=Z hx;clear hx cM bO;cases bV:C1 (-1) 1 x
  ·have Hf:=Z (BM _ Hx.o bV);have Hr:=Z (show BA rs st=none from by simp[BA,Is,Hf.o]);go_wp2_with (first|(go_at_call 201;refine(Bd _ _ _ _).mono ?_;rintro e w' ⟨rfl,rfl⟩))
   go_ret2
   rw[Hr.o];exact⟨_,rfl,Ag.nil _ _ _ _,A6 _ _⟩
  ·have Hinx:=Z bV;go_wp2_with (first|(go_at_call 201;refine(Bd _ _ _ _).mono ?_;rintro e w' ⟨rfl,rfl⟩))
   go_round
   exact⟨k+1,J,by go_num,by rw[Hs.o,aT.o,Hinx.o];rfl⟩;exact Jv
 ·have tP:=Z (DR aT.o J);have hok:Is st=true:=by simp[Is,dC.o,tP.o]
  have Hr:=Z (show BA rs st=Cg (BC rs st.length) st (BC rs st.length).length from by simp[BA,hok]);obtain⟨L,hL⟩:∃L,L=BC rs st.length:=⟨_,rfl⟩;rw[←hL]at Hr;have cj:∀l∈L,l.length=st.length∧∀x∈l,0≤x∧x≤1:=fun l hl=>Jn (by rw[hL]at hl;exact hl);have vJ:L.length≤32:=by rw[hL];exact Aj (Jf _ _ _) (OW f9)
  have nT:Below w.heap.size w (w.alloc (.cells #[] 3)):=Below.qab _ _;have cV:=RT v rs st.length _ (hv.keep nT) ep f9;rw[←hL]at cV;have r9:=Z (fun k hk o ho=>Lr (n:=st.length) (rs:=rs) (st:=st) k hk o ho);rw[←hL]at r9;have dQ:=Z cj;have bG:=Z cV;clear hL cj cV hok aT;go_wp2_with fail;refine bG.o.mono ?_;rintro e w1 ⟨v1,rfl,hownL,hbel1⟩;have cQ:=hbel1.size;have hs1':w.heap.size+1≤w1.heap.size:=by simpa using cQ
  have rf:Below w.heap.size w w1:=nT.qaa hbel1 (A2 _);have cR:Ag 3 Ap (Gg w w1 w1) w1 (.slice (some ⟨w.heap.size,0,none⟩) 0 0) []:=by
   have h0:=BK (R:=Ap) w 3 w.heap.size A8;have h1:=Ag.keep A8 h0 hbel1 (A2 _);exact(Ab A8).mono (fun b hb=>by
    have h1:=hb.1;have h2:=hb.2;simp at h2;exact⟨.inl J,J⟩) h1
  have iN:∀b,Iv (w.alloc (.cells #[] 3)).heap.size w1.heap.size b→w.heap.size<b∧b<w1.heap.size:=fun b hb=>⟨by have:=hb.1;simp at this;omega,hb.2⟩;obtain⟨SL,hSL⟩:∃SL:Bk,SL=Iv (w.alloc (.cells #[] 3)).heap.size w1.heap.size:=⟨_,rfl⟩;rw[←hSL]at hownL iN;clear hSL cQ nT;have pL:=Z iN;clear iN;rcases hownL.inv with⟨rfl,hLnil⟩|⟨g,cap,rfl,hg,ae,iG,-⟩
  ·have lb:BA rs st=none:=by rw[Hr.o,hLnil];rfl
   have gg:=Z lb;have oZ:=Z cR;clear hLnil lb hownL cR;go_wp2;refine wp_loop_rounds 1 ?_;rw[rounds_succ];go_wp2
   go_ret2
   rw[gg.o];exact⟨_,rfl,(Ab A8).mono (fun b hb=>⟨by rcases hb.1 with h|h<;>omega,hb.2⟩) oZ.o,rf⟩
  ·have oZ:=Z cR;have dI:=Z hownL;clear cR hownL;go_wp2;go_loopw [8,10,11,12,33] (fun v8 _ _ _ i wr=>∃k:Nat,k≤L.length∧i=.int .i64 k∧Ag 3 Ap (Gg w w1 wr) wr v8 ((Cg L st k).getD [])∧Ag 32 (Ag 3 Ap) SL wr (.slice (some ⟨g,0,none⟩) L.length cap) L∧Below w.heap.size w wr∧w1.heap.size≤wr.heap.size) (fun _ _ _ _ i _=>L.length-(intOf i).toNat);exact⟨0,A7 _,rfl,oZ.o,dI.o,rf,A2 _⟩;clear oZ dI rf;obtain⟨k,hk,rfl,bR,hownL,aA,aM⟩:=hrel;obtain⟨wo,rfl⟩:∃wo:World,wo=wr:=⟨_,rfl⟩;by_cases aF:k<L.length
   ·obtain⟨line,bt⟩:∃l,L[k]? =some l:=⟨_,A3 aF⟩;obtain⟨dN,hlb⟩:=dQ.o line (A4 bt);obtain⟨-,-,-,-,T,u,aH,hr,hT,-⟩:=hownL.qal (Ab A8) bt;have vX:Au wo u line:=hr.ints;have j8:Ag 3 Ap SL wo u line:=(Ab A8).mono (fun b hb=>(hT b hb).1) hr;obtain⟨q,cq,rfl,hqS,dj,-,-⟩:=j8.qac J;rw[dN]at aH vX j8 dj;have hqL:=pL.o q hqS;have sP:∀(x:Nat)(o:Int),line[x]? =some o→wo.cell? ⟨q,x,none⟩=some (.int .i64 o):=fun x o h=>vX.at0 h;have eA:=Z (IB (st:=st) bt);have vY:=WE _ _ line st wo vX (aS.keep aA) dN.symm tP.o;have Hagc:=Z vY;have Hqc:=Z sP;have rh:=Z j8;have HlR:=Z vX;have eT:=Z dN;have dT:=Z bR;have dI:=Z hownL;have hwg:w.heap.size≤wo.heap.size:=aA.size;clear bt hlb hr hT vX j8 sP vY dN bR hownL;go_wp2_with fail;refine Hagc.o.mono ?_;rintro e w' ⟨rfl,rfl⟩;cases fe:K5 st line
    ·have aG:=Z (show Cg L st (k+1)=Cg L st k from by rw[eA.o];simp[FY,fe]);go_wp2;go_roundw;exact⟨k+1,J,by go_num,by rw[aG.o];exact dT.o,dI.o,aA,aM⟩;exact Jv
    ·have dO:Cg L st (k+1)=some (match Cg L st k with|none=>line|some o=>Fn o line):=by
      rw[eA.o];unfold FY;rw[fe];rfl
     clear fe;cases bY:Cg L st k with
     |none=>
      have bR:=dT.o;rw[bY]at dO bR;have bT:=Z dO;have gU:([]:U).length+line.length≤1099511627776:=by rw[eT.o];simp;omega
      obtain⟨y1,y2,y3,rfl⟩:=bR.shape;have hz:y2=0:=bR.ints.len;subst hz;have iy:=Z bR;clear dO bR bY;go_wp2_with (first|(at_builtin;refine DM rfl _ _ 32 rfl 3 Tryz.underlying32 Bg rfl (Gg w w1 wo) rfl rfl (by exact iy.o) (by exact HlR.o) gU ?_;intro v7 w7 hown7 honly7 _));have gS:Ag 3 Ap (Gg w w1 w7) w7 v7 line:=by
       have h:=(Ab A8).mono (S':=Gg w w1 w7) (fun b hb=>by
        rcases hb with hb|hb
        ·exact⟨hb.1,Aa hb.2 honly7.size⟩
        ·exact⟨.inr J,hb.2⟩) hown7
       simpa using h
      have ri:∀b,SL b→¬((Value.slice y1 0 y3).ownBlock=some b):=fun b hb he=>by
       have h1:=pL.o b hb;have h2:=Ag.qae iy.o b he;rcases h2.1 with h3|h3<;>omega
      have mz:∀b,SL b→b<wo.heap.size:=fun b hb=>by have:=pL.o b hb;omega
      have nA:=Ag.only (Ab A8) dI.o honly7 mz ri;have hr7:=Ag.only A8 rh.o honly7 mz ri;have vZ:=hr7.ints;obtain⟨q7,c7,rfl,-,hc7,-,-⟩:=gS.qac (by rw[eT.o];omega);have h7R:=gS.ints;rw[eT.o]at hc7 h7R gS⊢;have jP:Below w.heap.size w w7:=aA.trans (honly7.below hwg fun b hb=>by have h2:=Ag.qae iy.o b hb;rcases h2.1 with h3|h3<;>omega);have hsz7:w1.heap.size≤w7.heap.size:=Aj aM honly7.size;have jQ:=Z gS;have rj:=Z nA;have H7R:=Z h7R;have HlR7:=Z vZ;clear hown7 gS ri mz nA hr7 h7R vZ honly7;go_wp2;go_loop [11,12,49] (fun _ _ i=>∃j:Nat,j≤st.length∧i=.int .i64 j) (fun _ _ i=>st.length-(intOf i).toNat);exact⟨0,A7 _,rfl⟩;obtain⟨i,hi,rfl⟩:=hrel;by_cases hlt3:i<st.length
      ·obtain⟨c,hc⟩:∃c,line[i]? =some c:=⟨_,A3 (by rw[eT.o];exact hlt3)⟩;have cP:=HlR7.o.at0 hc;have kv:=H7R.o.at0 hc;clear hc;go_wp2
       go_round
       exact⟨i+1,J,by go_num⟩;exact Jv
      ·go_wp2;go_roundw;exact⟨k+1,J,by go_num,by rw[bT.o];exact jQ.o,rj.o,jP,hsz7⟩;exact Jv
     |some o=>
      have bR:=dT.o;rw[bY]at dO bR;obtain⟨gt,-⟩:=r9.o _ J o bY;have bR:Ag 3 Ap (Gg w w1 wo) wo u8 o:=bR;obtain⟨q7,c7,rfl,hq7,hc7,-,-⟩:=bR.qac J;rw[gt]at hc7 bR;have hnz:((o.length:Int)==0)=false:=by rw[Ai];omega
      rw[gt]at hnz⊢;have ve:∀b,SL b→b≠q7:=fun b hb e=>by
       have h1:=pL.o b hb;rcases hq7.1 with h3|h3<;>omega
      have hq7B:w.heap.size≤q7:=by rcases hq7.1 with h3|h3<;>omega
      have jV:o.length=line.length:=by rw[gt,eT.o]
      have pl:Ag 3 Ap (Gg w w1 wo) wo (.slice (some ⟨q7,0,none⟩) st.length c7) (Dh o line 0):=by rw[Ou];exact bR
      have bT:=Z dO;have pm:=Z pl;have ma:=Z gt;have eZ:=Z jV;have Hq7L:=Z ve;clear dO bY gt bR jV pl dT ve;go_wp2;go_loopw [11,12,49] (fun _ _ i wr=>∃j:Nat,j≤st.length∧i=.int .i64 j∧Ag 3 Ap (Gg w w1 wo) wr (.slice (some ⟨q7,0,none⟩) st.length c7) (Dh o line j)∧Ag 32 (Ag 3 Ap) SL wr (.slice (some ⟨g,0,none⟩) L.length cap) L∧Ag 3 Ap SL wr (.slice (some ⟨q,0,none⟩) st.length cq) line∧Below w.heap.size w wr∧wr.heap.size=wo.heap.size) (fun _ _ i _=>st.length-(intOf i).toNat);exact⟨0,A7 _,rfl,pm.o,dI.o,rh.o,aA,rfl⟩;clear pm dI rh aA;obtain⟨i,hi,rfl,hownM,hownL,j8,aA,hszr⟩:=hrel;have vf:=Z hszr;by_cases hlt3:i<st.length
      ·obtain⟨c,hc⟩:∃c,line[i]? =some c:=⟨_,A3 (by rw[eT.o];exact hlt3)⟩;obtain⟨a,ha⟩:∃a,o[i]? =some a:=⟨_,A3 (by rw[ma.o];exact hlt3)⟩;have bF:=Mn eZ.o i;have rc:=Oa eZ.o ha;have cP:=j8.ints.at0 hc;obtain⟨hca,hfa,-⟩:=hownM.qaf rc;by_cases lg:a=c
       ·subst lg;have gO:=Z (OC eZ.o ha hc);have gQ:=Z hownM;have dI:=Z hownL;have rh:=Z j8;clear hc ha rc hownM hownL j8 bF hszr;go_wp2;go_roundw;exact⟨i+1,J,by go_num,by rw[gO.o];exact gQ.o,dI.o,rh.o,aA,vf.o⟩;exact Jv
       ·have aK:(a==c)=false:=by simpa using lg
        have gR:=KD eZ.o ha hc;rw[show Fz a c=-1 from by simp[Fz,lg]]at gR;have bH:=hownM.qak (k:=i) (c:=-1) (by rw[bF,ma.o];exact hlt3) (Cc.small Jq Jq);rw[←gR]at bH;have cO:Jb SL wr (wr.setCell ⟨q7,i,none⟩ (.int .i64 (-1))):=fun b hb=>Below.heap_setCell wr _ _ b (Hq7L.o b hb);have nB:=(Ab (Ab A8)).same cO hownL;have vg:=(Ab A8).same cO j8;have bq:=Z bH;have dI:=Z nB;have rh:=Z vg;clear hc ha rc hownM hownL j8 bF gR bH cO nB vg hszr;go_wp2;go_roundw;exact⟨i+1,J,by go_num,bq.o,dI.o,rh.o,aA.setCell hq7B _,by rw[As,vf.o]⟩;exact Jv
      ·have my:i=line.length:=by have:=eT.o;omega
       have gQ:=Z (show Ag 3 Ap (Gg w w1 wr) wr (.slice (some ⟨q7,0,none⟩) st.length c7) (Fn o line)from by
        rw[←Qf eZ.o,←my];exact(Ab A8).mono (fun b hb=>⟨hb.1,by rw[hszr];exact hb.2⟩) hownM)
       have dI:=Z hownL;have hszw:w1.heap.size≤wr.heap.size:=J;clear hownM my hownL j8 hszr;go_wp2;go_roundw;exact⟨k+1,J,by go_num,by rw[bT.o];exact gQ.o,dI.o,aA,hszw⟩;exact Jv
   ·have hkL:k=L.length:=J;subst hkL;have aE:Ag 3 Ap (Iv w.heap.size wo.heap.size) wo u8 ((BA rs st).getD []):=by
     rw[Hr.o];exact(Ab A8).mono (fun b hb=>⟨by rcases hb.1 with h|h<;>omega,hb.2⟩) bR
    obtain⟨y1,y2,y3,rfl⟩:=bR.shape;have lV:=bR.ints.len;cases bY:Cg L st L.length with
    |none=>
     rw[bY]at lV;have ja:y2=0:=lV;subst ja;have dh:=Z (show(BA rs st).isSome=false from by rw[Hr.o,bY];rfl);have aU:=Z aE;clear bR hownL lV bY aE;go_wp2
     go_ret2
     rw[dh.o];exact⟨_,rfl,aU.o,aA⟩
    |some o=>
     rw[bY]at lV;have lV:y2=o.length:=lV;obtain⟨gt,-⟩:=r9.o _ (A2 _) o bY;have aZ:0<y2:=J;have dh:=Z (show(BA rs st).isSome=true from by rw[Hr.o,bY];rfl);have aU:=Z aE;have hd:decide ((0:Int)<(y2:Int))=true:=by simp;omega
     have hol1:1≤o.length:=J;clear bR hownL lV bY aE gt;go_wp2
     go_ret2
     rw[dh.o];exact⟨_,A4V (by simp;omega),aU.o,aA⟩
theorem Nh(v v2:Value)(xs ys:I)(w:World)(hv:AI w v xs)(aS:AI w v2 ys):Calls Tryz.prog 299 #[v,v2] w fun e w'=>e=.returned (.bool (decide (xs=ys)))∧∃n,w'=w.drewN n:=by
 have Hv:=Z hv;have aY:=Z aS;obtain⟨a,cap,rfl,ae,cJ,-,-⟩:=hv;obtain⟨a2,cap2,rfl,dc,hle2,-,-⟩:=aS;by_cases hl:xs.length=ys.length
 ·have eJ:xs.length≤ys.length:=J;have fl:ys.length≤xs.length:=J;have Hl:=Z hl;clear hl;have hbe:((xs.length:Int) !=(ys.length:Int))=false:=by rw[bne_eq_false_iff_eq];omega
  have hbe2:((xs.length:Int)==(ys.length:Int))=true:=by rw[beq_iff_eq];omega
  go_enter Tryz.func299,Tryz.ntmps299;go_wp2;go_loopw [4,5,6,14] (fun _ _ _ i wr=>∃k n:Nat,k≤xs.length∧i=.int .i64 k∧xs.take k=ys.take k∧wr=w.drewN n) (fun _ _ _ i _=>xs.length-(intOf i).toNat);exact⟨0,0,A7 _,rfl,rfl,rfl⟩;obtain⟨k,n,hk,rfl,cu,rfl⟩:=hrel;have gC:=Z cu;clear cu;by_cases aF:k<xs.length
  ·obtain⟨x,hx⟩:∃x,xs[k]? =some x:=⟨_,A3 aF⟩;obtain⟨y,hy⟩:∃y,ys[k]? =some y:=⟨_,A3 J⟩;obtain⟨b,off,c1,he,hb,-⟩:=Hv.o.qac J;obtain⟨rfl,-⟩:a=some ⟨b,off,none⟩∧cap=c1:=by simpa using he
   obtain⟨b2,off2,c2,dX,af,-⟩:=aY.o.qac J;obtain⟨rfl,-⟩:a2=some ⟨b2,off2,none⟩∧cap2=c2:=by simpa using dX
   obtain⟨u,aW,hu⟩:=Sl.at Hv.o hx;obtain⟨u2,dw,eO⟩:=Sl.at aY.o hy;have hu:Au w u x:=hu;have eO:Au w u2 y:=eO;obtain⟨p1,p2,rfl,-⟩:=id hu;obtain⟨q1,q2,rfl,-⟩:=id eO;have Hu:=Z (hu.keep (below_drewN (A6 _ _) n));have jk:=Z (eO.keep (below_drewN (A6 _ _) n));have Hx:=Z hx;have Hy:=Z hy;clear hx hy he dX hu eO;by_cases cK:x=y
   ·subst cK;go_wp2_with fail;refine(Kt _ _ x x _ Hu.o jk.o).mono ?_;rintro e w' ⟨rfl,m,rfl⟩;rw[decide_eq_true (rfl:x=x)];go_wp2;go_roundw;exact⟨k+1,n+m,J,by go_num,F8 gC.o Hx.o Hy.o,by first|rfl|exact World.drewN_drewN _ _ _⟩;exact Jv
   ·have Hd:=Z (show decide (x=y)=false from by simpa using cK);have Hne:=Z cK;clear cK;go_wp2_with fail;refine(Kt _ _ x y _ Hu.o jk.o).mono ?_;rintro e w' ⟨rfl,m,rfl⟩;rw[Hd.o];go_wp2
    go_ret
    exact⟨AW (Eq.symm (by simp;intro h;have h1:=Hx.o;rw[h,Hy.o]at h1;exact Hne.o (Option.some.inj h1).symm)),n+m,rfl⟩
  ·have dM:decide ((k:Int)<(xs.length:Int))=false:=by simp;omega
   go_wp2
   go_ret
   exact⟨AW (Eq.symm (by have h:=gC.o;have hl:=Hl.o;rw[A9 J,A9 J]at h;simp[h])),n,rfl⟩
 ·have aK:decide (xs=ys)=false:=by simp;intro h;exact hl (by rw[h])
  rw[aK];clear aK;have vT:((xs.length:Int)==(ys.length:Int))=false:=by simp;omega
  go_enter Tryz.func299,Tryz.ntmps299;go_wp2
  go_ret
  exact⟨rfl,0,rfl⟩
theorem Nq(v v2:Value)(xs ys:I)(w:World)(hv:AI w v xs)(aS:AI w v2 ys):Calls Tryz.prog 299 #[v,v2] w fun e w'=>e=.returned (.bool (decide (xs=ys)))∧Below w.heap.size w w':=
 (Nh v v2 xs ys w hv aS).mono fun _ _ ⟨he,n,hn⟩=>⟨he,by subst hn;exact below_drewN (A6 _ _) n⟩
theorem A0x(v v2:Value)(xs ys:U)(w:World)(hv:Au w v xs)(aS:Au w v2 ys):Calls Tryz.prog 248 #[v,v2] w fun e w'=>e=.returned (.bool (decide (xs=ys)))∧∃n,w'=w.drewN n:=by
 go_enter Tryz.func248,Tryz.ntmps248;go_wp2_with fail;refine(MV _ _ xs ys _ hv aS).mono ?_;rintro e w' ⟨rfl,m,rfl⟩;go_wp2
 go_ret
 exact⟨rfl,m,rfl⟩
theorem Xn(v v2:Value)(xs ys:I)(w:World)(hv:AI w v xs)(aS:AI w v2 ys):Calls Tryz.prog 247 #[v,v2,.func (.func 248) #[] #[]] w fun e w'=>e=.returned (.bool (decide (xs=ys)))∧∃n,w'=w.drewN n:=by
 have Hv:=Z hv;have aY:=Z aS;obtain⟨a,cap,rfl,ae,cJ,-,-⟩:=hv;obtain⟨a2,cap2,rfl,dc,hle2,-,-⟩:=aS;by_cases hl:xs.length=ys.length
 ·have eJ:xs.length≤ys.length:=J;have fl:ys.length≤xs.length:=J;have Hl:=Z hl;clear hl;have hbe:((xs.length:Int) !=(ys.length:Int))=false:=by rw[bne_eq_false_iff_eq];omega
  have hbe2:((xs.length:Int)==(ys.length:Int))=true:=by rw[beq_iff_eq];omega
  go_enter Tryz.func247,Tryz.ntmps247;go_wp2;go_loopw [7,8,9,17] (fun _ _ _ i wr=>∃k n:Nat,k≤xs.length∧i=.int .i64 k∧xs.take k=ys.take k∧wr=w.drewN n) (fun _ _ _ i _=>xs.length-(intOf i).toNat);exact⟨0,0,A7 _,rfl,rfl,rfl⟩;obtain⟨k,n,hk,rfl,cu,rfl⟩:=hrel;have gC:=Z cu;clear cu;by_cases aF:k<xs.length
  ·obtain⟨x,hx⟩:∃x,xs[k]? =some x:=⟨_,A3 aF⟩;obtain⟨y,hy⟩:∃y,ys[k]? =some y:=⟨_,A3 J⟩;obtain⟨b,off,c1,he,hb,-⟩:=Hv.o.qac J;obtain⟨rfl,-⟩:a=some ⟨b,off,none⟩∧cap=c1:=by simpa using he
   obtain⟨b2,off2,c2,dX,af,-⟩:=aY.o.qac J;obtain⟨rfl,-⟩:a2=some ⟨b2,off2,none⟩∧cap2=c2:=by simpa using dX
   obtain⟨u,aW,hu⟩:=Sl.at Hv.o hx;obtain⟨u2,dw,eO⟩:=Sl.at aY.o hy;have hu:Au w u x:=hu;have eO:Au w u2 y:=eO;obtain⟨p1,p2,rfl,-⟩:=id hu;obtain⟨q1,q2,rfl,-⟩:=id eO;have Hu:=Z (hu.keep (below_drewN (A6 _ _) n));have jk:=Z (eO.keep (below_drewN (A6 _ _) n));have Hx:=Z hx;have Hy:=Z hy;clear hx hy he dX hu eO;by_cases cK:x=y
   ·subst cK;go_wp2_with fail;refine(A0x _ _ x x _ Hu.o jk.o).mono ?_;rintro e w' ⟨rfl,m,rfl⟩;rw[decide_eq_true (rfl:x=x)];go_wp2;go_roundw;exact⟨k+1,n+m,J,by go_num,F8 gC.o Hx.o Hy.o,by first|rfl|exact World.drewN_drewN _ _ _⟩;exact Jv
   ·have Hd:=Z (show decide (x=y)=false from by simpa using cK);have Hne:=Z cK;clear cK;go_wp2_with fail;refine(A0x _ _ x y _ Hu.o jk.o).mono ?_;rintro e w' ⟨rfl,m,rfl⟩;rw[Hd.o];go_wp2
    go_ret
    exact⟨AW (Eq.symm (by simp;intro h;have h1:=Hx.o;rw[h,Hy.o]at h1;exact Hne.o (Option.some.inj h1).symm)),n+m,rfl⟩
  ·have dM:decide ((k:Int)<(xs.length:Int))=false:=by simp;omega
   go_wp2
   go_ret
   exact⟨AW (Eq.symm (by have h:=gC.o;have hl:=Hl.o;rw[A9 J,A9 J]at h;simp[h])),n,rfl⟩
 ·have aK:decide (xs=ys)=false:=by simp;intro h;exact hl (by rw[h])
  rw[aK];clear aK;have vT:((xs.length:Int)==(ys.length:Int))=false:=by simp;omega
  go_enter Tryz.func247,Tryz.ntmps247;go_wp2
  go_ret
  exact⟨rfl,0,rfl⟩
theorem TO(v v2:Value)(xs ys:I)(w:World)(hv:AI w v xs)(aS:AI w v2 ys):Calls Tryz.prog 178 #[v,v2] w fun e w'=>e=.returned (.bool (decide (xs=ys)))∧∃n,w'=w.drewN n:=by
 go_enter Tryz.func178,Tryz.ntmps178;go_wp2_with fail;refine(Xn _ _ xs ys _ hv aS).mono ?_;rintro e w' ⟨rfl,m,rfl⟩;go_wp2
 go_ret
 exact⟨rfl,m,rfl⟩
theorem Nb(v v2:Value)(xs ys:I)(w:World)(hv:AI w v xs)(aS:AI w v2 ys):Calls Tryz.prog 178 #[v,v2] w fun e w'=>e=.returned (.bool (decide (xs=ys)))∧Below w.heap.size w w':=
 (TO v v2 xs ys w hv aS).mono fun _ _ ⟨he,n,hn⟩=>⟨he,by subst hn;exact below_drewN (A6 _ _) n⟩
end Go.Proofs.YthmocomfjgmjoaaGreatDoor
namespace Go.Proofs.YthmocomfjgmjoaaGreatDoor
def Dz(l:U):Nat:=l.foldl (fun a x=>2*a+x.toNat) 0
theorem A1U(l:U)(x:Int):Dz (l++[x])=2*Dz l+x.toNat:=by simp[Dz]
theorem Ty(n key:Nat):B6 (n+1) key=B6 n (key/2)++[((key % 2:Nat):Int)]:=by
 unfold B6;rw[List.range_succ,List.map_append]
 congr 1
 ·apply List.map_congr_left;intro x hx;have hx:x<n:=by simpa using hx
  have e:n+1-1-x=(n-1-x)+1:=J;rw[e,Nat.pow_succ,Nat.mul_comm,←Nat.div_div_eq_div_mul]
 ·simp
theorem A30{P:U→Prop}(h0:P [])(h1:∀l x,P l→P (l++[x]))(l:U):P l:=by
 have:∀n(l:U),l.length=n→P l:=by
  intro n;induction n with
  |zero=>intro l hl;rw[List.eq_nil_of_length_eq_zero hl];exact h0
  |succ n ih=>
   intro l hl;rcases List.eq_nil_or_concat l with rfl|⟨q,x,rfl⟩
   ·simp at hl
   ·rw[List.concat_eq_append]at hl⊢;exact h1 q x (ih q (by simpa using hl))
 exact this _ l rfl
theorem WV(l:U):(∀x∈l,0≤x∧x≤1)→Dz l<2^l.length∧B6 l.length (Dz l)=l:=by
 refine A30 (P:=fun l=>(∀x∈l,0≤x∧x≤1)→Dz l<2^l.length∧B6 l.length (Dz l)=l) ?_ ?_ l
 ·intro _;simp[Dz,B6]
 ·intro l x ih h;obtain⟨i1,i2⟩:=ih (fun y hy=>h y (by simp[hy]));have hx:=h x Jj;rw[A1U,Ad,List.length_singleton,Nat.pow_succ,Ty];have e1:(2*Dz l+x.toNat) /2=Dz l:=J;have e2:(((2*Dz l+x.toNat) % 2:Nat):Int)=x:=J;rw[e1,e2,i2];exact⟨J,rfl⟩
