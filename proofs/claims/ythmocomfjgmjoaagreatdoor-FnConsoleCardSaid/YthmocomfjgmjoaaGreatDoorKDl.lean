/- The lines of a session that a law draws: contracts of the reference's l01Str, l17Line, l17Script and MakeLines. -/
import Derived.Test.YthmocomfjgmjoaaGreatDoorQ05
set_option maxHeartbeats 2000000
set_option maxRecDepth 100000
namespace Go.Proofs.YthmocomfjgmjoaaGreatDoor
open Go.RowKit
def Ev(t:ByteArray):Prop:=t.size≤100∧(10:UInt8)∉t.data.toList
instance(t:ByteArray):Decidable (Ev t):=inferInstanceAs (Decidable (_∧_))
def L0:List ByteArray:=[⟨#[105,109,97,103,101,32,35,46,47,46,35]⟩,⟨#[105,109,97,103,101,32,35,35,46,47,46,35,35,47,35,46,46]⟩,⟨#[105,109,97,103,101,32,46,35,46,47,35,35,35,47,46,35,46]⟩,⟨#[105,109,97,103,101,32,35,46,35,47,46,35,46]⟩]
theorem A0q:∀t∈L0,Ev t:=by decide+kernel
def S0:List ByteArray:=[⟨#[105,109,97,103,101,32,35,46,47,46,35]⟩,⟨#[105,109,97,103,101,32,35,35,46,47,46,35,35,47,35,46,46]⟩,⟨#[115,117,109,115,32,49,44,49,32,49,44,49]⟩,⟨#[115,117,109,115,32,50,44,49,32,50,44,49]⟩,⟨#[115,117,109,115,32,51,44,48,32,49,44,49,44,49]⟩,⟨#[115,117,109,115,32,50,44,50,44,49,32,50,44,50,44,49]⟩,⟨#[115,117,109,115,32,50,44,50,32,51,44,49]⟩,⟨#[115,117,109,115,32,49,32,49,44,49]⟩]
theorem A42:∀t∈S0,Ev t:=by decide+kernel
def Sq:List ByteArray:=[⟨#[115,104,111,119]⟩,⟨#[98,117,105,108,100]⟩,⟨#[108,101,97,115,116]⟩,⟨#[97,108,108]⟩,⟨#[102,105,120,101,100]⟩,⟨#[99,111,110,118,101,120]⟩,⟨#[114,101,118,101,97,108]⟩,⟨#[114,101,112,97,105,114]⟩,⟨#[112,117,122,122,108,101]⟩]
theorem A3I:∀t∈Sq,Ev t:=by decide+kernel
def Ol:List ByteArray:=[⟨#[115,119,105,116,99,104,32,48,32,49,32,48,32,49]⟩,⟨#[115,119,105,116,99,104,32,48,32,50,32,48,32,50]⟩,⟨#[102,108,105,112,32,48,32,48]⟩,⟨#[102,108,105,112,32,49,32,49]⟩,⟨#[102,108,105,112,32,57,32,48]⟩,⟨#[112,97,116,104,32,46,35,47,35,46]⟩,⟨#[112,97,116,104,32,35,35,47,35,35]⟩,⟨#[110,101,97,114,32,35,46,47,35,46]⟩,⟨#[108,105,110,101,32,49,32,48]⟩,⟨#[108,105,110,101,32,48,32,49]⟩,⟨#[108,105,110,101,32,49,32,49]⟩,⟨#[108,105,110,101,32,49,32,45,49]⟩]
theorem A1v:∀t∈Ol,Ev t:=by decide+kernel
def NZ:List ByteArray:=[⟨#[]⟩,⟨#[35,32,110,111,116,101]⟩,⟨#[119,104,97,116]⟩,⟨#[105,109,97,103,101,32,35,120]⟩,⟨#[105,109,97,103,101,32,35,46,47,35]⟩,⟨#[115,117,109,115,32,49,44,120,32,49]⟩,⟨#[115,117,109,115,32,49]⟩,⟨#[115,119,105,116,99,104,32,48,32,49]⟩,⟨#[102,108,105,112,32,48]⟩,⟨#[112,97,116,104]⟩,⟨#[110,101,97,114,32,35]⟩,⟨#[108,105,110,101,32,50,32,50]⟩,⟨#[115,104,111,119,32,49]⟩,⟨#[115,117,109,115,32,45,32,45]⟩]
theorem A1e:∀t∈NZ,Ev t:=by decide+kernel
theorem Lr(w:World)(t:TypeId)(l:List ByteArray)(hl:l.length≤1000)(hn:∀x∈l,Ev x)(S:Bk)(hS:S w.heap.size):Sl Gd S (w.alloc (.cells (l.map Value.string).toArray t)) (.slice (some ⟨w.heap.size,0,none⟩) l.length l.length) l:=by
 refine⟨some ⟨w.heap.size,0,none⟩,l.length,rfl,Nat.le_refl _,by omega,fun h=>by simp at h,fun h0=>⟨w.heap.size,0,rfl,hS,fun j x hj=>⟨.string x,?_,rfl,by have:=(hn x (List.mem_of_getElem? hj)).1;omega⟩⟩⟩;rw[Nat.zero_add,World.cell?_alloc_new];simp[hj]
theorem Lu(B g b n0:Nat)(l:List ByteArray)(w:World)(h:Re B w g)(hb:b<w.heap.size)(jt:b≠g)(hn:l.length=n0)(hl:Sl Gd (fun x=>x=b) w (.slice (some ⟨b,0,none⟩) l.length l.length) l)(h1:1≤l.length)(h2:l.length≤256):
  Calls Tryz.prog 79 #[.pointer (some ⟨g,0,none⟩),.slice (some ⟨b,0,none⟩) n0 n0] w fun e w'=>∃t,t∈l∧e=.returned (.string t)∧Re B w' g∧Ar (fun x=>x=g) w w'∧w.heap.size=w'.heap.size:=by
 subst hn;have Hl:=Z hl;clear hl;go_enter Tryz.func79,Tryz.ntmps79;go_wp2_with (fail);refine(Nd B g l.length _ (by exact h) (by omega) (by omega)).mono ?_;rintro e w2 ⟨m,⟨nW,sE⟩,rfl,cH,fR,bT⟩;obtain⟨n,rfl⟩:=Int.eq_ofNat_of_zero_le nW;obtain⟨t,ht⟩:∃t,l[n]? =some t:=⟨_,List.getElem?_eq_getElem (by omega)⟩;obtain⟨u,hu,rfl,-⟩:=Sl.at Hl.o ht;rw[Nat.zero_add,←fR.cell (p:=⟨b,n,none⟩) hb jt] at hu;have n9:=Z bT;have Hm:=Z (List.mem_of_getElem? ht);clear bT ht;go_wp2
 go_ret
 exact⟨t,Hm.o,rfl,cH,fR,n9.o⟩
theorem A25(B g:Nat)(w:World)(h:Re B w g):Calls Tryz.prog 81 #[.pointer (some ⟨g,0,none⟩)] w fun e w'=>∃t,Ev t∧e=.returned (.string t)∧Re B w' g∧Ar (fun x=>x=g) w w'∧w.heap.size≤w'.heap.size:=by
 have ai:=h.lt;go_enter Tryz.func81,Tryz.ntmps81;go_wp2_with (fail);refine(Nd B g 4 _ (by exact h) (by decide) (by decide)).mono ?_;rintro e w2 ⟨m,⟨nW,sE⟩,rfl,cH,fR,bT⟩;have n9:=Z bT;have lN:g<w2.heap.size:=by omega
 clear bT;have hm:m=0∨m=1∨m=2∨m=3:=by omega
 rcases hm with rfl|rfl|rfl|rfl
 ·go_wp2_with (fail);have yb:=Below.pureAlloc w2 (.cells (S0.map Value.string).toArray 9);have hl:=Lr w2 9 S0 (by decide) A42 (fun x=>x=w2.heap.size) rfl;refine(Lu B g w2.heap.size 8 S0 (w2.alloc (.cells (S0.map Value.string).toArray 9)) (cH.keep yb) (by simp) (by omega) (by decide) hl (by decide) (by decide)).mono ?_;rintro e w3 ⟨t,ht,rfl,lL,ho3,eB⟩;have ho:Ar (fun x=>x=g) w w3:=(fR.trans' ((Ar.of_pure yb (fun x=>x=g)).mono fun b hb _=>.inl hb)).trans' (ho3.mono fun b hb _=>.inl hb);have hn:=A42 t ht;have aI:w.heap.size≤w3.heap.size:=ho.size;clear hl yb fR ho3 ht eB;go_wp2
  go_ret
  exact⟨t,hn,rfl,lL,ho,aI⟩
 ·go_wp2_with (fail);have yb:=Below.pureAlloc w2 (.cells (Sq.map Value.string).toArray 9);have hl:=Lr w2 9 Sq (by decide) A3I (fun x=>x=w2.heap.size) rfl;refine(Lu B g w2.heap.size 9 Sq (w2.alloc (.cells (Sq.map Value.string).toArray 9)) (cH.keep yb) (by simp) (by omega) (by decide) hl (by decide) (by decide)).mono ?_;rintro e w3 ⟨t,ht,rfl,lL,ho3,eB⟩;have ho:Ar (fun x=>x=g) w w3:=(fR.trans' ((Ar.of_pure yb (fun x=>x=g)).mono fun b hb _=>.inl hb)).trans' (ho3.mono fun b hb _=>.inl hb);have hn:=A3I t ht;have aI:w.heap.size≤w3.heap.size:=ho.size;clear hl yb fR ho3 ht eB;go_wp2
  go_ret
  exact⟨t,hn,rfl,lL,ho,aI⟩
 ·go_wp2_with (fail);have yb:=Below.pureAlloc w2 (.cells (Ol.map Value.string).toArray 9);have hl:=Lr w2 9 Ol (by decide) A1v (fun x=>x=w2.heap.size) rfl;refine(Lu B g w2.heap.size 12 Ol (w2.alloc (.cells (Ol.map Value.string).toArray 9)) (cH.keep yb) (by simp) (by omega) (by decide) hl (by decide) (by decide)).mono ?_;rintro e w3 ⟨t,ht,rfl,lL,ho3,eB⟩;have ho:Ar (fun x=>x=g) w w3:=(fR.trans' ((Ar.of_pure yb (fun x=>x=g)).mono fun b hb _=>.inl hb)).trans' (ho3.mono fun b hb _=>.inl hb);have hn:=A1v t ht;have aI:w.heap.size≤w3.heap.size:=ho.size;clear hl yb fR ho3 ht eB;go_wp2
  go_ret
  exact⟨t,hn,rfl,lL,ho,aI⟩
 ·go_wp2_with (fail);have yb:=Below.pureAlloc w2 (.cells (NZ.map Value.string).toArray 9);have hl:=Lr w2 9 NZ (by decide) A1e (fun x=>x=w2.heap.size) rfl;refine(Lu B g w2.heap.size 14 NZ (w2.alloc (.cells (NZ.map Value.string).toArray 9)) (cH.keep yb) (by simp) (by omega) (by decide) hl (by decide) (by decide)).mono ?_;rintro e w3 ⟨t,ht,rfl,lL,ho3,eB⟩;have ho:Ar (fun x=>x=g) w w3:=(fR.trans' ((Ar.of_pure yb (fun x=>x=g)).mono fun b hb _=>.inl hb)).trans' (ho3.mono fun b hb _=>.inl hb);have hn:=A1e t ht;have aI:w.heap.size≤w3.heap.size:=ho.size;clear hl yb fR ho3 ht eB;go_wp2
  go_ret
  exact⟨t,hn,rfl,lL,ho,aI⟩
theorem A2v{w:World}{E g:Nat}{t:ByteArray}{S:Bk}(h:w.heap[g]? =some (.cells #[.string t] E))(hn:t.size≤9223372036854775807)(hS:S g):A4 E Gd S w (.slice (some ⟨g,0,none⟩) 1 1) [t]:=
 .inr ⟨g,#[.string t],rfl,hS,h,by simp,by simp[maxLen],by simp,fun _ _=>False,fun _ _ h=>h.elim,fun _ _ _ h=>h.elim,fun k x hk=>by
  cases k with
  |zero=>simp at hk;subst hk;exact⟨_,rfl,rfl,hn⟩
  |succ k=>simp at hk⟩
theorem WV(B g:Nat)(w:World)(h:Re B w g):Calls Tryz.prog 26 #[.pointer (some ⟨g,0,none⟩),.int .i64 8] w fun e w'=>∃(v:Value)(s:ByteArray)(ls:List ByteArray),e=.returned v∧s∈L0∧ls.length≤8∧(∀t∈ls,Ev t)∧A4 9 Gd (Iv w.heap.size w'.heap.size) w' v (s::ls)∧Ar (fun x=>x=g) w w':=by
 have ai:=h.lt;go_enter Tryz.func26,Tryz.ntmps26;go_wp2_with (fail);have yb:=Below.pureAlloc w (.cells (L0.map Value.string).toArray 9);have hl:=Lr w 9 L0 (by decide) A0q (fun x=>x=w.heap.size) rfl;refine(Lu B g w.heap.size 4 L0 (w.alloc (.cells (L0.map Value.string).toArray 9)) (h.keep yb) (by simp) (by omega) (by decide) hl (by decide) (by decide)).mono ?_;rintro e w3 ⟨s,hs,rfl,lL,ho3,eB⟩;have ho:Ar (fun x=>x=g) w w3:=((Ar.of_pure yb (fun x=>x=g))).trans' (ho3.mono fun b hb _=>.inl hb);have hn:=A0q s hs;have bO:w.heap.size≤w3.heap.size:=ho.size;have hs3':g<w3.heap.size:=by omega
 have y4:=Below.pureAlloc w3 (.cells #[.string s] 9);have hc4:=lL.keep y4;have o4:A4 9 Gd (Iv w.heap.size (w3.alloc (.cells #[.string s] 9)).heap.size) (w3.alloc (.cells #[.string s] 9)) (.slice (some ⟨w3.heap.size,0,none⟩) 1 1) [s]:=A2v (heap_alloc_new w3 _) (by have:=hn.1;omega) ⟨bO,by simp⟩;have fm:Ar (fun x=>x=g) w (w3.alloc (.cells #[.string s] 9)):=ho.alloc _;have Hs:=Z hs;clear hl yb ho3 hs eB y4 ho lL;obtain⟨w4,fS⟩:∃W,W=w3.alloc (.cells #[.string s] 9):=⟨_,rfl⟩;rw[←fS] at hc4 o4 fm;have hg4:=hc4.lt;go_wp2_with (fail);rw[←fS];refine(Nd B g 8 _ hc4 (by decide) (by decide)).mono ?_;rintro e w5 ⟨m,⟨nW,sE⟩,rfl,hc5,n8,fK⟩;obtain⟨m,rfl⟩:=Int.eq_ofNat_of_zero_le nW;have o5:A4 9 Gd (Iv w.heap.size w5.heap.size) w5 (.slice (some ⟨w3.heap.size,0,none⟩) 1 1) [s]:=(A3 C1).mono (fun b hb=>⟨hb.1,by have:=hb.2;omega⟩) (A4.only C1 o4 n8 (fun b hb=>hb.2) (fun b hb e=>by have:=hb.1;have:b=g:=e;omega));have ho6:=fm.trans' (n8.mono fun b hb _=>.inl hb);have gA:([]:List ByteArray).length+(m+1)=m+1:=by simp
 clear fS o4 fm hc4 n8 fK;go_wp2;go_loopw [5,6] (fun v i wr=>∃(k:Nat)(ls:List ByteArray),ls.length+k=m+1∧i=.int .i64 k∧(∀t∈ls,Ev t)∧Hid (A4 9 Gd (Iv w.heap.size wr.heap.size) wr v (s::ls))∧Re B wr g∧Ar (fun x=>x=g) w wr) (fun _ i _=>(intOf i).toNat)
 case atStart=>exact⟨m+1,[],gA,by go_num,by simp,Z o5,hc5,ho6⟩
 case round=>
  clear o5 hc5 ho6 gA;obtain⟨k,ls,hk,rfl,hnice,aB,eI,gt⟩:=hrel;obtain⟨wo,rfl⟩:∃wo:World,wo=wr:=⟨_,rfl⟩;have wu:=gt.size;by_cases aN:0<k
  ·have hd:decide ((0:Int)<(k:Int))=true:=by simp;omega
   have ah:(s::ls).length<1099511627776:=by rw[List.length_cons];omega
   go_wp2_with (first
    |(go_at_call 81;(refine(A25 B g _ eI).mono ?_);rintro e w7 ⟨t,hnt,rfl,hc7,ho7,gP⟩;have ns:=hc7.lt;have h7:=Z (show A4 9 Gd (Iv w.heap.size w7.heap.size) w7 _ (s::ls) from(A3 C1).mono (fun b hb=>⟨hb.1,by have:=hb.2;omega⟩) (A4.only C1 aB.o ho7 (fun b hb=>hb.2) (fun b hb e=>by have:=hb.1;have:b=g:=e;omega)));have h7o:=gt.trans' (ho7.mono fun b hb _=>.inl hb);have hnts:=hnt.1;clear ho7)
    |(at_builtin;(refine Aa rfl _ _ 27 rfl C1 9 Tryz.underlying27 Fp rfl (by decide) w.heap.size w7.heap.size (by omega) (Nat.le_refl _) rfl rfl (by exact h7.o) (by exact⟨rfl,by omega⟩) ah ?_);intro v2 w8 hown8 hbel8 hon8;have hc8:=hc7.only (S:=fun b=>w.heap.size≤b) (Ar.of_below hbel8) (by omega) (fun b hb=>by have:=eI.1;omega);have ho8:Ar (fun x=>x=g) w w8:=h7o.trans' ((Ar.of_below hbel8).mono fun b hb _=>.inr hb))
    |fail)
   go_wp2;go_roundw
   case rel=>exact⟨k-1,ls++[t],by rw[List.length_append,List.length_singleton];omega,by go_num,fun x hx=>by rcases List.mem_append.1 hx with h|h;exact hnice x h;rw[List.mem_singleton.1 h];exact hnt,Z hown8,hc8,ho8⟩
   case measure=>simp[intOf];omega
  ·have hd:decide ((0:Int)<(k:Int))=false:=by simp;omega
   go_wp2
   go_ret
   exact⟨_,s,ls,rfl,Hs.o,by omega,hnice,aB.o,gt⟩
theorem X4(v:Value)(bs:List Int)(w:World)(hv:Qa w v bs):Calls Tryz.prog 11 #[v] w fun e w'=>∃(v:Value)(s:ByteArray)(ls:List ByteArray),e=.returned v∧s∈L0∧ls.length≤8∧(∀t∈ls,Ev t)∧A4 9 Gd (Iv w.heap.size w'.heap.size) w' v (s::ls)∧Below w.heap.size w w':=by
 go_enter Tryz.func11,Tryz.ntmps11;go_wp2_with (fail);refine(YF v bs _ hv).mono ?_;rintro e w1 ⟨g,rfl,rfl,eI,aA,aI⟩;have bV:=Z aI;clear aI;go_wp2_with (fail);refine(WV _ _ _ eI).mono ?_;rintro e w2 ⟨v2,s,ls,rfl,hs,hl,hn,ho,gt⟩;have cX:=aA.size;have Hs:=Z hs;clear hs;go_wp2
 go_ret
 exact⟨_,s,ls,rfl,Hs.o,hl,hn,(A3 C1).mono (fun b hb=>⟨by have:=hb.1;omega,hb.2⟩) ho,aA.trans (gt.below cX (fun b hb=>by have:b=w.heap.size:=hb;omega))⟩
