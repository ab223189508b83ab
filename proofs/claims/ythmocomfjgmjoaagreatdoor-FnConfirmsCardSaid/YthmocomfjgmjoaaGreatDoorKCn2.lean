/- Contracts: an image put into a console, a text or none; both sides. -/
import Derived.Test.YthmocomfjgmjoaaGreatDoorKCn
set_option maxHeartbeats 1000000
set_option maxRecDepth 100000
namespace Go.Proofs.YthmocomfjgmjoaaGreatDoor
open Go.RowKit
theorem C7{t:ByteArray}(h:t≠ByteArray.empty):t.toList.isEmpty=false:=by
 rw[ByteArray.toList_eq];cases e:t.data.toList with
 |nil=>exact absurd (Dm (by rw[e];rfl)) h
 |cons a l=>rfl
theorem LO(t:ByteArray)(w:World):Calls Tryz.prog 44 #[.string t] w fun e w'=>e=.returned (.string (Bz t))∧w=w':=by
 by_cases h:t=ByteArray.empty
 ·subst h;go_enter Tryz.func44,Tryz.ntmps44;go_wp2
  go_ret
  exact⟨rfl,rfl⟩
 ·have aO:=C7 h;have Hr:=Z (show Bz t=t from if_neg h);clear h;go_enter Tryz.func44,Tryz.ntmps44;go_wp2
  go_ret
  exact⟨by rw[Hr.o];rfl,rfl⟩
theorem K6(t:ByteArray)(w:World):Calls Tryz.prog 123 #[.string t] w fun e w'=>e=.returned (.string (Bz t))∧w=w':=by
 by_cases h:t=ByteArray.empty
 ·subst h;go_enter Tryz.func123,Tryz.ntmps123;go_wp2
  go_ret
  exact⟨rfl,rfl⟩
 ·have aO:=C7 h;have Hr:=Z (show Bz t=t from if_neg h);clear h;go_enter Tryz.func123,Tryz.ntmps123;go_wp2
  go_ret
  exact⟨by rw[Hr.o];rfl,rfl⟩
theorem ZY(Bo:Nat)(a1 b1 c1 m1:Option Addr)(a2 a3 b2 b3 c2 c3 m2 m3:Nat)(w:World)(hB:Aw w Bo #[.slice a1 a2 a3,.slice b1 b2 b3,.slice c1 c2 c3] 34):
  Calls Tryz.prog 29 #[.slice m1 m2 m3,.bool false,.pointer (some ⟨Bo,0,none⟩)] w fun e w'=>
   e=.returned (.tuple #[.agg #[.slice a1 a2 a3,.slice b1 b2 b3,.slice c1 c2 c3],.string BZ])∧Below w.heap.size w w':=by
 have kb:=hB.keep (Below.pureAlloc w (.cells At 34));have c0:(w.alloc (.cells At 34)).cell? ⟨Bo,0,none⟩=some (.slice a1 a2 a3):=kb.cell 0;have c1':(w.alloc (.cells At 34)).cell? ⟨Bo,1,none⟩=some (.slice b1 b2 b3):=kb.cell 1;have sf:(w.alloc (.cells At 34)).cell? ⟨Bo,2,none⟩=some (.slice c1 c2 c3):=kb.cell 2;have Bb:=Z (Below.pureAlloc w (.cells #[.slice a1 a2 a3,.slice b1 b2 b3,.slice c1 c2 c3] 34));clear kb hB;go_enter Tryz.func29,Tryz.ntmps29;go_wp2;exact bodyPost_ret (v:=.tuple #[.agg #[.slice a1 a2 a3,.slice b1 b2 b3,.slice c1 c2 c3],.string BZ]) (by simp[results,Tryz.results29,go_sem,BZ]) rfl ⟨rfl,Bb.o⟩
theorem Vc(Bo l h:Nat)(a1 b1 c1 m1:Option Addr)(a2 a3 b2 b3 c2 c3 m2 m3:Nat)(m:List (List Int))(w:World)(hB:Aw w Bo #[.slice a1 a2 a3,.slice b1 b2 b3,.slice c1 c2 c3] 34)
  (ho:A4 32 (A4 3 A7) (Iv l h) w (.slice m1 m2 m3) m)(hh:h≤w.heap.size)(eO:Bo<l∨h≤Bo):
  Calls Tryz.prog 29 #[.slice m1 m2 m3,.bool true,.pointer (some ⟨Bo,0,none⟩)] w fun e w'=>
   e=.returned (.tuple #[.agg #[.slice m1 m2 m3,.slice b1 b2 b3,.slice c1 c2 c3],.string (Ag m)])∧Ar (fun x=>x=Bo) w w':=by
 have aH:=hB.lt;have aO:Bo≠w.heap.size:=by omega
 have kb:=hB.keep (Below.pureAlloc w (.cells At 34));have x0:(w.alloc (.cells At 34)).cell? ⟨Bo,0,none⟩=some (.slice a1 a2 a3):=kb.cell 0;have x1:=kb.frozen 0;obtain⟨W0,gI⟩:∃W,W=w.setCell ⟨Bo,0,none⟩ (.slice m1 m2 m3):=⟨_,rfl⟩;have ks:Aw W0 Bo #[.slice m1 m2 m3,.slice b1 b2 b3,.slice c1 c2 c3] 34:=by
  rw[gI];have:=hB.set (j:=0) (.slice m1 m2 m3);simpa using this
 have z0:W0.heap.size=w.heap.size:=by rw[gI,A9]
 obtain⟨W1,hW1⟩:∃W,W=W0.alloc (.cells At 34):=⟨_,rfl⟩;have kb1:Aw W1 Bo #[.slice m1 m2 m3,.slice b1 b2 b3,.slice c1 c2 c3] 34:=by rw[hW1];exact ks.keep (Below.pureAlloc _ _)
 have kr1:Aw W1 w.heap.size At 34:=by rw[hW1,←z0];exact Aw.new W0 _ _
 have on1:Ar (fun x=>x=Bo) w W1:=by rw[hW1,gI];exact(F2 w Bo 0 _).alloc _
 have hG:=Z (show Ak W1.drew (.slice m1 m2 m3) m from(A4.only (A3 A2) ho on1 (fun b hb=>by have:=hb.2;omega) (fun b hb e=>by have:=hb.1;have:=hb.2;have:b=Bo:=e;omega)).grid);have hK:=Z (show Aw W1.drew Bo #[.slice m1 m2 m3,.slice b1 b2 b3,.slice c1 c2 c3] 34 from kb1);have hR:=Z (show Aw W1.drew w.heap.size At 34 from kr1);have hO:=Z on1.drew;have c0:W1.cell? ⟨Bo,0,none⟩=some (.slice m1 m2 m3):=hK.o.cell 0;have c1':W1.cell? ⟨Bo,1,none⟩=some (.slice b1 b2 b3):=hK.o.cell 1;have sf:W1.cell? ⟨Bo,2,none⟩=some (.slice c1 c2 c3):=hK.o.cell 2;have HW1:=Z hW1;have dH:w.heap.size<W1.heap.size:=kr1.lt;clear kb kb1 kr1 on1 ks hB ho hW1 z0;subst gI;go_enter Tryz.func29,Tryz.ntmps29;go_wp2;rw[←HW1.o];clear x0 x1;go_region_with (go_at_call 30;refine(Fh _ m _ hG.o).mono ?_;rintro e w2 ⟨rfl,y2⟩;replace hK:=Z (hK.o.keep y2);replace hR:=Z (hR.o.keep y2);replace hO:=Z (hO.o.trans' (Ar.of_pure y2 (fun x=>x=Bo)|>.mono fun b hb _=>.inl hb));have c0:w2.cell? ⟨Bo,0,none⟩=some (.slice m1 m2 m3):=hK.o.cell 0;have c1':w2.cell? ⟨Bo,1,none⟩=some (.slice b1 b2 b3):=hK.o.cell 1;have sf:w2.cell? ⟨Bo,2,none⟩=some (.slice c1 c2 c3):=hK.o.cell 2;have d0:w2.cell? ⟨w.heap.size,0,none⟩=some (.slice none 0 0):=hR.o.cell 0;have d1:w2.cell? ⟨w.heap.size,1,none⟩=some (.slice none 0 0):=hR.o.cell 1;have d2:w2.cell? ⟨w.heap.size,2,none⟩=some (.slice none 0 0):=hR.o.cell 2;have f0:=hR.o.frozen 0;have f1:=hR.o.frozen 1;have f2:=hR.o.frozen 2)
 all_goals go_wp2
 all_goals
  have hJ:=Aw.set3 (a:=.slice m1 m2 m3) (b:=.slice b1 b2 b3) (c:=.slice c1 c2 c3) hR.o;have e0:=hJ.cell 0;have e1:=hJ.cell 1;have e2:=hJ.cell 2;simp only[List.getElem?_toArray,List.getElem?_cons_zero,List.getElem?_cons_succ] at e0 e1 e2;exact bodyPost_ret (v:=.tuple #[.agg #[.slice m1 m2 m3,.slice b1 b2 b3,.slice c1 c2 c3],.string (Ag m)]) (by simp[results,Tryz.results29,go_sem,e0,e1,e2]) rfl ⟨rfl,((hO.o.setCell (p:=⟨w.heap.size,0,none⟩) (.inr (Nat.le_refl _)) _).setCell (p:=⟨w.heap.size,1,none⟩) (.inr (Nat.le_refl _)) _).setCell (p:=⟨w.heap.size,2,none⟩) (.inr (Nat.le_refl _)) _⟩
