/- FnConfirms: the walk of the law. -/
import Derived.Test.YthmocomfjgmjoaaGreatDoorKZr
import Derived.Test.YthmocomfjgmjoaaGreatDoorKZf
set_option maxHeartbeats 4000000
set_option maxRecDepth 100000
namespace Go.Proofs.YthmocomfjgmjoaaGreatDoor
open Go.RowKit
theorem Wv{v:Value}{bs:List Int}{w:World}(hv:Qa w v bs)(ht:Bg w):
  Calls Tryz.prog 3 #[v] w fun e w'=>e=.returned (.bool true)∧Below w.heap.size w w':=by
 obtain⟨a,cap,rfl,-,-,-,-⟩:=id hv;rcases Nat.lt_or_ge 1048576 bs.length with h1|h1
 ·go_enter Tryz.func3,Tryz.ntmps3;go_wp2
  go_ret
  exact⟨rfl,Below.refl _ _⟩
 have mQ:decide ((1048576:Int)<(bs.length:Int))=false:=by simp;omega
 have Ht:=Z ht;clear ht;go_enter Tryz.func3,Tryz.ntmps3;go_wp2_with (fail);refine(A2g _ bs 1 w hv (by decide)).mono ?_;rintro e w1 ⟨r,⟨kh,hr1⟩,rfl,b1⟩;have hm:r.tmod 2=0∨r.tmod 2=1:=by
  have e1:=Int.tmod_eq_emod_of_nonneg (b:=2) kh;omega
 rcases hm with hm|hm
 ·go_wp2_with (fail);refine(Cs 1 (BV.small (by decide) (by decide)) _ (Ht.o.keep b1).1).mono ?_;rintro e w2 ⟨rfl,b2⟩;rw[show An 1=⟨#[49]⟩ by decide+kernel];have cI:=b1.trans_pure b2 (Nat.le_refl _);go_wp2_with (first
   |(go_at_call 8;refine(Cs 0 (BV.small (by decide) (by decide)) _ (Ht.o.keep cI).1).mono ?_;rw[show An 0=⟨#[48]⟩ by decide+kernel];rintro e w3 ⟨rfl,b3⟩)
   |(go_at_call 9;refine(Kc A0F _ (Ht.o.keep (cI.trans_pure b3 (Nat.le_refl _))) (by decide+kernel)).mono ?_;rw[A5J];rintro e w4 ⟨rfl,b4⟩)
   |fail)
  have eH:=(cI.trans_pure b3 (Nat.le_refl _)).trans_pure b4 (Nat.le_refl _);go_wp2_with (fail);refine(KL (Ke Pd ByteArray.empty) _ (by decide+kernel)).mono ?_;rw[A52];rintro e w5 ⟨vl,rfl,ol,b5⟩;obtain⟨gl,off,cl,rfl,ai,az⟩:=ol.inv_ne (by decide);have e8:=eH.trans_pure b5 (Nat.le_refl _);have q0:w5.cell? ⟨gl,off,none⟩=some (.string ⟨#[111,107]⟩):=by
   obtain⟨u,hu,rfl,-⟩:=Sl.at ol (k:=0) rfl;exact hu
  have q1:w5.cell? ⟨gl,off+1,none⟩=some (.string ⟨#[35,46,47,46,35,32,114,111,119,115,32,49,44,49,32,99,111,108,115,32,49,44,49,32,102,114,101,101,32,52]⟩):=by
   obtain⟨u,hu,rfl,-⟩:=Sl.at ol (k:=1) rfl;exact hu
  have q2:w5.cell? ⟨gl,off+2,none⟩=some (.string ⟨#[46,35,47,35,46,59,35,46,47,46,35]⟩):=by
   obtain⟨u,hu,rfl,-⟩:=Sl.at ol (k:=2) rfl;exact hu
  have q3:w5.cell? ⟨gl,off+3,none⟩=some (.string ⟨#[49,32,115,119,105,116,99,104,101,115,32,48,58,49,58,48,58,49]⟩):=by
   obtain⟨u,hu,rfl,-⟩:=Sl.at ol (k:=3) rfl;exact hu
  have q4:w5.cell? ⟨gl,off+4,none⟩=some (.string ⟨#[46,35,47,35,46]⟩):=by
   obtain⟨u,hu,rfl,-⟩:=Sl.at ol (k:=4) rfl;exact hu
  have q5:w5.cell? ⟨gl,off+5,none⟩=some (.string ⟨#[48]⟩):=by
   obtain⟨u,hu,rfl,-⟩:=Sl.at ol (k:=5) rfl;exact hu
  have q6:w5.cell? ⟨gl,off+6,none⟩=some (.string ⟨#[49,44,48,44,49]⟩):=by
   obtain⟨u,hu,rfl,-⟩:=Sl.at ol (k:=6) rfl;exact hu
  have q7:w5.cell? ⟨gl,off+7,none⟩=some (.string ⟨#[114,111,119,115,32,50,44,49,32,99,111,108,115,32,50,44,49,32,105,109,97,103,101,115,32,49]⟩):=by
   obtain⟨u,hu,rfl,-⟩:=Sl.at ol (k:=7) rfl;exact hu
  have q8:w5.cell? ⟨gl,off+8,none⟩=some (.string ⟨#[35,35,47,35,46]⟩):=by
   obtain⟨u,hu,rfl,-⟩:=Sl.at ol (k:=8) rfl;exact hu
  have q9:w5.cell? ⟨gl,off+9,none⟩=some (.string ⟨#[35,35,47,35,46,32,114,111,119,115,32,50,44,49,32,99,111,108,115,32,50,44,49,32,117,110,105,113,117,101]⟩):=by
   obtain⟨u,hu,rfl,-⟩:=Sl.at ol (k:=9) rfl;exact hu
  have q10:w5.cell? ⟨gl,off+10,none⟩=some (.string ⟨#[35,35,47,35,46]⟩):=by
   obtain⟨u,hu,rfl,-⟩:=Sl.at ol (k:=10) rfl;exact hu
  have q11:w5.cell? ⟨gl,off+11,none⟩=some (.string ⟨#[114,111,119,115,32,51,44,48,32,99,111,108,115,32,49,44,49,44,49,32,105,109,97,103,101,115,32,49]⟩):=by
   obtain⟨u,hu,rfl,-⟩:=Sl.at ol (k:=11) rfl;exact hu
  have q12:w5.cell? ⟨gl,off+12,none⟩=some (.string ⟨#[114,111,119,115,32,50,44,50,32,99,111,108,115,32,51,44,49,32,110,111,110,101]⟩):=by
   obtain⟨u,hu,rfl,-⟩:=Sl.at ol (k:=12) rfl;exact hu
  have q14:w5.cell? ⟨gl,off+14,none⟩=some (.string ⟨#[35,46,47,35,46]⟩):=by
   obtain⟨u,hu,rfl,-⟩:=Sl.at ol (k:=14) rfl;exact hu
  have q15:w5.cell? ⟨gl,off+15,none⟩=some (.string ⟨#[114,111,119,115,32,49,44,49,32,99,111,108,115,32,49,44,49,32,105,109,97,103,101,115,32,50]⟩):=by
   obtain⟨u,hu,rfl,-⟩:=Sl.at ol (k:=15) rfl;exact hu
  have q16:w5.cell? ⟨gl,off+16,none⟩=some (.string ⟨#[46,35,47,35,46,32,50]⟩):=by
   obtain⟨u,hu,rfl,-⟩:=Sl.at ol (k:=16) rfl;exact hu
  have q18:w5.cell? ⟨gl,off+18,none⟩=some (.string ⟨#[49,32,115,111,108,117,116,105,111,110,115,32,46,35,46,47,35,35,35,47,46,35,46,32,108,111,103,105,99,97,108]⟩):=by
   obtain⟨u,hu,rfl,-⟩:=Sl.at ol (k:=18) rfl;exact hu
  have q19:w5.cell? ⟨gl,off+19,none⟩=some (.string ⟨#[46,35,46,47,35,35,35,47,46,35,46]⟩):=by
   obtain⟨u,hu,rfl,-⟩:=Sl.at ol (k:=19) rfl;exact hu
  have q20:w5.cell? ⟨gl,off+20,none⟩=some (.string ⟨#[117,110,107,110,111,119,110,32,99,111,109,109,97,110,100]⟩):=by
   obtain⟨u,hu,rfl,-⟩:=Sl.at ol (k:=20) rfl;exact hu
  have aP:Pd.length=21:=by decide
  rw[aP] at az⊢;clear ol aP;go_wp2
  go_ret
  exact⟨rfl,e8⟩
 ·go_wp2_with (fail);refine(Cs 2 (BV.small (by decide) (by decide)) _ (Ht.o.keep b1).1).mono ?_;rintro e w2 ⟨rfl,b2⟩;rw[show An 2=⟨#[50]⟩ by decide+kernel];have cI:=b1.trans_pure b2 (Nat.le_refl _);go_wp2_with (first
   |(go_at_call 8;refine(Cs 2 (BV.small (by decide) (by decide)) _ (Ht.o.keep cI).1).mono ?_;rw[show An 2=⟨#[50]⟩ by decide+kernel];rintro e w3 ⟨rfl,b3⟩)
   |(go_at_call 9;refine(Kc ZG _ (Ht.o.keep (cI.trans_pure b3 (Nat.le_refl _))) (by decide+kernel)).mono ?_;rw[A5v];rintro e w4 ⟨rfl,b4⟩)
   |fail)
  have eH:=(cI.trans_pure b3 (Nat.le_refl _)).trans_pure b4 (Nat.le_refl _);go_wp2_with (fail);refine(KL (Ke Pn ByteArray.empty) _ (by decide+kernel)).mono ?_;rw[A53];rintro e w5 ⟨vl,rfl,ol,b5⟩;obtain⟨gl,off,cl,rfl,ai,az⟩:=ol.inv_ne (by decide);have e8:=eH.trans_pure b5 (Nat.le_refl _);have q0:w5.cell? ⟨gl,off,none⟩=some (.string ⟨#[111,107]⟩):=by
   obtain⟨u,hu,rfl,-⟩:=Sl.at ol (k:=0) rfl;exact hu
  have q1:w5.cell? ⟨gl,off+1,none⟩=some (.string ⟨#[35,46,47,46,35,32,114,111,119,115,32,49,44,49,32,99,111,108,115,32,49,44,49,32,102,114,101,101,32,52]⟩):=by
   obtain⟨u,hu,rfl,-⟩:=Sl.at ol (k:=1) rfl;exact hu
  have q2:w5.cell? ⟨gl,off+2,none⟩=some (.string ⟨#[46,35,47,35,46,59,35,46,47,46,35]⟩):=by
   obtain⟨u,hu,rfl,-⟩:=Sl.at ol (k:=2) rfl;exact hu
  have q3:w5.cell? ⟨gl,off+3,none⟩=some (.string ⟨#[49,32,115,119,105,116,99,104,101,115,32,48,58,49,58,48,58,49]⟩):=by
   obtain⟨u,hu,rfl,-⟩:=Sl.at ol (k:=3) rfl;exact hu
  have q4:w5.cell? ⟨gl,off+4,none⟩=some (.string ⟨#[46,35,47,35,46]⟩):=by
   obtain⟨u,hu,rfl,-⟩:=Sl.at ol (k:=4) rfl;exact hu
  have q5:w5.cell? ⟨gl,off+5,none⟩=some (.string ⟨#[48]⟩):=by
   obtain⟨u,hu,rfl,-⟩:=Sl.at ol (k:=5) rfl;exact hu
  have q6:w5.cell? ⟨gl,off+6,none⟩=some (.string ⟨#[49,44,48,44,49]⟩):=by
   obtain⟨u,hu,rfl,-⟩:=Sl.at ol (k:=6) rfl;exact hu
  have q7:w5.cell? ⟨gl,off+7,none⟩=some (.string ⟨#[114,111,119,115,32,50,44,49,32,99,111,108,115,32,50,44,49,32,105,109,97,103,101,115,32,49]⟩):=by
   obtain⟨u,hu,rfl,-⟩:=Sl.at ol (k:=7) rfl;exact hu
  have q8:w5.cell? ⟨gl,off+8,none⟩=some (.string ⟨#[35,35,47,35,46]⟩):=by
   obtain⟨u,hu,rfl,-⟩:=Sl.at ol (k:=8) rfl;exact hu
  have q9:w5.cell? ⟨gl,off+9,none⟩=some (.string ⟨#[35,35,47,35,46,32,114,111,119,115,32,50,44,49,32,99,111,108,115,32,50,44,49,32,117,110,105,113,117,101]⟩):=by
   obtain⟨u,hu,rfl,-⟩:=Sl.at ol (k:=9) rfl;exact hu
  have q10:w5.cell? ⟨gl,off+10,none⟩=some (.string ⟨#[35,35,47,35,46]⟩):=by
   obtain⟨u,hu,rfl,-⟩:=Sl.at ol (k:=10) rfl;exact hu
  have q11:w5.cell? ⟨gl,off+11,none⟩=some (.string ⟨#[114,111,119,115,32,51,44,48,32,99,111,108,115,32,49,44,49,44,49,32,105,109,97,103,101,115,32,49]⟩):=by
   obtain⟨u,hu,rfl,-⟩:=Sl.at ol (k:=11) rfl;exact hu
  have q12:w5.cell? ⟨gl,off+12,none⟩=some (.string ⟨#[114,111,119,115,32,50,44,50,32,99,111,108,115,32,51,44,49,32,110,111,110,101]⟩):=by
   obtain⟨u,hu,rfl,-⟩:=Sl.at ol (k:=12) rfl;exact hu
  have q14:w5.cell? ⟨gl,off+14,none⟩=some (.string ⟨#[35,35,47,35,35]⟩):=by
   obtain⟨u,hu,rfl,-⟩:=Sl.at ol (k:=14) rfl;exact hu
  have q15:w5.cell? ⟨gl,off+15,none⟩=some (.string ⟨#[114,111,119,115,32,49,44,49,32,99,111,108,115,32,49,44,49,32,105,109,97,103,101,115,32,50]⟩):=by
   obtain⟨u,hu,rfl,-⟩:=Sl.at ol (k:=15) rfl;exact hu
  have q16:w5.cell? ⟨gl,off+16,none⟩=some (.string ⟨#[46,35,47,35,46,32,50]⟩):=by
   obtain⟨u,hu,rfl,-⟩:=Sl.at ol (k:=16) rfl;exact hu
  have q18:w5.cell? ⟨gl,off+18,none⟩=some (.string ⟨#[49,32,115,111,108,117,116,105,111,110,115,32,46,35,46,47,35,35,35,47,46,35,46,32,108,111,103,105,99,97,108]⟩):=by
   obtain⟨u,hu,rfl,-⟩:=Sl.at ol (k:=18) rfl;exact hu
  have q19:w5.cell? ⟨gl,off+19,none⟩=some (.string ⟨#[46,35,46,47,35,35,35,47,46,35,46]⟩):=by
   obtain⟨u,hu,rfl,-⟩:=Sl.at ol (k:=19) rfl;exact hu
  have q20:w5.cell? ⟨gl,off+20,none⟩=some (.string ⟨#[117,110,107,110,111,119,110,32,99,111,109,109,97,110,100]⟩):=by
   obtain⟨u,hu,rfl,-⟩:=Sl.at ol (k:=20) rfl;exact hu
  have aP:Pn.length=21:=by decide
  rw[aP] at az⊢;clear ol aP;go_wp2
  go_ret
  exact⟨rfl,e8⟩
