/- Contracts: sums out of texts: ParseSums. -/
import Derived.Test.YtekgnpdchpdfiaaDoorF7
namespace Go.Proofs.YtekgnpdchpdfiaaDoor
open Go.RowKit

theorem parse_text {p : ByteArray} (h : parseYes p = true) : fmtInt (parseVal p) = p ∧ I64 (parseVal p) := by
  unfold parseYes parseVal at *
  cases hp : parseI p with
  | none => rw [hp] at h; cases h
  | some n => have k := parseI_num hp; exact ⟨k.2, k.1⟩
noncomputable def sumsParts (s : ByteArray) : List Int := (splitB s 44).map parseVal
noncomputable def sumsYes (s : ByteArray) : Bool := decide (s = ⟨#[45]⟩) || (splitB s 44).all parseYes
noncomputable def sumsVal (s : ByteArray) : List Int := if s = ⟨#[45]⟩ then [] else if (splitB s 44).all parseYes then sumsParts s else []
def SumsRes (w : World) (s : ByteArray) (e : Ending) (w' : World) : Prop :=
  ∃ v', e = .returned (.tuple #[v', .bool (sumsYes s)]) ∧ Own 3 IntV (Iv w.heap.size w'.heap.size) w' v' (sumsVal s) ∧ Below w.heap.size w w'
theorem sumsVal_len (s : ByteArray) (h : s.size ≤ 1048576) : (sumsVal s).length ≤ 1048577 := by
  unfold sumsVal sumsParts
  split
  · simp
  · split
    · have := splitB_len s 44; rw [List.length_map]; omega
    · simp
theorem sums_back {s : ByteArray} (h : (splitB s 44).all parseYes = true) : sumsText (sumsParts s) = s := by
  unfold sumsText sumsParts
  rw [List.all_eq_true] at h
  have hne : (splitB s 44).map parseVal ≠ [] := by
    intro e
    have h1 := congrArg List.length e
    have h2 := splitB_pos s 44
    rw [List.length_map] at h1
    simp at h1
    rw [h1] at h2; simp at h2
  rw [if_neg hne]
  unfold intsText
  rw [List.map_map]
  have e : (splitB s 44).map (fmtInt ∘ parseVal) = splitB s 44 :=
    (List.map_congr_left (f := fmtInt ∘ parseVal) (g := id) (fun p hp => (parse_text (h p hp)).1)).trans (List.map_id _)
  rw [e, splitB_join]
theorem dash_split : parseI (⟨#[45]⟩ : ByteArray) = none := by
  apply parse_none_of
  intro n h
  obtain ⟨k, k2, a, b, c, d⟩ := num_facts h
  have hn : negB ⟨#[45]⟩ = true := by decide
  have hb : bodyB ⟨#[45]⟩ = (⟨#[45]⟩ : ByteArray).extract 1 1 := by unfold bodyB; rw [hn]; rfl
  rw [hb] at c
  exact absurd c (by decide)
theorem map_take_V {ps : List ByteArray} {k : Nat} {p : ByteArray} (h : ps[k]? = some p) : (ps.take (k + 1)).map parseVal = (ps.take k).map parseVal ++ [parseVal p] := by
  rw [List.take_add_one, h]; simp
theorem all_take_stepP (f : ByteArray → Bool) {l : List ByteArray} {k : Nat} {x : ByteArray} (h : l[k]? = some x) : (l.take (k + 1)).all f = ((l.take k).all f && f x) := by
  rw [List.take_add_one, h, List.all_append]; simp

set_option maxRecDepth 100000 in
set_option maxHeartbeats 800000 in
theorem ParseSums_i (s : ByteArray) (w : World) (hs : s.size ≤ 1048576) (ht : TabE w) : Calls Tryd.prog 30 #[.string s] w (SumsRes w s) := by
  by_cases hdash : s = ⟨#[45]⟩
  · subst hdash
    have Hy := Lib.hid (show sumsYes ⟨#[45]⟩ = true from by unfold sumsYes; simp)
    have Hv := Lib.hid (show sumsVal ⟨#[45]⟩ = [] from by unfold sumsVal; rw [if_pos rfl])
    go_enter Tryd.func30, Tryd.ntmps30
    go_wp2
    refine bodyPost_ret (v := .tuple #[.slice none 0 0, .bool true]) (by simp [results, Tryd.results30, go_sem]) rfl ⟨_, by rw [Hy.out], by rw [Hv.out]; exact Own.nil _ _ _ _, Below.refl _ _⟩
  have hne := ba_neq' hdash
  rw [show (⟨#[45]⟩ : ByteArray).toList = [45] from by rw [ByteArray.toList_eq]] at hne
  have hnd : decide (s = ⟨#[45]⟩) = false := by simpa using hdash
  have Hyes := Lib.hid (show sumsYes s = (splitB s 44).all parseYes from by unfold sumsYes; rw [hnd, Bool.false_or])
  have Hval := Lib.hid (show sumsVal s = if (splitB s 44).all parseYes then sumsParts s else [] from by unfold sumsVal; rw [if_neg hdash])
  have Ht := Lib.hid ht
  clear hdash hnd ht
  go_enter Tryd.func30, Tryd.ntmps30
  go_wp2_with (fail)
  refine (SplitAny_i _ _ _ hs).mono ?_
  rintro e w1 ⟨v1, rfl, own1, bel1⟩
  have hps := splitB_len s 44
  have hsz := splitB_part_size s 44
  obtain ⟨ps, hpe⟩ : ∃ ps, ps = splitB s 44 := ⟨_, rfl⟩
  have Hpe := Lib.hid hpe
  rw [← hpe] at own1 hps hsz
  have hst : Strs w1 v1 ps := (rSl rStrV).rd (own1.sl (fun _ _ _ _ h => h) rStrV)
  have Hv := Lib.hid hst
  have hB1 := bel1.size
  have Hsz := Lib.hid hsz
  obtain ⟨a, cap0, rfl, -⟩ := hst
  clear hpe own1 hsz hne
  go_wp2
  go_loopw [4, 6, 7, 8, 14] (fun v _ _ _ i wr => ∃ k : Nat, k ≤ ps.length ∧ i = .int .i64 k ∧ (ps.take k).all parseYes = true ∧ Own 3 IntV (Iv w1.heap.size wr.heap.size) wr v ((ps.take k).map parseVal) ∧ Below w1.heap.size w1 wr) (fun _ _ _ _ i _ => ps.length - (intOf i).toNat)
  case atStart => exact ⟨0, Nat.zero_le _, rfl, rfl, Own.nil _ _ _ _, Below.refl _ _⟩
  case round =>
    obtain ⟨k, hk, rfl, hall, hown, hbel1⟩ := hrel
    obtain ⟨wo, rfl⟩ : ∃ wo : World, wo = wr := ⟨_, rfl⟩
    have hbel := bel1.trans (hbel1.mono hB1)
    have hBs := hbel1.size
    have hBw := hbel.size
    have Hall := Lib.hid hall; clear hall
    by_cases hlt : k < ps.length
    · obtain ⟨q, hq⟩ : ∃ q, ps[k]? = some q := ⟨_, List.getElem?_eq_getElem hlt⟩
      obtain ⟨b, off, cpr, he, hb, -⟩ := Hv.out.inv_ne (by omega)
      obtain ⟨rfl, -⟩ : a = some ⟨b, off, none⟩ ∧ cap0 = cpr := by simpa using he
      obtain ⟨u, hck, rfl, -⟩ := Sl.at Hv.out hq
      rw [← hbel1.cell (p := ⟨b, off + k, none⟩) hb] at hck
      have hqs : q.size ≤ 1048576 := by have := Hsz.out q (List.mem_of_getElem? hq); omega
      have Hst := Lib.hid (map_take_V hq)
      have Has := Lib.hid (all_take_stepP parseYes hq)
      have Hq := Lib.hid hq
      have hkl : ((ps.take k).map parseVal).length < 1099511627776 := by simp; omega
      have hdk : decide ((k : Int) < (ps.length : Int)) = true := by simp; omega
      obtain ⟨p1, p2, p3, rfl⟩ := hown.shape
      have Hown := Lib.hid hown
      clear hq hown he
      go_wp2_with (fail)
      refine (ParseInt_i _ _ hqs (Ht.out.keep hbel)).mono ?_
      rintro e w2 ⟨rfl, b2⟩
      have hs2 := b2.size
      cases hy : parseYes q
      · have Hbad := Lib.hid (show (splitB s 44).all parseYes = false from by rw [← Hpe.out, List.all_eq_false]; exact ⟨q, List.mem_of_getElem? Hq.out, by simp [hy]⟩)
        have Hy := Lib.hid (show sumsYes s = false from by rw [Hyes.out, Hbad.out])
        have Hvv := Lib.hid (show sumsVal s = [] from by rw [Hval.out, Hbad.out]; rfl)
        have hbf := hbel.trans (b2.mono hBw)
        clear hy
        go_wp2
        refine bodyPost_ret (v := .tuple #[.slice none 0 0, .bool false]) (by simp [results, Tryd.results30, go_sem]) rfl ⟨_, by rw [Hy.out], by rw [Hvv.out]; exact Own.nil _ _ _ _, hbf⟩
      · have Hy := Lib.hid hy
        have hI := (parse_text hy).2
        have hbo := hbel1.trans (b2.mono hBs)
        clear hy
        go_wp2_with (first | (at_builtin; (refine wpList_appR rfl _ _ 29 rfl rIntV 3 Tryd.underlying29 infoInt rfl (by decide) w1.heap.size wo.heap.size hBs hs2 rfl rfl (by exact Own.keep rIntV Hown.out b2 (Nat.le_refl _)) (by exact ⟨rfl, hI⟩) hkl ?_); intro v3 w3 hown3 hbel3 _) | fail)
        have hb3 := hbo.trans hbel3
        have Hown3 := Lib.hid hown3
        clear hown3
        go_wp2
        go_roundw
        case rel => exact ⟨k + 1, by omega, by go_num, by rw [Has.out, Hall.out, Hy.out]; rfl, by rw [Hst.out]; exact Hown3.out, hb3⟩
        case measure => simp [intOf]; omega
    · have Hpa := Lib.hid (show (splitB s 44).all parseYes = true from by rw [← Hpe.out]; have h := Hall.out; rwa [List.take_of_length_le (by omega)] at h)
      have Hy := Lib.hid (show sumsYes s = true from by rw [Hyes.out, Hpa.out])
      have Hvv := Lib.hid (show sumsVal s = ps.map parseVal from by rw [Hval.out, Hpa.out, Hpe.out]; rfl)
      have hfin := hown
      rw [List.take_of_length_le (by omega)] at hfin
      obtain ⟨p1, p2, p3, rfl⟩ := hown.shape
      have Hfin := Lib.hid ((rOwn rIntV).mono (S' := Iv w.heap.size wo.heap.size) (fun b hb => ⟨by have := hb.1; omega, hb.2⟩) hfin)
      clear hown hfin
      go_wp2
      refine bodyPost_ret (v := .tuple #[.slice p1 p2 p3, .bool true]) (by simp [results, Tryd.results30, go_sem]) rfl ⟨_, by rw [Hy.out], by rw [Hvv.out]; exact Hfin.out, hbel⟩
set_option maxRecDepth 100000 in
set_option maxHeartbeats 800000 in
theorem ParseSums_s (s : ByteArray) (w : World) (hs : s.size ≤ 1048576) : Calls Tryd.prog 29 #[.string s] w (SumsRes w s) := by
  by_cases hdash : s = ⟨#[45]⟩
  · subst hdash
    have Hy := Lib.hid (show sumsYes ⟨#[45]⟩ = true from by unfold sumsYes; simp)
    have Hv := Lib.hid (show sumsVal ⟨#[45]⟩ = [] from by unfold sumsVal; rw [if_pos rfl])
    go_enter Tryd.func29, Tryd.ntmps29
    go_wp2
    refine bodyPost_ret (v := .tuple #[.slice none 0 0, .bool true]) (by simp [results, Tryd.results29, go_sem]) rfl ⟨_, by rw [Hy.out], by rw [Hv.out]; exact Own.nil _ _ _ _, Below.refl _ _⟩
  have hne := ba_neq' hdash
  rw [show (⟨#[45]⟩ : ByteArray).toList = [45] from by rw [ByteArray.toList_eq]] at hne
  have hnd : decide (s = ⟨#[45]⟩) = false := by simpa using hdash
  have Hyes := Lib.hid (show sumsYes s = (splitB s 44).all parseYes from by unfold sumsYes; rw [hnd, Bool.false_or])
  have Hval := Lib.hid (show sumsVal s = if (splitB s 44).all parseYes then sumsParts s else [] from by unfold sumsVal; rw [if_neg hdash])
  clear hdash hnd
  have hbl := Below.pureAlloc w (.cells #[] 3)
  go_enter Tryd.func29, Tryd.ntmps29
  go_wp2_with (fail)
  refine (SplitAny_s _ _ _ hs).mono ?_
  rintro e w1 ⟨v1, rfl, own1, bel1⟩
  have hps := splitB_len s 44
  have hsz := splitB_part_size s 44
  obtain ⟨ps, hpe⟩ : ∃ ps, ps = splitB s 44 := ⟨_, rfl⟩
  have Hpe := Lib.hid hpe
  rw [← hpe] at own1 hps hsz
  have Hown1 := Lib.hid own1
  have hst : Strs w1 v1 ps := (rSl rStrV).rd (own1.sl (fun _ _ _ _ h => h) rStrV)
  have Hv := Lib.hid hst
  have hB1 : (w.alloc (.cells #[] 3)).heap.size ≤ w1.heap.size := bel1.size
  have hz0 : (w.alloc (.cells #[] 3)).heap.size = w.heap.size + 1 := by simp
  have hz1 : w.heap.size + 1 ≤ w1.heap.size := by omega
  have Hz0 := Lib.hid hz0
  have Hsz := Lib.hid hsz
  have hbel0 := hbl.trans_pure bel1 (Nat.le_refl _)
  have hown0 : Own 3 IntV (SpOut w.heap.size w1.heap.size w1.heap.size) w1 (.slice (some ⟨w.heap.size, 0, none⟩) 0 0) [] := by
    have h : Own 3 IntV (Iv w.heap.size (w.alloc (.cells #[] 3)).heap.size) w1 (.slice (some ⟨w.heap.size, 0, none⟩) 0 0) [] := Own.keep rIntV (own_lit0 w 3 w.heap.size rIntV) bel1 (Nat.le_refl _)
    refine (rOwn rIntV).mono (fun b hb => ?_) h
    have h2 := hb.1
    have h3 := hb.2
    exact ⟨.inl (by omega), by omega⟩
  have Hown0 := Lib.hid hown0
  have hB10 := hbel0.size
  obtain ⟨a, cap0, rfl, -⟩ := hst
  clear hpe own1 hsz hown0 hne hz0
  go_wp2
  go_loopw [4, 6, 7, 8, 15] (fun v _ _ _ i wr => ∃ k : Nat, k ≤ ps.length ∧ i = .int .i64 k ∧ (ps.take k).all parseYes = true ∧ Own 3 IntV (SpOut w.heap.size w1.heap.size wr.heap.size) wr v ((ps.take k).map parseVal) ∧ Below w.heap.size w wr ∧ SameOn (fun b => w.heap.size < b ∧ b < w1.heap.size) w1 wr ∧ w1.heap.size ≤ wr.heap.size) (fun _ _ _ _ i _ => ps.length - (intOf i).toNat)
  case atStart => exact ⟨0, Nat.zero_le _, rfl, rfl, Hown0.out, hbel0, fun _ _ => rfl, Nat.le_refl _⟩
  case round =>
    obtain ⟨k, hk, rfl, hall, hown, hbel, hsame, hsz1⟩ := hrel
    obtain ⟨wo, rfl⟩ : ∃ wo : World, wo = wr := ⟨_, rfl⟩
    have hBs := hbel.size
    have Hall := Lib.hid hall; clear hall
    by_cases hlt : k < ps.length
    · obtain ⟨q, hq⟩ : ∃ q, ps[k]? = some q := ⟨_, List.getElem?_eq_getElem hlt⟩
      obtain ⟨b, cpr, he, hb, -⟩ := Hown1.out.inv_ne (by omega)
      obtain ⟨rfl, -⟩ : a = some ⟨b, 0, none⟩ ∧ cap0 = cpr := by simpa using he
      obtain ⟨u, hck, rfl, -⟩ := Sl.at Hv.out hq
      have hbm : w.heap.size < b ∧ b < w1.heap.size := ⟨by have := hb.1; have := Hz0.out; omega, hb.2⟩
      rw [← World.cell?_of_block (a := ⟨b, 0 + k, none⟩) (hsame b hbm), Nat.zero_add] at hck
      have hqs : q.size ≤ 1048576 := by have := Hsz.out q (List.mem_of_getElem? hq); omega
      have Hst := Lib.hid (map_take_V hq)
      have Has := Lib.hid (all_take_stepP parseYes hq)
      have Hq := Lib.hid hq
      have hkl : ((ps.take k).map parseVal).length < 1099511627776 := by simp; omega
      have hdk : decide ((k : Int) < (ps.length : Int)) = true := by simp; omega
      obtain ⟨p1, p2, p3, rfl⟩ := hown.shape
      have Hown := Lib.hid hown
      clear hq hown he
      go_wp2_with (fail)
      refine (ParseInt_s _ _ hqs).mono ?_
      rintro e w2 ⟨rfl, b2⟩
      have hs2 := b2.size
      cases hy : parseYes q
      · have Hbad := Lib.hid (show (splitB s 44).all parseYes = false from by rw [← Hpe.out, List.all_eq_false]; exact ⟨q, List.mem_of_getElem? Hq.out, by simp [hy]⟩)
        have Hy := Lib.hid (show sumsYes s = false from by rw [Hyes.out, Hbad.out])
        have Hvv := Lib.hid (show sumsVal s = [] from by rw [Hval.out, Hbad.out]; rfl)
        have hbf := hbel.trans (b2.mono hBs)
        clear hy
        go_wp2
        refine bodyPost_ret (v := .tuple #[.slice none 0 0, .bool false]) (by simp [results, Tryd.results29, go_sem]) rfl ⟨_, by rw [Hy.out], by rw [Hvv.out]; exact Own.nil _ _ _ _, hbf⟩
      · have Hy := Lib.hid hy
        have hI := (parse_text hy).2
        have hbo := hbel.trans (b2.mono hBs)
        have HK := Lib.hid ((rOwn rIntV).same (sameOn_below b2 (fun b (hb : SpOut w.heap.size w1.heap.size wo.heap.size b) => hb.2)) Hown.out)
        have HS := Lib.hid (show ∀ b, SpOut w.heap.size w1.heap.size wo.heap.size b → b < w2.heap.size from fun b h1 => by have := h1.2; omega)
        have HS1 := Lib.hid (show ∀ b, SpOut w.heap.size w1.heap.size wo.heap.size b → (b = w.heap.size ∨ w1.heap.size ≤ b) from fun b h1 => h1.1)
        have HN1 := Lib.hid (show ∀ b, w2.heap.size < b → (b = w.heap.size ∨ w1.heap.size ≤ b) from fun b h1 => .inr (by omega))
        clear hy
        go_wp2_with (first | (at_builtin; (refine wpList_app rfl _ _ 29 rfl rIntV 3 Tryd.underlying29 infoInt rfl (by decide) (SpOut w.heap.size w1.heap.size wo.heap.size) (fun _ => False) (fun b => b = w.heap.size ∨ w1.heap.size ≤ b) _ _ _ _ rfl rfl (by exact HK.out) (by exact ⟨rfl, hI⟩) (fun _ _ h => h.elim) HS.out (fun _ h => h.elim) HS1.out (fun _ h => h.elim) HN1.out hkl ?_); intro v3 w3 hown3 honly3) | fail)
        have hob : ∀ b, (Value.slice p1 p2 p3).ownBlock = some b → SpOut w.heap.size w1.heap.size wo.heap.size b := fun b hb => Own.ownBlock' HK.out b hb
        have hb3 : Below w.heap.size w w3 := hbo.trans (honly3.below (by omega) (fun b hb => by rcases (hob b hb).1 with h | h <;> omega))
        have hs3 : SameOn (fun b => w.heap.size < b ∧ b < w1.heap.size) w1 w3 := fun b hb => by
          rw [honly3.block b (by have := hb.2; omega) (fun h => by have := hb.1; have := hb.2; rcases (hob b h).1 with h | h <;> omega), b2.block b (by have := hb.2; omega)]
          exact hsame b hb
        have hz3 : w1.heap.size ≤ w3.heap.size := by have := honly3.size; omega
        have Hown3 := Lib.hid hown3
        clear hown3
        go_wp2
        go_roundw
        case rel => exact ⟨k + 1, by omega, by go_num, by rw [Has.out, Hall.out, Hy.out]; rfl, by rw [Hst.out]; exact Hown3.out, hb3, hs3, hz3⟩
        case measure => simp [intOf]; omega
    · have hpa : (splitB s 44).all parseYes = true := by rw [← Hpe.out]; have h := Hall.out; rwa [List.take_of_length_le (by omega)] at h
      have Hy := Lib.hid (show sumsYes s = true from by rw [Hyes.out, hpa])
      have Hvv := Lib.hid (show sumsVal s = sumsParts s from by rw [Hval.out, hpa]; rfl)
      have Hback := Lib.hid (sums_back hpa)
      have hsl : (sumsParts s).length ≤ 2097152 := by unfold sumsParts; rw [List.length_map, ← Hpe.out]; omega
      have hfin := hown
      rw [List.take_of_length_le (by omega), show ps.map parseVal = sumsParts s from by rw [Hpe.out]; rfl] at hfin
      obtain ⟨p1, p2, p3, rfl⟩ := hown.shape
      have Hg := Lib.hid hfin.ints
      have Hfin := Lib.hid ((rOwn rIntV).mono (S' := Iv w.heap.size wo.heap.size) (fun b hb => ⟨by rcases hb.1 with h | h <;> omega, hb.2⟩) hfin)
      have hdk : decide ((k : Int) < (ps.length : Int)) = false := by simp; omega
      clear hown hfin hpa
      go_wp2_with (fail)
      refine (FormatSums_s _ _ _ Hg.out hsl).mono ?_
      rintro e w2 ⟨rfl, b2⟩
      rw [Hback.out]
      have hbf := hbel.trans (b2.mono hBs)
      have Hres := Lib.hid ((Own.keep rIntV Hfin.out b2 (Nat.le_refl _)).grow rIntV b2.size (Below.refl _ _))
      go_wp2
      refine bodyPost_ret (v := .tuple #[.slice p1 p2 p3, .bool true]) (by simp [results, Tryd.results29, go_sem]) rfl ⟨_, by rw [Hy.out], by rw [Hvv.out]; exact Hres.out, hbf⟩
end Go.Proofs.YtekgnpdchpdfiaaDoor
