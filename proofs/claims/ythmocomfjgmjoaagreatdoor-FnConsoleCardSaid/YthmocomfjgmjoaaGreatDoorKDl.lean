/- The lines of a session that a law draws: contracts of the reference's l01Str, l17Line, l17Script and MakeLines. -/
import Derived.Test.YthmocomfjgmjoaaGreatDoorQ02
import Derived.Test.YthmocomfjgmjoaaGreatDoorQ05
set_option maxHeartbeats 2000000
set_option maxRecDepth 100000
namespace Go.Proofs.YthmocomfjgmjoaaGreatDoor
open Go.RowKit
def NiceLine (t : ByteArray) : Prop := t.size ≤ 100 ∧ (10 : UInt8) ∉ t.data.toList
instance (t : ByteArray) : Decidable (NiceLine t) := inferInstanceAs (Decidable (_ ∧ _))
def strsF4 : List ByteArray := [⟨#[105, 109, 97, 103, 101, 32, 35, 46, 47, 46, 35]⟩, ⟨#[105, 109, 97, 103, 101, 32, 35, 35, 46, 47, 46, 35, 35, 47, 35, 46, 46]⟩, ⟨#[105, 109, 97, 103, 101, 32, 46, 35, 46, 47, 35, 35, 35, 47, 46, 35, 46]⟩, ⟨#[105, 109, 97, 103, 101, 32, 35, 46, 35, 47, 46, 35, 46]⟩]
theorem niceF4 : ∀ t ∈ strsF4, NiceLine t := by decide +kernel
def strsL8 : List ByteArray := [⟨#[105, 109, 97, 103, 101, 32, 35, 46, 47, 46, 35]⟩, ⟨#[105, 109, 97, 103, 101, 32, 35, 35, 46, 47, 46, 35, 35, 47, 35, 46, 46]⟩, ⟨#[115, 117, 109, 115, 32, 49, 44, 49, 32, 49, 44, 49]⟩, ⟨#[115, 117, 109, 115, 32, 50, 44, 49, 32, 50, 44, 49]⟩, ⟨#[115, 117, 109, 115, 32, 51, 44, 48, 32, 49, 44, 49, 44, 49]⟩, ⟨#[115, 117, 109, 115, 32, 50, 44, 50, 44, 49, 32, 50, 44, 50, 44, 49]⟩, ⟨#[115, 117, 109, 115, 32, 50, 44, 50, 32, 51, 44, 49]⟩, ⟨#[115, 117, 109, 115, 32, 49, 32, 49, 44, 49]⟩]
theorem niceL8 : ∀ t ∈ strsL8, NiceLine t := by decide +kernel
def strsL9 : List ByteArray := [⟨#[115, 104, 111, 119]⟩, ⟨#[98, 117, 105, 108, 100]⟩, ⟨#[108, 101, 97, 115, 116]⟩, ⟨#[97, 108, 108]⟩, ⟨#[102, 105, 120, 101, 100]⟩, ⟨#[99, 111, 110, 118, 101, 120]⟩, ⟨#[114, 101, 118, 101, 97, 108]⟩, ⟨#[114, 101, 112, 97, 105, 114]⟩, ⟨#[112, 117, 122, 122, 108, 101]⟩]
theorem niceL9 : ∀ t ∈ strsL9, NiceLine t := by decide +kernel
def strsL12 : List ByteArray := [⟨#[115, 119, 105, 116, 99, 104, 32, 48, 32, 49, 32, 48, 32, 49]⟩, ⟨#[115, 119, 105, 116, 99, 104, 32, 48, 32, 50, 32, 48, 32, 50]⟩, ⟨#[102, 108, 105, 112, 32, 48, 32, 48]⟩, ⟨#[102, 108, 105, 112, 32, 49, 32, 49]⟩, ⟨#[102, 108, 105, 112, 32, 57, 32, 48]⟩, ⟨#[112, 97, 116, 104, 32, 46, 35, 47, 35, 46]⟩, ⟨#[112, 97, 116, 104, 32, 35, 35, 47, 35, 35]⟩, ⟨#[110, 101, 97, 114, 32, 35, 46, 47, 35, 46]⟩, ⟨#[108, 105, 110, 101, 32, 49, 32, 48]⟩, ⟨#[108, 105, 110, 101, 32, 48, 32, 49]⟩, ⟨#[108, 105, 110, 101, 32, 49, 32, 49]⟩, ⟨#[108, 105, 110, 101, 32, 49, 32, 45, 49]⟩]
theorem niceL12 : ∀ t ∈ strsL12, NiceLine t := by decide +kernel
def strsL14 : List ByteArray := [⟨#[]⟩, ⟨#[35, 32, 110, 111, 116, 101]⟩, ⟨#[119, 104, 97, 116]⟩, ⟨#[105, 109, 97, 103, 101, 32, 35, 120]⟩, ⟨#[105, 109, 97, 103, 101, 32, 35, 46, 47, 35]⟩, ⟨#[115, 117, 109, 115, 32, 49, 44, 120, 32, 49]⟩, ⟨#[115, 117, 109, 115, 32, 49]⟩, ⟨#[115, 119, 105, 116, 99, 104, 32, 48, 32, 49]⟩, ⟨#[102, 108, 105, 112, 32, 48]⟩, ⟨#[112, 97, 116, 104]⟩, ⟨#[110, 101, 97, 114, 32, 35]⟩, ⟨#[108, 105, 110, 101, 32, 50, 32, 50]⟩, ⟨#[115, 104, 111, 119, 32, 49]⟩, ⟨#[115, 117, 109, 115, 32, 45, 32, 45]⟩]
theorem niceL14 : ∀ t ∈ strsL14, NiceLine t := by decide +kernel
theorem strs_lit (w : World) (t : TypeId) (l : List ByteArray) (hl : l.length ≤ 1000) (hn : ∀ x ∈ l, NiceLine x) (S : Bk) (hS : S w.heap.size) : Sl StrV S (w.alloc (.cells (l.map Value.string).toArray t)) (.slice (some ⟨w.heap.size, 0, none⟩) l.length l.length) l := by
  refine ⟨some ⟨w.heap.size, 0, none⟩, l.length, rfl, Nat.le_refl _, by omega, fun h => by simp at h, fun h0 => ⟨w.heap.size, 0, rfl, hS, fun j x hj => ⟨.string x, ?_, rfl, by have := (hn x (List.mem_of_getElem? hj)).1; omega⟩⟩⟩
  rw [Nat.zero_add, World.cell?_alloc_new]
  simp [hj]
theorem l01Str_c (B g b n0 : Nat) (l : List ByteArray) (w : World) (h : Cur B w g) (hb : b < w.heap.size) (hbg : b ≠ g) (hn : l.length = n0) (hl : Sl StrV (fun x => x = b) w (.slice (some ⟨b, 0, none⟩) l.length l.length) l) (h1 : 1 ≤ l.length) (h2 : l.length ≤ 256) :
    Calls Tryz.prog 79 #[.pointer (some ⟨g, 0, none⟩), .slice (some ⟨b, 0, none⟩) n0 n0] w fun e w' => ∃ t, t ∈ l ∧ e = .returned (.string t) ∧ Cur B w' g ∧ Only (fun x => x = g) w w' ∧ w.heap.size = w'.heap.size := by
  subst hn
  have Hl := Lib.hid hl
  clear hl
  go_enter Tryz.func79, Tryz.ntmps79
  go_wp2_with (fail)
  refine (l01Below_c B g l.length _ (by exact h) (by omega) (by omega)).mono ?_
  rintro e w2 ⟨m, ⟨hm0, hm1⟩, rfl, hc2, ho2, hz2⟩
  obtain ⟨n, rfl⟩ := Int.eq_ofNat_of_zero_le hm0
  obtain ⟨t, ht⟩ : ∃ t, l[n]? = some t := ⟨_, List.getElem?_eq_getElem (by omega)⟩
  obtain ⟨u, hu, rfl, -⟩ := Sl.at Hl.out ht
  rw [Nat.zero_add, ← ho2.cell (p := ⟨b, n, none⟩) hb hbg] at hu
  have Hz2 := Lib.hid hz2
  have Hm := Lib.hid (List.mem_of_getElem? ht)
  clear hz2 ht
  go_wp2
  go_ret
  exact ⟨t, Hm.out, rfl, hc2, ho2, Hz2.out⟩
theorem l17Line_c (B g : Nat) (w : World) (h : Cur B w g) : Calls Tryz.prog 81 #[.pointer (some ⟨g, 0, none⟩)] w fun e w' => ∃ t, NiceLine t ∧ e = .returned (.string t) ∧ Cur B w' g ∧ Only (fun x => x = g) w w' ∧ w.heap.size ≤ w'.heap.size := by
  have hgl := h.lt
  go_enter Tryz.func81, Tryz.ntmps81
  go_wp2_with (fail)
  refine (l01Below_c B g 4 _ (by exact h) (by decide) (by decide)).mono ?_
  rintro e w2 ⟨m, ⟨hm0, hm1⟩, rfl, hc2, ho2, hz2⟩
  have Hz2 := Lib.hid hz2
  have hgl2 : g < w2.heap.size := by omega
  clear hz2
  have hm : m = 0 ∨ m = 1 ∨ m = 2 ∨ m = 3 := by omega
  rcases hm with rfl | rfl | rfl | rfl
  · go_wp2_with (fail)
    have yb := Below.pureAlloc w2 (.cells (strsL8.map Value.string).toArray 9)
    have hl := strs_lit w2 9 strsL8 (by decide) niceL8 (fun x => x = w2.heap.size) rfl
    refine (l01Str_c B g w2.heap.size 8 strsL8 (w2.alloc (.cells (strsL8.map Value.string).toArray 9)) (hc2.keep yb) (by simp) (by omega) (by decide) hl (by decide) (by decide)).mono ?_
    rintro e w3 ⟨t, ht, rfl, hc3, ho3, hz3⟩
    have ho : Only (fun x => x = g) w w3 := (ho2.trans' ((Only.of_pure yb (fun x => x = g)).mono fun b hb _ => .inl hb)).trans' (ho3.mono fun b hb _ => .inl hb)
    have hn := niceL8 t ht
    have hsz : w.heap.size ≤ w3.heap.size := ho.size
    clear hl yb ho2 ho3 ht hz3
    go_wp2
    go_ret
    exact ⟨t, hn, rfl, hc3, ho, hsz⟩
  · go_wp2_with (fail)
    have yb := Below.pureAlloc w2 (.cells (strsL9.map Value.string).toArray 9)
    have hl := strs_lit w2 9 strsL9 (by decide) niceL9 (fun x => x = w2.heap.size) rfl
    refine (l01Str_c B g w2.heap.size 9 strsL9 (w2.alloc (.cells (strsL9.map Value.string).toArray 9)) (hc2.keep yb) (by simp) (by omega) (by decide) hl (by decide) (by decide)).mono ?_
    rintro e w3 ⟨t, ht, rfl, hc3, ho3, hz3⟩
    have ho : Only (fun x => x = g) w w3 := (ho2.trans' ((Only.of_pure yb (fun x => x = g)).mono fun b hb _ => .inl hb)).trans' (ho3.mono fun b hb _ => .inl hb)
    have hn := niceL9 t ht
    have hsz : w.heap.size ≤ w3.heap.size := ho.size
    clear hl yb ho2 ho3 ht hz3
    go_wp2
    go_ret
    exact ⟨t, hn, rfl, hc3, ho, hsz⟩
  · go_wp2_with (fail)
    have yb := Below.pureAlloc w2 (.cells (strsL12.map Value.string).toArray 9)
    have hl := strs_lit w2 9 strsL12 (by decide) niceL12 (fun x => x = w2.heap.size) rfl
    refine (l01Str_c B g w2.heap.size 12 strsL12 (w2.alloc (.cells (strsL12.map Value.string).toArray 9)) (hc2.keep yb) (by simp) (by omega) (by decide) hl (by decide) (by decide)).mono ?_
    rintro e w3 ⟨t, ht, rfl, hc3, ho3, hz3⟩
    have ho : Only (fun x => x = g) w w3 := (ho2.trans' ((Only.of_pure yb (fun x => x = g)).mono fun b hb _ => .inl hb)).trans' (ho3.mono fun b hb _ => .inl hb)
    have hn := niceL12 t ht
    have hsz : w.heap.size ≤ w3.heap.size := ho.size
    clear hl yb ho2 ho3 ht hz3
    go_wp2
    go_ret
    exact ⟨t, hn, rfl, hc3, ho, hsz⟩
  · go_wp2_with (fail)
    have yb := Below.pureAlloc w2 (.cells (strsL14.map Value.string).toArray 9)
    have hl := strs_lit w2 9 strsL14 (by decide) niceL14 (fun x => x = w2.heap.size) rfl
    refine (l01Str_c B g w2.heap.size 14 strsL14 (w2.alloc (.cells (strsL14.map Value.string).toArray 9)) (hc2.keep yb) (by simp) (by omega) (by decide) hl (by decide) (by decide)).mono ?_
    rintro e w3 ⟨t, ht, rfl, hc3, ho3, hz3⟩
    have ho : Only (fun x => x = g) w w3 := (ho2.trans' ((Only.of_pure yb (fun x => x = g)).mono fun b hb _ => .inl hb)).trans' (ho3.mono fun b hb _ => .inl hb)
    have hn := niceL14 t ht
    have hsz : w.heap.size ≤ w3.heap.size := ho.size
    clear hl yb ho2 ho3 ht hz3
    go_wp2
    go_ret
    exact ⟨t, hn, rfl, hc3, ho, hsz⟩
theorem own_lit1s {w : World} {E g : Nat} {t : ByteArray} {S : Bk} (h : w.heap[g]? = some (.cells #[.string t] E)) (hn : t.size ≤ 9223372036854775807) (hS : S g) : Own E StrV S w (.slice (some ⟨g, 0, none⟩) 1 1) [t] :=
  .inr ⟨g, #[.string t], rfl, hS, h, by simp, by simp [maxLen], by simp, fun _ _ => False, fun _ _ h => h.elim, fun _ _ _ h => h.elim, fun k x hk => by
    cases k with
    | zero => simp at hk; subst hk; exact ⟨_, rfl, rfl, hn⟩
    | succ k => simp at hk⟩
theorem l17Script_c (B g : Nat) (w : World) (h : Cur B w g) : Calls Tryz.prog 26 #[.pointer (some ⟨g, 0, none⟩), .int .i64 8] w fun e w' => ∃ (v : Value) (s : ByteArray) (ls : List ByteArray), e = .returned v ∧ s ∈ strsF4 ∧ ls.length ≤ 8 ∧ (∀ t ∈ ls, NiceLine t) ∧ Own 9 StrV (Iv w.heap.size w'.heap.size) w' v (s :: ls) ∧ Only (fun x => x = g) w w' := by
  have hgl := h.lt
  go_enter Tryz.func26, Tryz.ntmps26
  go_wp2_with (fail)
  have yb := Below.pureAlloc w (.cells (strsF4.map Value.string).toArray 9)
  have hl := strs_lit w 9 strsF4 (by decide) niceF4 (fun x => x = w.heap.size) rfl
  refine (l01Str_c B g w.heap.size 4 strsF4 (w.alloc (.cells (strsF4.map Value.string).toArray 9)) (h.keep yb) (by simp) (by omega) (by decide) hl (by decide) (by decide)).mono ?_
  rintro e w3 ⟨s, hs, rfl, hc3, ho3, hz3⟩
  have ho : Only (fun x => x = g) w w3 := ((Only.of_pure yb (fun x => x = g))).trans' (ho3.mono fun b hb _ => .inl hb)
  have hn := niceF4 s hs
  have hs3 : w.heap.size ≤ w3.heap.size := ho.size
  have hs3' : g < w3.heap.size := by omega
  have y4 := Below.pureAlloc w3 (.cells #[.string s] 9)
  have hc4 := hc3.keep y4
  have o4 : Own 9 StrV (Iv w.heap.size (w3.alloc (.cells #[.string s] 9)).heap.size) (w3.alloc (.cells #[.string s] 9)) (.slice (some ⟨w3.heap.size, 0, none⟩) 1 1) [s] := own_lit1s (heap_alloc_new w3 _) (by have := hn.1; omega) ⟨hs3, by simp⟩
  have ho4 : Only (fun x => x = g) w (w3.alloc (.cells #[.string s] 9)) := ho.alloc _
  have Hs := Lib.hid hs
  clear hl yb ho3 hs hz3 y4 ho hc3
  obtain ⟨w4, hw4⟩ : ∃ W, W = w3.alloc (.cells #[.string s] 9) := ⟨_, rfl⟩
  rw [← hw4] at hc4 o4 ho4
  have hg4 := hc4.lt
  go_wp2_with (fail)
  rw [← hw4]
  refine (l01Below_c B g 8 _ hc4 (by decide) (by decide)).mono ?_
  rintro e w5 ⟨m, ⟨hm0, hm1⟩, rfl, hc5, ho5, hz5⟩
  obtain ⟨m, rfl⟩ := Int.eq_ofNat_of_zero_le hm0
  have o5 : Own 9 StrV (Iv w.heap.size w5.heap.size) w5 (.slice (some ⟨w3.heap.size, 0, none⟩) 1 1) [s] := (rOwn rStrV).mono (fun b hb => ⟨hb.1, by have := hb.2; omega⟩) (Own.only rStrV o4 ho5 (fun b hb => hb.2) (fun b hb e => by have := hb.1; have : b = g := e; omega))
  have ho6 := ho4.trans' (ho5.mono fun b hb _ => .inl hb)
  have hl0 : ([] : List ByteArray).length + (m + 1) = m + 1 := by simp
  clear hw4 o4 ho4 hc4 ho5 hz5
  go_wp2
  go_loopw [5, 6] (fun v i wr => ∃ (k : Nat) (ls : List ByteArray), ls.length + k = m + 1 ∧ i = .int .i64 k ∧ (∀ t ∈ ls, NiceLine t) ∧ Hid (Own 9 StrV (Iv w.heap.size wr.heap.size) wr v (s :: ls)) ∧ Cur B wr g ∧ Only (fun x => x = g) w wr) (fun _ i _ => (intOf i).toNat)
  case atStart => exact ⟨m + 1, [], hl0, by go_num, by simp, Lib.hid o5, hc5, ho6⟩
  case round =>
    clear o5 hc5 ho6 hl0
    obtain ⟨k, ls, hk, rfl, hnice, hown, hcur, hoo⟩ := hrel
    obtain ⟨wo, rfl⟩ : ∃ wo : World, wo = wr := ⟨_, rfl⟩
    have hws := hoo.size
    by_cases hk0 : 0 < k
    · have hd : decide ((0 : Int) < (k : Int)) = true := by simp; omega
      have hkl : (s :: ls).length < 1099511627776 := by rw [List.length_cons]; omega
      go_wp2_with (first
        | (go_at_call 81; (refine (l17Line_c B g _ hcur).mono ?_); rintro e w7 ⟨t, hnt, rfl, hc7, ho7, hz7⟩; have hgt := hc7.lt; have h7 := Lib.hid (show Own 9 StrV (Iv w.heap.size w7.heap.size) w7 _ (s :: ls) from (rOwn rStrV).mono (fun b hb => ⟨hb.1, by have := hb.2; omega⟩) (Own.only rStrV hown.out ho7 (fun b hb => hb.2) (fun b hb e => by have := hb.1; have : b = g := e; omega))); have h7o := hoo.trans' (ho7.mono fun b hb _ => .inl hb); have hnts := hnt.1; clear ho7)
        | (at_builtin; (refine wpList_appR rfl _ _ 27 rfl rStrV 9 Tryz.underlying27 infoStr rfl (by decide) w.heap.size w7.heap.size (by omega) (Nat.le_refl _) rfl rfl (by exact h7.out) (by exact ⟨rfl, by omega⟩) hkl ?_); intro v2 w8 hown8 hbel8 hon8; have hc8 := hc7.only (S := fun b => w.heap.size ≤ b) (Only.of_below hbel8) (by omega) (fun b hb => by have := hcur.1; omega); have ho8 : Only (fun x => x = g) w w8 := h7o.trans' ((Only.of_below hbel8).mono fun b hb _ => .inr hb))
        | fail)
      go_wp2
      go_roundw
      case rel => exact ⟨k - 1, ls ++ [t], by rw [List.length_append, List.length_singleton]; omega, by go_num, fun x hx => by rcases List.mem_append.1 hx with h | h; exact hnice x h; rw [List.mem_singleton.1 h]; exact hnt, Lib.hid hown8, hc8, ho8⟩
      case measure => simp [intOf]; omega
    · have hd : decide ((0 : Int) < (k : Int)) = false := by simp; omega
      go_wp2
      go_ret
      exact ⟨_, s, ls, rfl, Hs.out, by omega, hnice, hown.out, hoo⟩
theorem MakeLines_c (v : Value) (bs : List Int) (w : World) (hv : Bytes w v bs) : Calls Tryz.prog 11 #[v] w fun e w' => ∃ (v : Value) (s : ByteArray) (ls : List ByteArray), e = .returned v ∧ s ∈ strsF4 ∧ ls.length ≤ 8 ∧ (∀ t ∈ ls, NiceLine t) ∧ Own 9 StrV (Iv w.heap.size w'.heap.size) w' v (s :: ls) ∧ Below w.heap.size w w' := by
  go_enter Tryz.func11, Tryz.ntmps11
  go_wp2_with (fail)
  refine (l01New_c v bs _ hv).mono ?_
  rintro e w1 ⟨g, rfl, rfl, hcur, hbel, hsz⟩
  have Hsz := Lib.hid hsz; clear hsz
  go_wp2_with (fail)
  refine (l17Script_c _ _ _ hcur).mono ?_
  rintro e w2 ⟨v2, s, ls, rfl, hs, hl, hn, ho, hoo⟩
  have hs1 := hbel.size
  have Hs := Lib.hid hs
  clear hs
  go_wp2
  go_ret
  exact ⟨_, s, ls, rfl, Hs.out, hl, hn, (rOwn rStrV).mono (fun b hb => ⟨by have := hb.1; omega, hb.2⟩) ho, hbel.trans (hoo.below hs1 (fun b hb => by have : b = w.heap.size := hb; omega))⟩
end Go.Proofs.YthmocomfjgmjoaaGreatDoor
