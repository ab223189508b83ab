/- Lists of switches in memory. -/
import Derived.Test.YtliejhmlcdjpcaaMem
import Derived.Test.YtliejhmlcdjpcaaRyser
import Derived.Laws.OwnMore
namespace Go.Proofs.Ytliejhmlcdjpcaa
open Go.RowKit

def swC (s : Sw) : List Value := [.int .i64 s.1, .int .i64 s.2.1, .int .i64 s.2.2.1, .int .i64 s.2.2.2]
def swCs (l : List Sw) : List Value := l.flatMap swC
theorem swCs_len : ∀ l, (swCs l).length = l.length * 4
  | [] => rfl
  | s :: l => by
    have := swCs_len l
    unfold swCs at this ⊢
    rw [List.flatMap_cons, List.length_append, this, List.length_cons]
    simp [swC]; omega
theorem swCs_append (l k : List Sw) : swCs (l ++ k) = swCs l ++ swCs k := by unfold swCs; exact List.flatMap_append
theorem swCs_at : ∀ {l : List Sw} {k : Nat} {s : Sw}, l[k]? = some s → ∀ j, j < 4 → (swCs l)[k * 4 + j]? = (swC s)[j]?
  | [], k, s, h, _, _ => by simp at h
  | t :: l, 0, s, h, j, hj => by
    simp at h; subst h
    unfold swCs
    rw [List.flatMap_cons, List.getElem?_append_left (by simp [swC]; omega)]; simp
  | t :: l, k + 1, s, h, j, hj => by
    have h' : l[k]? = some s := by simpa using h
    have := swCs_at h' j hj
    unfold swCs at this ⊢
    rw [List.flatMap_cons, List.getElem?_append_right (by simp [swC]; omega), ← this]
    congr 1
    simp [swC]; omega

/-- the slice value owns its cells, in a block from B on, and reads as the list of switches -/
def OwnSw (B : Nat) (w : World) (v : Value) (l : List Sw) : Prop := w.ownsRow B 64 4 v l.length (swCs l)

theorem OwnSw.lt {B : Nat} {w : World} {v : Value} {l : List Sw} (h : OwnSw B w v l) : ∀ g, v.ownBlock = some g → B ≤ g ∧ g < w.heap.size := World.ownsRow.lt h
theorem OwnSw.nil (B : Nat) (w : World) : OwnSw B w (.slice none 0 0) [] := World.ownsRow_nil _ _ _ _
theorem OwnSw.lit0 (w : World) (B : Nat) (h : B ≤ w.heap.size) : OwnSw B (w.alloc (.cells #[] 64)) (.slice (some ⟨w.heap.size, 0, none⟩) 0 0) [] :=
  ⟨rfl, .inr ⟨w.heap.size, 0, #[], rfl, h, heap_alloc_new w _, by simp, by simp, by simp, by simp [swCs]⟩⟩
theorem OwnSw.same {B : Nat} {w w' : World} {v : Value} {l : List Sw} (h : OwnSw B w v l) (hs : ∀ b, B ≤ b → b < w.heap.size → w'.heap[b]? = w.heap[b]?) : OwnSw B w' v l := by
  have hlt := h.lt
  refine ⟨h.1, ?_⟩
  rcases h.2 with h1 | ⟨g, cap, cur, rfl, h1, h2, h3⟩
  · exact .inl h1
  · exact .inr ⟨g, cap, cur, rfl, h1, (hs g h1 (hlt g rfl).2).trans h2, h3⟩
theorem OwnSw.low {B B' : Nat} {w : World} {v : Value} {l : List Sw} (h : OwnSw B w v l) (hb : B' ≤ B) : OwnSw B' w v l := by
  refine ⟨h.1, ?_⟩
  rcases h.2 with h1 | ⟨g, cap, cur, rfl, h1, h2, h3⟩
  · exact .inl h1
  · exact .inr ⟨g, cap, cur, rfl, Nat.le_trans hb h1, h2, h3⟩
theorem OwnSw.keep {B : Nat} {w w' : World} {v : Value} {l : List Sw} (h : OwnSw B w v l) (hb : Below w.heap.size w w') : OwnSw B w' v l := h.same fun b _ h2 => hb.block b h2
theorem OwnSw.only {B : Nat} {T : Bk} {w w' : World} {v : Value} {l : List Sw} (h : OwnSw B w v l) (ho : Only T w w') (hd : ∀ b, B ≤ b → b < w.heap.size → ¬ T b) : OwnSw B w' v l := h.same fun b h1 h2 => ho.block b h2 (hd b h1 h2)
theorem OwnSw.shape {B : Nat} {w : World} {v : Value} {l : List Sw} (h : OwnSw B w v l) : ∃ a cap, v = .slice a l.length cap := by
  rcases h.2 with ⟨rfl, h1⟩ | ⟨g, cap, cur, rfl, -⟩
  · exact ⟨none, 0, by rw [h1]⟩
  · exact ⟨_, _, rfl⟩
theorem OwnSw.at {B : Nat} {w : World} {v : Value} {l : List Sw} (h : OwnSw B w v l) (hne : 0 < l.length) : ∃ g cap, v = .slice (some ⟨g, 0, none⟩) l.length cap ∧ B ≤ g ∧ g < w.heap.size ∧ l.length ≤ cap ∧ ∀ k s, l[k]? = some s → ∀ j u, (swC s)[j]? = some u → w.cell? ⟨g, k * 4 + j, none⟩ = some u := by
  have hlt := h.lt
  have h1 := h
  rcases h.2 with ⟨_, h0⟩ | ⟨g, cap, cur, rfl, hb, hh, h2, -⟩
  · omega
  · refine ⟨g, cap, rfl, hb, (hlt g rfl).2, h2, fun k s hk j u hj => ?_⟩
    have hj4 : j < 4 := by have := (List.getElem?_eq_some_iff.1 hj).1; simpa [swC] using this
    have hkl := (List.getElem?_eq_some_iff.1 hk).1
    rw [World.ownsRow.cellAt h1 _ (by omega), swCs_at hk j hj4, hj]

/-- an append of one switch -/
theorem wpList_appSw {P : Program} {w : World} {ops : Array Oper} {rest : List Oper} {o : Oper} {a : Act} {Q : Exit → Act → World → Prop} (hgd : o.guard = none) (s xo : Operand) (t : TypeId)
    (ho : o.op = .call { callee := .builtin .append, args := #[s, xo], argTypes := #[t, t] })
    {z : Value} {bytes : Nat} (ht : P.underlying t = some (.slice 64)) (hinfo : (P.info? 64).map (fun i => (i.zero, i.size, i.bytes)) = some (some z, 4, bytes)) (hzs : z.cells.size = 4) (hb64 : bytes ≤ 64)
    (B : Nat) {v : Value} {l : List Sw} (x : Sw) {gb c : Nat} (hs : a.eval s = v) (hx : a.eval xo = .slice (some ⟨gb, 0, none⟩) 1 c) (hnew : w.heap[gb]? = some (.cells (swC x).toArray 64 (0, 0))) (hown : OwnSw B w v l) (hlen : l.length < 1073741824) (hB : B ≤ w.heap.size)
    (h : ∀ v' w', OwnSw B w' v' (l ++ [x]) → Only (fun b => v.ownBlock = some b) w w' → wpList P ops Q rest (a.put o.dst v') w') :
    wpList P ops Q (o :: rest) a w := by
  obtain ⟨i, hi, hz, hsize, hby⟩ := info_parts hinfo
  have hnews : ∀ j u, (swC x)[j]? = some u → w.cell? ((⟨gb, 0, none⟩ : Addr).add j) = some u := by
    intro j u hj
    have : (⟨gb, 0, none⟩ : Addr).add j = ⟨gb, j, none⟩ := by simp only [Addr.add, Nat.zero_add]; split <;> simp_all
    rw [this, cell_of_row w gb j _ _ (0, 0) hnew]
    simpa using hj
  refine wpList_append_own (P := P) w hgd s xo t ho B 64 i z 4 bytes ht hi hz hsize hby hzs (by decide) v l.length (swCs l) hs hown ⟨gb, 0, none⟩ 1 c (swC x) hx rfl hnews (by intro u hu; simp [swC] at hu; rcases hu with rfl | rfl | rfl | rfl <;> rfl)
    (by simp [maxLen]; omega) (by have : (l.length + 1) * bytes ≤ 1073741824 * 64 := Nat.mul_le_mul (by omega) hb64
                                  omega) hB ?_
  intro v' w' h1 h2 _
  exact h v' w' (by unfold OwnSw; rw [swCs_append]; simpa [swCs] using h1) ⟨h2.os, h2.tape, h2.output, h2.size, fun b hb hn => h2.block b hb (fun e => hn e.symm)⟩
end Go.Proofs.Ytliejhmlcdjpcaa
