import Derived.Test.YtkdhmdmmdbmeaaaKlit
import Derived.Deep.RegionHeld3
import Derived.Deep.MidRow
namespace Go.Proofs.Ytkdhmdmmdbmeaaa.Pr
open Go.RowKit Go.Proofs.YtkdhmdmmdbmeaaaW.PrintWords Go.Proofs.YtkdhmdmmdbmeaaaW.PrintLast Go.Proofs.YtkdhmdmmdbmeaaaW.PrintMore
set_option linter.unusedVariables false
set_option linter.unusedSimpArgs false

/-! ### Rows of cells in memory -/
theorem rangeAt_below {B b o : Nat} {cs : List Value} {w w' : World} (h : w.rangeAt b o cs) (hb : Below B w w') (hB : b < B) : w'.rangeAt b o cs := fun j v hv => (hb.cell (p := ⟨b, o + j, none⟩) hB).trans (h j v hv)
theorem there_below {B b o n : Nat} {w w' : World} (h : w.there b o n) (hb : Below B w w') (hB : b < B) : w'.there b o n := fun j hj => by
  rw [hb.cell (p := ⟨b, o + j, none⟩) hB, hb.frozen (p := ⟨b, o + j, none⟩) hB]; exact h j hj
theorem there_setCell {b o n : Nat} {w : World} (h : w.there b o n) (g k : Nat) (v : Value) : (w.setCell ⟨g, k, none⟩ v).there b o n := fun j hj => by
  refine ⟨?_, by rw [World.frozen?_setCell]; exact (h j hj).2⟩
  obtain ⟨x, hx⟩ := Option.isSome_iff_exists.1 (h j hj).1
  obtain ⟨x', hx'⟩ := cell?_setCell_some (w := w) (p := ⟨g, k, none⟩) (x := v) (q := ⟨b, o + j, none⟩) (v := x) hx
  rw [hx']; rfl
theorem below_cells {B b : Nat} {a : World} (hb : B ≤ b) : ∀ (vs : List Value) (o : Nat) {w : World}, Below B a w → Below B a (w.setCells b o vs)
  | [], _, _, h => h
  | v :: vs, o, w, h => by
    simp only [World.setCells]
    exact below_cells hb vs (o + 1) (h.setCell (by simpa using hb) v)
theorem size_cells (b : Nat) : ∀ (vs : List Value) (o : Nat) (w : World), (w.setCells b o vs).heap.size = w.heap.size
  | [], _, _ => rfl
  | v :: vs, o, w => by
    simp only [World.setCells]
    rw [size_cells b vs (o + 1)]
    simp
theorem results_cell_mid {fn : Func} {p : Tmp} {ty : TypeId} (h : fn.results = #[.cell p ty]) (tmps : Array Value) (w : World) (g : Nat) (cs : List Value) (d : TypeDesc)
    (hp : tmps.getD p undef = .pointer (some ⟨g, 0, none⟩)) (hc : w.rangeAt g 0 cs)
    (hu : Try.prog.underlying ty = some d) (hd : d.isRow = true) (hi : (Try.prog.info? ty).map (·.size) = some cs.length) :
    (results fn tmps).run Try.prog w = .ok (.agg cs.toArray) w := by
  have hp' : tmps[p]?.getD undef = .pointer (some ⟨g, 0, none⟩) := by simpa using hp
  simp [results, h, hp', asAddr, run_loadVar_mid w g 0 ty cs d hc hu hd hi]
theorem range_new (w : World) (cs : List Value) (e : TypeId) : (w.alloc (.cells cs.toArray e)).rangeAt w.heap.size 0 cs := fun j v hv => by
  rw [cell_of_row _ _ _ _ _ _ (heap_alloc_new w _)]
  simpa using hv
theorem there_new (w : World) (cs : Array Value) (e : TypeId) : (w.alloc (.cells cs e)).there w.heap.size 0 cs.size := fun j hj => by
  rw [cell_of_row _ _ _ _ _ _ (heap_alloc_new w _), frozen_of_row _ _ _ _ _ (heap_alloc_new w _)]
  simp [hj]
theorem range_later {w : World} {b o : Nat} {cs : List Value} (h : w.rangeAt b o cs) (ob : Obj) : (w.alloc ob).rangeAt b o cs := World.rangeAt_alloc h ob
theorem there_owned {w : World} {base g n cap : Nat} {e : TypeId} {xs : List Value} (h : w.ownsRow base e 1 (.slice (some ⟨g, 0, none⟩) n cap) n xs) : w.there g 0 n := fun j hj => by
  rcases h.2 with ⟨h0, _⟩ | ⟨g', cap', cur, h0, _, hg, hle, _, hs, _⟩
  · simp at h0
  · simp only [Value.slice.injEq, Option.some.injEq, Addr.mk.injEq] at h0
    obtain ⟨⟨rfl, _⟩, _, rfl⟩ := h0
    rw [cell_of_row _ _ _ _ _ _ hg, frozen_of_row _ _ _ _ _ hg]
    simp only [and_true]
    rw [Array.getElem?_eq_getElem (by omega)]
    rfl
theorem there_less {w : World} {g o n m : Nat} (h : w.there g o n) (hm : m ≤ n) : w.there g o m := fun j hj => h j (by omega)
theorem there_more {w : World} {g n o m : Nat} (h : w.there g 0 n) (hm : o + m ≤ n) : w.there g o m := fun j hj => by
  have := h (o + j) (by omega)
  rwa [Nat.zero_add] at this
theorem grown_none {w w' : World} (h : w.grownBy w' none) : Below w.heap.size w w' := ⟨h.os, h.tape, h.output, h.size, fun i hi => h.block i hi (by simp)⟩
/-- A slice of structs as it lies in a block: element i's cells from i * n on. -/
def RowsAt {α : Type} (f : α → List Value) (n : Nat) (w : World) (g : Nat) (T : List α) : Prop := ∀ i x, T[i]? = some x → w.rangeAt g (i * n) (f x)
theorem RowsAt.below {α : Type} {f : α → List Value} {n g : Nat} {w w' : World} {T : List α} (h : RowsAt f n w g T) {B : Nat} (hb : Below B w w') (hB : g < B) : RowsAt f n w' g T := fun i x hx => rangeAt_below (h i x hx) hb hB
theorem RowsAt.later {α : Type} {f : α → List Value} {n g : Nat} {w : World} {T : List α} (h : RowsAt f n w g T) (ob : Obj) : RowsAt f n (w.alloc ob) g T := fun i x hx => range_later (h i x hx) ob
theorem RowsAt.new {α : Type} {f : α → List Value} {n : Nat} (hf : ∀ x, (f x).length = n) (w : World) (T : List α) (e : TypeId) : RowsAt f n (w.alloc (.cells (T.flatMap f).toArray e)) w.heap.size T := fun i x hx j v hv => by
  have hr := (flat_at hf T i x hx)
  have h0 := range_new w (T.flatMap f) e (i * n + j) v (by
    rw [← hr] at hv
    rw [List.getElem?_take] at hv
    split at hv
    · rwa [List.getElem?_drop] at hv
    · exact absurd hv (by simp))
  rwa [Nat.zero_add] at h0
where flat_at {α : Type} {f : α → List Value} {n : Nat} (hf : ∀ x, (f x).length = n) : ∀ (T : List α) (i : Nat) (x : α), T[i]? = some x → ((T.flatMap f).drop (i * n)).take n = f x
  | [], i, x, h => by simp at h
  | y :: T, 0, x, h => by
    obtain rfl : y = x := by simpa using h
    rw [Nat.zero_mul, List.drop_zero, List.flatMap_cons, List.take_append_of_le_length (Nat.le_of_eq (hf y).symm), List.take_of_length_le (Nat.le_of_eq (hf y))]
  | y :: T, i + 1, x, h => by
    rw [Nat.add_mul, Nat.one_mul, Nat.add_comm, ← List.drop_drop, List.flatMap_cons, List.drop_append_of_le_length (Nat.le_of_eq (hf y).symm), List.drop_of_length_le (Nat.le_of_eq (hf y)), List.nil_append]
    exact flat_at hf T i x (by simpa using h)
end Go.Proofs.Ytkdhmdmmdbmeaaa.Pr
