import Derived.OpenShut
import Derived.ChangeShapes
import Derived.Below
namespace Go.Proofs.YtbgmepfejbbpaaaDoor.Pr
open Go.ChangeShapes Go.WideShapes Go.RowKit
set_option linter.unusedVariables false
set_option linter.unusedSimpArgs false

/-! ### An array of whole numbers, as it comes in and as it is read -/
section
variable {H : Type} {enc : TypeId × Value → H} {P : Program} {w : World} {base : Nat} {spare : Nat → Bool} {held : Bool}
def intVals (q : IntKind) (xs : List Int) : Array Value := (xs.map (Value.int q)).toArray
def intData {H : Type} (q : IntKind) (xs : List Int) : DataW H := .agg (xs.map fun x => .lit (.int q x))
theorem ints_of (q : IntKind) (e : TypeId) (he : P.underlying e = some (.int q)) (m : Nat) : ∀ (cs : List Value) (ys : List (DataW H × List MemPlace)), ys.length = cs.length →
    (∀ i : Nat, i < cs.length → DataW.trod enc P w base spare held m e ((cs.drop i).take 1) = ys[i]?) → ∃ xs : List Int, cs = xs.map (Value.int q) ∧ ys = xs.map (fun x => (.lit (.int q x), [])) ∧ ∀ x ∈ xs, (Lit.int q x).wf = true
  | [], [], _, _ => ⟨[], rfl, rfl, by simp⟩
  | c :: cs, y :: ys, hl, h => by
    have h0 := h 0 (by simp)
    simp only [List.drop_zero, List.take_succ_cons, List.take_zero, List.getElem?_cons_zero] at h0
    obtain ⟨x, hc, hy, hw⟩ := DataW.trod_int he h0
    obtain ⟨xs, e1, e2, e3⟩ := ints_of q e he m cs ys (by simpa using hl) (fun i hi => by
      have := h (i + 1) (by simp; omega)
      simpa using this)
    have hc' : c = .int q x := by simpa using hc
    refine ⟨x :: xs, by rw [hc', e1]; rfl, by rw [hy, e2]; rfl, ?_⟩
    intro z hz
    rcases List.mem_cons.1 hz with rfl | hz
    · exact hw
    · exact e3 z hz
theorem open_ints_arr {n : Nat} {q : IntKind} {t e : TypeId} {r : Reach} {b0 : Nat} {v : Value} {d : DataW H} {ps : List MemPlace} (ht : P.underlying t = some (.array n e)) (he : P.underlying e = some (.int q)) (hce : P.cellsOf e = 1) (hct : P.cellsOf t = n)
    (hval : Value.okWide P w r b0 t v) (hd : DataW.Trod enc P w base spare held t v d ps) : ∃ xs : List Int, xs.length = n ∧ v = .agg (intVals q xs) ∧ d = intData q xs ∧ ps = [] ∧ ∀ x ∈ xs, (Lit.int q x).wf = true := by
  obtain ⟨cs, rfl, hsz, _⟩ : ∃ cs, v = .agg cs ∧ cs.size = P.cellsOf t ∧ Row.okWide P w r b0 t cs := by simpa [Value.okWide, ht] using hval
  rw [hct] at hsz
  obtain ⟨fuel, hf⟩ := hd
  obtain ⟨ys, m, rfl, hx, hl, hyl, hy⟩ := DataW.trod_array ht hf
  obtain ⟨l⟩ := cs
  have hln : l.length = n := by simpa using hsz
  have hcells : (Value.agg ⟨l⟩).cells.toList = l := rfl
  obtain ⟨xs, e1, e2, e3⟩ := ints_of (enc := enc) (w := w) (base := base) (spare := spare) (held := held) q e he m l ys (by omega) (fun i hi => by
    have := hy i (by omega)
    rw [hce, Nat.mul_one, hcells] at this
    exact this)
  simp only [Prod.mk.injEq] at hx
  refine ⟨xs, ?_, ?_, ?_, ?_, e3⟩
  · rw [← hln, e1, List.length_map]
  · rw [e1]; rfl
  · rw [hx.1, e2]; simp [intData, Function.comp_def]
  · rw [hx.2, e2]; simp [List.flatMap_eq_nil_iff]
theorem mapM_all {α β : Type} (f : α → Option β) (g : α → β) : ∀ (L : List α), (∀ i ∈ L, f i = some (g i)) → L.mapM f = some (L.map g)
  | [], _ => rfl
  | a :: L, h => by
    rw [List.mapM_cons, h a (by simp), mapM_all f g L (fun i hi => h i (by simp [hi]))]
    rfl
theorem shut_ints_arr {n : Nat} {q : IntKind} {t e : TypeId} (ht : P.underlying t = some (.array n e)) (he : P.underlying e = some (.int q)) (hce : P.cellsOf e = 1) (hct : P.cellsOf t = n) {xs : List Int} (hl : xs.length = n) (hw : ∀ x ∈ xs, (Lit.int q x).wf = true) :
    DataW.Trod enc P w base spare held t (.agg (intVals q xs)) (intData q xs) [] := by
  refine ⟨2, ?_⟩
  rw [DataW.trod_step]
  unfold DataW.trodStep
  simp only [ht, Value.cells]
  rw [if_pos (by rw [hct]; simp [intVals, hl])]
  simp only [Option.map_eq_some_iff]
  refine ⟨xs.map (fun x => (.lit (.int q x), [])), ?_, ?_⟩
  · rw [hce]
    have key : ∀ i : Nat, i < n → DataW.trod enc P w base spare held 1 e (((intVals q xs).toList.drop (i * 1)).take 1) = some (.lit (.int q (xs.getD i 0)), []) := by
      intro i hi
      have hi' : i < xs.length := by omega
      have hcs : ((intVals q xs).toList.drop (i * 1)).take 1 = [Value.int q (xs.getD i 0)] := by
        rw [Nat.mul_one]
        show ((xs.map (Value.int q)).drop i).take 1 = _
        rw [← List.map_drop, List.drop_eq_getElem_cons hi', List.map_cons, List.take_succ_cons, List.take_zero, List.getD_eq_getElem?_getD, List.getElem?_eq_getElem hi']
        rfl
      rw [hcs]
      have hwx := hw (xs.getD i 0) (by rw [List.getD_eq_getElem?_getD, List.getElem?_eq_getElem hi']; exact List.getElem_mem _)
      rw [List.getD_eq_getElem?_getD] at hwx ⊢
      simp [DataW.trod, he, hwx]
    rw [mapM_all _ (fun i : Nat => ((.lit (.int q (xs.getD i 0)), []) : DataW H × List MemPlace)) (List.range n) (fun i hi => key i (List.mem_range.1 hi))]
    congr 1
    apply List.ext_getElem
    · simp [hl]
    · intro i h1 h2
      have h3 : i < xs.length := by simpa using h2
      simp [h3]
  · simp [intData, Function.comp_def, List.flatMap_eq_nil_iff]
end
end Go.Proofs.YtbgmepfejbbpaaaDoor.Pr
