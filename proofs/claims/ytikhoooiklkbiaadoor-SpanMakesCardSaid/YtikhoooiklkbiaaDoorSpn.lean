import Derived.Test.YtikhoooiklkbiaaDoorPr0
import Derived.Deep.SlicePairs
import Derived.ChangeArms
import Derived.SizedLaws
import Derived.ChangeSame
namespace Go.Proofs.YtikhoooiklkbiaaDoor.Pr
open Go.RowKit Go.ChangeShapes Go.WideShapes Go.Proofs.YtikhoooiklkbiaaDoorW.PrintWords Go.Proofs.YtikhoooiklkbiaaDoorW.PrintLast Go.Proofs.YtikhoooiklkbiaaDoorW.PrintMore
set_option linter.unusedVariables false
set_option linter.unusedSimpArgs false

/-! ### A row of spans, as it comes in -/
def RowS (w : World) (A : Option Addr) (len cap : Nat) (l : List S37) : Prop := Kd.C k37 w A len l ∧ l.length = len ∧ len ≤ cap ∧ len * 8 ≤ 140737488351232 ∧ ∀ x ∈ l, (Lit.int .i32 x.f0).wf = true ∧ (Lit.int .i32 x.f1).wf = true
def intIn : Value → Int
  | .int _ x => x
  | _ => 0
section
variable {H : Type} {enc : TypeId × Value → H} {W : World}
theorem open_spans {base : Nat} {a : Option Addr} {len cap : Nat} {d : DataW H} {ps : List MemPlace} {ts : List TypeId} {ds : List (DataW H)} {j : Nat}
    (hsz : (DataW.weightsEach Tryd.prog ts ds).all (· ≤ reachBytes) = true) (ht : ts[j]? = some 22) (hd : ds[j]? = some d) (h : DataW.Trod enc Tryd.prog W base (fun _ => true) true 22 (.slice a len cap) d ps) : ∃ l, RowS W a len cap l := by
  obtain ⟨fuel, hf⟩ := h
  rcases Go.Deep.open_slice_pairs Tryd.underlying22 Tryd.underlying37 (by kernel_rfl) (by kernel_rfl) (by kernel_rfl) (by kernel_rfl) (by kernel_rfl) hf with ⟨hcs, hx⟩ | ⟨ad, l, c, m, n, V0, V1, D0, D1, P0, P1, hcs, hb, hl, hm, hmm, hx, hcell⟩
  · simp [Value.cells] at hcs
    obtain ⟨rfl, rfl, rfl⟩ := hcs
    exact ⟨[], ⟨rfl, by simp [maxLen], fun h => absurd h (by simp)⟩, rfl, Nat.le_refl _, by simp, by simp⟩
  · simp [Value.cells] at hcs
    obtain ⟨rfl, rfl, rfl⟩ := hcs
    obtain ⟨hx, _⟩ := Prod.mk.inj hx
    subst hx
    have z := sized_slice hsz ht hd Tryd.underlying22
    rw [show Tryd.prog.bytesOf 37 = 8 by kernel_rfl] at z
    simp only [List.length_map, List.length_range] at z
    have hmc : m = cap := by rw [hmm]; simp
    clear hmm
    have hmx : len ≤ 9223372036854775807 := by unfold maxLen at hm; omega
    have key : ∀ i, i < len → W.cell? (ad.add (i * 2)) = some (.int .i32 (intIn (V0 i))) ∧ W.cell? (ad.add (i * 2 + 1)) = some (.int .i32 (intIn (V1 i))) ∧ (Lit.int .i32 (intIn (V0 i))).wf = true ∧ (Lit.int .i32 (intIn (V1 i))).wf = true := by
      intro i hi
      obtain ⟨h1, h2, h3, h4⟩ := hcell i (by omega)
      obtain ⟨x, e1, _, w1⟩ := DataW.trod_int (k := .i32) (by kernel_rfl) h3
      obtain ⟨y, e2, _, w2⟩ := DataW.trod_int (k := .i32) (by kernel_rfl) h4
      have f1 : V0 i = .int .i32 x := by simpa using e1
      have f2 : V1 i = .int .i32 y := by simpa using e2
      rw [f1] at h1
      rw [f2] at h2
      rw [f1, f2]
      exact ⟨h1, h2, w1, w2⟩
    refine ⟨(List.range len).map fun i => ⟨intIn (V0 i), intIn (V1 i)⟩, ⟨by simp, by omega, fun _ => ⟨_, rfl, fun j p hp => ⟨[.int .i32 p.f0, .int .i32 p.f1], rfl, k37_mk _ _, fun i u hu => ?_⟩⟩⟩, by simp, hl, ?_, ?_⟩
    · have hj : j < len := by have := (List.getElem?_eq_some_iff.1 hp).1; simpa using this
      obtain ⟨k1, k2, _, _⟩ := key j hj
      have hpe : p = ⟨intIn (V0 j), intIn (V1 j)⟩ := by simpa [hj] using hp.symm
      subst hpe
      have hi : i < 2 := by have := (List.getElem?_eq_some_iff.1 hu).1; simpa using this
      rcases (by omega : i = 0 ∨ i = 1) with rfl | rfl
      · cases hu; exact k1
      · cases hu; exact k2
    · have : reachBytes = 140737488351232 := by rfl
      omega
    · intro x hx
      obtain ⟨i, hi, rfl⟩ := List.mem_map.1 hx
      exact ⟨(key i (List.mem_range.1 hi)).2.2.1, (key i (List.mem_range.1 hi)).2.2.2⟩
end
end Go.Proofs.YtikhoooiklkbiaaDoor.Pr
