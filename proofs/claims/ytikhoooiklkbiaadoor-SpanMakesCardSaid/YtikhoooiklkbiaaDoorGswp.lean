import Derived.Test.YtikhoooiklkbiaaDoorGnf
import Derived.Test.YtikhoooiklkbiaaDoorPrA2
namespace Go.Proofs.YtikhoooiklkbiaaDoor.Pr
open Go.RowKit Go.Proofs.YtikhoooiklkbiaaDoorW.PrintWords Go.Proofs.YtikhoooiklkbiaaDoorW.PrintLast Go.Proofs.YtikhoooiklkbiaaDoorW.PrintMore
set_option linter.unusedVariables false
set_option linter.unusedSimpArgs false

/-! ### The sweep's plain law -/
theorem edg_go (set : Int) (l : List Sp) (hok : ∀ s ∈ l, okS s) (hl : l.length ≤ 10000) : ∀ (rest pre : List Sp) (acc : List Ed), l = pre ++ rest → acc.length ≤ 10000 + 2 * pre.length → Ev (fun k => span_edges_int.l0 k acc set l (l.length : Int) (pre.length : Int)) (acc ++ edgesOf set rest)
  | [], pre, acc, e, h5 => by
    refine Ev.one (fun k => ?_)
    simp only [span_edges_int.l0]
    have hlen : l.length = pre.length := by rw [e]; simp
    rw [if_neg (by omega)]
    simp [edgesOf]
  | s :: rest, pre, acc, e, h5 => by
    have hlen : l.length = pre.length + 1 + rest.length := by rw [e]; simp; omega
    have h1 : rd_T37 l (pre.length : Int) = s := by rw [e]; exact rdT_app _ _ _
    have hs := hok s (by rw [e]; simp)
    unfold okS at hs
    have ih := edg_go set l hok hl rest (pre ++ [s]) (acc ++ [⟨s.f0, 1, set⟩, ⟨s.f1 + 1, -1, set⟩]) (by rw [e]; simp) (by simp; omega)
    rw [show (pre ++ [s]).length = pre.length + 1 by simp, show acc ++ [⟨s.f0, 1, set⟩, ⟨s.f1 + 1, -1, set⟩] ++ edgesOf set rest = acc ++ edgesOf set (s :: rest) by simp [edgesOf]] at ih
    refine Ev.step (fun k => ?_) ih
    simp only [span_edges_int.l0]
    rw [if_pos (by omega), if_pos (by omega), if_pos (by omega), h1]
    simp only [Option.bind_some]
    rw [if_pos (by simp; omega), w64n _ (by omega), w32s _ (by omega) (by omega)]
theorem edg_is (set : Int) (acc : List Ed) (l : List Sp) (hok : ∀ s ∈ l, okS s) (hl : l.length ≤ 10000) (ha : acc.length ≤ 10000) : Ev (fun k => span_edges_int.f k acc set l) (acc ++ edgesOf set l) :=
  edg_go set l hok hl l [] acc rfl (by simpa using ha)
theorem edgesOf_len (set : Int) : ∀ l : List Sp, (edgesOf set l).length = 2 * l.length
  | [] => rfl
  | s :: l => by
    have := edgesOf_len set l
    unfold edgesOf at this ⊢
    rw [List.flatMap_cons, List.length_append, this]
    simp; omega
theorem edgesOf_at (set : Int) : ∀ l : List Sp, (edgesOf set l).map (fun e => e.f0) = placesL l
  | [] => rfl
  | s :: l => by
    have := edgesOf_at set l
    unfold edgesOf placesL at this ⊢
    rw [List.flatMap_cons, List.flatMap_cons, List.map_append, this]
    rfl
theorem allE_perm (a b : List Sp) : ((allE a b).map fun e => e.f0).Perm (allP a b) := by
  unfold allE allP
  rw [List.map_append, List.map_append, edgesOf_at, edgesOf_at]
  have : placesL (a ++ b) = placesL a ++ placesL b := by unfold placesL; rw [List.flatMap_append]
  rw [this]
  exact List.perm_append_comm
theorem allE_mem (a b : List Sp) (ha : ∀ s ∈ a, okS s) (hb : ∀ s ∈ b, okS s) : ∀ e ∈ allE a b, (0 ≤ e.f0 ∧ e.f0 ≤ 1114112) ∧ (-1 ≤ e.f1 ∧ e.f1 ≤ 1) ∧ (e.f2 = 0 ∨ e.f2 = 1) := by
  have hone : ∀ (set : Int) (l : List Sp), (set = 0 ∨ set = 1) → (∀ s ∈ l, okS s) → ∀ e ∈ edgesOf set l, (0 ≤ e.f0 ∧ e.f0 ≤ 1114112) ∧ (-1 ≤ e.f1 ∧ e.f1 ≤ 1) ∧ (e.f2 = 0 ∨ e.f2 = 1) := by
    intro set l h1 hl e hm
    unfold edgesOf at hm
    obtain ⟨s, hs, hm⟩ := List.mem_flatMap.1 hm
    have ho := hl s hs
    unfold okS at ho
    rcases List.mem_cons.1 hm with rfl | hm
    · exact ⟨⟨ho.1, by simp only; omega⟩, by simp, h1⟩
    · rw [List.mem_singleton.1 hm]; exact ⟨⟨by simp only; omega, by simp only; omega⟩, by simp, h1⟩
  intro e he
  unfold allE at he
  rcases List.mem_append.1 he with he | he
  · rcases List.mem_append.1 he with he | he
    · exact hone 0 a (.inl rfl) ha e he
    · exact hone 1 b (.inr rfl) hb e he
  · rcases List.mem_cons.1 he with rfl | he
    · exact ⟨by simp, by simp, by simp⟩
    · rw [List.mem_singleton.1 he]; exact ⟨by simp, by simp, by simp⟩
theorem allE_len (a b : List Sp) : (allE a b).length = 2 * a.length + 2 * b.length + 2 := by
  unfold allE
  simp [edgesOf_len]
  omega
theorem sw_made (c2 : Bool → Bool → Bool) (a b : List Sp) (ha : ∀ s ∈ a, okS s) (hb : ∀ s ∈ b, okS s) (E : List Ed) (hE : Asc E) (hp : E.Perm (allE a b)) : sw c2 E 0 0 [] = madeF c2 a b := by
  rw [sweep_is c2 a b ha hb E hE hp]
  have h : E.map (fun e => e.f0) = sortP (allP a b) := by
    refine asc_unique _ _ ?_ (sortP_sor _) ((hp.map _).trans ((allE_perm a b).trans (sortP_perm _).symm))
    rw [List.pairwise_map]
    exact hE
  rw [h]
  rfl
theorem sw_cons (c2 : Bool → Bool → Bool) (x y : Ed) (r : List Ed) (i0 i1 : Int) (out : List Sp) : sw c2 (x :: y :: r) i0 i1 out = sw c2 (y :: r) (stepI 0 x i0) (stepI 1 x i1) (if y.f0 ≠ x.f0 ∧ c2 (decide (0 < stepI 0 x i0)) (decide (0 < stepI 1 x i1)) = true then put out x.f0 y.f0 else out) := rfl
end Go.Proofs.YtikhoooiklkbiaaDoor.Pr
