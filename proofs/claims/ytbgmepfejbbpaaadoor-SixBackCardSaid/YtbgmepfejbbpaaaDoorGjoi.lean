import Derived.Test.YtbgmepfejbbpaaaDoorJfu
import Derived.Test.YtbgmepfejbbpaaaDoorPrB1
namespace Go.Proofs.YtbgmepfejbbpaaaDoor.Pr
open Go.RowKit Go.Proofs.YtbgmepfejbbpaaaDoorW.PrintWords Go.Proofs.YtbgmepfejbbpaaaDoorW.PrintLast Go.Proofs.YtbgmepfejbbpaaaDoorW.PrintMore
set_option linter.unusedVariables false
set_option linter.unusedSimpArgs false

/-! ### What six.Text's closure tells -/
def ints (L : List Nat) : List Int := L.map fun n : Nat => (n : Int)
theorem ints_len (L : List Nat) : (ints L).length = L.length := by simp [ints]
theorem rd_ints (L : List Nat) (i : Nat) (h : i < L.length) : rd (ints L) (i : Int) = ((L[i] : Nat) : Int) := by
  unfold rd ints
  simp [h, List.getD_eq_getElem?_getD]
def joinB (L : List Nat) : List UInt8 := Lib.join (L.map (digs 16)) [58]
theorem joinB_nil : joinB [] = [] := rfl
theorem joinB_one (x : Nat) : joinB [x] = digs 16 x := by simp [joinB, Lib.join, List.intercalate]
theorem joinB_cons (x y : Nat) (r : List Nat) : joinB (x :: y :: r) = digs 16 x ++ 58 :: joinB (y :: r) := by simp [joinB, Lib.join, List.intercalate, List.intersperse]
theorem joinB_len : ∀ (L : List Nat), (∀ n ∈ L, n < 65536) → (joinB L).length ≤ 18 * L.length
  | [], _ => by simp [joinB_nil]
  | [x], h => by
    rw [joinB_one]
    have := digs_length 16 (by decide) 16 x (by have := h x (by simp); omega)
    simp; omega
  | x :: y :: r, h => by
    rw [joinB_cons]
    have h1 := digs_length 16 (by decide) 16 x (by have := h x (by simp); omega)
    have h2 := joinB_len (y :: r) (fun n hn => h n (by simp only [List.mem_cons] at hn ⊢; exact .inr hn))
    simp at h2 ⊢
    omega
theorem joi_go (L : List Nat) (hL : L.length ≤ 8) (h16 : ∀ n ∈ L, n < 65536) (hj : (joinB L).length ≤ 1000) : ∀ (m i k : Nat), m + i = L.length → m + 1 ≤ k →
    six_Text_1.l0 k ((L.take i).map fun n => mkB (digs 16 n)) (ints L) ((ints L).length : Int) (i : Int) = some (mkB (joinB L))
  | 0, i, k, hm, hk => by
    obtain ⟨k, rfl⟩ : ∃ k', k = k' + 1 := ⟨k - 1, by omega⟩
    obtain rfl : i = L.length := by omega
    unfold six_Text_1.l0
    have hz := ints_len L
    have e : (((L.take L.length).map fun n => mkB (digs 16 n)).map fun x => x.data.toList) = L.map (digs 16) := by
      rw [List.take_length, List.map_map]
      exact List.map_congr_left fun n _ => data_mkB _
    rw [if_neg (by omega)]
    unfold strings_Join.f
    rw [e, if_pos ⟨by simp; omega, by
      have : (Lib.join (L.map (digs 16)) [58]).length ≤ 1000 := hj
      show (Lib.join (L.map (digs 16)) [58]).length ≤ _
      omega⟩]
    rfl
  | m + 1, i, k, hm, hk => by
    obtain ⟨k, rfl⟩ : ∃ k', k = k' + 1 := ⟨k - 1, by omega⟩
    have hi : i < L.length := by omega
    have hz := ints_len L
    have hn := h16 L[i] (List.getElem_mem hi)
    unfold six_Text_1.l0
    rw [if_pos (by omega), if_pos (by omega), if_pos (by omega), rd_ints L i hi]
    have hw : IntKind.u64.wrap ((L[i] : Nat) : Int) = ((L[i] : Nat) : Int) := by rw [IntKind.wrap_u64]; omega
    rw [hw]
    unfold strconv_FormatUint_17.f
    rw [if_pos ⟨by omega, by omega, rfl⟩]
    simp only [Option.bind_some, Int.toNat_natCast]
    rw [if_pos (by simp; omega)]
    have ht : ((L.take i).map fun n => mkB (digs 16 n)) ++ [mkB (digs 16 L[i])] = (L.take (i + 1)).map fun n => mkB (digs 16 n) := by
      have h1 : L.take (i + 1) = L.take i ++ [L[i]] := by
        rw [List.take_add_one, List.getElem?_eq_getElem hi]
        rfl
      rw [h1, List.map_append]
      rfl
    have hw2 : wrap64 ((i : Int) + 1) = ((i + 1 : Nat) : Int) := by rw [IntWalk.wrap64_in _ (by omega)]; omega
    rw [ht, hw2]
    exact joi_go L hL h16 hj m (i + 1) k (by omega) (by omega)
theorem joi_is (L : List Nat) (hL : L.length ≤ 8) (h16 : ∀ n ∈ L, n < 65536) (hj : (joinB L).length ≤ 1000) (k : Nat) (hk : 9 ≤ k) : six_Text_1.f k (ints L) = some (mkB (joinB L)) :=
  joi_go L hL h16 hj L.length 0 k (by omega) (by omega)
end Go.Proofs.YtbgmepfejbbpaaaDoor.Pr
