import Derived.Test.YtkdhmdmmdbmeaaaKlaw
import Derived.Test.YtkdhmdmmdbmeaaaPrB2
namespace Go.Proofs.Ytkdhmdmmdbmeaaa.Pr
open Go.RowKit Go.Proofs.YtkdhmdmmdbmeaaaW.PrintWords Go.Proofs.YtkdhmdmmdbmeaaaW.PrintLast Go.Proofs.YtkdhmdmmdbmeaaaW.PrintMore
set_option linter.unusedVariables false
set_option linter.unusedSimpArgs false

/-! ### The document's tables are the program's -/
def rAll : List S32 := rT0 ++ rT1 ++ rT2
def toU (x : S32) : S37 := ⟨x.f0, x.f1, x.f2, x.f6, x.f7, x.f8, x.f10, x.f9⟩
theorem toU_all : rAll.map toU = uAll := by kernel_rfl
def inR (r : Int) (x : S32) : Bool := decide (x.f0 ≤ r) && decide (r ≤ x.f1)
def findR (r : Int) : S32 := (rAll.find? (inR r)).getD z32
theorem findR_U (r : Int) : toU (findR r) = findU r := by
  unfold findR
  have h : findU r = ((rAll.map toU).find? (inU r)).getD z37 := by rw [toU_all]; rfl
  rw [h, List.find?_map, show inU r ∘ toU = inR r from rfl]
  cases rAll.find? (inR r) with
  | none => rfl
  | some x => rfl
def rPs : List S48 := rP0 ++ rP1
def toP (x : S48) : S40 := ⟨x.f0, x.f1, x.f2⟩
theorem toP_all : rPs.map toP = uP0 ++ uP1 := by kernel_rfl
theorem wrap_next (i : Nat) (h : i ≤ 1000000) : wrap64 ((i : Int) + 1) = ((i + 1 : Nat) : Int) := by unfold wrap64; omega

def tupR (x : S32) : Int × Int × Int × Int × Int × Int × Int × Int × Int × Bool × Int := (x.f0, x.f1, x.f2, x.f3, x.f4, x.f5, x.f6, x.f7, x.f8, x.f9, x.f10)
theorem find_l0 (k : Nat) (r : Int) (l : List S32) (hl : l.length ≤ 1000) : ∀ d i : Nat, i + d = l.length → portcullisref03_Find.l0 (k + d + 1) r l (i : Int) = some (tupR (((l.drop i).find? (inR r)).getD z32))
  | 0, i, h => by
    unfold portcullisref03_Find.l0
    rw [if_neg (by omega), List.drop_of_length_le (by omega)]
    rfl
  | d + 1, i, h => by
    have hi : i < l.length := by omega
    have ih := find_l0 k r l hl d (i + 1) (by omega)
    have hx : rd_T32 l (i : Int) = l[i] := by unfold rd_T32; simp [hi]
    rw [show k + (d + 1) + 1 = (k + d + 1) + 1 from rfl]
    unfold portcullisref03_Find.l0
    rw [if_pos (by omega), if_pos (by omega), hx, wrap_next i (by omega), ih, List.drop_eq_getElem_cons hi, List.find?_cons]
    by_cases h1 : l[i].f0 ≤ r
    · rw [if_pos h1]
      by_cases h2 : r ≤ l[i].f1
      · rw [if_pos h2, show inR r l[i] = true by unfold inR; simp [h1, h2]]; rfl
      · rw [if_neg h2, show inR r l[i] = false by unfold inR; simp [h2]]
    · rw [if_neg h1, show inR r l[i] = false by unfold inR; simp [h1]]
theorem rows_eq : portcullisref03_Rows.f = some rAll := by kernel_rfl
theorem refFind_eq (k : Nat) (r : Int) : portcullisref03_Find.f (k + 100) r = some (tupR (findR r)) := by
  unfold portcullisref03_Find.f
  rw [rows_eq, Option.bind_some]
  exact find_l0 (k + 11) r rAll (by decide) 88 0 (by decide)
theorem pair_l0 (k : Nat) (a b : Int) (l : List S48) (hl : l.length ≤ 1000) : ∀ d i : Nat, i + d = l.length → portcullisref03_Pair.l0 (k + d + 1) a b l (i : Int) = some (match (l.drop i).find? (fun x => x.f1 == a && x.f2 == b) with | some x => (x.f0, true) | none => (0, false))
  | 0, i, h => by
    unfold portcullisref03_Pair.l0
    rw [if_neg (by omega), List.drop_of_length_le (by omega)]
    rfl
  | d + 1, i, h => by
    have hi : i < l.length := by omega
    have ih := pair_l0 k a b l hl d (i + 1) (by omega)
    have hx : rd_T48 l (i : Int) = l[i] := by unfold rd_T48; simp [hi]
    rw [show k + (d + 1) + 1 = (k + d + 1) + 1 from rfl]
    unfold portcullisref03_Pair.l0
    rw [if_pos (by omega), if_pos (by omega), hx, wrap_next i (by omega), ih, List.drop_eq_getElem_cons hi, List.find?_cons]
    by_cases h1 : l[i].f1 = a
    · rw [if_pos h1]
      by_cases h2 : l[i].f2 = b
      · rw [if_pos h2, show (l[i].f1 == a && l[i].f2 == b) = true by simp [h1, h2]]
      · rw [if_neg h2, show (l[i].f1 == a && l[i].f2 == b) = false by simp [h2]]
    · rw [if_neg h1, show (l[i].f1 == a && l[i].f2 == b) = false by simp [h1]]
theorem pairs_eq : portcullisref03_Pairs.f = some rPs := by kernel_rfl
theorem refPair_eq (k : Nat) (a b : Int) : portcullisref03_Pair.f (k + 100) a b = unidata_Pair.f a b := by
  unfold portcullisref03_Pair.f unidata_Pair.f
  rw [pairs_eq, Option.bind_some]
  rw [show k + 100 = (k + 19) + 80 + 1 from rfl]
  have h := pair_l0 (k + 19) a b rPs (by decide) 80 0 (by decide)
  rw [List.drop_zero] at h
  refine h.trans ?_
  unfold ofP
  rw [← toP_all, List.find?_map, show (fun x : S40 => x.f1 == a && x.f2 == b) ∘ toP = (fun x => x.f1 == a && x.f2 == b) from rfl]
  cases rPs.find? (fun x => x.f1 == a && x.f2 == b) with
  | none => rfl
  | some x => rfl
def lits (r : Int) : List Int := if r = 8486 then [937] else if r = 8490 then [75] else if r = 8491 then [197] else []
theorem decomp_l0 (k : Nat) (a : Int) (l : List S48) (hl : l.length ≤ 1000) : ∀ d i : Nat, i + d = l.length → portcullisref03_Decomp.l0 (k + d + 1) a l (i : Int) = some (match (l.drop i).find? (fun x => x.f0 == a) with | some x => [x.f1, x.f2] | none => lits a)
  | 0, i, h => by
    unfold portcullisref03_Decomp.l0 lits
    rw [if_neg (by omega), List.drop_of_length_le (by omega)]
    simp only [List.find?_nil]
    split
    · rfl
    split
    · rfl
    split
    · rfl
    rfl
  | d + 1, i, h => by
    have hi : i < l.length := by omega
    have ih := decomp_l0 k a l hl d (i + 1) (by omega)
    have hx : rd_T48 l (i : Int) = l[i] := by unfold rd_T48; simp [hi]
    rw [show k + (d + 1) + 1 = (k + d + 1) + 1 from rfl]
    unfold portcullisref03_Decomp.l0
    rw [if_pos (by omega), if_pos (by omega), hx, wrap_next i (by omega), ih, List.drop_eq_getElem_cons hi, List.find?_cons]
    by_cases h1 : l[i].f0 = a
    · rw [if_pos h1, show (l[i].f0 == a) = true by simp [h1]]
    · rw [if_neg h1, show (l[i].f0 == a) = false by simp [h1]]
theorem no_lits : ((uP0 ++ uP1).all fun x => x.f0 != 8486 && x.f0 != 8490 && x.f0 != 8491) = true := by decide +kernel
theorem refDecomp_eq (k : Nat) (a : Int) : portcullisref03_Decomp.f (k + 100) a = unidata_Decomp.f a := by
  unfold portcullisref03_Decomp.f unidata_Decomp.f
  rw [pairs_eq, Option.bind_some]
  rw [show k + 100 = (k + 19) + 80 + 1 from rfl]
  have h := decomp_l0 (k + 19) a rPs (by decide) 80 0 (by decide)
  rw [List.drop_zero] at h
  refine h.trans ?_
  unfold ofP lits
  rw [← toP_all, List.find?_map, show (fun x : S40 => x.f0 == a) ∘ toP = (fun x => x.f0 == a) from rfl]
  cases hf : rPs.find? (fun x => x.f0 == a) with
  | none => simp
  | some x =>
    have h0 : x.f0 = a := by simpa using List.find?_some hf
    have h1 := List.all_eq_true.1 no_lits (toP x) (by rw [← toP_all]; exact List.mem_map_of_mem (List.mem_of_find?_eq_some hf))
    simp [toP, h0, and_assoc] at h1
    simp [h1.1, h1.2.1, h1.2.2, toP]
/-! ### Map -/
def rowPtsR (x : S32) : List Int := (List.range (x.f1 - x.f0 + 1).toNat).map fun (i : Nat) => x.f0 + (i : Int)
def mapR (x : S32) (r : Int) : List Int := if x.f3 = 0 then (if x.f5 = 0 then [x.f4] else [x.f4, x.f5]) else [wrap32 (r + x.f3)]
def okMapR (x : S32) (r : Int) : Bool := x.f2 != 3 || unidata_to.f r == some (mapR x r)
theorem mapR_all : (rAll.all fun x => (rowPtsR x).all (okMapR x)) = true := by decide +kernel
theorem by_rowsR {p : S32 → Int → Bool} (h : (rAll.all fun x => (rowPtsR x).all (p x)) = true) (r : Int) (h0 : p z32 r = true) : p (findR r) r = true := by
  unfold findR
  cases hf : rAll.find? (inR r) with
  | none => exact h0
  | some x =>
    have hi := List.find?_some hf
    unfold inR at hi
    simp at hi
    refine List.all_eq_true.1 (List.all_eq_true.1 h x (List.mem_of_find?_eq_some hf)) r ?_
    unfold rowPtsR
    rw [List.mem_map]
    exact ⟨(r - x.f0).toNat, by rw [List.mem_range]; omega, by omega⟩
theorem refMap_eq (k j : Nat) (r : Int) : portcullisref03_Map.f (k + 100) r = unidata_Map.f (j + 2) r := by
  have hU := congrArg (fun x => x.f2) (findR_U r)
  have hU : (findR r).f2 = (findU r).f2 := hU
  unfold portcullisref03_Map.f
  rw [refFind_eq, Option.bind_some, map_eq, ← hU]
  simp only [tupR]
  by_cases h1 : (findR r).f2 = 1
  · simp [h1, portcullisref03_Map.j0]
  · by_cases h4 : (findR r).f2 = 4
    · simp [h4, portcullisref03_Map.j0]
    · by_cases h3 : (findR r).f2 = 3
      · have H := by_rowsR mapR_all r rfl
        unfold okMapR at H
        rw [h3] at H
        simp at H
        rw [H]
        unfold mapR
        by_cases h5 : (findR r).f3 = 0
        · by_cases h6 : (findR r).f5 = 0
          · simp [h3, h5, h6, portcullisref03_Map.j0]
          · simp [h3, h5, h6, portcullisref03_Map.j0]
        · simp [h3, h5, portcullisref03_Map.j0]
      · simp [h1, h3, h4, portcullisref03_Map.j0]
end Go.Proofs.Ytkdhmdmmdbmeaaa.Pr
