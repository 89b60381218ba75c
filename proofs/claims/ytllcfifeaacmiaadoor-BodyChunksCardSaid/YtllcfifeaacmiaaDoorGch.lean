import Derived.Test.YtllcfifeaacmiaaDoorEv
import Derived.Test.YtllcfifeaacmiaaDoorPrC1
namespace Go.Proofs.YtllcfifeaacmiaaDoor.Pr
open Go.RowKit Go.Proofs.YtllcfifeaacmiaaDoorW.PrintWords Go.Proofs.YtllcfifeaacmiaaDoorW.PrintLast Go.Proofs.YtllcfifeaacmiaaDoorW.PrintMore
set_option linter.unusedVariables false
set_option linter.unusedSimpArgs false

/-! ### Chunks, plainly -/
def crlf : List UInt8 := [13, 10]
def hexB : ByteArray := ⟨#[48, 49, 50, 51, 52, 53, 54, 55, 56, 57, 97, 98, 99, 100, 101, 102]⟩
theorem hexB_all : ((List.range 16).all fun d => decide (hexB.extract d (d + 1) = mkB [hexc d])) = true := by decide +kernel
theorem hexB_at (d : Nat) (h : d < 16) : hexB.extract d (d + 1) = mkB [hexc d] := of_decide_eq_true (List.all_eq_true.1 hexB_all d (List.mem_range.2 h))
def chunkL (s : List UInt8) : List UInt8 := if s = [] then [] else digs 16 s.length ++ crlf ++ s ++ crlf
theorem mkB_self (s : ByteArray) : s = mkB s.data.toList := (mkB_data s).symm
theorem crlfB : (⟨#[13, 10]⟩ : ByteArray) = mkB crlf := rfl
theorem chunk_go (s : List UInt8) (hs : s.length ≤ 1000000) : ∀ (n : Nat) (t : List UInt8), n ≤ 1000000 → t.length + n ≤ 1000000 → Ev (fun k => portcullisref20_Chunk.l0 k (mkB s) (mkB t) (n : Int)) (mkB ((if n = 0 then t else digs 16 n ++ t) ++ crlf ++ s ++ crlf)) := by
  intro n
  induction n using Nat.strongRecOn with
  | _ n ih =>
    intro t hn ht
    by_cases h : n = 0
    · subst h
      rw [if_pos rfl]
      refine Ev.one (fun k => ?_)
      simp only [portcullisref20_Chunk.l0, crlfB]
      rw [if_neg (by omega)]
      simp only [mkB_append, mkB_size]
      rw [if_pos (by omega), if_pos (by rw [List.length_append]; simp [crlf]; omega), if_pos (by simp [crlf]; omega)]
    · have hq : wrap64 (Int.tdiv (n : Int) 16) = ((n / 16 : Nat) : Int) := by
        rw [show Int.tdiv (n : Int) 16 = ((n / 16 : Nat) : Int) from rfl]
        exact w64c _ (by omega)
      have hr : Int.tmod (n : Int) 16 = ((n % 16 : Nat) : Int) := rfl
      have hm : n % 16 < 16 := Nat.mod_lt _ (by decide)
      have hw : wrap64 (((n % 16 : Nat) : Int) + 1) = ((n % 16 + 1 : Nat) : Int) := w64n _ (by omega)
      have hx : (⟨#[48, 49, 50, 51, 52, 53, 54, 55, 56, 57, 97, 98, 99, 100, 101, 102]⟩ : ByteArray).extract (n % 16) (n % 16 + 1) = mkB [hexc (n % 16)] := hexB_at _ hm
      have ih2 := ih (n / 16) (by omega) (hexc (n % 16) :: t) (by omega) (by simp only [List.length_cons]; omega)
      have e : (if n / 16 = 0 then hexc (n % 16) :: t else digs 16 (n / 16) ++ hexc (n % 16) :: t) = (if n = 0 then t else digs 16 n ++ t) := by
        rw [if_neg h]
        split
        · next h2 =>
          have h3 : n < 16 := by omega
          rw [digs_small h3, Nat.mod_eq_of_lt h3]; rfl
        · next h2 => rw [digs_step (by decide) (by omega : 16 ≤ n)]; simp
      rw [e] at ih2
      refine Ev.step (f := fun k => portcullisref20_Chunk.l0 k (mkB s) (mkB (hexc (n % 16) :: t)) ((n / 16 : Nat) : Int)) (fun k => ?_) ih2
      simp only [portcullisref20_Chunk.l0]
      rw [if_pos (by omega), hq, hr, hw, if_pos (by omega), if_pos (by omega), if_pos (by omega), Int.toNat_natCast, Int.toNat_natCast, hx, if_pos (by rw [mkB_size, mkB_size]; simp; omega), mkB_append]
      rfl
theorem rchunk_is (s : List UInt8) (hs : s.length ≤ 500000) : Ev (fun k => portcullisref20_Chunk.f k (mkB s)) (mkB (chunkL s)) := by
  unfold portcullisref20_Chunk.f chunkL
  have hl : (mkB s).toList = s := by rw [Lib.toList_data, data_mkB]
  simp only [hl]
  by_cases h : s = []
  · simp only [if_pos h]
    exact Ev.now fun _ => rfl
  · simp only [if_neg h]
    have := chunk_go s (by omega) s.length [] (by omega) (by simp; omega)
    rw [if_neg (by intro e; exact h (List.length_eq_zero_iff.1 e)), List.append_nil] at this
    rw [mkB_size]
    exact this
theorem chunk_is (s : List UInt8) (hs : s.length ≤ 500000) : body_Chunk.f (mkB s) = some (mkB (chunkL s)) := by
  unfold body_Chunk.f chunkL
  have hl : (mkB s).toList = s := by rw [Lib.toList_data, data_mkB]
  rw [hl]
  by_cases h : s = []
  · rw [if_pos h, if_pos h]; rfl
  · have hd : (digs 16 s.length).length ≤ 21 := digs_length 16 (by decide) 20 s.length (by omega)
    have hf : strconv_FormatInt_17.f ((mkB s).size : Int) 16 = some (mkB (digs 16 s.length)) := by
      unfold strconv_FormatInt_17.f
      rw [mkB_size, if_pos (by omega), Int.toNat_natCast]
    rw [if_neg h, if_neg h, hf, Option.bind_some, crlfB]
    simp only [mkB_append, mkB_size]
    rw [if_pos (by omega), if_pos (by rw [List.length_append]; simp [crlf]; omega), if_pos (by simp [crlf]; omega)]
end Go.Proofs.YtllcfifeaacmiaaDoor.Pr
