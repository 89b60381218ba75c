import Derived.Test.YtllcfifeaacmiaaDoorRv
namespace Go.Proofs.YtllcfifeaacmiaaDoor.Pr
open Go.RowKit Go.Proofs.YtllcfifeaacmiaaDoorW.PrintWords Go.Proofs.YtllcfifeaacmiaaDoorW.PrintLast Go.Proofs.YtllcfifeaacmiaaDoorW.PrintMore
set_option linter.unusedVariables false
set_option linter.unusedSimpArgs false

/-! ### head.Token -/
def tokL (t : List UInt8) : Bool := t.all (sgl.contains ·) && !t.isEmpty
set_option maxHeartbeats 4000000 in
set_option maxRecDepth 100000 in
theorem token_any (s : ByteArray) (hs : s.size ≤ 1000000000) (w : World) : Calls Tryd.prog 53 #[.string s] w fun e w' => e = .returned (.bool (tokL s.data.toList)) ∧ Below w.heap.size w w' := by
  have hsz := Lib.setCells_size sgl
  have hone := Lib.setCells_one sgl
  have hat := fun x => Lib.setCells_at sgl x
  have HS := Aside0.mk (fun W => signs_any W)
  obtain ⟨cs, hcs⟩ : ∃ cs, Lib.setCells sgl = cs := ⟨_, rfl⟩
  rw [hcs] at hsz hone
  simp only [hcs] at hat HS
  clear hcs
  have HAT := Aside0.mk hat
  clear hat
  go_enter Tryd.func53, Tryd.ntmps53
  go_wp2_with (go_at_call 58; (with_reducible refine (HS.out _).mono ?_); rintro e w1 ⟨rfl, hb⟩)
  have hsc : (storeCells ⟨w1.heap.size, 0, none⟩ cs.toList).run Tryd.prog (w1.alloc (.cells Tryd.zeroCells86 86)) = .ok () (w1.alloc (.cells cs 86)) :=
    run_storeCells_new (P := Tryd.prog) w1 86 Tryd.zeroCells86 cs (by rw [hsz]; kernel_rfl) (by rw [hsz]; kernel_rfl) hone
  simp only [hsc, Result.andThen]
  rw [Oper.upon_skip]
  have HC : Aside0 (∀ x : UInt8, (w1.alloc (.cells cs 86)).cell? ⟨w1.heap.size, x.toNat, none⟩ = some (.bool (sgl.contains x))) := ⟨fun x => by rw [World.cell?_alloc_new]; exact HAT.out x⟩
  have HB : Aside0 (Below w.heap.size w (w1.alloc (.cells cs 86))) := ⟨below_alloc hb _⟩
  generalize w1.alloc (.cells cs 86) = W1 at HC HB ⊢
  generalize w1.heap.size = b at HC ⊢
  clear hsc hone hsz HAT HS hb
  go_wp2_with fail
  go_loopw [8] (fun v8 wi => wi = W1 ∧ ∃ i : Nat, v8 = .int .i64 (i : Int) ∧ i ≤ s.size ∧ Aside0 ((s.data.toList.take i).all (sgl.contains ·) = true)) (fun v8 _ => s.size - (intOf v8).toNat)
  case atStart => exact ⟨rfl, 0, rfl, Nat.zero_le _, ⟨rfl⟩⟩
  case round =>
    obtain ⟨rfl, i, rfl, hi, HI⟩ := hrel
    by_cases hlt : i < s.size
    · obtain ⟨x, hx⟩ : ∃ x : UInt8, s[i]'hlt = x := ⟨_, rfl⟩
      have hxl : s.data.toList[i]? = some x := by rw [← hx]; exact Lib.data_getElem? s i hlt
      have hc := HC.out x
      have hx256 : (x.toNat : Int) < 256 := by have := UInt8.toNat_lt x; omega
      have hwr : IntKind.i64.wrap ((i : Int) + 1) = (i : Int) + 1 := by rw [i64_w, IntWalk.wrap64_in _ (by omega)]
      cases hk : sgl.contains x with
      | false =>
        have HE : Aside0 (tokL s.data.toList = false) := ⟨by
          have : s.data.toList.all (sgl.contains ·) = false := by
            rw [List.all_eq_false]
            exact ⟨x, List.mem_of_getElem? hxl, by rw [Bool.not_eq_true]; exact hk⟩
          unfold tokL
          rw [this]
          rfl⟩
        rw [hk] at hc
        clear hk HI hxl HC
        go_wp2_with fail
        go_ret
        exact ⟨by rw [HE.out]; rfl, HB.out⟩
      | true =>
        have HE : Aside0 ((s.data.toList.take (i + 1)).all (sgl.contains ·) = true) := ⟨by
          rw [List.take_add_one, hxl, List.all_append, HI.out]
          simp only [Option.toList, List.all_cons, List.all_nil, hk]
          rfl⟩
        rw [hk] at hc
        clear hk HI hxl HC
        go_wp2_with fail
        exact ⟨⟨by trivial, i + 1, by go_num, by omega, HE⟩, by simp [intOf]; omega⟩
    · have HE : Aside0 (s.data.toList.all (sgl.contains ·) = true) := ⟨by
        have h := HI.out
        rwa [List.take_of_length_le (by rw [← Lib.size_eq]; omega)] at h⟩
      clear HI HC
      go_wp2_with fail
      go_ret
      refine ⟨?_, HB.out⟩
      unfold tokL
      rw [HE.out, ← Lib.toList_data]
      rfl
end Go.Proofs.YtllcfifeaacmiaaDoor.Pr
