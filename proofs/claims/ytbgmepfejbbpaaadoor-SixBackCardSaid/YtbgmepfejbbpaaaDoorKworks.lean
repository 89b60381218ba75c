import Derived.Test.YtbgmepfejbbpaaaDoorKwk0
namespace Go.Proofs.YtbgmepfejbbpaaaDoor.Pr
open Go.RowKit Go.Proofs.YtbgmepfejbbpaaaDoorW.PrintWords Go.Proofs.YtbgmepfejbbpaaaDoorW.PrintLast Go.Proofs.YtbgmepfejbbpaaaDoorW.PrintMore
set_option linter.unusedVariables false
set_option linter.unusedSimpArgs false

/-! ### works -/
abbrev wkA : List Nat := [0, 0, 0, 0, 0, 65535, 258, 772]
theorem wk_one : sixA [58, 58, 102, 102, 102, 102, 58, 49, 46, 50, 46, 51, 46, 52] = some wkA := by rw [sixA_ref]; decide +kernel
theorem wk_two : sixA [49, 58, 58, 50, 58, 58, 51] = none := by rw [sixA_ref]; decide +kernel
theorem wk_three : textF [1, 0, 0, 2, 0, 0, 0, 3] = [49, 58, 48, 58, 48, 58, 50, 58, 58, 51] := by decide +kernel
theorem wk_four : textF [0, 0, 0, 0, 0, 0, 0, 0] = [58, 58] := by decide +kernel
theorem wk_parse1 (W : World) : Calls Tryd.prog 8 #[.string ⟨#[58, 58, 102, 102, 102, 102, 58, 49, 46, 50, 46, 51, 46, 52]⟩] W fun e w' => e = .returned (.tuple #[.agg (cs8 (pad8 wkA)).toArray, .int .i64 0]) ∧ Below W.heap.size W w' := by
  refine (parse_any [58, 58, 102, 102, 102, 102, 58, 49, 46, 50, 46, 51, 46, 52] W (by decide)).mono ?_
  rintro e w' ⟨hb, hq⟩
  rw [wk_one] at hq
  exact ⟨hq, hb⟩
theorem wk_parse2 (W : World) : Calls Tryd.prog 8 #[.string ⟨#[49, 58, 58, 50, 58, 58, 51]⟩] W fun e w' => e = .returned (.tuple #[.agg (cs8 fun _ => 0).toArray, .int .i64 8]) ∧ Below W.heap.size W w' := by
  refine (parse_any [49, 58, 58, 50, 58, 58, 51] W (by decide)).mono ?_
  rintro e w' ⟨hb, hq⟩
  rw [wk_two] at hq
  exact ⟨hq, hb⟩
theorem wk_text1 (W : World) (hG : WG W) : Calls Tryd.prog 10 #[.agg #[.int .u16 1, .int .u16 0, .int .u16 0, .int .u16 2, .int .u16 0, .int .u16 0, .int .u16 0, .int .u16 3]] W fun e w' => e = .returned (.string ⟨#[49, 58, 48, 58, 48, 58, 50, 58, 58, 51]⟩) ∧ Below W.heap.size W w' := by
  have := text_any [1, 0, 0, 2, 0, 0, 0, 3] rfl (by decide) W hG
  rw [wk_three] at this
  exact this
theorem wk_text2 (W : World) (hG : WG W) : Calls Tryd.prog 10 #[.agg #[.int .u16 0, .int .u16 0, .int .u16 0, .int .u16 0, .int .u16 0, .int .u16 0, .int .u16 0, .int .u16 0]] W fun e w' => e = .returned (.string ⟨#[58, 58]⟩) ∧ Below W.heap.size W w' := by
  have := text_any [0, 0, 0, 0, 0, 0, 0, 0] rfl (by decide) W hG
  rw [wk_four] at this
  exact this
theorem wk_eq (w : World) : (binOp .eql 23 (.agg (cs8 (pad8 wkA)).toArray) (.agg #[.int .u16 0, .int .u16 0, .int .u16 0, .int .u16 0, .int .u16 0, .int .u16 65535, .int .u16 258, .int .u16 772])).run Tryd.prog w = .ok (.bool true) w := eql8 (pad8 wkA) w
set_option maxRecDepth 8000 in
set_option maxHeartbeats 4000000 in
theorem works_any (w : World) (hG : WG w) : Calls Tryd.prog 7 #[] w fun e w' => e = .returned (.bool true) ∧ Below w.heap.size w w' := by
  have hEq := wk_eq
  have HG := Aside0.mk hG
  clear hG
  go_enter Tryd.func7, Tryd.ntmps7
  go_upto_region 2 with (first | (go_at_call 8; with_reducible refine (wk_parse1 _).mono ?_; rintro e w1 ⟨rfl, hb1⟩) | (with_reducible refine wpList_store_mid rfl 23 _ _ rfl _ 0 (cs8 (pad8 wkA)).toArray rfl rfl (th_8 (R8.fresh _) _) (info8a _) (one8 _) ?_))
  obtain ⟨W1, b1, e1, e2, hr1, hB1, hlt1⟩ := fresh_stored w1 (pad8 wkA)
  have HB := Aside0.mk (below_step hb1 hB1)
  rw [e1, e2]
  clear e1 e2 hb1 hB1
  have HR1 := Aside0.mk hr1
  clear hr1
  go_upto_region 3 with (first | (go_at_call 8; with_reducible refine (wk_parse2 _).mono ?_; rintro e w2 ⟨rfl, hb2⟩) | (with_reducible refine wpList_store_mid rfl 23 _ _ rfl _ 0 (cs8 fun _ => 0).toArray rfl rfl (th_8 (R8.fresh _) _) (info8a _) (one8 _) ?_))
  obtain ⟨W2, b2, e1, e2, hr2, hB2, hlt2⟩ := fresh_stored w2 (fun _ => 0)
  replace HB := Aside0.mk (below_step (below_step HB.out hb2) hB2)
  replace HR1 := Aside0.mk ((HR1.out.keep hb2 hlt1).keep hB2 (Nat.lt_of_lt_of_le hlt1 hb2.size))
  rw [e1, e2]
  clear e1 e2 hb2 hB2 hr2 hlt1
  go_wp2_with (first | (with_reducible refine wpList_load_g ?hw 23 _ rfl b1 0 rfl (cs8 (pad8 wkA)) _ HR1.out.range Tryd.underlying23 rfl (info8c _) ?_; (case hw => with_unfolding_all rfl)) | (go_at_call 10; with_reducible refine (wk_text1 _ (HG.out.keep HB.out)).mono ?_; rintro e w3 ⟨rfl, hb3⟩; replace HB := Aside0.mk (below_step HB.out hb3); clear hb3) | (go_at_call 10; with_reducible refine (wk_text2 _ (HG.out.keep HB.out)).mono ?_; rintro e w4 ⟨rfl, hb4⟩; replace HB := Aside0.mk (below_step HB.out hb4); clear hb4))
  go_ret
  exact ⟨rfl, HB.out⟩
end Go.Proofs.YtbgmepfejbbpaaaDoor.Pr
