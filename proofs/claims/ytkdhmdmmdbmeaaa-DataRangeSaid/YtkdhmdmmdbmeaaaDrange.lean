import Derived.Test.YtkdhmdmmdbmeaaaDtell
namespace Go.Proofs.Ytkdhmdmmdbmeaaa.Pr
open Go.RowKit Go.Proofs.YtkdhmdmmdbmeaaaW.PrintWords Go.Proofs.YtkdhmdmmdbmeaaaW.PrintLast Go.Proofs.YtkdhmdmmdbmeaaaW.PrintMore
set_option linter.unusedVariables false
set_option linter.unusedSimpArgs false

theorem wf_u8 {a : Int} (h : (Lit.int .u8 a).wf = true) : 0 ≤ a ∧ a ≤ 255 := by
  simp only [Lit.wf, Bool.and_eq_true, decide_eq_true_eq] at h
  have hmin : IntKind.u8.min = 0 := rfl
  have hmax : IntKind.u8.max = 255 := rfl
  omega
theorem XAt.drewN {g : Nat} {w w' : World} {st sc bi cl : Int} {mk : Bool} {jo : Int} (h : XAt g w w' st sc bi cl mk jo) (n : Nat) : XAt g w (w'.drewN n) st sc bi cl mk jo := ⟨h.sz, h.c2, h.c6, h.c7, h.c8, h.c9, h.c10, pw_below_drewN h.bel n⟩
/-- All that is asked of one code point. -/
structure RF (r st sc bi cl jo : Int) (mk : Bool) (lm ld : List Int) : Prop where
  p_find : ∀ w : World, ∃ a b c d e : Int, Calls Try.prog 20 #[.int .i32 r] w fun e' w' => e' = .returned (.agg (cells_R a b st c d e sc bi cl mk jo).toArray) ∧ Below w.heap.size w w'
  p_st : unidata_Status.f r = some st
  p_sc : unidata_Script.f r = some sc
  p_bi : unidata_Bidi.f r = some bi
  p_jo : unidata_Joining.f r = some jo
  p_cl : unidata_Class.f r = some cl
  p_mrk : unidata_Mark.f r = some mk
  p_lm : unidata_Map.f 20 r = some lm
  p_lm2 : portcullisref03_Map.f 100 r = some lm
  p_ld : unidata_Decomp.f r = some ld
  p_ld2 : portcullisref03_Decomp.f 100 r = some ld
  p_r1 : portcullislaw03_runes.f 20 lm lm = some true
  p_r2 : portcullislaw03_runes.f 20 ld ld = some true
theorem RF.any (r : Int) : ∃ st sc bi cl jo mk lm ld, RF r st sc bi cl jo mk lm ld := by
  obtain ⟨lm, hm, hml, _⟩ := map_ok 18 r
  obtain ⟨ld, hd, hdl⟩ := decomp_two r
  exact ⟨_, _, _, _, _, _, lm, ld, ref_calls r, rfl, rfl, rfl, rfl, rfl, rfl, hm, (refMap_eq 0 18 r).trans hm, hd, (refDecomp_eq 0 r).trans hd, runes_self 16 lm hml, runes_self 16 ld hdl⟩

set_option maxHeartbeats 8000000 in
theorem range_go (a0 n : Int) (w : World) (h0 : 0 ≤ n) (h1 : n ≤ 255) :
    Calls Try.prog 7 #[.int .i32 a0, .int .u8 n] w fun e w' => e = .returned (.bool true) ∧ Below w.heap.size w w' := by
  go_enter Try.func7, Try.ntmps7
  go_wp2_with fail
  go_loopw [5] (fun i wr => ∃ k : Nat, (k : Int) ≤ n ∧ i = .int .i32 k ∧ Below w.heap.size w wr) (fun i _ => n.toNat - (intOf i).toNat)
  case atStart => exact ⟨0, by omega, rfl, Below.refl _ _⟩
  case round =>
    obtain ⟨k, hk, rfl, hB⟩ := hrel
    by_cases hlt : (k : Int) < n
    · by_cases hg : 1114112 < a0
      · obtain ⟨st, sc, bi, cl, jo, mk, lm, ld, HF⟩ := RF.any (wrap32 (a0 - (k : Int)))
        go_wp2_with (first | (go_at_call 20; obtain ⟨a, b, c, d, e, hfd⟩ := HF.p_find wr; refine hfd.mono ?_; rintro e' w1 ⟨rfl, hb1⟩; clear hfd) | (with_reducible refine wpList_store_mid rfl 32 _ _ rfl w1.heap.size 0 (cells_R a b st c d e sc bi cl mk jo).toArray rfl rfl (th_R rfl _ _ _ _ _ _ _ _ _ _ _) (size_R _ _ _ _ _ _ _ _ _ _ _) (one_R _ _ _ _ _ _ _ _ _ _ _) ?_; obtain ⟨W, eW, HX⟩ := XAt.start w w1 (below_step hB hb1) #[.int .i32 0, .int .i32 0, .int .u8 0, .int .i32 0, .int .i32 0, .int .i32 0, .int .u8 0, .int .u8 0, .int .u8 0, .bool false, .int .u8 0] rfl 32 a b st c d e sc bi cl mk jo; rw [eW]; clear eW))
        go_region_held3 (fun w' => w'.cell? ⟨w1.heap.size, 2, none⟩ = some (.int .u8 st) ∧ w'.cell? ⟨w1.heap.size, 6, none⟩ = some (.int .u8 sc) ∧ w'.cell? ⟨w1.heap.size, 7, none⟩ = some (.int .u8 bi) ∧ w'.cell? ⟨w1.heap.size, 8, none⟩ = some (.int .u8 cl) ∧ w'.cell? ⟨w1.heap.size, 9, none⟩ = some (.bool mk) ∧ w'.cell? ⟨w1.heap.size, 10, none⟩ = some (.int .u8 jo) ∧ XAt w1.heap.size w w' st sc bi cl mk jo) (first | exact HX.drew.facts | exact HX.facts | exact XAt.facts (by assumption) | exact XAt.facts (XAt.drew (by assumption))) (first | (go_at_call 9; refine (unidata_Status.calls _ st _ HF.p_st).mono ?_; rintro e w9 ⟨rfl, hb9⟩; have hx9 := XAt.keep (by first | exact XAt.of (by assumption) | assumption) hb9) | (go_at_call 13; refine (unidata_Script.calls _ sc _ HF.p_sc).mono ?_; rintro e w9 ⟨rfl, hb9⟩; have hx9 := XAt.keep (by first | exact XAt.of (by assumption) | assumption) hb9) | (go_at_call 16; refine (unidata_Bidi.calls _ bi _ HF.p_bi).mono ?_; rintro e w9 ⟨rfl, hb9⟩; have hx9 := XAt.keep (by first | exact XAt.of (by assumption) | assumption) hb9) | (go_at_call 17; refine (unidata_Joining.calls _ jo _ HF.p_jo).mono ?_; rintro e w9 ⟨rfl, hb9⟩; have hx9 := XAt.keep (by first | exact XAt.of (by assumption) | assumption) hb9) | (go_at_call 14; refine (unidata_Class.calls _ cl _ HF.p_cl).mono ?_; rintro e w9 ⟨rfl, hb9⟩; have hx9 := XAt.keep (by first | exact XAt.of (by assumption) | assumption) hb9) | (go_at_call 15; refine (unidata_Mark.calls _ mk _ HF.p_mrk).mono ?_; rintro e w9 ⟨rfl, hb9⟩; have hx9 := XAt.keep (by first | exact XAt.of (by assumption) | assumption) hb9) | (go_at_call 8; refine (unidata_Map.calls 20 _ lm _ HF.p_lm).mono ?_; rintro e wa1 ⟨va1, rfl, ha1, hb9⟩; have hx9 := XAt.keep (by first | exact XAt.of (by assumption) | assumption) hb9; obtain ⟨Aa1, ca1, rfl⟩ := Kd.R_slice ha1) | (go_at_call 22; refine (portcullisref03_Map.calls 100 _ lm _ HF.p_lm2).mono ?_; rintro e wb1 ⟨vb1, rfl, hb1, hb9⟩; have hx9 := XAt.keep (by first | exact XAt.of (by assumption) | assumption) hb9; replace ha1 := Kd.R_below ha1 hb9; obtain ⟨Ab1, cb1, rfl⟩ := Kd.R_slice hb1) | (go_at_call 18; refine (unidata_Decomp.calls _ ld _ HF.p_ld).mono ?_; rintro e wa2 ⟨va2, rfl, ha2, hb9⟩; have hx9 := XAt.keep (by first | exact XAt.of (by assumption) | assumption) hb9; obtain ⟨Aa2, ca2, rfl⟩ := Kd.R_slice ha2) | (go_at_call 23; refine (portcullisref03_Decomp.calls 100 _ ld _ HF.p_ld2).mono ?_; rintro e wb2 ⟨vb2, rfl, hb2, hb9⟩; have hx9 := XAt.keep (by first | exact XAt.of (by assumption) | assumption) hb9; replace ha2 := Kd.R_below ha2 hb9; obtain ⟨Ab2, cb2, rfl⟩ := Kd.R_slice hb2) | (go_at_call 11; (first | refine (portcullislaw03_runes.calls 20 _ _ ld _ _ ld true _ (Kd.R_reads' ha2).2.2 (Kd.R_reads' ha2).2.1 (Kd.R_reads' hb2).2.2 (Kd.R_reads' hb2).2.1 HF.p_r2).mono ?_ | refine (portcullislaw03_runes.calls 20 _ _ lm _ _ lm true _ (Kd.R_reads' ha1).2.2 (Kd.R_reads' ha1).2.1 (Kd.R_reads' hb1).2.2 (Kd.R_reads' hb1).2.1 HF.p_r1).mono ?_); rintro e w12 ⟨rfl, ⟨nd, rfl⟩⟩; have hx9 := XAt.drewN (by first | exact XAt.of (by assumption) | assumption) nd))
        have HB := hx9.bel
        clear HX
        go_wp2_with fail
        go_roundw
        case rel => exact ⟨k + 1, by omega, by go_num, HB⟩
        case measure => simp [intOf]; omega
      · obtain ⟨st, sc, bi, cl, jo, mk, lm, ld, HF⟩ := RF.any (wrap32 (a0 + (k : Int)))
        go_wp2_with (first | (go_at_call 20; obtain ⟨a, b, c, d, e, hfd⟩ := HF.p_find wr; refine hfd.mono ?_; rintro e' w1 ⟨rfl, hb1⟩; clear hfd) | (with_reducible refine wpList_store_mid rfl 32 _ _ rfl w1.heap.size 0 (cells_R a b st c d e sc bi cl mk jo).toArray rfl rfl (th_R rfl _ _ _ _ _ _ _ _ _ _ _) (size_R _ _ _ _ _ _ _ _ _ _ _) (one_R _ _ _ _ _ _ _ _ _ _ _) ?_; obtain ⟨W, eW, HX⟩ := XAt.start w w1 (below_step hB hb1) #[.int .i32 0, .int .i32 0, .int .u8 0, .int .i32 0, .int .i32 0, .int .i32 0, .int .u8 0, .int .u8 0, .int .u8 0, .bool false, .int .u8 0] rfl 32 a b st c d e sc bi cl mk jo; rw [eW]; clear eW))
        go_region_held3 (fun w' => w'.cell? ⟨w1.heap.size, 2, none⟩ = some (.int .u8 st) ∧ w'.cell? ⟨w1.heap.size, 6, none⟩ = some (.int .u8 sc) ∧ w'.cell? ⟨w1.heap.size, 7, none⟩ = some (.int .u8 bi) ∧ w'.cell? ⟨w1.heap.size, 8, none⟩ = some (.int .u8 cl) ∧ w'.cell? ⟨w1.heap.size, 9, none⟩ = some (.bool mk) ∧ w'.cell? ⟨w1.heap.size, 10, none⟩ = some (.int .u8 jo) ∧ XAt w1.heap.size w w' st sc bi cl mk jo) (first | exact HX.drew.facts | exact HX.facts | exact XAt.facts (by assumption) | exact XAt.facts (XAt.drew (by assumption))) (first | (go_at_call 9; refine (unidata_Status.calls _ st _ HF.p_st).mono ?_; rintro e w9 ⟨rfl, hb9⟩; have hx9 := XAt.keep (by first | exact XAt.of (by assumption) | assumption) hb9) | (go_at_call 13; refine (unidata_Script.calls _ sc _ HF.p_sc).mono ?_; rintro e w9 ⟨rfl, hb9⟩; have hx9 := XAt.keep (by first | exact XAt.of (by assumption) | assumption) hb9) | (go_at_call 16; refine (unidata_Bidi.calls _ bi _ HF.p_bi).mono ?_; rintro e w9 ⟨rfl, hb9⟩; have hx9 := XAt.keep (by first | exact XAt.of (by assumption) | assumption) hb9) | (go_at_call 17; refine (unidata_Joining.calls _ jo _ HF.p_jo).mono ?_; rintro e w9 ⟨rfl, hb9⟩; have hx9 := XAt.keep (by first | exact XAt.of (by assumption) | assumption) hb9) | (go_at_call 14; refine (unidata_Class.calls _ cl _ HF.p_cl).mono ?_; rintro e w9 ⟨rfl, hb9⟩; have hx9 := XAt.keep (by first | exact XAt.of (by assumption) | assumption) hb9) | (go_at_call 15; refine (unidata_Mark.calls _ mk _ HF.p_mrk).mono ?_; rintro e w9 ⟨rfl, hb9⟩; have hx9 := XAt.keep (by first | exact XAt.of (by assumption) | assumption) hb9) | (go_at_call 8; refine (unidata_Map.calls 20 _ lm _ HF.p_lm).mono ?_; rintro e wa1 ⟨va1, rfl, ha1, hb9⟩; have hx9 := XAt.keep (by first | exact XAt.of (by assumption) | assumption) hb9; obtain ⟨Aa1, ca1, rfl⟩ := Kd.R_slice ha1) | (go_at_call 22; refine (portcullisref03_Map.calls 100 _ lm _ HF.p_lm2).mono ?_; rintro e wb1 ⟨vb1, rfl, hb1, hb9⟩; have hx9 := XAt.keep (by first | exact XAt.of (by assumption) | assumption) hb9; replace ha1 := Kd.R_below ha1 hb9; obtain ⟨Ab1, cb1, rfl⟩ := Kd.R_slice hb1) | (go_at_call 18; refine (unidata_Decomp.calls _ ld _ HF.p_ld).mono ?_; rintro e wa2 ⟨va2, rfl, ha2, hb9⟩; have hx9 := XAt.keep (by first | exact XAt.of (by assumption) | assumption) hb9; obtain ⟨Aa2, ca2, rfl⟩ := Kd.R_slice ha2) | (go_at_call 23; refine (portcullisref03_Decomp.calls 100 _ ld _ HF.p_ld2).mono ?_; rintro e wb2 ⟨vb2, rfl, hb2, hb9⟩; have hx9 := XAt.keep (by first | exact XAt.of (by assumption) | assumption) hb9; replace ha2 := Kd.R_below ha2 hb9; obtain ⟨Ab2, cb2, rfl⟩ := Kd.R_slice hb2) | (go_at_call 11; (first | refine (portcullislaw03_runes.calls 20 _ _ ld _ _ ld true _ (Kd.R_reads' ha2).2.2 (Kd.R_reads' ha2).2.1 (Kd.R_reads' hb2).2.2 (Kd.R_reads' hb2).2.1 HF.p_r2).mono ?_ | refine (portcullislaw03_runes.calls 20 _ _ lm _ _ lm true _ (Kd.R_reads' ha1).2.2 (Kd.R_reads' ha1).2.1 (Kd.R_reads' hb1).2.2 (Kd.R_reads' hb1).2.1 HF.p_r1).mono ?_); rintro e w12 ⟨rfl, ⟨nd, rfl⟩⟩; have hx9 := XAt.drewN (by first | exact XAt.of (by assumption) | assumption) nd))
        have HB := hx9.bel
        clear HX
        go_wp2_with fail
        go_roundw
        case rel => exact ⟨k + 1, by omega, by go_num, HB⟩
        case measure => simp [intOf]; omega
    · go_wp2_with (first | (go_at_call 12; refine (portcullislaw03_works.calls 20 true _ (works_eq 10)).mono ?_; rintro e w20 ⟨rfl, hb⟩))
      go_ret
      exact ⟨rfl, below_step hB hb⟩
theorem portcullislaw03_DataRange.walk (_P : True) (a0 : Int) (a1 : Int) (w : World) (_w0 : (Lit.int .i32 a0).wf = true) (_w1 : (Lit.int .u8 a1).wf = true) :
    Calls Try.prog 7 #[.int .i32 a0, .int .u8 a1] w fun e w' => e = .returned (.bool true) ∧ Below w.heap.size w w' :=
  range_go a0 a1 w (wf_u8 _w1).1 (wf_u8 _w1).2
end Go.Proofs.Ytkdhmdmmdbmeaaa.Pr
