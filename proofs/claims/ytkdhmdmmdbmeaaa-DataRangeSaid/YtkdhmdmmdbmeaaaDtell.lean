import Derived.Test.YtkdhmdmmdbmeaaaKtell
import Derived.Test.YtkdhmdmmdbmeaaaPrC1
namespace Go.Proofs.Ytkdhmdmmdbmeaaa.Pr
open Go.RowKit Go.Proofs.YtkdhmdmmdbmeaaaW.PrintWords Go.Proofs.YtkdhmdmmdbmeaaaW.PrintLast Go.Proofs.YtkdhmdmmdbmeaaaW.PrintMore
set_option linter.unusedVariables false
set_option linter.unusedSimpArgs false

/-! ### DataTells: the one way through it -/
def cells_R (a b st c d e sc bi cl : Int) (mk : Bool) (jo : Int) : List Value := [.int .i32 a, .int .i32 b, .int .u8 st, .int .i32 c, .int .i32 d, .int .i32 e, .int .u8 sc, .int .u8 bi, .int .u8 cl, .bool mk, .int .u8 jo]
theorem info_R : (Try.prog.info? 32).map (·.size) = some 11 := by kernel_rfl
theorem size_R (a b st c d e sc bi cl : Int) (mk : Bool) (jo : Int) : (Try.prog.info? 32).map (·.size) = some (cells_R a b st c d e sc bi cl mk jo).toArray.size := info_R
theorem one_R (a b st c d e sc bi cl : Int) (mk : Bool) (jo : Int) : (cells_R a b st c d e sc bi cl mk jo).toArray.all (·.oneCell') = true := by simp [cells_R, Value.oneCell']
/-- Where the document's row lies. -/
structure XAt (g : Nat) (w w' : World) (st sc bi cl : Int) (mk : Bool) (jo : Int) : Prop where
  sz : g < w'.heap.size
  c2 : w'.cell? ⟨g, 2, none⟩ = some (.int .u8 st)
  c6 : w'.cell? ⟨g, 6, none⟩ = some (.int .u8 sc)
  c7 : w'.cell? ⟨g, 7, none⟩ = some (.int .u8 bi)
  c8 : w'.cell? ⟨g, 8, none⟩ = some (.int .u8 cl)
  c9 : w'.cell? ⟨g, 9, none⟩ = some (.bool mk)
  c10 : w'.cell? ⟨g, 10, none⟩ = some (.int .u8 jo)
  bel : Below w.heap.size w w'
theorem XAt.keep {g : Nat} {w w' w1 : World} {st sc bi cl : Int} {mk : Bool} {jo : Int} (h : XAt g w w' st sc bi cl mk jo) (hb : Below w'.heap.size w' w1) : XAt g w w1 st sc bi cl mk jo :=
  have e : ∀ i, w1.cell? ⟨g, i, none⟩ = w'.cell? ⟨g, i, none⟩ := fun i => hb.cell (p := ⟨g, i, none⟩) h.sz
  ⟨Nat.lt_of_lt_of_le h.sz hb.size, (e 2).trans h.c2, (e 6).trans h.c6, (e 7).trans h.c7, (e 8).trans h.c8, (e 9).trans h.c9, (e 10).trans h.c10, below_step h.bel hb⟩
theorem XAt.drew {g : Nat} {w w' : World} {st sc bi cl : Int} {mk : Bool} {jo : Int} (h : XAt g w w' st sc bi cl mk jo) : XAt g w w'.drew st sc bi cl mk jo := ⟨h.sz, h.c2, h.c6, h.c7, h.c8, h.c9, h.c10, below_drew h.bel⟩
theorem XAt.facts {g : Nat} {w w' : World} {st sc bi cl : Int} {mk : Bool} {jo : Int} (h : XAt g w w' st sc bi cl mk jo) : w'.cell? ⟨g, 2, none⟩ = some (.int .u8 st) ∧ w'.cell? ⟨g, 6, none⟩ = some (.int .u8 sc) ∧ w'.cell? ⟨g, 7, none⟩ = some (.int .u8 bi) ∧ w'.cell? ⟨g, 8, none⟩ = some (.int .u8 cl) ∧ w'.cell? ⟨g, 9, none⟩ = some (.bool mk) ∧ w'.cell? ⟨g, 10, none⟩ = some (.int .u8 jo) ∧ XAt g w w' st sc bi cl mk jo := ⟨h.c2, h.c6, h.c7, h.c8, h.c9, h.c10, h⟩
theorem XAt.of {g : Nat} {w w' : World} {st sc bi cl : Int} {mk : Bool} {jo : Int} (h : w'.cell? ⟨g, 2, none⟩ = some (.int .u8 st) ∧ w'.cell? ⟨g, 6, none⟩ = some (.int .u8 sc) ∧ w'.cell? ⟨g, 7, none⟩ = some (.int .u8 bi) ∧ w'.cell? ⟨g, 8, none⟩ = some (.int .u8 cl) ∧ w'.cell? ⟨g, 9, none⟩ = some (.bool mk) ∧ w'.cell? ⟨g, 10, none⟩ = some (.int .u8 jo) ∧ XAt g w w' st sc bi cl mk jo) : XAt g w w' st sc bi cl mk jo := h.2.2.2.2.2.2
theorem XAt.start (w w1 : World) (hb : Below w.heap.size w w1) (zs : Array Value) (hz : zs.size = 11) (t : TypeId) (a b st c d e sc bi cl : Int) (mk : Bool) (jo : Int) : ∃ W, (w1.alloc (.cells zs t)).setCells w1.heap.size 0 (cells_R a b st c d e sc bi cl mk jo).toArray.toList = W ∧ XAt w1.heap.size w W st sc bi cl mk jo := by
  have ht := there_new w1 zs t
  rw [hz] at ht
  have hr := World.rangeAt_setCells_same (w1.alloc (.cells zs t)) w1.heap.size 0 (cells_R a b st c d e sc bi cl mk jo) ht
  refine ⟨_, rfl, ?_, hr 2 _ rfl, hr 6 _ rfl, hr 7 _ rfl, hr 8 _ rfl, hr 9 _ rfl, hr 10 _ rfl, below_step hb (below_cells (Nat.le_refl _) _ _ (below_alloc (Below.refl _ _) _))⟩
  rw [size_cells]; simp
theorem ref_calls (r : Int) (w : World) : ∃ a b c d e : Int, Calls Try.prog 20 #[.int .i32 r] w fun e' w' => e' = .returned (.agg (cells_R a b (findU r).f2 c d e (findU r).f3 (findU r).f4 (findU r).f5 (findU r).f7 (findU r).f6).toArray) ∧ Below w.heap.size w w' := by
  have h := portcullisref03_Find.calls 100 r (findR r).f0 (findR r).f1 (findR r).f2 (findR r).f3 (findR r).f4 (findR r).f5 (findR r).f6 (findR r).f7 (findR r).f8 (findR r).f9 (findR r).f10 w (refFind_eq 0 r)
  rw [← findR_U r]
  exact ⟨_, _, _, _, _, h⟩
theorem th_R {w1 : World} {zs : Array Value} {t : TypeId} (hz : zs.size = 11) (a b st c d e sc bi cl : Int) (mk : Bool) (jo : Int) : (w1.alloc (.cells zs t)).there w1.heap.size 0 (cells_R a b st c d e sc bi cl mk jo).toArray.size := by
  have ht := there_new w1 zs t
  rw [hz] at ht
  exact ht

set_option maxHeartbeats 4000000 in
theorem tells_go (r s q st sc bi cl jo a b c d e : Int) (mk is : Bool) (lm ld ll : List Int) (w : World)
    (hfind : Calls Try.prog 20 #[.int .i32 r] w fun e' w' => e' = .returned (.agg (cells_R a b st c d e sc bi cl mk jo).toArray) ∧ Below w.heap.size w w')
    (h1 : unidata_Status.f r = some st) (h2 : unidata_Script.f r = some sc) (h3 : unidata_Bidi.f r = some bi) (h4 : unidata_Joining.f r = some jo) (h5 : unidata_Class.f r = some cl) (h6 : unidata_Mark.f r = some mk)
    (hp : unidata_Pair.f r s = some (q, is)) (hp2 : portcullisref03_Pair.f 100 r s = some (q, is))
    (hm : unidata_Map.f 20 r = some lm) (hm2 : portcullisref03_Map.f 100 r = some lm) (hd : unidata_Decomp.f r = some ld) (hd2 : portcullisref03_Decomp.f 100 r = some ld) (hl : unidata_Like.f 20 r = some ll) (hl2 : portcullisref03_Like.f r = some ll)
    (r1 : portcullislaw03_runes.f 20 lm lm = some true) (r2 : portcullislaw03_runes.f 20 ld ld = some true) (r3 : portcullislaw03_runes.f 20 ll ll = some true) :
    Calls Try.prog 6 #[.int .i32 r, .int .i32 s] w fun e w' => e = .returned (.bool true) ∧ Below w.heap.size w w' := by
  have F1 := Lib.hid h1
  have F2 := Lib.hid h2
  have F3 := Lib.hid h3
  have F4 := Lib.hid h4
  have F5 := Lib.hid h5
  have F6 := Lib.hid h6
  have FP := Lib.hid hp
  have FQ := Lib.hid hp2
  have M1 := Lib.hid hm
  have M2 := Lib.hid hm2
  have D1 := Lib.hid hd
  have D2 := Lib.hid hd2
  have L1 := Lib.hid hl
  have L2 := Lib.hid hl2
  have R1 := Lib.hid r1
  have R2 := Lib.hid r2
  have R3 := Lib.hid r3
  have FI := Lib.hid hfind
  clear h1 h2 h3 h4 h5 h6 hp hp2 hm hm2 hd hd2 hl hl2 r1 r2 r3 hfind
  go_enter Try.func6, Try.ntmps6
  go_wp2_with (first | (go_at_call 20; refine FI.out.mono ?_; rintro e w1 ⟨rfl, hb1⟩) | (with_reducible refine wpList_store_mid rfl 32 _ _ rfl w1.heap.size 0 (cells_R a b st c d e sc bi cl mk jo).toArray rfl rfl (th_R rfl _ _ _ _ _ _ _ _ _ _ _) (size_R _ _ _ _ _ _ _ _ _ _ _) (one_R _ _ _ _ _ _ _ _ _ _ _) ?_; obtain ⟨W, eW, HX⟩ := XAt.start w w1 hb1 #[.int .i32 0, .int .i32 0, .int .u8 0, .int .i32 0, .int .i32 0, .int .i32 0, .int .u8 0, .int .u8 0, .int .u8 0, .bool false, .int .u8 0] rfl 32 a b st c d e sc bi cl mk jo; rw [eW]; clear eW) | (go_at_call 19; refine (unidata_Pair.calls r s q is _ FP.out).mono ?_; rintro e w2 ⟨rfl, hb2⟩; replace HX := HX.keep hb2; clear hb2) | (go_at_call 21; refine (portcullisref03_Pair.calls 100 r s q is _ FQ.out).mono ?_; rintro e w3 ⟨rfl, hb3⟩; replace HX := HX.keep hb3; clear hb3))
  go_region_held3 (fun w' => w'.cell? ⟨w1.heap.size, 2, none⟩ = some (.int .u8 st) ∧ w'.cell? ⟨w1.heap.size, 6, none⟩ = some (.int .u8 sc) ∧ w'.cell? ⟨w1.heap.size, 7, none⟩ = some (.int .u8 bi) ∧ w'.cell? ⟨w1.heap.size, 8, none⟩ = some (.int .u8 cl) ∧ w'.cell? ⟨w1.heap.size, 9, none⟩ = some (.bool mk) ∧ w'.cell? ⟨w1.heap.size, 10, none⟩ = some (.int .u8 jo) ∧ XAt w1.heap.size w w' st sc bi cl mk jo) (first | exact HX.drew.facts | exact HX.facts | exact XAt.facts (by assumption) | exact XAt.facts (XAt.drew (by assumption))) (first | (go_at_call 9; refine (unidata_Status.calls r st _ F1.out).mono ?_; rintro e w9 ⟨rfl, hb9⟩; have hx9 := XAt.keep (by first | exact XAt.of (by assumption) | assumption) hb9) | (go_at_call 13; refine (unidata_Script.calls r sc _ F2.out).mono ?_; rintro e w9 ⟨rfl, hb9⟩; have hx9 := XAt.keep (by first | exact XAt.of (by assumption) | assumption) hb9) | (go_at_call 16; refine (unidata_Bidi.calls r bi _ F3.out).mono ?_; rintro e w9 ⟨rfl, hb9⟩; have hx9 := XAt.keep (by first | exact XAt.of (by assumption) | assumption) hb9) | (go_at_call 17; refine (unidata_Joining.calls r jo _ F4.out).mono ?_; rintro e w9 ⟨rfl, hb9⟩; have hx9 := XAt.keep (by first | exact XAt.of (by assumption) | assumption) hb9) | (go_at_call 14; refine (unidata_Class.calls r cl _ F5.out).mono ?_; rintro e w9 ⟨rfl, hb9⟩; have hx9 := XAt.keep (by first | exact XAt.of (by assumption) | assumption) hb9) | (go_at_call 15; refine (unidata_Mark.calls r mk _ F6.out).mono ?_; rintro e w9 ⟨rfl, hb9⟩; have hx9 := XAt.keep (by first | exact XAt.of (by assumption) | assumption) hb9))
  have HB := hx9.bel
  clear HX
  go_wp2_with (first | (go_at_call 8; refine (unidata_Map.calls 20 r lm _ M1.out).mono ?_; rintro e wa1 ⟨va1, rfl, ha1, hb⟩; replace HB := below_step HB hb; clear hb; obtain ⟨Aa1, ca1, rfl⟩ := Kd.R_slice ha1) | (go_at_call 22; refine (portcullisref03_Map.calls 100 r lm _ M2.out).mono ?_; rintro e wb1 ⟨vb1, rfl, hb1, hb⟩; replace HB := below_step HB hb; replace ha1 := Kd.R_below ha1 hb; clear hb; obtain ⟨Ab1, cb1, rfl⟩ := Kd.R_slice hb1) | (go_at_call 18; refine (unidata_Decomp.calls r ld _ D1.out).mono ?_; rintro e wa2 ⟨va2, rfl, ha2, hb⟩; replace HB := below_step HB hb; clear hb; obtain ⟨Aa2, ca2, rfl⟩ := Kd.R_slice ha2) | (go_at_call 23; refine (portcullisref03_Decomp.calls 100 r ld _ D2.out).mono ?_; rintro e wb2 ⟨vb2, rfl, hb2, hb⟩; replace HB := below_step HB hb; replace ha2 := Kd.R_below ha2 hb; clear hb; obtain ⟨Ab2, cb2, rfl⟩ := Kd.R_slice hb2) | (go_at_call 10; refine (unidata_Like.calls 20 r ll _ L1.out).mono ?_; rintro e wa3 ⟨va3, rfl, ha3, hb⟩; replace HB := below_step HB hb; clear hb; obtain ⟨Aa3, ca3, rfl⟩ := Kd.R_slice ha3) | (go_at_call 24; refine (portcullisref03_Like.calls r ll _ L2.out).mono ?_; rintro e wb3 ⟨vb3, rfl, hb3, hb⟩; replace HB := below_step HB hb; replace ha3 := Kd.R_below ha3 hb; clear hb; obtain ⟨Ab3, cb3, rfl⟩ := Kd.R_slice hb3) | (go_at_call 11; (first | refine (portcullislaw03_runes.calls 20 _ _ ll _ _ ll true _ (Kd.R_reads' ha3).2.2 (Kd.R_reads' ha3).2.1 (Kd.R_reads' hb3).2.2 (Kd.R_reads' hb3).2.1 R3.out).mono ?_ | refine (portcullislaw03_runes.calls 20 _ _ ld _ _ ld true _ (Kd.R_reads' ha2).2.2 (Kd.R_reads' ha2).2.1 (Kd.R_reads' hb2).2.2 (Kd.R_reads' hb2).2.1 R2.out).mono ?_ | refine (portcullislaw03_runes.calls 20 _ _ lm _ _ lm true _ (Kd.R_reads' ha1).2.2 (Kd.R_reads' ha1).2.1 (Kd.R_reads' hb1).2.2 (Kd.R_reads' hb1).2.1 R1.out).mono ?_); rintro e w12 ⟨rfl, ⟨nd, rfl⟩⟩; replace HB := pw_below_drewN HB nd) | (go_at_call 12; refine (portcullislaw03_works.calls 20 true _ (works_eq 10)).mono ?_; rintro e w20 ⟨rfl, hb⟩; replace HB := below_step HB hb; clear hb))
  go_ret
  exact ⟨rfl, HB⟩
theorem like_two (r : Int) : ∃ l : List Int, portcullisref03_Like.f r = some l ∧ l.length ≤ 2 :=
  like_cases (p := fun r => ∃ l : List Int, portcullisref03_Like.f r = some l ∧ l.length ≤ 2) r ⟨_, rfl, by decide⟩ ⟨_, rfl, by decide⟩ ⟨_, rfl, by decide⟩ ⟨_, rfl, by decide⟩ ⟨_, rfl, by decide⟩ ⟨_, rfl, by decide⟩ ⟨_, rfl, by decide⟩ ⟨_, rfl, by decide⟩ ⟨_, rfl, by decide⟩ ⟨_, rfl, by decide⟩ ⟨_, rfl, by decide⟩ ⟨_, rfl, by decide⟩ ⟨_, rfl, by decide⟩ ⟨_, rfl, by decide⟩ ⟨_, rfl, by decide⟩ ⟨_, rfl, by decide⟩ ⟨_, rfl, by decide⟩ ⟨_, rfl, by decide⟩ ⟨_, rfl, by decide⟩ ⟨_, rfl, by decide⟩ fun h _ => ⟨_, h, by simp⟩
theorem decomp_two (r : Int) : ∃ l : List Int, unidata_Decomp.f r = some l ∧ l.length ≤ 2 := by
  unfold unidata_Decomp.f
  refine ⟨_, rfl, ?_⟩
  split
  · simp
  split
  · simp
  split
  · simp
  split
  · simp
  · simp
theorem portcullislaw03_DataTells.walk (_P : True) (a0 : Int) (a1 : Int) (w : World) (_w0 : (Lit.int .i32 a0).wf = true) (_w1 : (Lit.int .i32 a1).wf = true) :
    Calls Try.prog 6 #[.int .i32 a0, .int .i32 a1] w fun e w' => e = .returned (.bool true) ∧ Below w.heap.size w w' := by
  obtain ⟨a, b, c, d, e, hf⟩ := ref_calls a0 w
  obtain ⟨lm, hm, hml, _⟩ := map_ok 18 a0
  obtain ⟨ld, hd, hdl⟩ := decomp_two a0
  obtain ⟨ll, hl, hll⟩ := like_two a0
  exact tells_go a0 a1 _ _ _ _ _ _ a b c d e _ _ lm ld ll w hf rfl rfl rfl rfl rfl rfl rfl (refPair_eq 0 a0 a1) hm ((refMap_eq 0 18 a0).trans hm) hd ((refDecomp_eq 0 a0).trans hd) ((like_eq 15 a0).trans hl) hl (runes_self 16 lm hml) (runes_self 16 ld hdl) (runes_self 16 ll hll)
end Go.Proofs.Ytkdhmdmmdbmeaaa.Pr
