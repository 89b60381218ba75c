import Derived.Test.YtbgmepfejbbpaaaDoorKworks
import Derived.Test.YtbgmepfejbbpaaaDoorKrt
import Derived.Test.YtbgmepfejbbpaaaDoorArr
import Derived.Deep.RegionHeld
namespace Go.Proofs.YtbgmepfejbbpaaaDoor.Pr
open Go.RowKit Go.Proofs.YtbgmepfejbbpaaaDoorW.PrintWords Go.Proofs.YtbgmepfejbbpaaaDoorW.PrintLast Go.Proofs.YtbgmepfejbbpaaaDoorW.PrintMore
set_option linter.unusedVariables false
set_option linter.unusedSimpArgs false

/-! ### Arrays as they come in -/
theorem arr_of {a : List Int} (hl : a.length = 8) (hw : ∀ x ∈ a, (Lit.int .u16 x).wf = true) : ∃ L : List Nat, L.length = 8 ∧ (∀ n ∈ L, n < 65536) ∧ intVals .u16 a = (cs8 (pad8 L)).toArray := by
  have hz : ∀ x ∈ a, 0 ≤ x ∧ x < 65536 := by
    intro x hx
    have h := hw x hx
    simp [Lit.wf, IntKind.min, IntKind.max, IntKind.signed, IntKind.bits] at h
    omega
  obtain ⟨L, rfl, hL⟩ : ∃ L : List Nat, a = L.map (fun n : Nat => (n : Int)) ∧ ∀ x ∈ L, x < 65536 := by
    refine ⟨a.map Int.toNat, ?_, ?_⟩
    · rw [List.map_map]
      conv => lhs; rw [← List.map_id a]
      exact List.map_congr_left fun x hx => by have := hz x hx; simp; omega
    · intro x hx
      obtain ⟨y, hy, rfl⟩ := List.mem_map.1 hx
      have := hz y hy
      omega
  rw [List.length_map] at hl
  refine ⟨L, hl, hL, ?_⟩
  match L, hl with
  | [x0, x1, x2, x3, x4, x5, x6, x7], _ => rfl
abbrev lit8 (f : Nat → Nat) : Array Value := #[.int .u16 (f 0 : Int), .int .u16 (f 1 : Int), .int .u16 (f 2 : Int), .int .u16 (f 3 : Int), .int .u16 (f 4 : Int), .int .u16 (f 5 : Int), .int .u16 (f 6 : Int), .int .u16 (f 7 : Int)]
theorem text_lit (L : List Nat) (hL : L.length = 8) (h16 : ∀ n ∈ L, n < 65536) (w : World) (hG : WG w) : Calls Tryd.prog 10 #[.agg (lit8 (pad8 L))] w fun e w' => e = .returned (.string (mkB (textF L))) ∧ Below w.heap.size w w' := text_any L hL h16 w hG
theorem rt_lit (L : List Nat) (hL : L.length = 8) (h16 : ∀ n ∈ L, n < 65536) (w : World) (hG : WG w) : Calls Tryd.prog 11 #[.agg (lit8 (pad8 L))] w fun e w' => e = .returned (.string (mkB (textF L))) ∧ Below w.heap.size w w' := rt_any L hL h16 w hG
theorem eq_lit (f : Nat → Nat) (w : World) : (binOp .eql 23 (.agg (lit8 f)) (.agg (lit8 f))).run Tryd.prog w = .ok (.bool true) w := eql8 f w
theorem cell_keep {w w2 : World} {ad : Addr} {v : Value} (h : w.cell? ad = some v) (hb : Below w.heap.size w w2) : w2.cell? ad = some v := by
  rw [← h]
  unfold World.cell?
  rw [hb.block _ (World.block_lt_of_cell? _ _ h)]
theorem lit0 : (cs8 fun _ => 0) = [.int .u16 0, .int .u16 0, .int .u16 0, .int .u16 0, .int .u16 0, .int .u16 0, .int .u16 0, .int .u16 0] := rfl
abbrev C8 (w' : World) (b : Nat) (f : Nat → Nat) : Prop := w'.cell? ⟨b, 0, none⟩ = some (.int .u16 (f 0 : Int)) ∧ w'.cell? ⟨b, 1, none⟩ = some (.int .u16 (f 1 : Int)) ∧ w'.cell? ⟨b, 2, none⟩ = some (.int .u16 (f 2 : Int)) ∧ w'.cell? ⟨b, 3, none⟩ = some (.int .u16 (f 3 : Int)) ∧ w'.cell? ⟨b, 4, none⟩ = some (.int .u16 (f 4 : Int)) ∧ w'.cell? ⟨b, 5, none⟩ = some (.int .u16 (f 5 : Int)) ∧ w'.cell? ⟨b, 6, none⟩ = some (.int .u16 (f 6 : Int)) ∧ w'.cell? ⟨b, 7, none⟩ = some (.int .u16 (f 7 : Int))
theorem R8.c8 {W : World} {b : Nat} {f : Nat → Nat} (h : R8 W b 0 f) : C8 W b f := ⟨h.at_ 0 (by decide), h.at_ 1 (by decide), h.at_ 2 (by decide), h.at_ 3 (by decide), h.at_ 4 (by decide), h.at_ 5 (by decide), h.at_ 6 (by decide), h.at_ 7 (by decide)⟩
theorem store0 {W : World} {b : Nat} {h : Nat → Nat} (c : R8 W b 0 h) : C8 (W.setCells b 0 [.int .u16 0, .int .u16 0, .int .u16 0, .int .u16 0, .int .u16 0, .int .u16 0, .int .u16 0, .int .u16 0]) b fun _ => 0 := by
  rw [← lit0]
  exact (c.stored fun _ => 0).c8
theorem C8.keep {w w2 : World} {b : Nat} {f : Nat → Nat} (h : C8 w b f) (hb : Below w.heap.size w w2) : C8 w2 b f := ⟨cell_keep h.1 hb, cell_keep h.2.1 hb, cell_keep h.2.2.1 hb, cell_keep h.2.2.2.1 hb, cell_keep h.2.2.2.2.1 hb, cell_keep h.2.2.2.2.2.1 hb, cell_keep h.2.2.2.2.2.2.1 hb, cell_keep h.2.2.2.2.2.2.2 hb⟩
/-! ### SixTells -/
structure TS (w : World) (g b5 b7 : Nat) (G F : Nat → Nat) (w' : World) : Prop where
  c1 : C8 w' g G
  c2 : C8 w' b5 F
  c3 : C8 w' b7 F
  bel : Below w.heap.size w w'
theorem TS.keep {w W w2 : World} {g b5 b7 : Nat} {G F : Nat → Nat} (h : TS w g b5 b7 G F W) (hb : Below W.heap.size W w2) : TS w g b5 b7 G F w2 := ⟨h.c1.keep hb, h.c2.keep hb, h.c3.keep hb, below_step h.bel hb⟩
theorem TS.drew {w W : World} {g b5 b7 : Nat} {G F : Nat → Nat} (h : TS w g b5 b7 G F W) : TS w g b5 b7 G F W.drew := ⟨h.c1, h.c2, h.c3, below_drew h.bel⟩
theorem TS.all {w W : World} {b5 b7 : Nat} {G F : Nat → Nat} (h : TS w w.heap.size b5 b7 G F W) : TS w w.heap.size b5 b7 (G) (F) W ∧ W.cell? ⟨w.heap.size, 0, none⟩ = some (.int .u16 (G 0 : Int)) ∧ W.cell? ⟨w.heap.size, 1, none⟩ = some (.int .u16 (G 1 : Int)) ∧ W.cell? ⟨w.heap.size, 2, none⟩ = some (.int .u16 (G 2 : Int)) ∧ W.cell? ⟨w.heap.size, 3, none⟩ = some (.int .u16 (G 3 : Int)) ∧ W.cell? ⟨w.heap.size, 4, none⟩ = some (.int .u16 (G 4 : Int)) ∧ W.cell? ⟨w.heap.size, 5, none⟩ = some (.int .u16 (G 5 : Int)) ∧ W.cell? ⟨w.heap.size, 6, none⟩ = some (.int .u16 (G 6 : Int)) ∧ W.cell? ⟨w.heap.size, 7, none⟩ = some (.int .u16 (G 7 : Int)) ∧ W.cell? ⟨b5, 0, none⟩ = some (.int .u16 (F 0 : Int)) ∧ W.cell? ⟨b5, 1, none⟩ = some (.int .u16 (F 1 : Int)) ∧ W.cell? ⟨b5, 2, none⟩ = some (.int .u16 (F 2 : Int)) ∧ W.cell? ⟨b5, 3, none⟩ = some (.int .u16 (F 3 : Int)) ∧ W.cell? ⟨b5, 4, none⟩ = some (.int .u16 (F 4 : Int)) ∧ W.cell? ⟨b5, 5, none⟩ = some (.int .u16 (F 5 : Int)) ∧ W.cell? ⟨b5, 6, none⟩ = some (.int .u16 (F 6 : Int)) ∧ W.cell? ⟨b5, 7, none⟩ = some (.int .u16 (F 7 : Int)) ∧ W.cell? ⟨b7, 0, none⟩ = some (.int .u16 (F 0 : Int)) ∧ W.cell? ⟨b7, 1, none⟩ = some (.int .u16 (F 1 : Int)) ∧ W.cell? ⟨b7, 2, none⟩ = some (.int .u16 (F 2 : Int)) ∧ W.cell? ⟨b7, 3, none⟩ = some (.int .u16 (F 3 : Int)) ∧ W.cell? ⟨b7, 4, none⟩ = some (.int .u16 (F 4 : Int)) ∧ W.cell? ⟨b7, 5, none⟩ = some (.int .u16 (F 5 : Int)) ∧ W.cell? ⟨b7, 6, none⟩ = some (.int .u16 (F 6 : Int)) ∧ W.cell? ⟨b7, 7, none⟩ = some (.int .u16 (F 7 : Int)) := by
  obtain ⟨⟨a0, a1, a2, a3, a4, a5, a6, a7⟩, ⟨c0, c1, c2, c3, c4, c5, c6, c7⟩, ⟨d0, d1, d2, d3, d4, d5, d6, d7⟩, hb⟩ := h
  exact ⟨⟨⟨a0, a1, a2, a3, a4, a5, a6, a7⟩, ⟨c0, c1, c2, c3, c4, c5, c6, c7⟩, ⟨d0, d1, d2, d3, d4, d5, d6, d7⟩, hb⟩, a0, a1, a2, a3, a4, a5, a6, a7, c0, c1, c2, c3, c4, c5, c6, c7, d0, d1, d2, d3, d4, d5, d6, d7⟩
theorem TS.one {w W : World} {g b5 b7 : Nat} {G F : Nat → Nat} {p : Prop} (h : TS w g b5 b7 G F W ∧ p) : TS w g b5 b7 G F W := h.1
set_option maxRecDepth 8000 in
set_option maxHeartbeats 1000000 in
theorem tells_go (s : List UInt8) (L : List Nat) (hs : s.length ≤ 140737488351232) (hL : L.length = 8) (h16 : ∀ n ∈ L, n < 65536) (w : World) (hG : WG w) :
    Calls Tryd.prog 3 #[.string (mkB s), .agg (cs8 (pad8 L)).toArray] w fun e w' => e = .returned (.bool true) ∧ Below w.heap.size w w' := by
  have hsz := mkB_size s
  have hB0 : Below w.heap.size w (w.alloc (.cells (cs8 (pad8 L)).toArray 23)) := below_alloc (Below.refl _ _) _
  have hA0 := R8.boxed w (pad8 L)
  have hlt0 : w.heap.size < (w.alloc (.cells (cs8 (pad8 L)).toArray 23)).heap.size := by simp
  have HG := Aside0.mk hG
  clear hG
  by_cases hb : 8192 < s.length
  · have k1 : decide ((8192 : Int) < ((mkB s).size : Int)) = true := decide_eq_true (by omega)
    have k2 : decide (8192 < (mkB s).size) = true := decide_eq_true (by omega)
    have HB := Aside0.mk hB0
    clear hA0 hlt0 hB0 hs hsz hb
    go_enter Tryd.func3, Tryd.ntmps3
    go_wp2_with (go_at_call 7; with_reducible refine (works_any _ (HG.out.keep HB.out)).mono ?_; rintro e w1 ⟨rfl, hb1⟩; replace HB := Aside0.mk (below_step HB.out hb1); clear hb1)
    go_ret
    exact ⟨rfl, HB.out⟩
  · have k1 : decide ((8192 : Int) < ((mkB s).size : Int)) = false := decide_eq_false (by omega)
    have k2 : decide (8192 < (mkB s).size) = false := decide_eq_false (by omega)
    have HP := Aside0.mk (fun W => parse_any s W (by omega))
    have HR := Aside0.mk (fun W => rp_any s W (by omega))
    rw [sixA_ref] at HP
    have HA := Aside0.mk hA0
    have HB := Aside0.mk hB0
    clear hA0 hB0 hs hsz hb
    generalize refA s = R at HP HR
    have HT := Aside0.mk (fun W => text_lit L hL h16 W)
    have HU := Aside0.mk (fun W => rt_lit L hL h16 W)
    go_enter Tryd.func3, Tryd.ntmps3
    go_upto_region 3 with (fail)
    generalize w.alloc (.cells (cs8 (pad8 L)).toArray 23) = W at HA HB hlt0 ⊢
    have htail : ∀ (F : Nat → Nat), True := fun _ => trivial
    clear htail
    cases R with
    | none =>
      replace HP : Aside0 (∀ W, Calls Tryd.prog 8 #[.string (mkB s)] W fun e w' => e = .returned (.tuple #[.agg (cs8 fun _ => 0).toArray, .int .i64 8]) ∧ Below W.heap.size W w') := ⟨fun W => (HP.out W).mono fun e w' h => ⟨h.2, h.1⟩⟩
      replace HR : Aside0 (∀ W, Calls Tryd.prog 9 #[.string (mkB s)] W fun e w' => e = .returned (.tuple #[.agg (cs8 fun _ => 0).toArray, .bool false]) ∧ Below W.heap.size W w') := ⟨fun W => (HR.out W).mono fun e w' h => ⟨h.2, h.1⟩⟩
      go_upto_region 4 with (first | (go_at_call 8; with_reducible refine (HP.out _).mono ?_; rintro e w1 ⟨rfl, hb1⟩) | (with_reducible refine wpList_store_mid rfl 23 _ _ rfl _ 0 (cs8 fun _ => 0).toArray rfl rfl (th_8 (R8.fresh _) _) (info8a _) (one8 _) ?_))
      obtain ⟨W1, b5, e1, e2, hr5, hB5, hlt5⟩ := fresh_stored w1 (fun _ => 0)
      replace HB := Aside0.mk (below_step (below_step HB.out hb1) hB5)
      have hcg := (HA.out.c8.keep hb1).keep hB5
      have hlt1 : w.heap.size < b5 := by rw [← e2]; exact Nat.lt_of_lt_of_le hlt0 hb1.size
      rw [e1, e2]
      clear e1 e2 hb1 hB5 HP HA
      go_upto_region 5 with (first | (go_at_call 9; with_reducible refine (HR.out _).mono ?_; rintro e w2 ⟨rfl, hb2⟩) | (with_reducible refine wpList_store_mid rfl 23 _ _ rfl _ 0 (cs8 fun _ => 0).toArray rfl rfl (th_8 (R8.fresh _) _) (info8a _) (one8 _) ?_))
      obtain ⟨W2, b7, e1, e2, hr7, hB7, hlt7⟩ := fresh_stored w2 (fun _ => 0)
      replace HB := Aside0.mk (below_step (below_step HB.out hb2) hB7)
      replace hcg := (hcg.keep hb2).keep hB7
      have hc5 := (hr5.c8.keep hb2).keep hB7
      have hlt2 : b5 < b7 := by rw [← e2]; exact Nat.lt_of_lt_of_le hlt5 hb2.size
      rw [e1, e2]
      clear e1 e2 hb2 hB7 HR hr5
      go_upto_region 7 with (with_reducible refine wpList_store_mid rfl 23 _ _ rfl b7 0 #[.int .u16 0, .int .u16 0, .int .u16 0, .int .u16 0, .int .u16 0, .int .u16 0, .int .u16 0, .int .u16 0] rfl rfl (th_z8 hr7) size_z8 one_z8 ?_)
      obtain ⟨W3, hW3⟩ : ∃ W3, W3 = W2.setCells b7 0 [.int .u16 0, .int .u16 0, .int .u16 0, .int .u16 0, .int .u16 0, .int .u16 0, .int .u16 0, .int .u16 0] := ⟨_, rfl⟩
      rw [← hW3]
      have hfar : ∀ g i, g ≠ b7 → W3.cell? ⟨g, i, none⟩ = W2.cell? ⟨g, i, none⟩ := fun g i hg => by rw [hW3]; exact cells_far hg
      have HTS : TS w w.heap.size b5 b7 (pad8 L) (fun _ => 0) W3 := by
        refine ⟨?_, ?_, ?_, ?_⟩
        · simp only [C8, hfar _ _ (show w.heap.size ≠ b7 by omega)]; exact hcg
        · simp only [C8, hfar _ _ (show b5 ≠ b7 by omega)]; exact hc5
        · rw [hW3]; exact store0 hr7
        · rw [hW3]; exact below_cells (by omega) _ _ HB.out
      clear hfar hW3 hr7 hc5 hcg
      generalize (fun _ => 0 : Nat → Nat) = Z0 at HTS ⊢
      have hEq := eq_lit Z0
      clear hlt0 hlt1 hlt2 hlt7
      (first | (go_region_held (fun w' => TS w w.heap.size b5 b7 (pad8 L) (Z0) w' ∧ w'.cell? ⟨w.heap.size, 0, none⟩ = some (.int .u16 (pad8 L 0 : Int)) ∧ w'.cell? ⟨w.heap.size, 1, none⟩ = some (.int .u16 (pad8 L 1 : Int)) ∧ w'.cell? ⟨w.heap.size, 2, none⟩ = some (.int .u16 (pad8 L 2 : Int)) ∧ w'.cell? ⟨w.heap.size, 3, none⟩ = some (.int .u16 (pad8 L 3 : Int)) ∧ w'.cell? ⟨w.heap.size, 4, none⟩ = some (.int .u16 (pad8 L 4 : Int)) ∧ w'.cell? ⟨w.heap.size, 5, none⟩ = some (.int .u16 (pad8 L 5 : Int)) ∧ w'.cell? ⟨w.heap.size, 6, none⟩ = some (.int .u16 (pad8 L 6 : Int)) ∧ w'.cell? ⟨w.heap.size, 7, none⟩ = some (.int .u16 (pad8 L 7 : Int)) ∧ w'.cell? ⟨b5, 0, none⟩ = some (.int .u16 (Z0 0 : Int)) ∧ w'.cell? ⟨b5, 1, none⟩ = some (.int .u16 (Z0 1 : Int)) ∧ w'.cell? ⟨b5, 2, none⟩ = some (.int .u16 (Z0 2 : Int)) ∧ w'.cell? ⟨b5, 3, none⟩ = some (.int .u16 (Z0 3 : Int)) ∧ w'.cell? ⟨b5, 4, none⟩ = some (.int .u16 (Z0 4 : Int)) ∧ w'.cell? ⟨b5, 5, none⟩ = some (.int .u16 (Z0 5 : Int)) ∧ w'.cell? ⟨b5, 6, none⟩ = some (.int .u16 (Z0 6 : Int)) ∧ w'.cell? ⟨b5, 7, none⟩ = some (.int .u16 (Z0 7 : Int)) ∧ w'.cell? ⟨b7, 0, none⟩ = some (.int .u16 (Z0 0 : Int)) ∧ w'.cell? ⟨b7, 1, none⟩ = some (.int .u16 (Z0 1 : Int)) ∧ w'.cell? ⟨b7, 2, none⟩ = some (.int .u16 (Z0 2 : Int)) ∧ w'.cell? ⟨b7, 3, none⟩ = some (.int .u16 (Z0 3 : Int)) ∧ w'.cell? ⟨b7, 4, none⟩ = some (.int .u16 (Z0 4 : Int)) ∧ w'.cell? ⟨b7, 5, none⟩ = some (.int .u16 (Z0 5 : Int)) ∧ w'.cell? ⟨b7, 6, none⟩ = some (.int .u16 (Z0 6 : Int)) ∧ w'.cell? ⟨b7, 7, none⟩ = some (.int .u16 (Z0 7 : Int))) (first | assumption | exact HTS.drew.all | exact TS.all (TS.keep (TS.one (by assumption)) (by assumption))) (first | (go_at_call 10; with_reducible refine (HT.out _ (HG.out.keep (TS.one (by assumption)).bel)).mono ?_; rintro e w3 ⟨rfl, hb3⟩) | (go_at_call 11; with_reducible refine (HU.out _ (HG.out.keep (TS.one (by assumption)).bel)).mono ?_; rintro e w4 ⟨rfl, hb4⟩) | (go_at_call 7; with_reducible refine (works_any _ (HG.out.keep (TS.one (by assumption)).bel)).mono ?_; rintro e w5 ⟨rfl, hb5⟩))) | fail)
      all_goals
        go_wp2_with fail
        go_ret
        exact ⟨rfl, (TS.one (by assumption)).bel⟩
    | some A =>
      replace HP : Aside0 (∀ W, Calls Tryd.prog 8 #[.string (mkB s)] W fun e w' => e = .returned (.tuple #[.agg (cs8 (pad8 A)).toArray, .int .i64 0]) ∧ Below W.heap.size W w') := ⟨fun W => (HP.out W).mono fun e w' h => ⟨h.2, h.1⟩⟩
      replace HR : Aside0 (∀ W, Calls Tryd.prog 9 #[.string (mkB s)] W fun e w' => e = .returned (.tuple #[.agg (cs8 (pad8 A)).toArray, .bool true]) ∧ Below W.heap.size W w') := ⟨fun W => (HR.out W).mono fun e w' h => ⟨h.2, h.1⟩⟩
      go_upto_region 4 with (first | (go_at_call 8; with_reducible refine (HP.out _).mono ?_; rintro e w1 ⟨rfl, hb1⟩) | (with_reducible refine wpList_store_mid rfl 23 _ _ rfl _ 0 (cs8 (pad8 A)).toArray rfl rfl (th_8 (R8.fresh _) _) (info8a _) (one8 _) ?_))
      obtain ⟨W1, b5, e1, e2, hr5, hB5, hlt5⟩ := fresh_stored w1 (pad8 A)
      replace HB := Aside0.mk (below_step (below_step HB.out hb1) hB5)
      have hcg := (HA.out.c8.keep hb1).keep hB5
      have hlt1 : w.heap.size < b5 := by rw [← e2]; exact Nat.lt_of_lt_of_le hlt0 hb1.size
      rw [e1, e2]
      clear e1 e2 hb1 hB5 HP HA
      go_upto_region 5 with (first | (go_at_call 9; with_reducible refine (HR.out _).mono ?_; rintro e w2 ⟨rfl, hb2⟩) | (with_reducible refine wpList_store_mid rfl 23 _ _ rfl _ 0 (cs8 (pad8 A)).toArray rfl rfl (th_8 (R8.fresh _) _) (info8a _) (one8 _) ?_))
      obtain ⟨W2, b7, e1, e2, hr7, hB7, hlt7⟩ := fresh_stored w2 (pad8 A)
      replace HB := Aside0.mk (below_step (below_step HB.out hb2) hB7)
      replace hcg := (hcg.keep hb2).keep hB7
      have hc5 := (hr5.c8.keep hb2).keep hB7
      have hlt2 : b5 < b7 := by rw [← e2]; exact Nat.lt_of_lt_of_le hlt5 hb2.size
      rw [e1, e2]
      clear e1 e2 hb2 hB7 HR hr5
      go_upto_region 7 with (fail)
      have HTS : TS w w.heap.size b5 b7 (pad8 L) _ _ := ⟨hcg, hc5, hr7.c8, HB.out⟩
      clear hr7 hc5 hcg
      generalize pad8 A = FA at HTS ⊢
      have hEq := eq_lit FA
      clear hlt0 hlt1 hlt2 hlt7
      (first | (go_region_held (fun w' => TS w w.heap.size b5 b7 (pad8 L) (FA) w' ∧ w'.cell? ⟨w.heap.size, 0, none⟩ = some (.int .u16 (pad8 L 0 : Int)) ∧ w'.cell? ⟨w.heap.size, 1, none⟩ = some (.int .u16 (pad8 L 1 : Int)) ∧ w'.cell? ⟨w.heap.size, 2, none⟩ = some (.int .u16 (pad8 L 2 : Int)) ∧ w'.cell? ⟨w.heap.size, 3, none⟩ = some (.int .u16 (pad8 L 3 : Int)) ∧ w'.cell? ⟨w.heap.size, 4, none⟩ = some (.int .u16 (pad8 L 4 : Int)) ∧ w'.cell? ⟨w.heap.size, 5, none⟩ = some (.int .u16 (pad8 L 5 : Int)) ∧ w'.cell? ⟨w.heap.size, 6, none⟩ = some (.int .u16 (pad8 L 6 : Int)) ∧ w'.cell? ⟨w.heap.size, 7, none⟩ = some (.int .u16 (pad8 L 7 : Int)) ∧ w'.cell? ⟨b5, 0, none⟩ = some (.int .u16 (FA 0 : Int)) ∧ w'.cell? ⟨b5, 1, none⟩ = some (.int .u16 (FA 1 : Int)) ∧ w'.cell? ⟨b5, 2, none⟩ = some (.int .u16 (FA 2 : Int)) ∧ w'.cell? ⟨b5, 3, none⟩ = some (.int .u16 (FA 3 : Int)) ∧ w'.cell? ⟨b5, 4, none⟩ = some (.int .u16 (FA 4 : Int)) ∧ w'.cell? ⟨b5, 5, none⟩ = some (.int .u16 (FA 5 : Int)) ∧ w'.cell? ⟨b5, 6, none⟩ = some (.int .u16 (FA 6 : Int)) ∧ w'.cell? ⟨b5, 7, none⟩ = some (.int .u16 (FA 7 : Int)) ∧ w'.cell? ⟨b7, 0, none⟩ = some (.int .u16 (FA 0 : Int)) ∧ w'.cell? ⟨b7, 1, none⟩ = some (.int .u16 (FA 1 : Int)) ∧ w'.cell? ⟨b7, 2, none⟩ = some (.int .u16 (FA 2 : Int)) ∧ w'.cell? ⟨b7, 3, none⟩ = some (.int .u16 (FA 3 : Int)) ∧ w'.cell? ⟨b7, 4, none⟩ = some (.int .u16 (FA 4 : Int)) ∧ w'.cell? ⟨b7, 5, none⟩ = some (.int .u16 (FA 5 : Int)) ∧ w'.cell? ⟨b7, 6, none⟩ = some (.int .u16 (FA 6 : Int)) ∧ w'.cell? ⟨b7, 7, none⟩ = some (.int .u16 (FA 7 : Int))) (first | assumption | exact HTS.drew.all | exact TS.all (TS.keep (TS.one (by assumption)) (by assumption))) (first | (go_at_call 10; with_reducible refine (HT.out _ (HG.out.keep (TS.one (by assumption)).bel)).mono ?_; rintro e w3 ⟨rfl, hb3⟩) | (go_at_call 11; with_reducible refine (HU.out _ (HG.out.keep (TS.one (by assumption)).bel)).mono ?_; rintro e w4 ⟨rfl, hb4⟩) | (go_at_call 7; with_reducible refine (works_any _ (HG.out.keep (TS.one (by assumption)).bel)).mono ?_; rintro e w5 ⟨rfl, hb5⟩))) | fail)
      all_goals
        go_wp2_with fail
        go_ret
        exact ⟨rfl, (TS.one (by assumption)).bel⟩
theorem portcullislaw11_SixTells.walk (_P : True) (a0 : ByteArray) (a1 : List Int) (w : World) (w0 : a0.size ≤ 140737488351232) (l1 : a1.length = 8) (w1 : ∀ x ∈ a1, (Lit.int .u16 x).wf = true) (hG : WG w) :
    Calls Tryd.prog 3 #[.string a0, .agg (intVals .u16 a1)] w fun e w' => e = .returned (.bool true) ∧ Below w.heap.size w w' := by
  obtain ⟨L, hL, h16, e⟩ := arr_of l1 w1
  rw [e]
  have := tells_go a0.data.toList L (by rw [data_length]; exact w0) hL h16 w hG
  rw [mkB_data] at this
  exact this
end Go.Proofs.YtbgmepfejbbpaaaDoor.Pr
