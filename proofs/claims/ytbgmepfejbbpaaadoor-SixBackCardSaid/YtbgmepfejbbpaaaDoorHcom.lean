import Derived.Test.YtbgmepfejbbpaaaDoorKworks
import Derived.Test.YtbgmepfejbbpaaaDoorArr
import Derived.Deep.RegionHeld
namespace Go.Proofs.YtbgmepfejbbpaaaDoor.Pr
open Go.RowKit Go.Proofs.YtbgmepfejbbpaaaDoorW.PrintWords Go.Proofs.YtbgmepfejbbpaaaDoorW.PrintLast Go.Proofs.YtbgmepfejbbpaaaDoorW.PrintMore
set_option linter.unusedVariables false
set_option linter.unusedSimpArgs false

/-! ### Arrays as they come in -/
theorem arr_of {a : List Int} (hl : a.length = 8) (hw : ∀ x ∈ a, (Lit.int .u16 x).wf = true) : ∃ L : List Nat, L.length = 8 ∧ (∀ n ∈ L, n < 65536) ∧ intVals .u16 a = (cs8 (pad8 L)).toArray := by
  have hz : ∀ x ∈ a, 0 ≤ x ∧ x < 65536 := by
    intro x hx
    have h := hw x hx
    simp [Lit.wf, IntKind.min, IntKind.max, IntKind.signed, IntKind.bits] at h
    omega
  obtain ⟨L, rfl, hL⟩ : ∃ L : List Nat, a = L.map (fun n : Nat => (n : Int)) ∧ ∀ x ∈ L, x < 65536 := by
    refine ⟨a.map Int.toNat, ?_, ?_⟩
    · rw [List.map_map]
      conv => lhs; rw [← List.map_id a]
      exact List.map_congr_left fun x hx => by have := hz x hx; simp; omega
    · intro x hx
      obtain ⟨y, hy, rfl⟩ := List.mem_map.1 hx
      have := hz y hy
      omega
  rw [List.length_map] at hl
  refine ⟨L, hl, hL, ?_⟩
  match L, hl with
  | [x0, x1, x2, x3, x4, x5, x6, x7], _ => rfl
abbrev lit8 (f : Nat → Nat) : Array Value := #[.int .u16 (f 0 : Int), .int .u16 (f 1 : Int), .int .u16 (f 2 : Int), .int .u16 (f 3 : Int), .int .u16 (f 4 : Int), .int .u16 (f 5 : Int), .int .u16 (f 6 : Int), .int .u16 (f 7 : Int)]
theorem text_lit (L : List Nat) (hL : L.length = 8) (h16 : ∀ n ∈ L, n < 65536) (w : World) (hG : WG w) : Calls Tryd.prog 10 #[.agg (lit8 (pad8 L))] w fun e w' => e = .returned (.string (mkB (textF L))) ∧ Below w.heap.size w w' := text_any L hL h16 w hG
theorem eq_lit (f : Nat → Nat) (w : World) : (binOp .eql 23 (.agg (lit8 f)) (.agg (lit8 f))).run Tryd.prog w = .ok (.bool true) w := eql8 f w
theorem cell_keep {w w2 : World} {ad : Addr} {v : Value} (h : w.cell? ad = some v) (hb : Below w.heap.size w w2) : w2.cell? ad = some v := by
  rw [← h]
  unfold World.cell?
  rw [hb.block _ (World.block_lt_of_cell? _ _ h)]
theorem lit0 : (cs8 fun _ => 0) = [.int .u16 0, .int .u16 0, .int .u16 0, .int .u16 0, .int .u16 0, .int .u16 0, .int .u16 0, .int .u16 0] := rfl
abbrev C8 (w' : World) (b : Nat) (f : Nat → Nat) : Prop := w'.cell? ⟨b, 0, none⟩ = some (.int .u16 (f 0 : Int)) ∧ w'.cell? ⟨b, 1, none⟩ = some (.int .u16 (f 1 : Int)) ∧ w'.cell? ⟨b, 2, none⟩ = some (.int .u16 (f 2 : Int)) ∧ w'.cell? ⟨b, 3, none⟩ = some (.int .u16 (f 3 : Int)) ∧ w'.cell? ⟨b, 4, none⟩ = some (.int .u16 (f 4 : Int)) ∧ w'.cell? ⟨b, 5, none⟩ = some (.int .u16 (f 5 : Int)) ∧ w'.cell? ⟨b, 6, none⟩ = some (.int .u16 (f 6 : Int)) ∧ w'.cell? ⟨b, 7, none⟩ = some (.int .u16 (f 7 : Int))
theorem R8.c8 {W : World} {b : Nat} {f : Nat → Nat} (h : R8 W b 0 f) : C8 W b f := ⟨h.at_ 0 (by decide), h.at_ 1 (by decide), h.at_ 2 (by decide), h.at_ 3 (by decide), h.at_ 4 (by decide), h.at_ 5 (by decide), h.at_ 6 (by decide), h.at_ 7 (by decide)⟩
theorem store0 {W : World} {b : Nat} {h : Nat → Nat} (c : R8 W b 0 h) : C8 (W.setCells b 0 [.int .u16 0, .int .u16 0, .int .u16 0, .int .u16 0, .int .u16 0, .int .u16 0, .int .u16 0, .int .u16 0]) b fun _ => 0 := by
  rw [← lit0]
  exact (c.stored fun _ => 0).c8
theorem C8.keep {w w2 : World} {b : Nat} {f : Nat → Nat} (h : C8 w b f) (hb : Below w.heap.size w w2) : C8 w2 b f := ⟨cell_keep h.1 hb, cell_keep h.2.1 hb, cell_keep h.2.2.1 hb, cell_keep h.2.2.2.1 hb, cell_keep h.2.2.2.2.1 hb, cell_keep h.2.2.2.2.2.1 hb, cell_keep h.2.2.2.2.2.2.1 hb, cell_keep h.2.2.2.2.2.2.2 hb⟩
/-! ### SixTells -/
structure TS (w : World) (g b5 b7 : Nat) (G F : Nat → Nat) (w' : World) : Prop where
  c1 : C8 w' g G
  c2 : C8 w' b5 F
  c3 : C8 w' b7 F
  bel : Below w.heap.size w w'
theorem TS.keep {w W w2 : World} {g b5 b7 : Nat} {G F : Nat → Nat} (h : TS w g b5 b7 G F W) (hb : Below W.heap.size W w2) : TS w g b5 b7 G F w2 := ⟨h.c1.keep hb, h.c2.keep hb, h.c3.keep hb, below_step h.bel hb⟩
theorem TS.drew {w W : World} {g b5 b7 : Nat} {G F : Nat → Nat} (h : TS w g b5 b7 G F W) : TS w g b5 b7 G F W.drew := ⟨h.c1, h.c2, h.c3, below_drew h.bel⟩
theorem TS.all {w W : World} {b5 b7 : Nat} {G F : Nat → Nat} (h : TS w w.heap.size b5 b7 G F W) : TS w w.heap.size b5 b7 (G) (F) W ∧ W.cell? ⟨w.heap.size, 0, none⟩ = some (.int .u16 (G 0 : Int)) ∧ W.cell? ⟨w.heap.size, 1, none⟩ = some (.int .u16 (G 1 : Int)) ∧ W.cell? ⟨w.heap.size, 2, none⟩ = some (.int .u16 (G 2 : Int)) ∧ W.cell? ⟨w.heap.size, 3, none⟩ = some (.int .u16 (G 3 : Int)) ∧ W.cell? ⟨w.heap.size, 4, none⟩ = some (.int .u16 (G 4 : Int)) ∧ W.cell? ⟨w.heap.size, 5, none⟩ = some (.int .u16 (G 5 : Int)) ∧ W.cell? ⟨w.heap.size, 6, none⟩ = some (.int .u16 (G 6 : Int)) ∧ W.cell? ⟨w.heap.size, 7, none⟩ = some (.int .u16 (G 7 : Int)) ∧ W.cell? ⟨b5, 0, none⟩ = some (.int .u16 (F 0 : Int)) ∧ W.cell? ⟨b5, 1, none⟩ = some (.int .u16 (F 1 : Int)) ∧ W.cell? ⟨b5, 2, none⟩ = some (.int .u16 (F 2 : Int)) ∧ W.cell? ⟨b5, 3, none⟩ = some (.int .u16 (F 3 : Int)) ∧ W.cell? ⟨b5, 4, none⟩ = some (.int .u16 (F 4 : Int)) ∧ W.cell? ⟨b5, 5, none⟩ = some (.int .u16 (F 5 : Int)) ∧ W.cell? ⟨b5, 6, none⟩ = some (.int .u16 (F 6 : Int)) ∧ W.cell? ⟨b5, 7, none⟩ = some (.int .u16 (F 7 : Int)) ∧ W.cell? ⟨b7, 0, none⟩ = some (.int .u16 (F 0 : Int)) ∧ W.cell? ⟨b7, 1, none⟩ = some (.int .u16 (F 1 : Int)) ∧ W.cell? ⟨b7, 2, none⟩ = some (.int .u16 (F 2 : Int)) ∧ W.cell? ⟨b7, 3, none⟩ = some (.int .u16 (F 3 : Int)) ∧ W.cell? ⟨b7, 4, none⟩ = some (.int .u16 (F 4 : Int)) ∧ W.cell? ⟨b7, 5, none⟩ = some (.int .u16 (F 5 : Int)) ∧ W.cell? ⟨b7, 6, none⟩ = some (.int .u16 (F 6 : Int)) ∧ W.cell? ⟨b7, 7, none⟩ = some (.int .u16 (F 7 : Int)) := by
  obtain ⟨⟨a0, a1, a2, a3, a4, a5, a6, a7⟩, ⟨c0, c1, c2, c3, c4, c5, c6, c7⟩, ⟨d0, d1, d2, d3, d4, d5, d6, d7⟩, hb⟩ := h
  exact ⟨⟨⟨a0, a1, a2, a3, a4, a5, a6, a7⟩, ⟨c0, c1, c2, c3, c4, c5, c6, c7⟩, ⟨d0, d1, d2, d3, d4, d5, d6, d7⟩, hb⟩, a0, a1, a2, a3, a4, a5, a6, a7, c0, c1, c2, c3, c4, c5, c6, c7, d0, d1, d2, d3, d4, d5, d6, d7⟩
theorem TS.one {w W : World} {g b5 b7 : Nat} {G F : Nat → Nat} {p : Prop} (h : TS w g b5 b7 G F W ∧ p) : TS w g b5 b7 G F W := h.1
end Go.Proofs.YtbgmepfejbbpaaaDoor.Pr
