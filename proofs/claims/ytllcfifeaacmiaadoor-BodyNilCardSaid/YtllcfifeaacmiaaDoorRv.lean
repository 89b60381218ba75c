import Derived.Test.YtllcfifeaacmiaaDoorRu
import Derived.Test.YtllcfifeaacmiaaDoorShelf
import Derived.Shelf.Strings.SlTrimAscii
import Derived.Lib.SmallJoins
namespace Go.Proofs.YtllcfifeaacmiaaDoor.Pr
open Go.RowKit Go.Proofs.YtllcfifeaacmiaaDoorW.PrintWords Go.Proofs.YtllcfifeaacmiaaDoorW.PrintLast Go.Proofs.YtllcfifeaacmiaaDoorW.PrintMore
set_option linter.unusedVariables false
set_option linter.unusedSimpArgs false

/-! ### head.signs -/
def sgl : List UInt8 := [33, 35, 36, 37, 38, 39, 42, 43, 45, 46, 94, 95, 96, 124, 126, 48, 49, 50, 51, 52, 53, 54, 55, 56, 57, 97, 98, 99, 100, 101, 102, 103, 104, 105, 106, 107, 108, 109, 110, 111, 112, 113, 114, 115, 116, 117, 118, 119, 120, 121, 122, 65, 66, 67, 68, 69, 70, 71, 72, 73, 74, 75, 76, 77, 78, 79, 80, 81, 82, 83, 84, 85, 86, 87, 88, 89, 90]
def sgc : Array Value := #[.int .u8 33, .int .u8 35, .int .u8 36, .int .u8 37, .int .u8 38, .int .u8 39, .int .u8 42, .int .u8 43, .int .u8 45, .int .u8 46, .int .u8 94, .int .u8 95, .int .u8 96, .int .u8 124, .int .u8 126, .int .u8 48, .int .u8 49, .int .u8 50, .int .u8 51, .int .u8 52, .int .u8 53, .int .u8 54, .int .u8 55, .int .u8 56, .int .u8 57, .int .u8 97, .int .u8 98, .int .u8 99, .int .u8 100, .int .u8 101, .int .u8 102, .int .u8 103, .int .u8 104, .int .u8 105, .int .u8 106, .int .u8 107, .int .u8 108, .int .u8 109, .int .u8 110, .int .u8 111, .int .u8 112, .int .u8 113, .int .u8 114, .int .u8 115, .int .u8 116, .int .u8 117, .int .u8 118, .int .u8 119, .int .u8 120, .int .u8 121, .int .u8 122, .int .u8 65, .int .u8 66, .int .u8 67, .int .u8 68, .int .u8 69, .int .u8 70, .int .u8 71, .int .u8 72, .int .u8 73, .int .u8 74, .int .u8 75, .int .u8 76, .int .u8 77, .int .u8 78, .int .u8 79, .int .u8 80, .int .u8 81, .int .u8 82, .int .u8 83, .int .u8 84, .int .u8 85, .int .u8 86, .int .u8 87, .int .u8 88, .int .u8 89, .int .u8 90]
theorem sgc_eq : sgc = (sgl.map fun c => Value.int .u8 (c.toNat : Int)).toArray := rfl
structure Sg (w W : World) (i : Nat) : Prop where
  set : W.heap[w.heap.size]? = some (.cells (Lib.setCells (sgl.take i)) 86 (0, 0))
  row : ∀ j, (hj : j < sgl.length) → W.cell? ⟨w.heap.size + 1, j, none⟩ = some (.int .u8 (sgl[j].toNat : Int))
  bel : Below w.heap.size w W
theorem Sg.step {w W : World} {i : Nat} (h : Sg w W i) (hi : i < sgl.length) : Sg w (W.setCell ⟨w.heap.size, sgl[i].toNat, none⟩ (.bool true)) (i + 1) := by
  refine ⟨?_, fun j hj => ?_, h.bel.setCell (Nat.le_refl _) _⟩
  · rw [List.take_add_one, List.getElem?_eq_getElem hi]
    simp only [Option.toList]
    rw [Lib.setCells_snoc]
    exact blk_put h.set _ _ rfl
  · rw [World.cell?_setCell_other _ _ _ _ (by intro e; have := congrArg Addr.block e; simp at this)]
    exact h.row j hj
theorem Sg.start (w : World) : Sg w ((w.alloc (.cells Tryd.zeroCells86 86)).alloc (.cells sgc 5 (77, 78))) 0 := by
  refine ⟨?_, fun j hj => ?_, below_alloc (below_alloc (Below.refl _ _) _) _⟩
  · exact (blk_alloc (Go.Deep.blk_alloc_new w _) _).trans (congrArg (fun c => some (Obj.cells c 86 (0, 0))) (by kernel_rfl))
  · rw [Go.Joins.cell_alloc_mark_at _ _ _ _ _ _ (by simp), sgc_eq]
    simp [List.getElem?_eq_getElem hj]
set_option maxHeartbeats 4000000 in
set_option maxRecDepth 100000 in
theorem signs_any (w : World) : Calls Tryd.prog 58 #[] w fun e w' => e = .returned (.agg (Lib.setCells sgl)) ∧ Below w.heap.size w w' := by
  have hcv := Go.Joins.run_convert_bytes_const_at (P := Tryd.prog) (w.alloc (.cells Tryd.zeroCells86 86)) 45 5 #[.int .u8 33, .int .u8 35, .int .u8 36, .int .u8 37, .int .u8 38, .int .u8 39, .int .u8 42, .int .u8 43, .int .u8 45, .int .u8 46, .int .u8 94, .int .u8 95, .int .u8 96, .int .u8 124, .int .u8 126, .int .u8 48, .int .u8 49, .int .u8 50, .int .u8 51, .int .u8 52, .int .u8 53, .int .u8 54, .int .u8 55, .int .u8 56, .int .u8 57, .int .u8 97, .int .u8 98, .int .u8 99, .int .u8 100, .int .u8 101, .int .u8 102, .int .u8 103, .int .u8 104, .int .u8 105, .int .u8 106, .int .u8 107, .int .u8 108, .int .u8 109, .int .u8 110, .int .u8 111, .int .u8 112, .int .u8 113, .int .u8 114, .int .u8 115, .int .u8 116, .int .u8 117, .int .u8 118, .int .u8 119, .int .u8 120, .int .u8 121, .int .u8 122, .int .u8 65, .int .u8 66, .int .u8 67, .int .u8 68, .int .u8 69, .int .u8 70, .int .u8 71, .int .u8 72, .int .u8 73, .int .u8 74, .int .u8 75, .int .u8 76, .int .u8 77, .int .u8 78, .int .u8 79, .int .u8 80, .int .u8 81, .int .u8 82, .int .u8 83, .int .u8 84, .int .u8 85, .int .u8 86, .int .u8 87, .int .u8 88, .int .u8 89, .int .u8 90] 77 77 (w.heap.size + 1) (by simp) Tryd.underlying45 Tryd.underlying5
  go_enter Tryd.func58, Tryd.ntmps58
  go_wp2_with (simp only [hcv])
  have HS : Aside0 (Sg w _ 0) := ⟨Sg.start w⟩
  unfold sgc at HS
  clear hcv
  go_loopg [6] 77 (fun kq v6 wx => ∃ i : Nat, i + kq = 77 ∧ v6 = .int .i64 i ∧ Aside0 (Sg w wx i))
  case atStart => exact ⟨0, by omega, rfl, HS⟩
  case round =>
    clear HS
    obtain ⟨i, hig, rfl, H⟩ := hrel
    cases gk with
    | zero =>
      obtain rfl : i = 77 := by omega
      have hb : wr.heap[w.heap.size]? = some (.cells (Lib.setCells sgl) 86 (0, 0)) := H.out.set
      have hsz := Lib.setCells_size sgl
      have hone := Lib.setCells_one sgl
      have HB := Aside0.mk H.out.bel
      clear H
      obtain ⟨cs, hcs⟩ : ∃ cs, Lib.setCells sgl = cs := ⟨_, rfl⟩
      rw [hcs] at hb hsz hone
      have HCS := Aside0.mk hcs
      clear hcs
      have hi256 : (Tryd.prog.info? 86).map (·.size) = some cs.size := by rw [hsz]; kernel_rfl
      have hu256 : Tryd.prog.underlying 86 = some (.array (Tryd.prog.arrayLen 86) (Tryd.prog.elem 86)) := by kernel_rfl
      have HU := Aside0.mk (And.intro hi256 hu256)
      clear hi256 hu256
      go_wp2_with fail
      refine wp_load_row 86 (.tmp 0) rfl w.heap.size rfl 86 cs (0, 0) _ hb HU.out.2 rfl HU.out.1 ?_
      go_wp2_with fail
      have hsc : (storeCells ⟨w.heap.size, 0, none⟩ cs.toList).run Tryd.prog wr = .ok () wr := by
        have := run_storeCells_from (P := Tryd.prog) w.heap.size 86 cs.toList 0 cs wr hb (by simp) (fun v hv => (Array.all_eq_true_iff_forall_mem.1 hone) v (by simpa using hv))
        simpa [setRow_self _ _ _ _ _ hb] using this
      simp only [hsc, Result.andThen]
      rw [Oper.upon_skip]
      go_wp2_with fail
      refine bodyPost_ret (v := .agg cs) ?_ rfl ⟨by rw [HCS.out], HB.out⟩
      exact results_cell_row rfl _ _ w.heap.size 86 cs (0, 0) _ rfl hb HU.out.2 rfl HU.out.1
    | succ g =>
      have hi : i < sgl.length := by have : sgl.length = 77 := rfl; omega
      have hiz : (i : Int) < 77 := by omega
      have hx := H.out.row i hi
      have HN := Aside0.mk (H.out.step hi)
      have hx256 : (sgl[i].toNat : Int) < 256 := by have := UInt8.toNat_lt sgl[i]; omega
      obtain ⟨v0, hv0⟩ : ∃ v0, wr.cell? ⟨w.heap.size, sgl[i].toNat, none⟩ = some v0 := ⟨_, (blk_cell H.out.set _).trans (Lib.setCells_at _ _)⟩
      have hf := blk_frozen H.out.set sgl[i].toNat
      clear H
      generalize sgl[i] = x at hx HN hx256 hv0 hf
      go_wp2_with fail
      go_roundg g
      case measure => omega
      case rel => exact ⟨i + 1, by omega, by first | rfl | simp, HN⟩
end Go.Proofs.YtllcfifeaacmiaaDoor.Pr
