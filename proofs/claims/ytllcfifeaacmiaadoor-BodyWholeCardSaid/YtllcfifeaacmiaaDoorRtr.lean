import Derived.Test.YtllcfifeaacmiaaDoorRu
import Derived.Test.YtllcfifeaacmiaaDoorShelf
import Derived.Shelf.Strings.SlTrimAscii
import Derived.Lib.SmallJoins
import Derived.Lib.CutLaws
import Derived.Shelf.RegionOpen
namespace Go.Proofs.YtllcfifeaacmiaaDoor.Pr
open Go.RowKit Go.Proofs.YtllcfifeaacmiaaDoorW.PrintWords Go.Proofs.YtllcfifeaacmiaaDoorW.PrintLast Go.Proofs.YtllcfifeaacmiaaDoorW.PrintMore
set_option linter.unusedVariables false
set_option linter.unusedSimpArgs false

/-! ### head.signs -/
def sgl : List UInt8 := [33, 35, 36, 37, 38, 39, 42, 43, 45, 46, 94, 95, 96, 124, 126, 48, 49, 50, 51, 52, 53, 54, 55, 56, 57, 97, 98, 99, 100, 101, 102, 103, 104, 105, 106, 107, 108, 109, 110, 111, 112, 113, 114, 115, 116, 117, 118, 119, 120, 121, 122, 65, 66, 67, 68, 69, 70, 71, 72, 73, 74, 75, 76, 77, 78, 79, 80, 81, 82, 83, 84, 85, 86, 87, 88, 89, 90]
def sgc : Array Value := #[.int .u8 33, .int .u8 35, .int .u8 36, .int .u8 37, .int .u8 38, .int .u8 39, .int .u8 42, .int .u8 43, .int .u8 45, .int .u8 46, .int .u8 94, .int .u8 95, .int .u8 96, .int .u8 124, .int .u8 126, .int .u8 48, .int .u8 49, .int .u8 50, .int .u8 51, .int .u8 52, .int .u8 53, .int .u8 54, .int .u8 55, .int .u8 56, .int .u8 57, .int .u8 97, .int .u8 98, .int .u8 99, .int .u8 100, .int .u8 101, .int .u8 102, .int .u8 103, .int .u8 104, .int .u8 105, .int .u8 106, .int .u8 107, .int .u8 108, .int .u8 109, .int .u8 110, .int .u8 111, .int .u8 112, .int .u8 113, .int .u8 114, .int .u8 115, .int .u8 116, .int .u8 117, .int .u8 118, .int .u8 119, .int .u8 120, .int .u8 121, .int .u8 122, .int .u8 65, .int .u8 66, .int .u8 67, .int .u8 68, .int .u8 69, .int .u8 70, .int .u8 71, .int .u8 72, .int .u8 73, .int .u8 74, .int .u8 75, .int .u8 76, .int .u8 77, .int .u8 78, .int .u8 79, .int .u8 80, .int .u8 81, .int .u8 82, .int .u8 83, .int .u8 84, .int .u8 85, .int .u8 86, .int .u8 87, .int .u8 88, .int .u8 89, .int .u8 90]
theorem sgc_eq : sgc = (sgl.map fun c => Value.int .u8 (c.toNat : Int)).toArray := rfl
structure Sg (w W : World) (i : Nat) : Prop where
  set : W.heap[w.heap.size]? = some (.cells (Lib.setCells (sgl.take i)) 86 (0, 0))
  row : ∀ j, (hj : j < sgl.length) → W.cell? ⟨w.heap.size + 1, j, none⟩ = some (.int .u8 (sgl[j].toNat : Int))
  bel : Below w.heap.size w W
theorem Sg.step {w W : World} {i : Nat} (h : Sg w W i) (hi : i < sgl.length) : Sg w (W.setCell ⟨w.heap.size, sgl[i].toNat, none⟩ (.bool true)) (i + 1) := by
  refine ⟨?_, fun j hj => ?_, h.bel.setCell (Nat.le_refl _) _⟩
  · rw [List.take_add_one, List.getElem?_eq_getElem hi]
    simp only [Option.toList]
    rw [Lib.setCells_snoc]
    exact blk_put h.set _ _ rfl
  · rw [World.cell?_setCell_other _ _ _ _ (by intro e; have := congrArg Addr.block e; simp at this)]
    exact h.row j hj
theorem Sg.start (w : World) : Sg w ((w.alloc (.cells Tryd.zeroCells86 86)).alloc (.cells sgc 5 (77, 78))) 0 := by
  refine ⟨?_, fun j hj => ?_, below_alloc (below_alloc (Below.refl _ _) _) _⟩
  · exact (blk_alloc (Go.Deep.blk_alloc_new w _) _).trans (congrArg (fun c => some (Obj.cells c 86 (0, 0))) (by kernel_rfl))
  · rw [Go.Joins.cell_alloc_mark_at _ _ _ _ _ _ (by simp), sgc_eq]
    simp [List.getElem?_eq_getElem hj]
set_option maxHeartbeats 4000000 in
set_option maxRecDepth 100000 in
theorem signs_any (w : World) : Calls Tryd.prog 58 #[] w fun e w' => e = .returned (.agg (Lib.setCells sgl)) ∧ Below w.heap.size w w' := by
  have hcv := Go.Joins.run_convert_bytes_const_at (P := Tryd.prog) (w.alloc (.cells Tryd.zeroCells86 86)) 45 5 #[.int .u8 33, .int .u8 35, .int .u8 36, .int .u8 37, .int .u8 38, .int .u8 39, .int .u8 42, .int .u8 43, .int .u8 45, .int .u8 46, .int .u8 94, .int .u8 95, .int .u8 96, .int .u8 124, .int .u8 126, .int .u8 48, .int .u8 49, .int .u8 50, .int .u8 51, .int .u8 52, .int .u8 53, .int .u8 54, .int .u8 55, .int .u8 56, .int .u8 57, .int .u8 97, .int .u8 98, .int .u8 99, .int .u8 100, .int .u8 101, .int .u8 102, .int .u8 103, .int .u8 104, .int .u8 105, .int .u8 106, .int .u8 107, .int .u8 108, .int .u8 109, .int .u8 110, .int .u8 111, .int .u8 112, .int .u8 113, .int .u8 114, .int .u8 115, .int .u8 116, .int .u8 117, .int .u8 118, .int .u8 119, .int .u8 120, .int .u8 121, .int .u8 122, .int .u8 65, .int .u8 66, .int .u8 67, .int .u8 68, .int .u8 69, .int .u8 70, .int .u8 71, .int .u8 72, .int .u8 73, .int .u8 74, .int .u8 75, .int .u8 76, .int .u8 77, .int .u8 78, .int .u8 79, .int .u8 80, .int .u8 81, .int .u8 82, .int .u8 83, .int .u8 84, .int .u8 85, .int .u8 86, .int .u8 87, .int .u8 88, .int .u8 89, .int .u8 90] 77 77 (w.heap.size + 1) (by simp) Tryd.underlying45 Tryd.underlying5
  go_enter Tryd.func58, Tryd.ntmps58
  go_wp2_with (simp only [hcv])
  have HS : Aside0 (Sg w _ 0) := ⟨Sg.start w⟩
  unfold sgc at HS
  clear hcv
  go_loopg [6] 77 (fun kq v6 wx => ∃ i : Nat, i + kq = 77 ∧ v6 = .int .i64 i ∧ Aside0 (Sg w wx i))
  case atStart => exact ⟨0, by omega, rfl, HS⟩
  case round =>
    clear HS
    obtain ⟨i, hig, rfl, H⟩ := hrel
    cases gk with
    | zero =>
      obtain rfl : i = 77 := by omega
      have hb : wr.heap[w.heap.size]? = some (.cells (Lib.setCells sgl) 86 (0, 0)) := H.out.set
      have hsz := Lib.setCells_size sgl
      have hone := Lib.setCells_one sgl
      have HB := Aside0.mk H.out.bel
      clear H
      obtain ⟨cs, hcs⟩ : ∃ cs, Lib.setCells sgl = cs := ⟨_, rfl⟩
      rw [hcs] at hb hsz hone
      have HCS := Aside0.mk hcs
      clear hcs
      have hi256 : (Tryd.prog.info? 86).map (·.size) = some cs.size := by rw [hsz]; kernel_rfl
      have hu256 : Tryd.prog.underlying 86 = some (.array (Tryd.prog.arrayLen 86) (Tryd.prog.elem 86)) := by kernel_rfl
      have HU := Aside0.mk (And.intro hi256 hu256)
      clear hi256 hu256
      go_wp2_with fail
      refine wp_load_row 86 (.tmp 0) rfl w.heap.size rfl 86 cs (0, 0) _ hb HU.out.2 rfl HU.out.1 ?_
      go_wp2_with fail
      have hsc : (storeCells ⟨w.heap.size, 0, none⟩ cs.toList).run Tryd.prog wr = .ok () wr := by
        have := run_storeCells_from (P := Tryd.prog) w.heap.size 86 cs.toList 0 cs wr hb (by simp) (fun v hv => (Array.all_eq_true_iff_forall_mem.1 hone) v (by simpa using hv))
        simpa [setRow_self _ _ _ _ _ hb] using this
      simp only [hsc, Result.andThen]
      rw [Oper.upon_skip]
      go_wp2_with fail
      refine bodyPost_ret (v := .agg cs) ?_ rfl ⟨by rw [HCS.out], HB.out⟩
      exact results_cell_row rfl _ _ w.heap.size 86 cs (0, 0) _ rfl hb HU.out.2 rfl HU.out.1
    | succ g =>
      have hi : i < sgl.length := by have : sgl.length = 77 := rfl; omega
      have hiz : (i : Int) < 77 := by omega
      have hx := H.out.row i hi
      have HN := Aside0.mk (H.out.step hi)
      have hx256 : (sgl[i].toNat : Int) < 256 := by have := UInt8.toNat_lt sgl[i]; omega
      obtain ⟨v0, hv0⟩ : ∃ v0, wr.cell? ⟨w.heap.size, sgl[i].toNat, none⟩ = some v0 := ⟨_, (blk_cell H.out.set _).trans (Lib.setCells_at _ _)⟩
      have hf := blk_frozen H.out.set sgl[i].toNat
      clear H
      generalize sgl[i] = x at hx HN hx256 hv0 hf
      go_wp2_with fail
      go_roundg g
      case measure => omega
      case rel => exact ⟨i + 1, by omega, by first | rfl | simp, HN⟩
end Go.Proofs.YtllcfifeaacmiaaDoor.Pr
namespace Go.Proofs.YtllcfifeaacmiaaDoor.Pr
open Go.RowKit Go.Proofs.YtllcfifeaacmiaaDoorW.PrintWords Go.Proofs.YtllcfifeaacmiaaDoorW.PrintLast Go.Proofs.YtllcfifeaacmiaaDoorW.PrintMore
set_option linter.unusedVariables false
set_option linter.unusedSimpArgs false

/-! ### head.Token -/
def tokL (t : List UInt8) : Bool := t.all (sgl.contains ·) && !t.isEmpty
set_option maxHeartbeats 4000000 in
set_option maxRecDepth 100000 in
theorem token_any (s : ByteArray) (hs : s.size ≤ 1000000000) (w : World) : Calls Tryd.prog 53 #[.string s] w fun e w' => e = .returned (.bool (tokL s.data.toList)) ∧ Below w.heap.size w w' := by
  have hsz := Lib.setCells_size sgl
  have hone := Lib.setCells_one sgl
  have hat := fun x => Lib.setCells_at sgl x
  have HS := Aside0.mk (fun W => signs_any W)
  obtain ⟨cs, hcs⟩ : ∃ cs, Lib.setCells sgl = cs := ⟨_, rfl⟩
  rw [hcs] at hsz hone
  simp only [hcs] at hat HS
  clear hcs
  have HAT := Aside0.mk hat
  clear hat
  go_enter Tryd.func53, Tryd.ntmps53
  go_wp2_with (go_at_call 58; (with_reducible refine (HS.out _).mono ?_); rintro e w1 ⟨rfl, hb⟩)
  have hsc : (storeCells ⟨w1.heap.size, 0, none⟩ cs.toList).run Tryd.prog (w1.alloc (.cells Tryd.zeroCells86 86)) = .ok () (w1.alloc (.cells cs 86)) :=
    run_storeCells_new (P := Tryd.prog) w1 86 Tryd.zeroCells86 cs (by rw [hsz]; kernel_rfl) (by rw [hsz]; kernel_rfl) hone
  simp only [hsc, Result.andThen]
  rw [Oper.upon_skip]
  have HC : Aside0 (∀ x : UInt8, (w1.alloc (.cells cs 86)).cell? ⟨w1.heap.size, x.toNat, none⟩ = some (.bool (sgl.contains x))) := ⟨fun x => by rw [World.cell?_alloc_new]; exact HAT.out x⟩
  have HB : Aside0 (Below w.heap.size w (w1.alloc (.cells cs 86))) := ⟨below_alloc hb _⟩
  generalize w1.alloc (.cells cs 86) = W1 at HC HB ⊢
  generalize w1.heap.size = b at HC ⊢
  clear hsc hone hsz HAT HS hb
  go_wp2_with fail
  go_loopw [8] (fun v8 wi => wi = W1 ∧ ∃ i : Nat, v8 = .int .i64 (i : Int) ∧ i ≤ s.size ∧ Aside0 ((s.data.toList.take i).all (sgl.contains ·) = true)) (fun v8 _ => s.size - (intOf v8).toNat)
  case atStart => exact ⟨rfl, 0, rfl, Nat.zero_le _, ⟨rfl⟩⟩
  case round =>
    obtain ⟨rfl, i, rfl, hi, HI⟩ := hrel
    by_cases hlt : i < s.size
    · obtain ⟨x, hx⟩ : ∃ x : UInt8, s[i]'hlt = x := ⟨_, rfl⟩
      have hxl : s.data.toList[i]? = some x := by rw [← hx]; exact Lib.data_getElem? s i hlt
      have hc := HC.out x
      have hx256 : (x.toNat : Int) < 256 := by have := UInt8.toNat_lt x; omega
      have hwr : IntKind.i64.wrap ((i : Int) + 1) = (i : Int) + 1 := by rw [i64_w, IntWalk.wrap64_in _ (by omega)]
      cases hk : sgl.contains x with
      | false =>
        have HE : Aside0 (tokL s.data.toList = false) := ⟨by
          have : s.data.toList.all (sgl.contains ·) = false := by
            rw [List.all_eq_false]
            exact ⟨x, List.mem_of_getElem? hxl, by rw [Bool.not_eq_true]; exact hk⟩
          unfold tokL
          rw [this]
          rfl⟩
        rw [hk] at hc
        clear hk HI hxl HC
        go_wp2_with fail
        go_ret
        exact ⟨by rw [HE.out]; rfl, HB.out⟩
      | true =>
        have HE : Aside0 ((s.data.toList.take (i + 1)).all (sgl.contains ·) = true) := ⟨by
          rw [List.take_add_one, hxl, List.all_append, HI.out]
          simp only [Option.toList, List.all_cons, List.all_nil, hk]
          rfl⟩
        rw [hk] at hc
        clear hk HI hxl HC
        go_wp2_with fail
        exact ⟨⟨by trivial, i + 1, by go_num, by omega, HE⟩, by simp [intOf]; omega⟩
    · have HE : Aside0 (s.data.toList.all (sgl.contains ·) = true) := ⟨by
        have h := HI.out
        rwa [List.take_of_length_le (by rw [← Lib.size_eq]; omega)] at h⟩
      clear HI HC
      go_wp2_with fail
      go_ret
      refine ⟨?_, HB.out⟩
      unfold tokL
      rw [HE.out, ← Lib.toList_data]
      rfl
end Go.Proofs.YtllcfifeaacmiaaDoor.Pr
namespace Go.Proofs.YtllcfifeaacmiaaDoor.Pr
open Go.RowKit Go.Proofs.YtllcfifeaacmiaaDoorW.PrintWords Go.Proofs.YtllcfifeaacmiaaDoorW.PrintLast Go.Proofs.YtllcfifeaacmiaaDoorW.PrintMore
set_option linter.unusedVariables false
set_option linter.unusedSimpArgs false

/-! ### strings.Cut at ':' -/
theorem idx58 (t : List UInt8) : Lib.index t [58] = Lib.indexByte t 58 := by
  induction t with
  | nil => rfl
  | cons b l ih =>
    unfold Lib.index Lib.indexByte
    rw [ih]
    by_cases h : b = 58
    · subst h; simp
    · simp [h, Ne.symm h]
theorem sep58 : (⟨#[58]⟩ : ByteArray).data.toList = [58] := rfl
def cutV (s : ByteArray) : Ending := .returned (.tuple #[.string ⟨(Lib.cut s.data.toList [58]).1.toArray⟩, .string ⟨(Lib.cut s.data.toList [58]).2.1.toArray⟩, .bool (Lib.cut s.data.toList [58]).2.2])
set_option maxHeartbeats 1000000 in
theorem cut_in (s : ByteArray) (hs : s.size ≤ 1000000000) (w : World) : Calls Tryd.prog 57 #[.string s, .string ⟨#[58]⟩] w fun e w' => e = cutV s ∧ Below w.heap.size w w' := by
  have HI := Aside0.mk (fun W => Tryd.stringslite_Index_one s 58 W)
  have hsz : (⟨#[58]⟩ : ByteArray).size = 1 := rfl
  unfold cutV
  rcases Lib.indexB_cases s ⟨#[58]⟩ with hix | ⟨i, hix, hroom⟩
  · obtain ⟨e1, e2, e3⟩ := Lib.cutB_miss s ⟨#[58]⟩ hix
    rw [sep58] at e1 e2 e3
    rw [e1, e2, e3]
    have hix' : Lib.indexByte s.data.toList 58 = -1 := by rw [← idx58]; exact hix
    rw [hix'] at HI
    clear hix hix' e1 e2 e3
    go_enter Tryd.func57, Tryd.ntmps57
    go_wp2_with (go_at_call 72; (with_reducible refine (HI.out _).mono ?_); rintro e w' ⟨rfl, hw⟩; subst hw)
    go_ret3
    exact ⟨rfl, Below.refl _ _⟩
  · obtain ⟨e1, e2, e3⟩ := Lib.cutB_hit s ⟨#[58]⟩ i hix
    rw [sep58] at e1 e2 e3
    rw [e1, e2, e3]
    have hix' : Lib.indexByte s.data.toList 58 = i := by rw [← idx58]; exact hix
    rw [hix'] at HI
    rw [hsz] at hroom
    have c1 : (0 : Int) ≤ ↑i := by omega
    have c2 : (↑i : Int) ≤ ↑s.size := by omega
    have c3 : (0 : Int) ≤ ↑i + 1 := by omega
    have c4 : (↑i + 1 : Int) ≤ ↑s.size := by omega
    clear hix hix' e1 e2 e3
    have mixed : Tryd.prog.follows Departure.mixedOrders = true := by kernel_rfl
    go_enter Tryd.func57, Tryd.ntmps57
    go_wp2_with (go_at_call 72; (with_reducible refine (HI.out _).mono ?_); rintro e w' ⟨rfl, hw⟩; subst hw)
    go_region_o
    go_wp2_with fail
    go_ret3
    exact ⟨rfl, by first | exact (Below.refl _ _).drew | exact below_drew (Below.refl _ _)⟩
theorem cut_any (s : ByteArray) (hs : s.size ≤ 1000000000) (w : World) : Calls Tryd.prog 52 #[.string s, .string ⟨#[58]⟩] w fun e w' => e = cutV s ∧ Below w.heap.size w w' := by
  have HI := Aside0.mk (fun W => cut_in s hs W)
  unfold cutV at HI ⊢
  generalize (⟨(Lib.cut s.data.toList [58]).1.toArray⟩ : ByteArray) = a at HI ⊢
  generalize (⟨(Lib.cut s.data.toList [58]).2.1.toArray⟩ : ByteArray) = b at HI ⊢
  generalize (Lib.cut s.data.toList [58]).2.2 = o at HI ⊢
  go_enter Tryd.func52, Tryd.ntmps52
  go_wp2_with (go_at_call 57; (with_reducible refine (HI.out _).mono ?_); rintro e w' ⟨rfl, hb⟩)
  go_ret3
  exact ⟨rfl, hb⟩
end Go.Proofs.YtllcfifeaacmiaaDoor.Pr
namespace Go.Proofs.YtllcfifeaacmiaaDoor.Pr
open Go.RowKit Go.Proofs.YtllcfifeaacmiaaDoorW.PrintWords Go.Proofs.YtllcfifeaacmiaaDoorW.PrintLast Go.Proofs.YtllcfifeaacmiaaDoorW.PrintMore
set_option linter.unusedVariables false
set_option linter.unusedSimpArgs false

/-! ### head.Field -/
theorem trim_any (s : ByteArray) (hs : s.size ≤ 1000000000) (w : World) : Calls Tryd.prog 55 #[.string s, .string ⟨#[32, 9]⟩] w fun e w' => (∃ r : ByteArray, e = .returned (.string r)) ∧ Below w.heap.size w w' :=
  (Any.strings_Trim_ascii Tryd.lays160 (fun w => by kernel_rfl) (by kernel_rfl) s ⟨#[32, 9]⟩ w (by omega) (by decide) (fun j b hb => by
    have hm : b ∈ [(32 : UInt8), 9] := List.mem_of_getElem? hb
    simp at hm
    rcases hm with rfl | rfl <;> decide)).mono fun e w' h => ⟨⟨_, h.1⟩, h.2⟩
theorem lower_any (s : ByteArray) (hs : s.size ≤ 1000000000) (ht : tokL s.data.toList = true) (w : World) : Calls Tryd.prog 54 #[.string s] w fun e w' => (∃ r : ByteArray, e = .returned (.string r)) ∧ Below w.heap.size w w' :=
  (Tryd.strings_ToLower_ascii s w (by omega) (fun j b hb => by
    have h1 : s.data.toList.all (sgl.contains ·) = true := by
      unfold tokL at ht
      exact (Bool.and_eq_true_iff.1 ht).1
    have h2 : sgl.contains b = true := List.all_eq_true.1 h1 b (List.mem_of_getElem? hb)
    have h3 : sgl.all (fun b => decide (b.toNat < 128)) = true := by decide
    exact of_decide_eq_true (List.all_eq_true.1 h3 b (List.contains_iff_mem.1 h2)))).mono fun e w' h => ⟨⟨_, h.1⟩, h.2⟩
end Go.Proofs.YtllcfifeaacmiaaDoor.Pr
namespace Go.Proofs.YtllcfifeaacmiaaDoor.Pr
open Go.RowKit Go.Proofs.YtllcfifeaacmiaaDoorW.PrintWords Go.Proofs.YtllcfifeaacmiaaDoorW.PrintLast Go.Proofs.YtllcfifeaacmiaaDoorW.PrintMore
set_option linter.unusedVariables false
set_option linter.unusedSimpArgs false

/-! ### head.Field -/
def badB (b : UInt8) : Bool := decide ((((b.toNat : Int) < 32) ∧ (b.toNat : Int) ≠ 9) ∨ (b.toNat : Int) = 127)
def fieldOk (t : List UInt8) : Bool := (Lib.cut t [58]).2.2 && tokL (Lib.cut t [58]).1 && (Lib.cut t [58]).2.1.all (fun b => !badB b)
def FieldP (w : World) (ok : Bool) (e : Ending) (w' : World) : Prop := (∃ a b : ByteArray, e = .returned (.tuple #[.agg #[.string a, .string b], .bool ok])) ∧ Below w.heap.size w w'
theorem cut_le (s : ByteArray) : (⟨(Lib.cut s.data.toList [58]).1.toArray⟩ : ByteArray).size ≤ s.size ∧ (⟨(Lib.cut s.data.toList [58]).2.1.toArray⟩ : ByteArray).size ≤ s.size := by
  unfold Lib.cut
  split
  · exact ⟨by show (List.take _ _).length ≤ s.data.size; rw [List.length_take]; simp; omega, by show (List.drop _ _).length ≤ s.data.size; rw [List.length_drop]; simp⟩
  · exact ⟨by show s.data.toList.length ≤ s.data.size; simp, Nat.zero_le _⟩
theorem field_end (tmps : Array Value) (W : World) (g : Nat) (a b : ByteArray) (ok : Bool) (hg : W.heap[g]? = some (.cells #[.string a, .string b] 59 (0, 0))) (h2 : tmps.getD 2 undef = .pointer (some ⟨g, 0, none⟩)) (h3 : tmps.getD 3 undef = .bool ok) :
    (results Tryd.f48 tmps).run Tryd.prog W = .ok (.tuple #[.agg #[.string a, .string b], .bool ok]) W := by
  have hu : Tryd.prog.underlying 59 = some (.struct (match Tryd.prog.underlying 59 with | some (.struct x) => x | _ => default)) := by kernel_rfl
  have hi : (Tryd.prog.info? 59).map (·.size) = some 2 := by kernel_rfl
  have hr : Tryd.f48.results = #[.cell 2 59, .tmp 3] := rfl
  have h2' : tmps[2]?.getD undef = .pointer (some ⟨g, 0, none⟩) := by simpa using h2
  have h3' : tmps[3]?.getD undef = .bool ok := by simpa using h3
  simp [results, hr, h2', h3', asAddr, run_loadVar_row W g _ 59 _ (0, 0) _ hg hu rfl hi]
set_option maxHeartbeats 2000000 in
theorem field_any (s : ByteArray) (hs : s.size ≤ 1000000000) (w : World) : Calls Tryd.prog 48 #[.string s] w (FieldP w (fieldOk s.data.toList)) := by
  have HC := Aside0.mk (fun W => cut_any s hs W)
  have hle := cut_le s
  unfold cutV at HC
  unfold fieldOk FieldP
  obtain ⟨a, ha⟩ : ∃ a, (⟨(Lib.cut s.data.toList [58]).1.toArray⟩ : ByteArray) = a := ⟨_, rfl⟩
  obtain ⟨b, hb⟩ : ∃ b, (⟨(Lib.cut s.data.toList [58]).2.1.toArray⟩ : ByteArray) = b := ⟨_, rfl⟩
  have ha' : (Lib.cut s.data.toList [58]).1 = a.data.toList := by rw [← ha]
  have hb' : (Lib.cut s.data.toList [58]).2.1 = b.data.toList := by rw [← hb]
  rw [ha, hb] at HC hle
  rw [ha', hb']
  generalize (Lib.cut s.data.toList [58]).2.2 = o at HC ⊢
  clear ha hb ha' hb'
  have hla : a.size ≤ 1000000000 := by omega
  have hlb : b.size ≤ 1000000000 := by omega
  have HT := Aside0.mk (fun W => token_any a hla W)
  have HX : Aside0 (tokL a.data.toList = tokL a.data.toList) := ⟨rfl⟩
  cases o with
  | false =>
    go_enter Tryd.func48, Tryd.ntmps48
    go_wp2_with (go_at_call 52; (with_reducible refine (HC.out _).mono ?_); rintro e w1 ⟨rfl, hb⟩; have hk1 := blk_below (Go.Deep.blk_alloc_new w _) hb; have hb1 : Below w.heap.size w w1 := below_then (below_alloc (Below.refl _ _) _) (by simp) hb; have hc0 := blk_cell hk1 0; have hc1 := blk_cell hk1 1; have hf0 := blk_frozen hk1 0; have hf1 := blk_frozen hk1 1)
    refine bodyPost_ret (v := .tuple #[.agg #[.string ⟨#[]⟩, .string ⟨#[]⟩], .bool false]) (field_end _ _ w.heap.size _ _ _ (blk_put (blk_put hk1 0 _ rfl) 1 _ rfl) rfl rfl) rfl ⟨⟨_, _, rfl⟩, (hb1.setCell (Nat.le_refl _) _).setCell (Nat.le_refl _) _⟩
  | true =>
    obtain ⟨tk, htk⟩ : ∃ tk, tokL a.data.toList = tk := ⟨_, rfl⟩
    rw [htk] at HT ⊢
    cases tk with
    | false =>
      clear htk
      go_enter Tryd.func48, Tryd.ntmps48
      go_wp2_with (first | (go_at_call 52; (with_reducible refine (HC.out _).mono ?_); rintro e w1 ⟨rfl, hb⟩; have hk1 := blk_below (Go.Deep.blk_alloc_new w _) hb; have hb1 : Below w.heap.size w w1 := below_then (below_alloc (Below.refl _ _) _) (by simp) hb; have hc0 := blk_cell hk1 0; have hc1 := blk_cell hk1 1; have hf0 := blk_frozen hk1 0; have hf1 := blk_frozen hk1 1) | (go_at_call 53; (with_reducible refine (HT.out _).mono ?_); rintro e w2 ⟨rfl, hbb⟩; have hk2 := blk_below hk1 hbb; have hb2 := below_step hb1 hbb; clear hc0 hc1 hf0 hf1; have hc0 := blk_cell hk2 0; have hc1 := blk_cell hk2 1; have hf0 := blk_frozen hk2 0; have hf1 := blk_frozen hk2 1))
      refine bodyPost_ret (v := .tuple #[.agg #[.string ⟨#[]⟩, .string ⟨#[]⟩], .bool false]) (field_end _ _ w.heap.size _ _ _ (blk_put (blk_put hk2 0 _ rfl) 1 _ rfl) rfl rfl) rfl ⟨⟨_, _, rfl⟩, (hb2.setCell (Nat.le_refl _) _).setCell (Nat.le_refl _) _⟩
    | true =>
      have HL := Aside0.mk (fun W => lower_any a hla htk W)
      clear htk
      rw [Bool.true_and, Bool.true_and]
      go_enter Tryd.func48, Tryd.ntmps48
      go_wp2_with (first | (go_at_call 52; (with_reducible refine (HC.out _).mono ?_); rintro e w1 ⟨rfl, hb⟩; have hk1 := blk_below (Go.Deep.blk_alloc_new w _) hb; have hb1 : Below w.heap.size w w1 := below_then (below_alloc (Below.refl _ _) _) (by simp) hb; have hc0 := blk_cell hk1 0; have hc1 := blk_cell hk1 1; have hf0 := blk_frozen hk1 0; have hf1 := blk_frozen hk1 1) | (go_at_call 53; (with_reducible refine (HT.out _).mono ?_); rintro e w2 ⟨rfl, hbb⟩; have hk2 := blk_below hk1 hbb; have hb2 := below_step hb1 hbb; clear hc0 hc1 hf0 hf1; have hc0 := blk_cell hk2 0; have hc1 := blk_cell hk2 1; have hf0 := blk_frozen hk2 0; have hf1 := blk_frozen hk2 1))
      clear HT HC HX hc0 hc1 hf0 hf1 hk1 hb1 hb hbb
      have HK := Aside0.mk hk2
      have HB := Aside0.mk hb2
      clear hk2 hb2
      go_loopw [25] (fun v25 wi => wi = w2 ∧ ∃ i : Nat, v25 = .int .i64 (i : Int) ∧ i ≤ b.size ∧ Aside0 ((b.data.toList.take i).all (fun b => !badB b) = true)) (fun v25 _ => b.size - (intOf v25).toNat)
      case atStart => exact ⟨rfl, 0, rfl, Nat.zero_le _, ⟨rfl⟩⟩
      case round =>
        obtain ⟨rfl, i, rfl, hi, HI⟩ := hrel
        by_cases hlt : i < b.size
        · obtain ⟨x, hx⟩ : ∃ x : UInt8, b[i]'hlt = x := ⟨_, rfl⟩
          have hxl : b.data.toList[i]? = some x := by rw [← hx]; exact Lib.data_getElem? b i hlt
          have hwr : IntKind.i64.wrap ((i : Int) + 1) = (i : Int) + 1 := by rw [i64_w, IntWalk.wrap64_in _ (by omega)]
          cases hk : badB x with
          | true =>
            have HE : Aside0 (b.data.toList.all (fun b => !badB b) = false) := ⟨by
              rw [List.all_eq_false]
              exact ⟨x, List.mem_of_getElem? hxl, by rw [hk]; decide⟩⟩
            have hc0 := blk_cell HK.out 0
            have hc1 := blk_cell HK.out 1
            have hf0 := blk_frozen HK.out 0
            have hf1 := blk_frozen HK.out 1
            have hq := of_decide_eq_true hk
            clear HI hxl hk
            by_cases h127 : (x.toNat : Int) = 127
            · have e1 : ((x.toNat : Int) == 127) = true := beq_iff_eq.2 h127
              have e2 : decide ((x.toNat : Int) < 32) = false := decide_eq_false (by omega)
              clear hq h127
              go_wp2_with fail
              refine bodyPost_ret (v := .tuple #[.agg #[.string ⟨#[]⟩, .string ⟨#[]⟩], .bool false]) (field_end _ _ w.heap.size _ _ _ (blk_put (blk_put HK.out 0 _ rfl) 1 _ rfl) rfl rfl) rfl ⟨⟨_, _, by rw [HE.out]⟩, (HB.out.setCell (Nat.le_refl _) _).setCell (Nat.le_refl _) _⟩
            · have h32 : (x.toNat : Int) < 32 ∧ (x.toNat : Int) ≠ 9 := hq.resolve_right h127
              have e2 : decide ((x.toNat : Int) < 32) = true := decide_eq_true h32.1
              have e3 : ((x.toNat : Int) == 9) = false := beq_eq_false_iff_ne.2 h32.2
              have e4 : ((x.toNat : Int) != 9) = true := bne_iff_ne.2 h32.2
              clear hq h127 h32
              go_wp2_with fail
              refine bodyPost_ret (v := .tuple #[.agg #[.string ⟨#[]⟩, .string ⟨#[]⟩], .bool false]) (field_end _ _ w.heap.size _ _ _ (blk_put (blk_put HK.out 0 _ rfl) 1 _ rfl) rfl rfl) rfl ⟨⟨_, _, by rw [HE.out]⟩, (HB.out.setCell (Nat.le_refl _) _).setCell (Nat.le_refl _) _⟩
          | false =>
            have HE : Aside0 ((b.data.toList.take (i + 1)).all (fun b => !badB b) = true) := ⟨by
              rw [List.take_add_one, hxl, List.all_append, HI.out]
              simp only [Option.toList, List.all_cons, List.all_nil, hk]
              rfl⟩
            have hq := of_decide_eq_false hk
            have e1 : ((x.toNat : Int) == 127) = false := beq_eq_false_iff_ne.2 (fun e => hq (.inr e))
            clear HI hxl hk
            by_cases h32 : (x.toNat : Int) < 32
            · have e2 : decide ((x.toNat : Int) < 32) = true := decide_eq_true h32
              have e3 : ((x.toNat : Int) == 9) = true := beq_iff_eq.2 (by omega)
              have e4 : ((x.toNat : Int) != 9) = false := by rw [bne, e3]; rfl
              clear hq h32
              go_wp2_with fail
              exact ⟨⟨by trivial, i + 1, by go_num, by omega, HE⟩, by simp [intOf]; omega⟩
            · have e2 : decide ((x.toNat : Int) < 32) = false := decide_eq_false h32
              clear hq h32
              go_wp2_with fail
              exact ⟨⟨by trivial, i + 1, by go_num, by omega, HE⟩, by simp [intOf]; omega⟩
        · have HE : Aside0 (b.data.toList.all (fun b => !badB b) = true) := ⟨by
            have h := HI.out
            rwa [List.take_of_length_le (by rw [← Lib.size_eq]; omega)] at h⟩
          clear HI
          have HTr := Aside0.mk (fun W => trim_any b hlb W)
          go_wp2_with (first | (go_at_call 54; (with_reducible refine (HL.out _).mono ?_); rintro e w3 ⟨⟨r3, rfl⟩, hb3⟩; have hk3 := Aside0.mk (blk_below HK.out hb3); have hb3' := Aside0.mk (below_step HB.out hb3)) | (go_at_call 55; (with_reducible refine (HTr.out _).mono ?_); rintro e w4 ⟨⟨r4, rfl⟩, hb4⟩; have hk4 := blk_below hk3.out hb4; have hb4' := below_step hb3'.out hb4; have hc0 := blk_cell hk4 0; have hc1 := blk_cell hk4 1; have hf0 := blk_frozen hk4 0; have hf1 := blk_frozen hk4 1))
          refine bodyPost_ret (v := .tuple #[.agg #[.string r3, .string r4], .bool true]) (field_end _ _ w.heap.size _ _ _ (blk_put (blk_put hk4 0 _ rfl) 1 _ rfl) rfl rfl) rfl ⟨⟨_, _, by rw [HE.out]⟩, (hb4'.setCell (Nat.le_refl _) _).setCell (Nat.le_refl _) _⟩
end Go.Proofs.YtllcfifeaacmiaaDoor.Pr
namespace Go.Proofs.YtllcfifeaacmiaaDoor.Pr
open Go.RowKit Go.Proofs.YtllcfifeaacmiaaDoorW.PrintWords Go.Proofs.YtllcfifeaacmiaaDoorW.PrintLast Go.Proofs.YtllcfifeaacmiaaDoorW.PrintMore
set_option linter.unusedVariables false
set_option linter.unusedSimpArgs false

/-! ### trailer -/
theorem strOf_ints (t : List UInt8) : strOfNums (ints t) = mkB t := by
  unfold strOfNums mkB ints
  rw [List.map_map]
  have e2 : t.map ((fun n : Int => UInt8.ofNat n.toNat) ∘ fun c : UInt8 => (c.toNat : Int)) = t := by
    conv => rhs; rw [← List.map_id t]
    refine List.map_congr_left fun c _ => ?_
    simp
  rw [e2]
theorem RdC.kept_t {F : Nat → Prop} {B g : Nat} {W w1 : World} {R : Rm} {vs vt vd v1 : Value} {cl : List Nat} (h : RdC F B g W R vs vt vd cl) (c : UInt8)
    (ho : Kd.R (Kd.int .u8) 5 w1 B (fun k => F k ∧ k ≠ g ∧ k ∉ cl ∧ some k ≠ vd.ownBlock) v1 (ints R.text ++ [(c.toNat : Int)])) (hg : W.grownBy w1 vt.ownBlock) (hb : Below B W w1) :
    w1.heap[g]? = some (.cells (cellsR R vs vt vd) 47 (0, 0)) ∧ RdC F B g (w1.setCell ⟨g, 6, none⟩ v1) { R with text := R.text ++ [c] } vs v1 vd cl := by
  have hgne : some g ≠ vt.ownBlock := fun e => (h.t.1 g e.symm).2.1 rfl
  have hblk := blk_grown h.blk hg hgne
  have hdn : ∀ k, vd.ownBlock = some k → some k ≠ vt.ownBlock := fun k hk e => (h.d.1 k hk).2.2.2 e
  have hd : Kd.R (Kd.int .u8) 5 w1 B (fun k => F k ∧ k ≠ g ∧ k ∉ cl ∧ some k ≠ v1.ownBlock) vd (ints R.data) :=
    Kd.R_mono (Kd.R_grown (Kd.R_tight rfl h.d) hg (fun k hk => hdn k hk.symm)) (fun k hk => ⟨(h.d.1 k hk.symm).1, (h.d.1 k hk.symm).2.1, (h.d.1 k hk.symm).2.2.1, fun e => (ho.1 k e.symm).2.2.2 hk⟩)
  refine ⟨hblk, blk_put hblk 6 v1 rfl, h.gf, h.bg, fun k hk => ⟨(h.clf k hk).1, (h.clf k hk).2.1, ?_⟩, ?_, Kd.R_far hd (fun k hk => hk.2.1) v1⟩
  · have := (h.clf k hk).2.2
    have := hb.size
    simp
    omega
  · show Kd.R (Kd.int .u8) 5 _ B _ v1 (ints (R.text ++ [c]))
    rw [ints_append]
    exact Kd.R_far (Kd.R_mono ho (fun k hk => ⟨hk.1, hk.2.1, hk.2.2.1⟩)) (fun k hk => hk.2.1) v1
theorem own_len (A : Option Addr) (n m c c' : Nat) : (Value.slice A n c).ownBlock = (Value.slice A m c').ownBlock := by cases A <;> rfl
theorem RdC.emptied_t {F : Nat → Prop} {B g : Nat} {W : World} {R : Rm} {vs vd : Value} {A : Option Addr} {n c : Nat} {vt : Value} {cl : List Nat} (h : RdC F B g W R vs vt vd cl) (hv : vt = .slice A n c) :
    RdC F B g (W.setCell ⟨g, 6, none⟩ (.slice A 0 c)) { R with text := [] } vs (.slice A 0 c) vd cl := by
  subst hv
  refine ⟨blk_put h.blk 6 _ rfl, h.gf, h.bg, fun k hk => ⟨(h.clf k hk).1, (h.clf k hk).2.1, by simpa using (h.clf k hk).2.2⟩, ?_, ?_⟩
  · have := Kd.R_take (m := 0) h.t (Nat.zero_le _)
    exact Kd.R_far this (fun k hk => hk.2.1) _
  · refine Kd.R_far (Kd.R_mono h.d (fun k hk => ⟨hk.1, hk.2.1, hk.2.2.1, ?_⟩)) (fun k hk => hk.2.1) _
    rw [own_len A 0 n c c]
    exact hk.2.2.2
theorem RdC.emptied_d {F : Nat → Prop} {B g : Nat} {W : World} {R : Rm} {vs vt : Value} {A : Option Addr} {n c : Nat} {vd : Value} {cl : List Nat} (h : RdC F B g W R vs vt vd cl) (hv : vd = .slice A n c) :
    RdC F B g (W.setCell ⟨g, 7, none⟩ (.slice A 0 c)) { R with data := [] } vs vt (.slice A 0 c) cl := by
  subst hv
  refine ⟨blk_put h.blk 7 _ rfl, h.gf, h.bg, fun k hk => ⟨(h.clf k hk).1, (h.clf k hk).2.1, by simpa using (h.clf k hk).2.2⟩, ?_, ?_⟩
  · exact Kd.R_far h.t (fun k hk => hk.2.1) _
  · have := Kd.R_take (m := 0) h.d (Nat.zero_le _)
    exact Kd.R_far this (fun k hk => hk.2.1) _
def txtR (R : Rm) (c : UInt8) : Rm := { R with text := R.text ++ [c] }
def endR (R : Rm) : Rm := { R with text := [], fields := wrap64 (R.fields + 1) }
def stepT (R : Rm) (c : UInt8) : Stt × Int × Rm :=
  if (c.toNat : Int) ≠ 10 then (if 4097 < (R.text ++ [c]).length then (.none, 195, txtR R c) else (.trailer, 0, txtR R c))
  else if (R.text ++ [c]).length < 2 then (.none, 200, txtR R c)
  else if idxL 13 (R.text ++ [c]) 0 ≠ ((R.text ++ [c]).length : Int) - 2 then (.none, 200, txtR R c)
  else if (R.text ++ [c]).length = 2 then (.none, 0, txtR R c)
  else if 4096 < ((R.text ++ [c]).length : Int) - 2 then (.none, 195, txtR R c)
  else if 64 ≤ R.fields then (.none, 195, txtR R c)
  else if fieldOk ((R.text ++ [c]).take ((R.text ++ [c]).length - 2)) = false then (.none, 200, txtR R c)
  else (.trailer, 0, endR R)
set_option maxHeartbeats 2000000 in
theorem trailer_any (F : Nat → Prop) (B g : Nat) (W : World) (R : Rm) (vs vt vd : Value) (cl : List Nat) (c : UInt8) (h : RdC F B g W R vs vt vd cl) (hl : R.text.length ≤ 1000000) :
    Calls Tryd.prog 35 #[.pointer (some ⟨g, 0, none⟩), .int .u8 (c.toNat : Int)] W (StepP F B g W vs (stepT R c).1 (stepT R c).2.1 (stepT R c).2.2) := by
  have hlt := h.lt
  have hF : RdC (Fnew F W) B g W R vs vt vd cl := h.grow (fun k hk => .inl hk)
  have hc6 : W.cell? ⟨g, 6, none⟩ = some vt := h.cell 6
  have H := Aside0.mk hF
  have H0 := Aside0.mk h
  have HL := Aside0.mk hl
  have hO : Aside0 (Kd.R (Kd.int .u8) 5 W B (fun k => Fnew F W k ∧ k ≠ g ∧ k ∉ cl ∧ some k ≠ vd.ownBlock) vt (ints R.text)) := ⟨Kd.R_mono (Kd.R_tight rfl hF.t) (fun k hk => ⟨(hF.t.1 k hk.symm).1, (hF.t.1 k hk.symm).2.1, (hF.t.1 k hk.symm).2.2, fun e => (hF.d.1 k e.symm).2.2.2 hk⟩)⟩
  obtain ⟨At, ct, rfl⟩ := Kd.R_slice h.t
  have hfresh : ∀ k, W.heap.size ≤ k → (Fnew F W k ∧ k ≠ g ∧ k ∉ cl ∧ some k ≠ vd.ownBlock) := fun k hk => ⟨.inr hk, by omega, fun e => by have := (h.clf k e).2.2; omega, fun e => by have := own_lt' h.d e.symm; omega⟩
  replace hfresh := Aside0.mk hfresh
  obtain ⟨st, hst⟩ : ∃ st, stepT R c = st := ⟨_, rfl⟩
  rw [hst]
  replace hst := Aside0.mk hst
  clear h hF hl
  go_enter Tryd.func35, Tryd.ntmps35
  go_upto_region 2 with ((with_reducible refine gate_builtin (b := .append) (xs := #[.tmp 13, .tmp 15]) rfl ?_); at_builtin; refine Kd.R_append (Kd.int .u8) (w0 := W) B rfl (.tmp 13) (.tmp 15) 45 5 (.int .u8 0) 1 rfl Tryd.underlying45 info_u8 rfl (by decide) (by omega) (.slice At (ints R.text).length ct) (ints R.text) (c.toNat : Int) [.int .u8 (c.toNat : Int)] (fun k => Fnew F W k ∧ k ≠ g ∧ k ∉ cl ∧ some k ≠ vd.ownBlock) (fun _ => False) rfl rfl rfl (fun _ hk => hk.elim) hfresh.out hO.out (Below.refl _ _) (by have := H.out.bg; omega) (by rw [ints_length]; have := HL.out; omega) ?_; intro v1 w1 ho hbb hg hat; obtain ⟨A1, c1, rfl⟩ := Kd.R_slice ho; obtain ⟨n1, hn1⟩ : ∃ n1, (ints R.text ++ [(c.toNat : Int)]).length = n1 := ⟨_, rfl⟩; rw [hn1] at ho ⊢; have hk12 := H.out.kept_t c ho hg hbb; obtain ⟨hk1, hk2⟩ := hk12; have HW := Aside0.mk (KW.grown (KW.refl F W) hg hbb (fun k hk => .inl (H0.out.t.1 k hk).1)); have hf6 := blk_frozen hk1 6; have hcc : w1.cell? ⟨g, 6, none⟩ = some (.slice At (ints R.text).length ct) := blk_cell hk1 6; clear hg hat ho hk1 hbb; replace hk2 := Aside0.mk hk2; replace hn1 := Aside0.mk hn1)
  replace HW := Aside0.mk (HW.out.set g 6 (.slice A1 n1 c1) H0.out.gf)
  have HT : Aside0 (n1 = (R.text ++ [c]).length) := ⟨by rw [← hn1.out, List.length_append, List.length_append, ints_length]; rfl⟩
  have HI : Aside0 (ints R.text ++ [(c.toNat : Int)] = ints (R.text ++ [c])) := ⟨by rw [ints_append]; rfl⟩
  have hnb : (n1 : Int) ≤ 1000001 := by have := HT.out; rw [List.length_append, List.length_singleton] at this; have := HL.out; omega
  clear hcc hf6 hc6 hn1 hO hfresh
  generalize w1.setCell ⟨g, 6, none⟩ (.slice A1 n1 c1) = W2 at hk2 HW ⊢
  have hc6 : W2.cell? ⟨g, 6, none⟩ = some (.slice A1 n1 c1) := hk2.out.cell 6
  have hf6 := hk2.out.fr 6
  have HX := hst.out
  unfold stepT at HX
  rw [← HT.out] at HX
  clear hst
  by_cases h1 : (c.toNat : Int) = 10
  · have e1 : ((c.toNat : Int) != 10) = false := by rw [h1]; rfl
    rw [if_neg (fun e => e h1)] at HX
    clear h1
    by_cases h2 : n1 < 2
    · have e2 : decide ((n1 : Int) < 2) = true := decide_eq_true (by omega)
      rw [if_pos h2] at HX
      clear h2
      replace HX := Aside0.mk HX
      go_wp2_with fail
      go_ret2
      unfold StepP
      rw [← HX.out]
      exact ⟨_, _, _, _, rfl, ⟨rfl, rfl⟩, hk2.out.nocl, HW.out⟩
    · have e2 : decide ((n1 : Int) < 2) = false := decide_eq_false (by omega)
      rw [if_neg h2] at HX
      have hw2 : IntKind.i64.wrap ((n1 : Int) - 2) = (n1 : Int) - 2 := by rw [i64_w, IntWalk.wrap64_in _ (by omega)]
      have hn2 : 0 ≤ (n1 : Int) - 2 := by omega
      have HC : Aside0 (Calls Tryd.prog 47 #[.slice A1 n1 c1, .int .u8 13] W2 fun e W' => e = .returned (.int .i64 (idxL 13 (R.text ++ [c]) 0)) ∧ W' = W2) := ⟨by
        obtain ⟨A', c', e', hle, hC⟩ := Kd.R_reads hk2.out.t
        have hlen : (ints (R.text ++ [c])).length = n1 := by rw [ints_length, ← HT.out]
        have e'' : Value.slice A1 n1 c1 = .slice A' (ints (R.text ++ [c])).length c' := e'
        rw [e'']
        exact index_any (R.text ++ [c]) 13 A' c' W2 hC (by rw [← HT.out]; omega)⟩
      clear h2
      obtain ⟨ix, hix⟩ : ∃ ix, idxL 13 (R.text ++ [c]) 0 = ix := ⟨_, rfl⟩
      rw [hix] at HC HX
      clear hix
      by_cases h3 : ix = (n1 : Int) - 2
      · subst h3
        rw [if_neg (fun e => e rfl)] at HX
        by_cases h4 : n1 = 2
        · have e4 : ((n1 : Int) == 2) = true := beq_iff_eq.2 (by omega)
          rw [if_pos h4] at HX
          clear h4
          replace HX := Aside0.mk HX
          go_wp2_with (go_at_call 47; (with_reducible refine HC.out.mono ?_); rintro e w3 ⟨rfl, rfl⟩)
          go_ret2
          unfold StepP
          rw [← HX.out]
          exact ⟨_, _, _, _, rfl, ⟨rfl, rfl⟩, hk2.out.nocl, HW.out⟩
        · have e4 : ((n1 : Int) == 2) = false := beq_eq_false_iff_ne.2 (by omega)
          rw [if_neg h4] at HX
          clear h4
          by_cases h5 : 4096 < (n1 : Int) - 2
          · have e5 : decide (4096 < (n1 : Int) - 2) = true := decide_eq_true h5
            rw [if_pos h5] at HX
            clear h5
            replace HX := Aside0.mk HX
            go_wp2_with (go_at_call 47; (with_reducible refine HC.out.mono ?_); rintro e w3 ⟨rfl, rfl⟩)
            go_ret2
            unfold StepP
            rw [← HX.out]
            exact ⟨_, _, _, _, rfl, ⟨rfl, rfl⟩, hk2.out.nocl, HW.out⟩
          · have e5 : decide (4096 < (n1 : Int) - 2) = false := decide_eq_false h5
            rw [if_neg h5] at HX
            have hc5 : W2.cell? ⟨g, 5, none⟩ = some (.int .i64 R.fields) := hk2.out.cell 5
            have hf5 := hk2.out.fr 5
            by_cases h6 : 64 ≤ R.fields
            · have e6 : decide (64 ≤ R.fields) = true := decide_eq_true h6
              rw [if_pos h6] at HX
              clear h6 h5
              replace HX := Aside0.mk HX
              go_wp2_with (go_at_call 47; (with_reducible refine HC.out.mono ?_); rintro e w3 ⟨rfl, rfl⟩)
              go_ret2
              unfold StepP
              rw [← HX.out]
              exact ⟨_, _, _, _, rfl, ⟨rfl, rfl⟩, hk2.out.nocl, HW.out⟩
            · have e6 : decide (64 ≤ R.fields) = false := decide_eq_false h6
              rw [if_neg h6] at HX
              clear h6 h5
              go_upto_region 13 with (go_at_call 47; (with_reducible refine HC.out.mono ?_); rintro e w3 ⟨rfl, rfl⟩)
              obtain ⟨m, hm⟩ : ∃ m, n1 = m + 2 := ⟨n1 - 2, by omega⟩
              have hm2 : (n1 : Int) - 2 = (m : Int) := by omega
              have hTl : (R.text ++ [c]).length = m + 2 := by rw [← HT.out, hm]
              have hmt : (R.text ++ [c]).length - 2 = m := by omega
              obtain ⟨hcap, hcv⟩ : m + 2 ≤ c1 ∧ ∀ w', Below w3.heap.size w3 w' → ∀ q, (convert 45 9 (.slice A1 m q)).run Tryd.prog w' = .ok (.string (mkB ((R.text ++ [c]).take m))) w' := by
                obtain ⟨A', c', e', hle, hC⟩ := Kd.R_reads hk2.out.t
                have hlen : (ints (R.text ++ [c])).length = m + 2 := by rw [ints_length, hTl]
                have e'' : Value.slice A1 n1 c1 = .slice A' (ints (R.text ++ [c])).length c' := e'
                injection e'' with q1 q2 q3
                subst q1 q3
                refine ⟨by rw [← hlen]; exact hle, fun w' hb q => ?_⟩
                have hC2 := Kd.C_take (m := m) (Kd.C_below hC hb) (by rw [hlen]; omega)
                have hl2 : ((ints (R.text ++ [c])).take m).length = m := by rw [List.length_take, hlen]; omega
                rw [hl2] at hC2
                have hs := Kd.C_string (P := Tryd.prog) (c := q) (src := 45) (dst := 9) (e := 5) Tryd.underlying45 Tryd.underlying5 Tryd.underlying9 hC2
                have e2 : (ints (R.text ++ [c])).take m = ints ((R.text ++ [c]).take m) := by unfold ints; rw [List.map_take]
                rw [e2, strOf_ints] at hs
                exact hs
              rw [show n1 - 2 = m by omega] at HX
              have HFd := Aside0.mk (fun W' => field_any (mkB ((R.text ++ [c]).take m)) (by rw [mkB_size, List.length_take]; omega) W')
              rw [data_mkB] at HFd
              obtain ⟨tk, htk⟩ : ∃ tk, mkB ((R.text ++ [c]).take m) = tk := ⟨_, rfl⟩
              simp only [htk] at hcv HFd
              obtain ⟨ok, hok⟩ : ∃ ok, fieldOk ((R.text ++ [c]).take m) = ok := ⟨_, rfl⟩
              simp only [hok] at HFd HX
              have hcv0 := hcv w3 (Below.refl _ _) c1
              have hcap' : (m : Int) ≤ (c1 : Int) := by omega
              have hw2' : IntKind.i64.wrap ((n1 : Int) - 2) = (m : Int) := hw2.trans hm2
              replace HX := Aside0.mk HX
              clear hcv hw2 hcap hTl hmt hm hn2 htk hok hm2
              go_upto_region 14 with (go_at_call 48; (with_reducible refine (HFd.out _).mono ?_); rintro e w5 ⟨⟨a5, b5, rfl⟩, hb5⟩)
              have HB6 : Below w3.heap.size w3 (w5.alloc (.cells #[.string a5, .string b5] 59)) := below_alloc hb5 _
              have hk6 := Aside0.mk (hk2.out.low HB6)
              have HW6 := Aside0.mk (HW.out.trans (KW.of_below HB6))
              clear hb5 HB6 hk2 HW hc6 hf6 hc5 hf5 HC HFd hcv0
              generalize w5.alloc (.cells #[.string a5, .string b5] 59) = W6 at hk6 HW6 ⊢
              cases ok with
              | false =>
                have HX := HX.out
                rw [if_pos rfl] at HX
                replace HX := Aside0.mk HX
                go_wp2_with fail
                go_ret2
                unfold StepP
                rw [← HX.out]
                exact ⟨_, _, _, _, rfl, ⟨rfl, rfl⟩, hk6.out.nocl, HW6.out⟩
              | true =>
                have HX := HX.out
                rw [if_neg (by decide)] at HX
                replace HX := Aside0.mk HX
                have hc5 : W6.cell? ⟨g, 5, none⟩ = some (.int .i64 R.fields) := hk6.out.cell 5
                have hf5 := hk6.out.fr 5
                obtain ⟨f1, hf1⟩ : ∃ f1, wrap64 (R.fields + 1) = f1 := ⟨_, rfl⟩
                have hw5 : IntKind.i64.wrap (R.fields + 1) = f1 := (i64_w _).trans hf1
                have HZ : Aside0 (endR R = { R with text := [], fields := f1 }) := ⟨by unfold endR; rw [hf1]⟩
                clear hf1
                go_upto_region 17 with fail
                have hk7 := Aside0.mk (RdC.put (R' := { R with text := R.text ++ [c], fields := f1 }) hk6.out 5 (.int .i64 f1) rfl rfl rfl)
                have HW7 := Aside0.mk (HW6.out.set g 5 (.int .i64 f1) H0.out.gf)
                clear hk6 HW6 hc5 hf5
                generalize W6.setCell ⟨g, 5, none⟩ (.int .i64 f1) = W7 at hk7 HW7 ⊢
                have hc6 : W7.cell? ⟨g, 6, none⟩ = some (.slice A1 n1 c1) := hk7.out.cell 6
                have hf6 := hk7.out.fr 6
                have hk8 := Aside0.mk (hk7.out.emptied_t rfl)
                have HW8 := Aside0.mk (HW7.out.set g 6 (.slice A1 0 c1) H0.out.gf)
                go_wp2_with fail
                go_ret2
                unfold StepP
                rw [← HX.out, HZ.out]
                exact ⟨_, _, _, _, rfl, ⟨rfl, rfl⟩, hk8.out.nocl, HW8.out⟩
      · have e3 : (ix != (n1 : Int) - 2) = true := bne_iff_ne.2 h3
        rw [if_pos h3] at HX
        clear h3
        replace HX := Aside0.mk HX
        go_wp2_with (go_at_call 47; (with_reducible refine HC.out.mono ?_); rintro e w3 ⟨rfl, rfl⟩)
        go_ret2
        unfold StepP
        rw [← HX.out]
        exact ⟨_, _, _, _, rfl, ⟨rfl, rfl⟩, hk2.out.nocl, HW.out⟩
  · have e1 : ((c.toNat : Int) != 10) = true := bne_iff_ne.2 h1
    rw [if_pos h1] at HX
    clear h1
    by_cases h2 : 4097 < n1
    · have e2 : decide (4097 < (n1 : Int)) = true := decide_eq_true (by omega)
      rw [if_pos h2] at HX
      clear h2
      replace HX := Aside0.mk HX
      go_wp2_with fail
      go_ret2
      unfold StepP
      rw [← HX.out]
      exact ⟨_, _, _, _, rfl, ⟨rfl, rfl⟩, hk2.out.nocl, HW.out⟩
    · have e2 : decide (4097 < (n1 : Int)) = false := decide_eq_false (by omega)
      rw [if_neg h2] at HX
      clear h2
      replace HX := Aside0.mk HX
      go_wp2_with fail
      go_ret2
      unfold StepP
      rw [← HX.out]
      exact ⟨_, _, _, _, rfl, ⟨rfl, rfl⟩, hk2.out.nocl, HW.out⟩
end Go.Proofs.YtllcfifeaacmiaaDoor.Pr
