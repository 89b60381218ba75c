import Derived.Test.YtllcfifeaacmiaaDoorFmt
import Derived.Lib.LaidU8
namespace Go.Proofs.YtllcfifeaacmiaaDoor.Pr
open Go.RowKit Go.Proofs.YtllcfifeaacmiaaDoorW.PrintWords Go.Proofs.YtllcfifeaacmiaaDoorW.PrintLast Go.Proofs.YtllcfifeaacmiaaDoorW.PrintMore
set_option linter.unusedVariables false
set_option linter.unusedSimpArgs false

/-! ### The table that math/bits reads, out of the row -/
abbrev WG (w : World) : Prop := W16 w
theorem WG.keep {w w1 : World} (h : WG w) (hb : Below w.heap.size w w1) : WG w1 := W16.keep h hb
theorem tabIs_of_reads {P : Program} {W : World} {name : String} {k : IntKind} {zs : List Int} {g : Nat} {t e : TypeId} {n : Nat}
    (hg : P.globalNamed name = some g) (hty : (P.globals[g]?).map (·.type) = some t) (ht : P.underlying t = some (.array n e)) (he : P.underlying e = some (.int k)) (hce : P.cellsOf e = 1) (hct : P.cellsOf t = n)
    (h : Lib.VarReads P W name (Lib.tabData k zs)) : Lib.TabIs P W name k zs := by
  obtain ⟨g', t', cs, fuel, p, hg', ht', hvar, hd⟩ := h
  obtain rfl := Option.some.inj (hg.symm.trans hg')
  obtain rfl := Option.some.inj (hty.symm.trans ht')
  unfold Lib.TabIs
  rw [hvar, ← Lib.cells_of_tab ht he hce hct hd]
def bruData : DataW Unit := Lib.tabData .u8 (Lib.deBruijn64tab.map fun n : Nat => (n : Int))
theorem WG.of {W : World} {l : List (String × DataW Unit)} (h : laidMet Tryd.prog l W) (hm : ("math/bits.deBruijn64tab", bruData) ∈ l) : WG W := by
  have ht := tabIs_of_reads (g := 2) (t := 85) (e := 5) (n := 64) (by kernel_rfl) (by kernel_rfl) (by kernel_rfl) (by kernel_rfl) (by kernel_rfl) (by kernel_rfl) (Lib.laidMet.reads h hm)
  have hg : Tryd.prog.globalNamed "math/bits.deBruijn64tab" = some 2 := by kernel_rfl
  have hc := ht.cell hg 15 (by decide)
  refine ⟨by rw [hc]; rfl, World.block_lt_of_cell? _ _ hc⟩
/-! ### strconv.FormatInt by 16 -/
theorem fmtInt16_in (n : Nat) (hn : n < 9223372036854775808) (w : World) (hG : W16 w) :
    Calls Tryd.prog 22 #[.int .i64 (n : Int), .int .i64 16] w fun e w' => e = .returned (.string (mkB (digs 16 n))) ∧ Below w.heap.size w w' := by
  have HF := Lib.hid (fmt16 n (by omega) w hG)
  have e1 : decide ((n : Int) < 0) = false := decide_eq_false (by omega)
  have HL2 : (mkB (digs 16 n)).size ≤ 65 := by rw [mkB_size]; exact digs_length 16 (by decide) 64 n (by omega)
  clear hG
  generalize mkB (digs 16 n) = r at HF HL2 ⊢
  go_enter Tryd.func22, Tryd.ntmps22
  go_wp2_with (go_at_call 34; refine HF.out.mono ?_; rintro e w' ⟨rfl, hb⟩)
  go_ret
  exact ⟨rfl, hb⟩
theorem fmtInt16 (n : Nat) (hn : n < 9223372036854775808) (w : World) (hG : W16 w) :
    Calls Tryd.prog 17 #[.int .i64 (n : Int), .int .i64 16] w fun e w' => e = .returned (.string (mkB (digs 16 n))) ∧ Below w.heap.size w w' := by
  have HF := Lib.hid (fmtInt16_in n hn w hG)
  have HL2 : (mkB (digs 16 n)).size ≤ 65 := by rw [mkB_size]; exact digs_length 16 (by decide) 64 n (by omega)
  clear hG
  generalize mkB (digs 16 n) = r at HF HL2 ⊢
  go_enter Tryd.func17, Tryd.ntmps17
  go_wp2_with (go_at_call 22; refine HF.out.mono ?_; rintro e w' ⟨rfl, hb⟩)
  go_ret
  exact ⟨rfl, hb⟩
def strconv_FormatInt_17.f (a0 a1 : Int) : Option ByteArray := if 0 ≤ a0 ∧ a0 < 9223372036854775808 ∧ a1 = 16 then some (mkB (digs 16 a0.toNat)) else none
theorem strconv_FormatInt_17.calls (a0 a1 : Int) (r : ByteArray) (w : World) (h : strconv_FormatInt_17.f a0 a1 = some r) (hG : WG w) :
    Calls Tryd.prog 17 #[.int .i64 a0, .int .i64 a1] w fun e w' => e = .returned (.string r) ∧ Below w.heap.size w w' := by
  unfold strconv_FormatInt_17.f at h
  split at h
  · next hc =>
    obtain ⟨h0, h1, rfl⟩ := hc
    obtain rfl := Option.some.inj h
    obtain ⟨n, rfl⟩ := Int.eq_ofNat_of_zero_le h0
    exact fmtInt16 n (by omega) w hG
  · cases h
end Go.Proofs.YtllcfifeaacmiaaDoor.Pr
