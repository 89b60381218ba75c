import Derived.Test.YtbgmepfejbbpaaaDoorKtext
import Derived.Test.YtbgmepfejbbpaaaDoorGwr
import Derived.Laws.StructEq
namespace Go.Proofs.YtbgmepfejbbpaaaDoor.Pr
open Go.RowKit Go.Proofs.YtbgmepfejbbpaaaDoorW.PrintWords Go.Proofs.YtbgmepfejbbpaaaDoorW.PrintLast Go.Proofs.YtbgmepfejbbpaaaDoorW.PrintMore
set_option linter.unusedVariables false
set_option linter.unusedSimpArgs false

/-! ### Arrays that are compared; arrays in cells of their own -/
theorem und16 : Tryd.prog.underlying 22 = some (.int .u16) := by kernel_rfl
theorem siz16 : ∀ w, (sizeOf 22).run Tryd.prog w = .ok 1 w := fun w => by kernel_rfl
theorem arr8 : Tryd.prog.underlying 23 = some (.array 8 22) := by kernel_rfl
theorem part8 (f : Nat → Nat) (i : Nat) (hi : i < 8) (w : World) : (part 22 (cs8 f).toArray (i * 1)).run Tryd.prog w = .ok (.int .u16 (f i : Int)) w := by
  rcases (by omega : i = 0 ∨ i = 1 ∨ i = 2 ∨ i = 3 ∨ i = 4 ∨ i = 5 ∨ i = 6 ∨ i = 7) with rfl | rfl | rfl | rfl | rfl | rfl | rfl | rfl <;> simp [part, isAgg, run_underlying und16, cs8]
theorem equal8 (f : Nat → Nat) (w : World) : (Op.equalIn 10000 23 (.agg (cs8 f).toArray) (.agg (cs8 f).toArray)).run Tryd.prog w = .ok true w := by
  rw [show 10000 = 9998 + 2 from rfl, Op.equalIn]
  simp only [Sem.run_bind, run_underlying arr8, Result.andThen_ok, siz16, Std.Legacy.Range.forIn_eq_forIn_range', Std.Legacy.Range.size, Nat.sub_zero, Nat.add_sub_cancel, Nat.div_one]
  have hl : ∀ i ∈ List.range' 0 8 1, i < 8 := fun i hi => by simpa using (List.mem_range'_1.1 hi).2
  generalize List.range' 0 8 1 = l at hl ⊢
  induction l with
  | nil => simp
  | cons i l ih =>
    have hi : i < 8 := hl i (by simp)
    have pe : (Op.equalIn (9998 + 1) 22 (.int .u16 (f i : Int)) (.int .u16 (f i : Int))).run Tryd.prog w = .ok true w := by
      rw [run_equalIn_int w 9998 22 .u16 .u16 _ _ und16]
      simp
    simp only [List.forIn_cons, Sem.run_bind, part8 f i hi, pe, Result.andThen_ok]
    simp only [Bool.not_true, Bool.false_eq_true, if_false, Sem.run_pure, Result.andThen_ok]
    exact ih fun j hj => hl j (by simp [hj])
theorem eql8 (f : Nat → Nat) (w : World) : (binOp .eql 23 (.agg (cs8 f).toArray) (.agg (cs8 f).toArray)).run Tryd.prog w = .ok (.bool true) w := by
  rw [run_eql_struct, equal8]; rfl
theorem neq8 (f : Nat → Nat) (w : World) : (binOp .neq 23 (.agg (cs8 f).toArray) (.agg (cs8 f).toArray)).run Tryd.prog w = .ok (.bool false) w := by
  rw [run_neq_struct, equal8]; rfl
abbrev zero8 : Obj := .cells #[.int .u16 0, .int .u16 0, .int .u16 0, .int .u16 0, .int .u16 0, .int .u16 0, .int .u16 0, .int .u16 0] 23
theorem R8.fresh (w : World) : R8 (w.alloc zero8) w.heap.size 0 fun _ => 0 := by
  refine ⟨fun i hi => ?_, fun i hi => by rw [World.frozen?_alloc_new]⟩
  rw [World.cell?_alloc_new]
  rcases (by omega : i = 0 ∨ i = 1 ∨ i = 2 ∨ i = 3 ∨ i = 4 ∨ i = 5 ∨ i = 6 ∨ i = 7) with rfl | rfl | rfl | rfl | rfl | rfl | rfl | rfl <;> rfl
theorem R8.boxed (w : World) (f : Nat → Nat) : R8 (w.alloc (.cells (cs8 f).toArray 23)) w.heap.size 0 f := by
  refine ⟨fun i hi => ?_, fun i hi => by rw [World.frozen?_alloc_new]⟩
  rw [World.cell?_alloc_new, Nat.zero_add]
  rcases (by omega : i = 0 ∨ i = 1 ∨ i = 2 ∨ i = 3 ∨ i = 4 ∨ i = 5 ∨ i = 6 ∨ i = 7) with rfl | rfl | rfl | rfl | rfl | rfl | rfl | rfl <;> rfl
theorem R8.stored {W : World} {b : Nat} {h : Nat → Nat} (c : R8 W b 0 h) (f : Nat → Nat) : R8 (W.setCells b 0 (cs8 f)) b 0 f := by
  refine ⟨fun i hi => ?_, fun i hi => by rw [World.frozen?_setCells]; exact c.fr i hi⟩
  have := c.store f i (.int .u16 (f i : Int)) (by rcases (by omega : i = 0 ∨ i = 1 ∨ i = 2 ∨ i = 3 ∨ i = 4 ∨ i = 5 ∨ i = 6 ∨ i = 7) with rfl | rfl | rfl | rfl | rfl | rfl | rfl | rfl <;> rfl)
  exact this
/-- A load of an array behind a guard that lets it run. -/
theorem wpList_load_g {ops : Array Oper} {rest : List Oper} {op : Oper} {a : Act} {w : World} {Q : Exit → Act → World → Prop} (hw : Region.wanted op (yielded ops a.tmps) = true) (ty : TypeId) (x : Operand) (ho : op.op = .load ty x)
    (b o : Nat) (hx : a.eval x = .pointer (some ⟨b, o, none⟩)) (cs : List Value) (d : TypeDesc) (hc : w.rangeAt b o cs)
    (hu : Tryd.prog.underlying ty = some d) (hd : d.isRow = true) (hi : (Tryd.prog.info? ty).map (·.size) = some cs.length)
    (h : wpList Tryd.prog ops Q rest (a.put op.dst (.agg cs.toArray)) w) : wpList Tryd.prog ops Q (op :: rest) a w :=
  wpList_step fun K hK => by
    rw [if_pos hw]
    exact wp_load_mid ty x ho b o hx cs d hc hu hd hi (hK _ _ h)
theorem sz_cells (b : Nat) : ∀ (vs : List Value) (o : Nat) (w : World), (w.setCells b o vs).heap.size = w.heap.size
  | [], _, _ => rfl
  | v :: vs, o, w => by
    simp only [World.setCells]
    rw [sz_cells b vs (o + 1)]; simp
/-- A fresh cell with an array in it. -/
theorem fresh_stored (w : World) (f : Nat → Nat) : ∃ W b, (w.alloc zero8).setCells w.heap.size 0 (cs8 f) = W ∧ w.heap.size = b ∧ R8 W b 0 f ∧ Below w.heap.size w W ∧ b < W.heap.size :=
  ⟨_, _, rfl, rfl, (R8.fresh w).stored f, below_cells (Nat.le_refl _) _ _ (below_alloc (Below.refl _ _) _), by rw [sz_cells]; simp⟩
end Go.Proofs.YtbgmepfejbbpaaaDoor.Pr
