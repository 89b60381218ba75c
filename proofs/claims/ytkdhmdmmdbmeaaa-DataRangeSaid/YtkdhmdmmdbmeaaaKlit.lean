import Derived.Test.YtkdhmdmmdbmeaaaPr0
import Derived.WalkSpells
import Derived.Lib.Hide
import Derived.WalkLawsBesides
namespace Go.Proofs.Ytkdhmdmmdbmeaaa.Pr
open Go.RowKit Go.Proofs.YtkdhmdmmdbmeaaaW.PrintWords Go.Proofs.YtkdhmdmmdbmeaaaW.PrintLast Go.Proofs.YtkdhmdmmdbmeaaaW.PrintMore
set_option linter.unusedVariables false
set_option linter.unusedSimpArgs false

/-! ### A function that hands back a literal slice: run by the kernel, in whatever world -/
section
variable {P : Program}
/-- The cells of a slice's literal. -/
def sliceCells (P : Program) (t : TypeId) (len : Nat) (parts : List (Nat × Value)) : Option (TypeId × Array Value) :=
  match P.underlying t with
  | some (.slice e) =>
    match P.info? e with
    | some i =>
      match i.zero with
      | some z => if len * i.size = 0 ∨ len * i.size > 2 ^ 24 then none else (Instr.fill (fun k => some (k * i.size, i.size)) ((Array.range (len * i.size)).map (z.cells[· % z.cells.size]!)) parts).map fun c => (e, c)
      | none => none
    | none => none
  | _ => none
theorem run_sliceCells (w : World) (t : TypeId) (len : Nat) (parts : Array (Nat × Value)) (e : TypeId) (cells : Array Value) (h : sliceCells P t len parts.toList = some (e, cells)) :
    (Instr.buildSlice t len parts).run P w = .ok (.slice (some ⟨w.heap.size, 0, none⟩) len len) (w.alloc (.cells cells e)) := by
  unfold sliceCells at h
  cases hu : P.underlying t with
  | none => simp [hu] at h
  | some d =>
    cases d <;> try (simp [hu] at h; done)
    case slice e' =>
      cases hi : P.info? e' with
      | none => simp [hu, hi] at h
      | some i =>
        cases hz : i.zero with
        | none => simp [hu, hi, hz] at h
        | some z =>
          simp only [hu, hi, hz] at h
          by_cases hc : len * i.size = 0 ∨ len * i.size > 2 ^ 24
          · rw [if_pos hc] at h; exact absurd h (by simp)
          · rw [if_neg hc] at h
            rw [not_or] at hc
            cases hf : Instr.fill (fun k => some (k * i.size, i.size)) ((Array.range (len * i.size)).map (z.cells[· % z.cells.size]!)) parts.toList with
            | none => rw [hf] at h; exact absurd h (by simp)
            | some c =>
              rw [hf] at h
              simp only [Option.map_some, Option.some.injEq, Prod.mk.injEq] at h
              obtain ⟨rfl, rfl⟩ := h
              simp [Instr.buildSlice, run_underlying hu, sizeOf, typeInfo, zeroValue, hi, hz, hc.1, hc.2, hf, newRow]
def worldLit (w : World) : Option (TypeId × Array Value) → World
  | none => w
  | some (e, c) => w.alloc (.cells c e)
/-- The operations of a literal: builds, one slice, moves. -/
def runLit (P : Program) (g : Nat) : List Oper → Act → Option (TypeId × Array Value) → Option (Act × Option (TypeId × Array Value))
  | [], a, m => some (a, m)
  | o :: os, a, m =>
    match o.guard, o.op with
    | none, .build t parts => (P.built t (parts.map fun (i, x) => (i, a.eval x)).toList).bind fun cells => runLit P g os (a.put o.dst (.agg cells)) m
    | none, .buildSlice t len parts =>
      match m with
      | none => (sliceCells P t len (parts.map fun (i, x) => (i, a.eval x)).toList).bind fun m' => runLit P g os (a.put o.dst (.slice (some ⟨g, 0, none⟩) len len)) (some m')
      | some _ => none
    | none, .assign x => runLit P g os (a.put o.dst (a.eval x)) m
    | _, _ => none
theorem wpList_runLit {ops : Array Oper} {Q : Exit → Act → World → Prop} {w : World} : ∀ (os : List Oper) (a : Act) (m : Option (TypeId × Array Value)) {a' : Act} {m' : Option (TypeId × Array Value)},
    runLit P w.heap.size os a m = some (a', m') → Q .normal a' (worldLit w m') → wpList P ops Q os a (worldLit w m)
  | [], a, m, a', m', h, hq => by
    simp only [runLit, Option.some.injEq, Prod.mk.injEq] at h
    obtain ⟨rfl, rfl⟩ := h
    exact hq
  | o :: os, a, m, a', m', h, hq => by
    rw [runLit] at h
    split at h
    · rename_i t parts hg ho
      cases hb : P.built t (parts.map fun (i, x) => (i, a.eval x)).toList with
      | none => rw [hb] at h; exact absurd h (by simp)
      | some cells =>
        rw [hb] at h
        refine wpList_build hg t parts ho (by rw [hb]; rfl) ?_
        rw [hb]
        exact wpList_runLit os _ m h hq
    · rename_i t len parts hg ho
      cases m with
      | some m => exact absurd h (by simp)
      | none =>
        dsimp only at h
        cases hb : sliceCells P t len (parts.map fun (i, x) => (i, a.eval x)).toList with
        | none => rw [hb] at h; exact absurd h (by simp)
        | some m1 =>
          rw [hb] at h
          refine wpList_plain hg fun K hK => ?_
          have hr := run_sliceCells (P := P) w t len (parts.map fun (i, x) => (i, a.eval x)) m1.1 m1.2 hb
          unfold Oper.wp execOp
          simp only [ho, Sem.run_bind, worldLit, hr, Result.andThen_ok]
          exact hK _ _ (wpList_runLit os _ (some m1) h hq)
    · rename_i x hg ho
      refine wpList_plain hg fun K hK => ?_
      unfold Oper.wp execOp
      simp only [ho]
      exact hK _ _ (wpList_runLit os _ m h hq)
    · exact absurd h (by simp)
theorem runLit_append {g : Nat} (os' : List Oper) : ∀ (os : List Oper) (a : Act) (m : Option (TypeId × Array Value)),
    runLit P g (os ++ os') a m = (runLit P g os a m).bind fun x => runLit P g os' x.1 x.2
  | [], a, m => rfl
  | o :: os, a, m => by
    simp only [List.cons_append, runLit]
    split
    · simp only [runLit_append os' os, Option.bind_assoc]
    · cases m with
      | none => simp only [runLit_append os' os, Option.bind_assoc]
      | some m => rfl
    · exact runLit_append os' os _ _
    · rfl
theorem lit_calls {f : FuncId} {fn : Func} (hf : P.funcs[f]? = some fn) {i0 i1 : Nat} {o0 : Oper} {ops : Array Oper} {r n : Nat} {e : TypeId} {cells : Array Value}
    (hb : fn.body = some ((Code.region i0 #[o0] false).seq ((Code.region i1 ops false).seq Code.ret))) (hr : fn.results = #[.tmp r])
    (h : ∀ g, (runLit P g (o0 :: ops.toList) { tmps := Array.replicate fn.ntmps undef, defers := [] } none).map (fun x => (x.1.tmps.getD r undef, x.1.defers.isEmpty, x.2)) = some (.slice (some ⟨g, 0, none⟩) n n, true, some (e, cells)))
    (w : World) : Calls P f #[] w fun e' w' => e' = .returned (.slice (some ⟨w.heap.size, 0, none⟩) n n) ∧ w' = w.alloc (.cells cells e) := by
  have h := h w.heap.size
  cases hx : runLit P w.heap.size (o0 :: ops.toList) { tmps := Array.replicate fn.ntmps undef, defers := [] } none with
  | none => rw [hx] at h; exact absurd h (by simp)
  | some x =>
    obtain ⟨a, m⟩ := x
    rw [hx] at h
    simp only [Option.map_some, Option.some.injEq, Prod.mk.injEq] at h
    obtain ⟨h1, h2, rfl⟩ := h
    have hd : a.defers = [] := by simpa using h2
    refine calls_of_wp hf hb ?_
    simp only [List.size_toArray, List.length_nil, Nat.sub_zero, Array.empty_append]
    refine wp_seq (wp_region_list ?_)
    rw [show o0 :: ops.toList = [o0] ++ ops.toList from rfl, runLit_append] at hx
    cases hrun : runLit P w.heap.size [o0] { tmps := Array.replicate fn.ntmps undef, defers := [] } none with
    | none => rw [hrun] at hx; exact absurd hx (by simp)
    | some y =>
      obtain ⟨a1, m1⟩ := y
      rw [hrun] at hx
      have hrest : runLit P w.heap.size ops.toList a1 m1 = some (a, some (e, cells)) := hx
      refine wpList_runLit (w := w) [o0] _ none hrun ?_
      show (Code.seq _ _).wp P _ a1 _
      refine wp_seq (wp_region_list ?_)
      refine wpList_runLit (w := w) ops.toList a1 m1 hrest ?_
      show Code.ret.wp P _ a _
      refine wp_ret ?_
      exact bodyPost_ret (results_tmp hr _ _ _) hd ⟨by rw [h1], rfl⟩
end
end Go.Proofs.Ytkdhmdmmdbmeaaa.Pr
