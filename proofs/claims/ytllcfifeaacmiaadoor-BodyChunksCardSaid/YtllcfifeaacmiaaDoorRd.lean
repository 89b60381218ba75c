import Derived.Test.YtllcfifeaacmiaaDoorMkb
import Derived.Test.YtllcfifeaacmiaaDoorPr0
import Derived.Deep.RegionHeldLaw
namespace Go.Proofs.YtllcfifeaacmiaaDoor.Pr
open Go.RowKit Go.Proofs.YtllcfifeaacmiaaDoorW.PrintWords Go.Proofs.YtllcfifeaacmiaaDoorW.PrintLast Go.Proofs.YtllcfifeaacmiaaDoorW.PrintMore
set_option linter.unusedVariables false
set_option linter.unusedSimpArgs false

/-! ### A reader of bodies, in memory -/
theorem info_u8 : (Tryd.prog.info? 5).map (fun i => (i.zero, i.size, i.bytes)) = some (some (.int .u8 0), 1, 1) := by kernel_rfl
def ints (t : List UInt8) : List Int := t.map fun c => (c.toNat : Int)
theorem ints_append (a b : List UInt8) : ints (a ++ b) = ints a ++ ints b := List.map_append
theorem ints_length (t : List UInt8) : (ints t).length = t.length := List.length_map _
inductive Stt | none | digit | plain | extra | sized | chunk | m13 | m10 | trailer
structure Rm where
  st : Stt
  left : Int
  sum : Int
  digits : Int
  line : Int
  fields : Int
  text : List UInt8
  data : List UInt8
  total : Int
  fault : Int
  over : Bool
  made : Bool
abbrev clo (p q : Nat) : Value := .func (.func 56) #[] #[.pointer (some ⟨p, 0, none⟩), .pointer (some ⟨q, 0, none⟩)]
def StV (W : World) (v : Value) (cl : List Nat) : Stt → Prop
  | .none => v = .nilFunc ∧ cl = []
  | .digit => v = .func (.func 18) #[] #[] ∧ cl = []
  | .plain => v = .func (.func 19) #[] #[] ∧ cl = []
  | .extra => v = .func (.func 25) #[] #[] ∧ cl = []
  | .sized => v = .func (.func 26) #[] #[] ∧ cl = []
  | .chunk => v = .func (.func 36) #[] #[] ∧ cl = []
  | .trailer => v = .func (.func 35) #[] #[] ∧ cl = []
  | .m10 => ∃ p q, v = clo p q ∧ cl = [p, q] ∧ W.cell? ⟨p, 0, none⟩ = some (.int .u8 10) ∧ W.cell? ⟨q, 0, none⟩ = some (.func (.func 18) #[] #[])
  | .m13 => ∃ p q p' q', v = clo p q ∧ cl = [p, q, p', q'] ∧ W.cell? ⟨p, 0, none⟩ = some (.int .u8 13) ∧ W.cell? ⟨q, 0, none⟩ = some (clo p' q') ∧ W.cell? ⟨p', 0, none⟩ = some (.int .u8 10) ∧ W.cell? ⟨q', 0, none⟩ = some (.func (.func 18) #[] #[])
def cellsR (R : Rm) (vs vt vd : Value) : Array Value := #[vs, .int .i64 R.left, .int .i64 R.sum, .int .i64 R.digits, .int .i64 R.line, .int .i64 R.fields, vt, vd, .int .i64 R.total, .int .i64 R.fault, .bool R.over, .bool R.made]
/-- A reader at g; its blocks are among F; its state's value is vs, with closures' cells in cl. -/
structure RdC (F : Nat → Prop) (B g : Nat) (W : World) (R : Rm) (vs vt vd : Value) (cl : List Nat) : Prop where
  blk : W.heap[g]? = some (.cells (cellsR R vs vt vd) 47 (0, 0))
  gf : F g
  bg : B ≤ g
  clf : ∀ k ∈ cl, F k ∧ k ≠ g ∧ k < W.heap.size
  t : Kd.R (Kd.int .u8) 5 W B (fun k => F k ∧ k ≠ g ∧ k ∉ cl) vt (ints R.text)
  d : Kd.R (Kd.int .u8) 5 W B (fun k => F k ∧ k ≠ g ∧ k ∉ cl ∧ some k ≠ vt.ownBlock) vd (ints R.data)
/-- The world but for F's blocks is as it was. -/
structure KW (F : Nat → Prop) (W W' : World) : Prop where
  os : W'.os = W.os
  tape : W'.tape = W.tape
  output : W'.output = W.output
  size : W.heap.size ≤ W'.heap.size
  far : ∀ k, k < W.heap.size → ¬ F k → W'.heap[k]? = W.heap[k]?
theorem KW.refl (F : Nat → Prop) (W : World) : KW F W W := ⟨rfl, rfl, rfl, Nat.le_refl _, fun _ _ _ => rfl⟩
theorem KW.trans {F : Nat → Prop} {W W1 W2 : World} (h : KW F W W1) (k : KW (fun k => F k ∨ W.heap.size ≤ k) W1 W2) : KW F W W2 :=
  ⟨k.os.trans h.os, k.tape.trans h.tape, k.output.trans h.output, Nat.le_trans h.size k.size, fun i hi hn => (k.far i (Nat.lt_of_lt_of_le hi h.size) (fun e => by rcases e with e | e; exact hn e; omega)).trans (h.far i hi hn)⟩
theorem KW.mono {F G : Nat → Prop} {W W1 : World} (h : KW F W W1) (hs : ∀ k, k < W.heap.size → F k → G k) : KW G W W1 := ⟨h.os, h.tape, h.output, h.size, fun i hi hn => h.far i hi (fun e => hn (hs i hi e))⟩
theorem KW.of_below {F : Nat → Prop} {W W1 : World} (h : Below W.heap.size W W1) : KW F W W1 := ⟨h.os, h.tape, h.output, h.size, fun i hi _ => h.block i hi⟩
theorem KW.below {F : Nat → Prop} {W W1 : World} {B : Nat} (h : KW F W W1) (hB : B ≤ W.heap.size) (hF : ∀ k, F k → B ≤ k) : Below B W W1 := ⟨h.os, h.tape, h.output, h.size, fun k hk => h.far k (by omega) (fun e => by have := hF k e; omega)⟩
theorem KW.drew {F : Nat → Prop} {W W1 : World} (h : KW F W W1) : KW F W W1.drew := ⟨h.os, h.tape, h.output, h.size, h.far⟩
theorem KW.set {F : Nat → Prop} {W W1 : World} (h : KW F W W1) (g c : Nat) (v : Value) (hg : F g) : KW F W (W1.setCell ⟨g, c, none⟩ v) :=
  ⟨h.os, h.tape, h.output, by simpa using h.size, fun k hk hn => (Below.heap_setCell W1 ⟨g, c, none⟩ v k (fun e => hn (by rw [e]; exact hg))).trans (h.far k hk hn)⟩
/-- A field that is a number is written. -/
theorem RdC.put {F : Nat → Prop} {B g : Nat} {W : World} {R R' : Rm} {vs vs' vt vd : Value} {cl : List Nat} (h : RdC F B g W R vs vt vd cl) (c : Nat) (v : Value) (he : (cellsR R vs vt vd).setIfInBounds c v = cellsR R' vs' vt vd) (ht : R'.text = R.text) (hd : R'.data = R.data) : RdC F B g (W.setCell ⟨g, c, none⟩ v) R' vs' vt vd cl := by
  refine ⟨blk_put h.blk c v he, h.gf, h.bg, fun k hk => ⟨(h.clf k hk).1, (h.clf k hk).2.1, by simpa using (h.clf k hk).2.2⟩, ?_, ?_⟩
  · rw [ht]; exact Kd.R_far h.t (fun k hk => hk.2.1) v
  · rw [hd]; exact Kd.R_far h.d (fun k hk => hk.2.1) v
theorem RdC.drew {F : Nat → Prop} {B g : Nat} {W : World} {R : Rm} {vs vt vd : Value} {cl : List Nat} (h : RdC F B g W R vs vt vd cl) : RdC F B g W.drew R vs vt vd cl :=
  ⟨blk_drew h.blk, h.gf, h.bg, h.clf, Kd.R_drew h.t, Kd.R_drew h.d⟩
theorem RdC.cell {F : Nat → Prop} {B g : Nat} {W : World} {R : Rm} {vs vt vd : Value} {cl : List Nat} (h : RdC F B g W R vs vt vd cl) (c : Nat) : W.cell? ⟨g, c, none⟩ = (cellsR R vs vt vd)[c]? := blk_cell h.blk c
theorem RdC.fr {F : Nat → Prop} {B g : Nat} {W : World} {R : Rm} {vs vt vd : Value} {cl : List Nat} (h : RdC F B g W R vs vt vd cl) (c : Nat) : W.frozen? ⟨g, c, none⟩ = false := blk_frozen h.blk c
theorem StV.keep {F : Nat → Prop} {W W1 : World} {v : Value} {cl : List Nat} {s : Stt} (h : StV W v cl s) (hk : ∀ k ∈ cl, W1.heap[k]? = W.heap[k]?) : StV W1 v cl s := by
  have hc : ∀ k ∈ cl, W1.cell? ⟨k, 0, none⟩ = W.cell? ⟨k, 0, none⟩ := fun k hm => World.cell?_of_block (hk k hm)
  cases s with
  | m10 =>
    obtain ⟨p, q, h1, h2, h3, h4⟩ := h
    subst h2
    exact ⟨p, q, h1, rfl, (hc p (by simp)).trans h3, (hc q (by simp)).trans h4⟩
  | m13 =>
    obtain ⟨p, q, p', q', h1, h2, h3, h4, h5, h6⟩ := h
    subst h2
    exact ⟨p, q, p', q', h1, rfl, (hc p (by simp)).trans h3, (hc q (by simp)).trans h4, (hc p' (by simp)).trans h5, (hc q' (by simp)).trans h6⟩
  | none => exact h
  | digit => exact h
  | plain => exact h
  | extra => exact h
  | sized => exact h
  | chunk => exact h
  | trailer => exact h
end Go.Proofs.YtllcfifeaacmiaaDoor.Pr
