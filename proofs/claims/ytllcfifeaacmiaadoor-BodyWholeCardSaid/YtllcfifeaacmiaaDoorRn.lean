import Derived.Test.YtllcfifeaacmiaaDoorMkb
import Derived.Test.YtllcfifeaacmiaaDoorPr0
import Derived.Deep.RegionHeldLaw
namespace Go.Proofs.YtllcfifeaacmiaaDoor.Pr
open Go.RowKit Go.Proofs.YtllcfifeaacmiaaDoorW.PrintWords Go.Proofs.YtllcfifeaacmiaaDoorW.PrintLast Go.Proofs.YtllcfifeaacmiaaDoorW.PrintMore
set_option linter.unusedVariables false
set_option linter.unusedSimpArgs false

/-! ### A reader of bodies, in memory -/
theorem info_u8 : (Tryd.prog.info? 5).map (fun i => (i.zero, i.size, i.bytes)) = some (some (.int .u8 0), 1, 1) := by kernel_rfl
def ints (t : List UInt8) : List Int := t.map fun c => (c.toNat : Int)
theorem ints_append (a b : List UInt8) : ints (a ++ b) = ints a ++ ints b := List.map_append
theorem ints_length (t : List UInt8) : (ints t).length = t.length := List.length_map _
inductive Stt | none | digit | plain | extra | sized | chunk | m13 | m10 | trailer
structure Rm where
  st : Stt
  left : Int
  sum : Int
  digits : Int
  line : Int
  fields : Int
  text : List UInt8
  data : List UInt8
  total : Int
  fault : Int
  over : Bool
  made : Bool
abbrev clo (p q : Nat) : Value := .func (.func 56) #[] #[.pointer (some ⟨p, 0, none⟩), .pointer (some ⟨q, 0, none⟩)]
def StV (W : World) (v : Value) (cl : List Nat) : Stt → Prop
  | .none => v = .nilFunc ∧ cl = []
  | .digit => v = .func (.func 18) #[] #[] ∧ cl = []
  | .plain => v = .func (.func 19) #[] #[] ∧ cl = []
  | .extra => v = .func (.func 25) #[] #[] ∧ cl = []
  | .sized => v = .func (.func 26) #[] #[] ∧ cl = []
  | .chunk => v = .func (.func 36) #[] #[] ∧ cl = []
  | .trailer => v = .func (.func 35) #[] #[] ∧ cl = []
  | .m10 => ∃ p q, v = clo p q ∧ cl = [p, q] ∧ W.cell? ⟨p, 0, none⟩ = some (.int .u8 10) ∧ W.cell? ⟨q, 0, none⟩ = some (.func (.func 18) #[] #[])
  | .m13 => ∃ p q p' q', v = clo p q ∧ cl = [p, q, p', q'] ∧ W.cell? ⟨p, 0, none⟩ = some (.int .u8 13) ∧ W.cell? ⟨q, 0, none⟩ = some (clo p' q') ∧ W.cell? ⟨p', 0, none⟩ = some (.int .u8 10) ∧ W.cell? ⟨q', 0, none⟩ = some (.func (.func 18) #[] #[])
def cellsR (R : Rm) (vs vt vd : Value) : Array Value := #[vs, .int .i64 R.left, .int .i64 R.sum, .int .i64 R.digits, .int .i64 R.line, .int .i64 R.fields, vt, vd, .int .i64 R.total, .int .i64 R.fault, .bool R.over, .bool R.made]
/-- A reader at g; its blocks are among F; its state's value is vs, with closures' cells in cl. -/
structure RdC (F : Nat → Prop) (B g : Nat) (W : World) (R : Rm) (vs vt vd : Value) (cl : List Nat) : Prop where
  blk : W.heap[g]? = some (.cells (cellsR R vs vt vd) 47 (0, 0))
  gf : F g
  bg : B ≤ g
  clf : ∀ k ∈ cl, F k ∧ k ≠ g ∧ k < W.heap.size
  t : Kd.R (Kd.int .u8) 5 W B (fun k => F k ∧ k ≠ g ∧ k ∉ cl) vt (ints R.text)
  d : Kd.R (Kd.int .u8) 5 W B (fun k => F k ∧ k ≠ g ∧ k ∉ cl ∧ some k ≠ vt.ownBlock) vd (ints R.data)
/-- The world but for F's blocks is as it was. -/
structure KW (F : Nat → Prop) (W W' : World) : Prop where
  os : W'.os = W.os
  tape : W'.tape = W.tape
  output : W'.output = W.output
  size : W.heap.size ≤ W'.heap.size
  far : ∀ k, k < W.heap.size → ¬ F k → W'.heap[k]? = W.heap[k]?
theorem KW.refl (F : Nat → Prop) (W : World) : KW F W W := ⟨rfl, rfl, rfl, Nat.le_refl _, fun _ _ _ => rfl⟩
theorem KW.trans {F : Nat → Prop} {W W1 W2 : World} (h : KW F W W1) (k : KW (fun k => F k ∨ W.heap.size ≤ k) W1 W2) : KW F W W2 :=
  ⟨k.os.trans h.os, k.tape.trans h.tape, k.output.trans h.output, Nat.le_trans h.size k.size, fun i hi hn => (k.far i (Nat.lt_of_lt_of_le hi h.size) (fun e => by rcases e with e | e; exact hn e; omega)).trans (h.far i hi hn)⟩
theorem KW.mono {F G : Nat → Prop} {W W1 : World} (h : KW F W W1) (hs : ∀ k, k < W.heap.size → F k → G k) : KW G W W1 := ⟨h.os, h.tape, h.output, h.size, fun i hi hn => h.far i hi (fun e => hn (hs i hi e))⟩
theorem KW.of_below {F : Nat → Prop} {W W1 : World} (h : Below W.heap.size W W1) : KW F W W1 := ⟨h.os, h.tape, h.output, h.size, fun i hi _ => h.block i hi⟩
theorem KW.below {F : Nat → Prop} {W W1 : World} {B : Nat} (h : KW F W W1) (hB : B ≤ W.heap.size) (hF : ∀ k, F k → B ≤ k) : Below B W W1 := ⟨h.os, h.tape, h.output, h.size, fun k hk => h.far k (by omega) (fun e => by have := hF k e; omega)⟩
theorem KW.drew {F : Nat → Prop} {W W1 : World} (h : KW F W W1) : KW F W W1.drew := ⟨h.os, h.tape, h.output, h.size, h.far⟩
theorem KW.set {F : Nat → Prop} {W W1 : World} (h : KW F W W1) (g c : Nat) (v : Value) (hg : F g) : KW F W (W1.setCell ⟨g, c, none⟩ v) :=
  ⟨h.os, h.tape, h.output, by simpa using h.size, fun k hk hn => (Below.heap_setCell W1 ⟨g, c, none⟩ v k (fun e => hn (by rw [e]; exact hg))).trans (h.far k hk hn)⟩
/-- A field that is a number is written. -/
theorem RdC.put {F : Nat → Prop} {B g : Nat} {W : World} {R R' : Rm} {vs vs' vt vd : Value} {cl : List Nat} (h : RdC F B g W R vs vt vd cl) (c : Nat) (v : Value) (he : (cellsR R vs vt vd).setIfInBounds c v = cellsR R' vs' vt vd) (ht : R'.text = R.text) (hd : R'.data = R.data) : RdC F B g (W.setCell ⟨g, c, none⟩ v) R' vs' vt vd cl := by
  refine ⟨blk_put h.blk c v he, h.gf, h.bg, fun k hk => ⟨(h.clf k hk).1, (h.clf k hk).2.1, by simpa using (h.clf k hk).2.2⟩, ?_, ?_⟩
  · rw [ht]; exact Kd.R_far h.t (fun k hk => hk.2.1) v
  · rw [hd]; exact Kd.R_far h.d (fun k hk => hk.2.1) v
theorem RdC.drew {F : Nat → Prop} {B g : Nat} {W : World} {R : Rm} {vs vt vd : Value} {cl : List Nat} (h : RdC F B g W R vs vt vd cl) : RdC F B g W.drew R vs vt vd cl :=
  ⟨blk_drew h.blk, h.gf, h.bg, h.clf, Kd.R_drew h.t, Kd.R_drew h.d⟩
theorem RdC.cell {F : Nat → Prop} {B g : Nat} {W : World} {R : Rm} {vs vt vd : Value} {cl : List Nat} (h : RdC F B g W R vs vt vd cl) (c : Nat) : W.cell? ⟨g, c, none⟩ = (cellsR R vs vt vd)[c]? := blk_cell h.blk c
theorem RdC.fr {F : Nat → Prop} {B g : Nat} {W : World} {R : Rm} {vs vt vd : Value} {cl : List Nat} (h : RdC F B g W R vs vt vd cl) (c : Nat) : W.frozen? ⟨g, c, none⟩ = false := blk_frozen h.blk c
theorem StV.keep {F : Nat → Prop} {W W1 : World} {v : Value} {cl : List Nat} {s : Stt} (h : StV W v cl s) (hk : ∀ k ∈ cl, W1.heap[k]? = W.heap[k]?) : StV W1 v cl s := by
  have hc : ∀ k ∈ cl, W1.cell? ⟨k, 0, none⟩ = W.cell? ⟨k, 0, none⟩ := fun k hm => World.cell?_of_block (hk k hm)
  cases s with
  | m10 =>
    obtain ⟨p, q, h1, h2, h3, h4⟩ := h
    subst h2
    exact ⟨p, q, h1, rfl, (hc p (by simp)).trans h3, (hc q (by simp)).trans h4⟩
  | m13 =>
    obtain ⟨p, q, p', q', h1, h2, h3, h4, h5, h6⟩ := h
    subst h2
    exact ⟨p, q, p', q', h1, rfl, (hc p (by simp)).trans h3, (hc q (by simp)).trans h4, (hc p' (by simp)).trans h5, (hc q' (by simp)).trans h6⟩
  | none => exact h
  | digit => exact h
  | plain => exact h
  | extra => exact h
  | sized => exact h
  | chunk => exact h
  | trailer => exact h
end Go.Proofs.YtllcfifeaacmiaaDoor.Pr
namespace Go.Proofs.YtllcfifeaacmiaaDoor.Pr
open Go.RowKit Go.Proofs.YtllcfifeaacmiaaDoorW.PrintWords Go.Proofs.YtllcfifeaacmiaaDoorW.PrintLast Go.Proofs.YtllcfifeaacmiaaDoorW.PrintMore
set_option linter.unusedVariables false
set_option linter.unusedSimpArgs false

/-! ### keep, plain, counts -/
theorem RdC.lt {F : Nat → Prop} {B g : Nat} {W : World} {R : Rm} {vs vt vd : Value} {cl : List Nat} (h : RdC F B g W R vs vt vd cl) : g < W.heap.size := blk_lt h.blk
theorem RdC.grow {F G : Nat → Prop} {B g : Nat} {W : World} {R : Rm} {vs vt vd : Value} {cl : List Nat} (h : RdC F B g W R vs vt vd cl) (hs : ∀ k, F k → G k) : RdC G B g W R vs vt vd cl :=
  ⟨h.blk, hs _ h.gf, h.bg, fun k hk => ⟨hs _ (h.clf k hk).1, (h.clf k hk).2⟩, Kd.R_mono h.t (fun k hk => ⟨hs _ hk.1, hk.2⟩), Kd.R_mono h.d (fun k hk => ⟨hs _ hk.1, hk.2⟩)⟩
theorem own_lt' {W : World} {B : Nat} {ok : Nat → Prop} {v : Value} {l : List Int} (h : Kd.R (Kd.int .u8) 5 W B ok v l) {k : Nat} (hk : v.ownBlock = some k) : k < W.heap.size := by
  obtain ⟨inner, ho⟩ := Kd.R_own h
  exact own_lt ho k hk
/-- A byte has been put behind the data. -/
theorem RdC.kept_ {F : Nat → Prop} {B g : Nat} {W w1 : World} {R : Rm} {vs vt vd v1 : Value} {cl : List Nat} (h : RdC F B g W R vs vt vd cl) (c : UInt8)
    (ho : Kd.R (Kd.int .u8) 5 w1 B (fun k => F k ∧ k ≠ g ∧ k ∉ cl ∧ some k ≠ vt.ownBlock) v1 (ints R.data ++ [(c.toNat : Int)])) (hg : W.grownBy w1 vd.ownBlock) (hb : Below B W w1) :
    w1.heap[g]? = some (.cells (cellsR R vs vt vd) 47 (0, 0)) ∧ RdC F B g (w1.setCell ⟨g, 7, none⟩ v1) { R with data := R.data ++ [c] } vs vt v1 cl := by
  have hgne : some g ≠ vd.ownBlock := fun e => (h.d.1 g e.symm).2.1 rfl
  have hblk := blk_grown h.blk hg hgne
  have htn : ∀ k, vt.ownBlock = some k → some k ≠ vd.ownBlock := fun k hk e => (h.d.1 k e.symm).2.2.2 hk.symm
  have ht : Kd.R (Kd.int .u8) 5 w1 B (fun k => F k ∧ k ≠ g ∧ k ∉ cl) vt (ints R.text) :=
    Kd.R_mono (Kd.R_grown (Kd.R_tight rfl h.t) hg (fun k hk => htn k hk.symm)) (fun k hk => h.t.1 k hk.symm)
  refine ⟨hblk, blk_put hblk 7 v1 rfl, h.gf, h.bg, fun k hk => ⟨(h.clf k hk).1, (h.clf k hk).2.1, ?_⟩, Kd.R_far ht (fun k hk => hk.2.1) v1, ?_⟩
  · have := (h.clf k hk).2.2
    have := hb.size
    simp
    omega
  · show Kd.R (Kd.int .u8) 5 _ B _ v1 (ints (R.data ++ [c]))
    rw [ints_append]
    exact Kd.R_far ho (fun k hk => hk.2.1) v1
theorem KW.grown {F : Nat → Prop} {W W1 w1 : World} {row : Option Nat} {B : Nat} (h : KW F W W1) (hg : W1.grownBy w1 row) (hb : Below B W1 w1) (hr : ∀ k, row = some k → F k ∨ W.heap.size ≤ k) : KW F W w1 :=
  ⟨hb.os.trans h.os, hb.tape.trans h.tape, hb.output.trans h.output, Nat.le_trans h.size hb.size, fun k hk hn => (hg.block k (Nat.lt_of_lt_of_le hk h.size) (fun e => by rcases hr k e.symm with e | e; exact hn e; omega)).trans (h.far k hk hn)⟩
def Fnew (F : Nat → Prop) (W : World) : Nat → Prop := fun k => F k ∨ W.heap.size ≤ k
set_option maxHeartbeats 1000000 in
theorem keep_any (F : Nat → Prop) (B g : Nat) (W : World) (R : Rm) (vs vt vd : Value) (cl : List Nat) (c : UInt8) (h : RdC F B g W R vs vt vd cl) (hl : R.data.length ≤ 1000000000000) :
    Calls Tryd.prog 27 #[.pointer (some ⟨g, 0, none⟩), .int .u8 (c.toNat : Int)] W fun e W' => e = .returned (.tuple #[]) ∧ ∃ vd', RdC (Fnew F W) B g W' { R with data := R.data ++ [c], left := wrap64 (R.left - 1), total := wrap64 (R.total + 1) } vs vt vd' cl ∧ KW F W W' := by
  have hlt := h.lt
  have hF : RdC (Fnew F W) B g W R vs vt vd cl := h.grow (fun k hk => .inl hk)
  have hc7 : W.cell? ⟨g, 7, none⟩ = some vd := h.cell 7
  have H := Aside0.mk hF
  have H0 := Aside0.mk h
  have HL := Aside0.mk hl
  obtain ⟨Ad, cd, rfl⟩ := Kd.R_slice h.d
  have hfresh : ∀ k, W.heap.size ≤ k → (Fnew F W k ∧ k ≠ g ∧ k ∉ cl ∧ some k ≠ vt.ownBlock) := fun k hk => ⟨.inr hk, by omega, fun e => by have := (h.clf k e).2.2; omega, fun e => by have := own_lt' h.t e.symm; omega⟩
  replace hfresh := Aside0.mk hfresh
  obtain ⟨l1, hl1⟩ : ∃ l1, wrap64 (R.left - 1) = l1 := ⟨_, rfl⟩
  obtain ⟨t1, ht1⟩ : ∃ t1, wrap64 (R.total + 1) = t1 := ⟨_, rfl⟩
  have hw1 : IntKind.i64.wrap (R.left - 1) = l1 := (i64_w _).trans hl1
  have hw2 : IntKind.i64.wrap (R.total + 1) = t1 := (i64_w _).trans ht1
  rw [hl1, ht1]
  clear h hF hl hl1 ht1
  go_enter Tryd.func27, Tryd.ntmps27
  go_upto_region 1 with ((with_reducible refine gate_builtin (b := .append) (xs := #[.tmp 8, .tmp 10]) rfl ?_); at_builtin; refine Kd.R_append (Kd.int .u8) (w0 := W) B rfl (.tmp 8) (.tmp 10) 45 5 (.int .u8 0) 1 rfl Tryd.underlying45 info_u8 rfl (by decide) (by omega) (.slice Ad (ints R.data).length cd) (ints R.data) (c.toNat : Int) [.int .u8 (c.toNat : Int)] (fun k => Fnew F W k ∧ k ≠ g ∧ k ∉ cl ∧ some k ≠ vt.ownBlock) (fun _ => False) rfl rfl rfl (fun _ hk => hk.elim) hfresh.out H.out.d (Below.refl _ _) (by have := H.out.bg; omega) (by rw [ints_length]; have := HL.out; omega) ?_; intro v1 w1 ho hbb hg hat; obtain ⟨A1, c1, rfl⟩ := Kd.R_slice ho; generalize (ints R.data ++ [(c.toNat : Int)]).length = n1 at ho ⊢; obtain ⟨hk1, hk2⟩ := H.out.kept_ c ho hg hbb; have HW := Aside0.mk (KW.grown (KW.refl F W) hg hbb (fun k hk => .inl (H0.out.d.1 k hk).1)); have hf7 := blk_frozen hk1 7; have hcc : w1.cell? ⟨g, 7, none⟩ = some (.slice Ad (ints R.data).length cd) := blk_cell hk1 7; clear hg hat ho hk1 hbb; replace hk2 := Aside0.mk hk2)
  replace HW := Aside0.mk (HW.out.set g 7 (.slice A1 n1 c1) H0.out.gf)
  generalize w1.setCell ⟨g, 7, none⟩ (.slice A1 n1 c1) = W2 at hk2 HW ⊢
  clear hcc hf7 hc7
  have hc1 : W2.cell? ⟨g, 1, none⟩ = some (.int .i64 R.left) := hk2.out.cell 1
  have hf1 := hk2.out.fr 1
  go_upto_region 2 with fail
  replace hk2 := Aside0.mk (RdC.put (R' := { R with data := R.data ++ [c], left := l1 }) hk2.out 1 (.int .i64 l1) rfl rfl rfl)
  replace HW := Aside0.mk (HW.out.set g 1 (.int .i64 l1) H0.out.gf)
  clear hc1 hf1
  generalize W2.setCell ⟨g, 1, none⟩ (.int .i64 l1) = W3 at hk2 HW ⊢
  have hc8 : W3.cell? ⟨g, 8, none⟩ = some (.int .i64 R.total) := hk2.out.cell 8
  have hf8 := hk2.out.fr 8
  go_wp2_with fail
  go_end0
  exact ⟨rfl, _, RdC.put hk2.out 8 (.int .i64 t1) rfl rfl rfl, HW.out.set g 8 (.int .i64 t1) H0.out.gf⟩
/-- How a step of a reader ends: the next state's value, with its cells; the reader; all else as it was. -/
def StepP (F : Nat → Prop) (B g : Nat) (W : World) (vs : Value) (s' : Stt) (er : Int) (R' : Rm) (e : Ending) (W' : World) : Prop :=
  ∃ v' vt' vd' cl', e = .returned (.tuple #[v', .int .i64 er]) ∧ StV W' v' cl' s' ∧ RdC (Fnew F W) B g W' R' vs vt' vd' cl' ∧ KW F W W'
theorem RdC.nocl {F : Nat → Prop} {B g : Nat} {W : World} {R : Rm} {vs vt vd : Value} {cl : List Nat} (h : RdC F B g W R vs vt vd cl) : RdC F B g W R vs vt vd [] :=
  ⟨h.blk, h.gf, h.bg, fun k hk => (List.not_mem_nil hk).elim, Kd.R_mono h.t (fun k hk => ⟨hk.1, hk.2.1, List.not_mem_nil⟩), Kd.R_mono h.d (fun k hk => ⟨hk.1, hk.2.1, List.not_mem_nil, hk.2.2.2⟩)⟩
def keptR (R : Rm) (c : UInt8) : Rm := { R with data := R.data ++ [c], left := wrap64 (R.left - 1), total := wrap64 (R.total + 1) }
set_option maxHeartbeats 1000000 in
set_option maxHeartbeats 1000000 in
set_option maxHeartbeats 1000000 in
set_option maxHeartbeats 1000000 in
set_option maxHeartbeats 1000000 in
set_option maxHeartbeats 1000000 in
theorem plain_any (F : Nat → Prop) (B g : Nat) (W : World) (R : Rm) (vs vt vd : Value) (cl : List Nat) (c : UInt8) (h : RdC F B g W R vs vt vd cl) (hl : R.data.length ≤ 1000000000000) :
    Calls Tryd.prog 19 #[.pointer (some ⟨g, 0, none⟩), .int .u8 (c.toNat : Int)] W (StepP F B g W vs (if (keptR R c).left = 0 then .none else .plain) 0 (keptR R c)) := by
  have HK := Aside0.mk (keep_any F B g W R vs vt vd cl c h hl)
  have hlR : (keptR R c).left = wrap64 (R.left - 1) := rfl
  rw [hlR]
  unfold StepP
  clear h hl hlR
  by_cases h0 : wrap64 (R.left - 1) = 0
  · rw [if_pos h0]
    have e1 : (wrap64 (R.left - 1) == 0) = true := beq_iff_eq.2 h0
    clear h0
    go_enter Tryd.func19, Tryd.ntmps19
    go_wp2_with (go_at_call 27; (with_reducible refine HK.out.mono ?_); rintro e w1 ⟨rfl, vd1, hr, hk⟩; have hc1 : w1.cell? ⟨g, 1, none⟩ = some (.int .i64 (wrap64 (R.left - 1))) := hr.cell 1; replace hr := Aside0.mk hr; replace hk := Aside0.mk hk)
    go_ret2
    exact ⟨_, _, _, _, rfl, ⟨rfl, rfl⟩, hr.out.nocl, hk.out⟩
  · rw [if_neg h0]
    have e1 : (wrap64 (R.left - 1) == 0) = false := beq_eq_false_iff_ne.2 h0
    clear h0
    go_enter Tryd.func19, Tryd.ntmps19
    go_wp2_with (go_at_call 27; (with_reducible refine HK.out.mono ?_); rintro e w1 ⟨rfl, vd1, hr, hk⟩; have hc1 : w1.cell? ⟨g, 1, none⟩ = some (.int .i64 (wrap64 (R.left - 1))) := hr.cell 1; replace hr := Aside0.mk hr; replace hk := Aside0.mk hk)
    go_ret2
    exact ⟨_, _, _, _, rfl, ⟨rfl, rfl⟩, hr.out.nocl, hk.out⟩
theorem must_any (W : World) (c : Int) (f : FuncId) (xs : Array Value) :
    Calls Tryd.prog 49 #[.int .u8 c, .func (.func f) #[] xs] W fun e W' => e = .returned (clo W.heap.size (W.heap.size + 1)) ∧ W' = (W.alloc (.cells #[.int .u8 c] 5)).alloc (.cells #[.func (.func f) #[] xs] 44) := by

  go_enter Tryd.func49, Tryd.ntmps49
  go_wp2
  go_ret
  exact ⟨rfl, rfl⟩
theorem four_allocs (W : World) (v1 v2 v3 v4 : Value) (t1 t2 t3 t4 : Nat) : ∃ W4, (((W.alloc (.cells #[v1] t1)).alloc (.cells #[v2] t2)).alloc (.cells #[v3] t3)).alloc (.cells #[v4] t4) = W4 ∧ Below W.heap.size W W4 ∧ W4.heap.size = W.heap.size + 4 ∧
    W4.cell? ⟨W.heap.size, 0, none⟩ = some v1 ∧ W4.cell? ⟨W.heap.size + 1, 0, none⟩ = some v2 ∧ W4.cell? ⟨W.heap.size + 1 + 1, 0, none⟩ = some v3 ∧ W4.cell? ⟨W.heap.size + 1 + 1 + 1, 0, none⟩ = some v4 := by
  have h1 := blk_new W (.cells #[v1] t1)
  have h2 := blk_new (W.alloc (.cells #[v1] t1)) (.cells #[v2] t2)
  have h3 := blk_new ((W.alloc (.cells #[v1] t1)).alloc (.cells #[v2] t2)) (.cells #[v3] t3)
  have h4 := blk_new (((W.alloc (.cells #[v1] t1)).alloc (.cells #[v2] t2)).alloc (.cells #[v3] t3)) (.cells #[v4] t4)
  simp only [World.size_alloc] at h2 h3 h4
  refine ⟨_, rfl, below_alloc (below_alloc (below_alloc (below_alloc (Below.refl _ _) _) _) _) _, by simp only [World.size_alloc], ?_, ?_, ?_, ?_⟩
  · exact blk_cell (blk_alloc (blk_alloc (blk_alloc h1 _) _) _) 0
  · exact blk_cell (blk_alloc (blk_alloc h2 _) _) 0
  · exact blk_cell (blk_alloc h3 _) 0
  · exact blk_cell h4 0
theorem RdC.cls {F : Nat → Prop} {B g : Nat} {W W1 : World} {R : Rm} {vs vt vd : Value} {cl : List Nat} (h : RdC F B g W R vs vt vd cl) (hb : Below W.heap.size W W1) (cl' : List Nat) (hc : ∀ k ∈ cl', F k ∧ W.heap.size ≤ k ∧ k < W1.heap.size) : RdC F B g W1 R vs vt vd cl' := by
  have hl := h.lt
  refine ⟨blk_below h.blk hb, h.gf, h.bg, fun k hk => ⟨(hc k hk).1, by have := (hc k hk).2.1; omega, (hc k hk).2.2⟩, Kd.R_mono (Kd.R_below (Kd.R_bound h.t) hb) (fun k hk => ⟨hk.1.1, hk.1.2.1, fun e => ?_⟩), Kd.R_mono (Kd.R_below (Kd.R_bound h.d) hb) (fun k hk => ⟨hk.1.1, hk.1.2.1, fun e => ?_, hk.1.2.2.2⟩)⟩
  · have := (hc k e).2.1; have := hk.2.2.1; omega
  · have := (hc k e).2.1; have := hk.2.2.1; omega
set_option maxHeartbeats 1000000 in
theorem chunk_any (F : Nat → Prop) (B g : Nat) (W : World) (R : Rm) (vs vt vd : Value) (cl : List Nat) (c : UInt8) (h : RdC F B g W R vs vt vd cl) (hl : R.data.length ≤ 1000000000000) :
    Calls Tryd.prog 36 #[.pointer (some ⟨g, 0, none⟩), .int .u8 (c.toNat : Int)] W (StepP F B g W vs (if (keptR R c).left = 0 then .m13 else .chunk) 0 (keptR R c)) := by
  have HK := Aside0.mk (keep_any F B g W R vs vt vd cl c h hl)
  have hlR : (keptR R c).left = wrap64 (R.left - 1) := rfl
  rw [hlR]
  unfold StepP
  clear h hl hlR
  by_cases h0 : wrap64 (R.left - 1) = 0
  · rw [if_pos h0]
    have e1 : (wrap64 (R.left - 1) == 0) = true := beq_iff_eq.2 h0
    clear h0
    go_enter Tryd.func36, Tryd.ntmps36
    go_wp2_with (first | (go_at_call 27; (with_reducible refine HK.out.mono ?_); rintro e w1 ⟨rfl, vd1, hr, hk⟩; have hc1 : w1.cell? ⟨g, 1, none⟩ = some (.int .i64 (wrap64 (R.left - 1))) := hr.cell 1; replace hr := Aside0.mk hr; replace hk := Aside0.mk hk) | (go_at_call 49; (with_reducible refine (must_any _ _ _ _).mono ?_); rintro e w2 ⟨rfl, rfl⟩))
    go_ret2
    obtain ⟨W4, e4, hb4, hs4, q1, q2, q3, q4⟩ := four_allocs w1 (.int .u8 10) (.func (.func 18) #[] #[]) (.int .u8 13) (clo w1.heap.size (w1.heap.size + 1)) 5 44 5 44
    rw [e4]
    refine ⟨_, _, _, [w1.heap.size + 1 + 1, w1.heap.size + 1 + 1 + 1, w1.heap.size, w1.heap.size + 1], rfl, ⟨_, _, _, _, rfl, rfl, q3, q4, q1, q2⟩, hr.out.cls hb4 _ (fun k hm => ?_), hk.out.trans (KW.of_below hb4)⟩
    have hsz := hk.out.size
    simp only [List.mem_cons, List.not_mem_nil, or_false] at hm
    exact ⟨.inr (by rcases hm with rfl | rfl | rfl | rfl <;> omega), by rcases hm with rfl | rfl | rfl | rfl <;> omega, by rcases hm with rfl | rfl | rfl | rfl <;> omega⟩
  · rw [if_neg h0]
    have e1 : (wrap64 (R.left - 1) == 0) = false := beq_eq_false_iff_ne.2 h0
    clear h0
    go_enter Tryd.func36, Tryd.ntmps36
    go_wp2_with (go_at_call 27; (with_reducible refine HK.out.mono ?_); rintro e w1 ⟨rfl, vd1, hr, hk⟩; have hc1 : w1.cell? ⟨g, 1, none⟩ = some (.int .i64 (wrap64 (R.left - 1))) := hr.cell 1; replace hr := Aside0.mk hr; replace hk := Aside0.mk hk)
    go_ret2
    exact ⟨_, _, _, _, rfl, ⟨rfl, rfl⟩, hr.out.nocl, hk.out⟩
end Go.Proofs.YtllcfifeaacmiaaDoor.Pr
namespace Go.Proofs.YtllcfifeaacmiaaDoor.Pr
open Go.RowKit Go.Proofs.YtllcfifeaacmiaaDoorW.PrintWords Go.Proofs.YtllcfifeaacmiaaDoorW.PrintLast Go.Proofs.YtllcfifeaacmiaaDoorW.PrintMore
set_option linter.unusedVariables false
set_option linter.unusedSimpArgs false

/-! ### counts, must's function, extra -/
def cntR (R : Rm) : Rm := { R with line := wrap64 (R.line + 1) }
def cntOk (R : Rm) (c : UInt8) : Bool := (c.toNat : Int) == 10 || decide (wrap64 (R.line + 1) ≤ 4097)
theorem counts_any (F : Nat → Prop) (B g : Nat) (W : World) (R : Rm) (vs vt vd : Value) (cl : List Nat) (c : UInt8) (h : RdC F B g W R vs vt vd cl) :
    Calls Tryd.prog 24 #[.pointer (some ⟨g, 0, none⟩), .int .u8 (c.toNat : Int)] W fun e W' => e = .returned (.bool (cntOk R c)) ∧ RdC F B g W' (cntR R) vs vt vd cl ∧ KW F W W' := by
  have H := Aside0.mk h
  have hc4 : W.cell? ⟨g, 4, none⟩ = some (.int .i64 R.line) := h.cell 4
  have hf4 := h.fr 4
  unfold cntR cntOk
  obtain ⟨l1, hl1⟩ : ∃ l1, wrap64 (R.line + 1) = l1 := ⟨_, rfl⟩
  have hw : IntKind.i64.wrap (R.line + 1) = l1 := (i64_w _).trans hl1
  rw [hl1]
  clear h hl1
  obtain ⟨W1, hW1⟩ : ∃ W1, W.setCell ⟨g, 4, none⟩ (.int .i64 l1) = W1 := ⟨_, rfl⟩
  have HR : Aside0 (RdC F B g W1 { R with line := l1 } vs vt vd cl) := ⟨by rw [← hW1]; exact RdC.put H.out 4 (.int .i64 l1) rfl rfl rfl⟩
  have HK : Aside0 (KW F W W1) := ⟨by rw [← hW1]; exact (KW.refl F W).set g 4 (.int .i64 l1) H.out.gf⟩
  have hd4 : W1.cell? ⟨g, 4, none⟩ = some (.int .i64 l1) := HR.out.cell 4
  by_cases h1 : (c.toNat : Int) = 10
  · have e1 : ((c.toNat : Int) == 10) = true := beq_iff_eq.2 h1
    rw [e1, Bool.true_or]
    clear h1
    go_enter Tryd.func24, Tryd.ntmps24
    go_upto_region 2 with fail
    try rw [hW1]
    clear hW1 hc4 hf4
    go_wp2_with fail
    go_ret
    exact ⟨rfl, HR.out, HK.out⟩
  · have e1 : ((c.toNat : Int) == 10) = false := beq_eq_false_iff_ne.2 h1
    rw [e1, Bool.false_or]
    clear h1
    go_enter Tryd.func24, Tryd.ntmps24
    go_upto_region 2 with fail
    try rw [hW1]
    clear hW1 hc4 hf4
    go_wp2_with fail
    go_ret
    exact ⟨rfl, HR.out, HK.out⟩
/-- must's function: the byte that must stand there. -/
theorem must1_any (F : Nat → Prop) (B g : Nat) (W : World) (R : Rm) (vs vt vd : Value) (cl : List Nat) (c d : UInt8) (p q : Nat) (f : FuncId) (xs : Array Value) (s : Stt) (cl' : List Nat) (h : RdC F B g W R vs vt vd cl)
    (hp : W.cell? ⟨p, 0, none⟩ = some (.int .u8 (d.toNat : Int))) (hq : W.cell? ⟨q, 0, none⟩ = some (.func (.func f) #[] xs)) (hs : StV W (.func (.func f) #[] xs) cl' s) (hcl : ∀ k ∈ cl', k ∈ cl) :
    Calls Tryd.prog 56 #[.pointer (some ⟨g, 0, none⟩), .int .u8 (c.toNat : Int), .pointer (some ⟨p, 0, none⟩), .pointer (some ⟨q, 0, none⟩)] W (StepP F B g W vs (if c = d then s else .none) (if c = d then 0 else 200) R) := by
  have H := Aside0.mk h
  have HS := Aside0.mk hs
  have HC := Aside0.mk hcl
  unfold StepP
  clear h hs hcl
  by_cases h0 : c = d
  · have e1 : ((c.toNat : Int) != (d.toNat : Int)) = false := by rw [h0]; simp
    have e2 : ((c.toNat : Int) == (d.toNat : Int)) = true := by rw [h0]; simp
    rw [if_pos h0, if_pos h0]
    clear h0
    go_enter Tryd.func56, Tryd.ntmps56
    go_wp2_with fail
    go_ret2
    exact ⟨_, vt, vd, cl', rfl, HS.out, ⟨H.out.blk, .inl H.out.gf, H.out.bg, fun k hk => ⟨.inl (H.out.clf k (HC.out k hk)).1, (H.out.clf k (HC.out k hk)).2⟩, Kd.R_mono H.out.t (fun k hk => ⟨.inl hk.1, hk.2.1, fun e => hk.2.2 (HC.out k e)⟩), Kd.R_mono H.out.d (fun k hk => ⟨.inl hk.1, hk.2.1, fun e => hk.2.2.1 (HC.out k e), hk.2.2.2⟩)⟩, KW.refl _ _⟩
  · have h1 : ¬ (c.toNat : Int) = (d.toNat : Int) := fun e => h0 (UInt8.toNat_inj.1 (Int.ofNat.inj e))
    have e1 : ((c.toNat : Int) != (d.toNat : Int)) = true := bne_iff_ne.2 h1
    have e2 : ((c.toNat : Int) == (d.toNat : Int)) = false := beq_eq_false_iff_ne.2 h1
    rw [if_neg h0, if_neg h0]
    clear h0 h1
    go_enter Tryd.func56, Tryd.ntmps56
    go_wp2_with fail
    go_ret2
    exact ⟨_, vt, vd, [], rfl, ⟨rfl, rfl⟩, (H.out.grow (fun k hk => .inl hk)).nocl, KW.refl _ _⟩
end Go.Proofs.YtllcfifeaacmiaaDoor.Pr
