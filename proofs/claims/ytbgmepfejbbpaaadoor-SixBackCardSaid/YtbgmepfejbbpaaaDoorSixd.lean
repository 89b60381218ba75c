import Derived.Test.YtbgmepfejbbpaaaDoorSixc
import Derived.Laws.ResultCell
namespace Go.Proofs.YtbgmepfejbbpaaaDoor.Pr
open Go.RowKit Go.Proofs.YtbgmepfejbbpaaaDoorW.PrintWords Go.Proofs.YtbgmepfejbbpaaaDoorW.PrintLast Go.Proofs.YtbgmepfejbbpaaaDoorW.PrintMore
set_option linter.unusedVariables false
set_option linter.unusedSimpArgs false

/-! ### Parse -/
def pad8 (l : List Nat) (i : Nat) : Nat := l.getD i 0
def sixA (s : List UInt8) : Option (List Nat) := match allF s with
  | none => none
  | some (acc, gap) => if gap < 0 then (if acc.length = 8 then some acc else none) else if 7 < acc.length then none else some (acc.take gap.toNat ++ List.replicate (8 - acc.length) 0 ++ acc.drop gap.toNat)
theorem loopF_gap : ∀ (k : Nat) (s : List UInt8) (acc : List Nat) (gap : Int), (gap < 0 ∨ (0 ≤ gap ∧ gap ≤ acc.length)) → ∀ a b, loopF k s acc gap = some (a, b) → (b < 0 ∨ (0 ≤ b ∧ b ≤ a.length))
  | 0, s, acc, gap, hg, a, b, h => by cases h
  | k + 1, s, acc, gap, hg, a, b, h => by
    rw [loopF_succ] at h
    split at h
    · split at h
      · cases h
      · next a' hd =>
        cases h
        unfold dotF at hd
        split at hd
        · split at hd
          · cases hd
          · cases hd; simp; omega
        · cases hd
    · split at h
      · cases h
      · next s1 acc1 hp =>
        have hl : acc1.length = acc.length + 1 := by
          unfold pieceF at hp
          split at hp
          · cases hp
          · cases hp; simp
        split at h
        · cases h; omega
        · split at h
          · split at h
            · cases h
            · split at h
              · cases h; omega
              · exact loopF_gap k _ _ _ (by omega) a b h
          · split at h
            · exact loopF_gap k _ _ _ (by omega) a b h
            · cases h
theorem allF_gap {s : List UInt8} {a : List Nat} {b : Int} (h : allF s = some (a, b)) : b < 0 ∨ (0 ≤ b ∧ b ≤ a.length) := by
  unfold allF at h
  split at h
  · split at h
    · cases h; simp
    · exact loopF_gap _ _ _ _ (by simp) a b h
  · exact loopF_gap _ _ _ _ (by simp) a b h
/-! the result's cell and the reader -/
def cs8 (f : Nat → Nat) : List Value := [.int .u16 (f 0), .int .u16 (f 1), .int .u16 (f 2), .int .u16 (f 3), .int .u16 (f 4), .int .u16 (f 5), .int .u16 (f 6), .int .u16 (f 7)]
theorem cs8_get (f : Nat → Nat) {i : Nat} {v : Value} (h : (cs8 f)[i]? = some v) : i < 8 ∧ v = .int .u16 (f i : Int) := by
  have hi : i < 8 := (List.getElem?_eq_some_iff.1 h).1
  refine ⟨hi, ?_⟩
  rcases (by omega : i = 0 ∨ i = 1 ∨ i = 2 ∨ i = 3 ∨ i = 4 ∨ i = 5 ∨ i = 6 ∨ i = 7) with rfl | rfl | rfl | rfl | rfl | rfl | rfl | rfl <;> exact (Option.some.inj h).symm
theorem cs8_congr {f f' : Nat → Nat} (h : ∀ i, i < 8 → f i = f' i) : cs8 f = cs8 f' := by
  unfold cs8
  rw [h 0 (by decide), h 1 (by decide), h 2 (by decide), h 3 (by decide), h 4 (by decide), h 5 (by decide), h 6 (by decide), h 7 (by decide)]
/-- Eight cells that may be written. -/
structure R8 (W : World) (b o : Nat) (f : Nat → Nat) : Prop where
  at_ : ∀ i, i < 8 → W.cell? ⟨b, o + i, none⟩ = some (.int .u16 (f i : Int))
  fr : ∀ i, i < 8 → W.frozen? ⟨b, o + i, none⟩ = false
theorem R8.range {W : World} {b o : Nat} {f : Nat → Nat} (h : R8 W b o f) : W.rangeAt b o (cs8 f) := fun i v hv => by
  obtain ⟨hi, rfl⟩ := cs8_get f hv
  exact h.at_ i hi
theorem R8.there {W : World} {b o : Nat} {f : Nat → Nat} (h : R8 W b o f) : W.there b o 8 := fun i hi => ⟨by rw [h.at_ i hi]; rfl, h.fr i hi⟩
theorem R8.keep {W W1 : World} {b o : Nat} {f : Nat → Nat} (h : R8 W b o f) {B : Nat} (hb : Below B W W1) (hlt : b < B) : R8 W1 b o f :=
  ⟨fun i hi => by rw [← h.at_ i hi]; unfold World.cell?; rw [hb.block _ hlt], fun i hi => by rw [← h.fr i hi]; unfold World.frozen?; rw [hb.block _ hlt]⟩
structure PW (w W : World) (s : List UInt8) (f : Nat → Nat) (n : Nat) (gap : Int) : Prop where
  st : StF (w.heap.size + 1) W s f n gap
  r0 : R8 W w.heap.size 0 fun _ => 0
  bel : Below w.heap.size w W
theorem PW.start (w : World) (s : List UInt8) : PW w ((w.alloc (.cells #[.int .u16 0, .int .u16 0, .int .u16 0, .int .u16 0, .int .u16 0, .int .u16 0, .int .u16 0, .int .u16 0] 23)).alloc (.cells #[.string (mkB s), .int .u16 0, .int .u16 0, .int .u16 0, .int .u16 0, .int .u16 0, .int .u16 0, .int .u16 0, .int .u16 0, .int .i64 0, .int .i64 (-1)] 41)) s (fun i => [].getD i 0) 0 (-1) := by
  have e : w.heap.size + 1 = (w.alloc (.cells #[.int .u16 0, .int .u16 0, .int .u16 0, .int .u16 0, .int .u16 0, .int .u16 0, .int .u16 0, .int .u16 0] 23)).heap.size := by simp
  refine ⟨⟨?_, fun i hi => ?_, ?_, ?_, fun i => ?_, by simp⟩, ⟨fun i hi => ?_, fun i hi => ?_⟩, ((Below.refl _ w).alloc (Nat.le_refl _) _).alloc (by simp) _⟩
  · rw [e, World.cell?_alloc_new]; rfl
  · rw [e, World.cell?_alloc_new]
    rcases (by omega : i = 0 ∨ i = 1 ∨ i = 2 ∨ i = 3 ∨ i = 4 ∨ i = 5 ∨ i = 6 ∨ i = 7) with rfl | rfl | rfl | rfl | rfl | rfl | rfl | rfl <;> rfl
  · rw [e, World.cell?_alloc_new]; rfl
  · rw [e, World.cell?_alloc_new]; rfl
  · rw [e, World.frozen?_alloc_new]
  · rw [World.cell?_alloc_lt _ _ _ (by simp), World.cell?_alloc_new]
    rcases (by omega : i = 0 ∨ i = 1 ∨ i = 2 ∨ i = 3 ∨ i = 4 ∨ i = 5 ∨ i = 6 ∨ i = 7) with rfl | rfl | rfl | rfl | rfl | rfl | rfl | rfl <;> rfl
  · rw [World.frozen?_alloc_old _ _ _ (by simp), World.frozen?_alloc_new]
theorem results_ct {fn : Func} {p u : Tmp} {ty : TypeId} (h : fn.results = #[.cell p ty, .tmp u]) (tmps : Array Value) (w : World) (g : Nat) (cs : List Value) (d : TypeDesc)
    (hp : tmps.getD p undef = .pointer (some ⟨g, 0, none⟩)) (hc : w.rangeAt g 0 cs)
    (hu : Tryd.prog.underlying ty = some d) (hd : d.isRow = true) (hi : (Tryd.prog.info? ty).map (·.size) = some cs.length) {v : Value} (hv : .tuple #[.agg cs.toArray, tmps.getD u undef] = v) :
    (results fn tmps).run Tryd.prog w = .ok v w := by
  subst hv
  rw [results_cell_tmp h]
  have hp' : tmps[p]?.getD undef = .pointer (some ⟨g, 0, none⟩) := by simpa using hp
  simp [hp', asAddr, run_loadVar_mid w g 0 ty cs d hc hu hd hi, Result.andThen]
theorem below_cells {B b : Nat} {a : World} (hb : B ≤ b) : ∀ (vs : List Value) (o : Nat) {w : World}, Below B a w → Below B a (w.setCells b o vs)
  | [], _, _, h => h
  | v :: vs, o, w, h => by
    simp only [World.setCells]
    exact below_cells hb vs (o + 1) (h.setCell (by simpa using hb) v)
theorem info8 : (Tryd.prog.info? 23).map (·.size) = some 8 := by kernel_rfl
theorem info8c (f : Nat → Nat) : (Tryd.prog.info? 23).map (·.size) = some (cs8 f).length := info8
theorem info8a (f : Nat → Nat) : (Tryd.prog.info? 23).map (·.size) = some (cs8 f).toArray.size := info8
theorem one8 (f : Nat → Nat) : (cs8 f).toArray.all (·.oneCell') = true := by simp [cs8, Value.oneCell']
theorem th_z8 {W : World} {b : Nat} {f : Nat → Nat} (h : R8 W b 0 f) : W.there b 0 (#[.int .u16 0, .int .u16 0, .int .u16 0, .int .u16 0, .int .u16 0, .int .u16 0, .int .u16 0, .int .u16 0] : Array Value).size := h.there
theorem size_z8 : (Tryd.prog.info? 23).map (·.size) = some (#[.int .u16 0, .int .u16 0, .int .u16 0, .int .u16 0, .int .u16 0, .int .u16 0, .int .u16 0, .int .u16 0] : Array Value).size := info8
theorem one_z8 : (#[.int .u16 0, .int .u16 0, .int .u16 0, .int .u16 0, .int .u16 0, .int .u16 0, .int .u16 0, .int .u16 0] : Array Value).all (·.oneCell') = true := by simp [Value.oneCell']
theorem th_8 {W : World} {b : Nat} {f : Nat → Nat} (h : R8 W b 0 f) (f' : Nat → Nat) : W.there b 0 (cs8 f').toArray.size := h.there
theorem StF.r8 {g : Nat} {W : World} {s : List UInt8} {f : Nat → Nat} {n : Nat} {gap : Int} (h : StF g W s f n gap) : R8 W g 1 f := ⟨fun i hi => h.cp i hi, fun i hi => h.fr _⟩
/-! slices of an array; copies -/
theorem hu8 : Tryd.prog.underlying 23 = some (.array (Tryd.prog.arrayLen 23) (Tryd.prog.elem 23)) := by kernel_rfl
theorem hl8 : Tryd.prog.arrayLen 23 = 8 := by kernel_rfl
theorem hs8 : ∀ w, (sizeOf (Tryd.prog.elem 23)).run Tryd.prog w = .ok 1 w := fun w => by kernel_rfl
theorem add_at (b o j : Nat) : (⟨b, o, none⟩ : Addr).add j = ⟨b, o + j, none⟩ := by
  unfold Addr.add
  split
  · next h => rw [h]; rfl
  · simp
theorem sl_all (b o : Nat) (w : World) : (Instr.sliceAt 23 (.pointer (some ⟨b, o, none⟩)) none none none).run Tryd.prog w = .ok (.slice (some ⟨b, o, none⟩) 8 8) w := by
  rw [run_sliceAt_array_all w _ _ hu8, hs8]
  simp only [Result.andThen, slicedAt, hl8]
  rw [if_neg (by decide), Nat.zero_mul, add_at]; rfl
theorem sl_h (b o k : Nat) (hk : k ≤ 8) (w : World) : (Instr.sliceAt 23 (.pointer (some ⟨b, o, none⟩)) none (some (.int .i64 (k : Int))) none).run Tryd.prog w = .ok (.slice (some ⟨b, o, none⟩) k 8) w := by
  rw [run_sliceAt_array_h w _ _ hu8 .i64 (k : Int) (by omega) (by rw [hl8]; omega), hs8]
  simp only [Result.andThen, slicedAt, hl8, Int.toNat_natCast]
  rw [if_neg (by decide), Nat.zero_mul, add_at]; rfl
theorem sl_l (b l : Nat) (hl : l < 8) (w : World) : (Instr.sliceAt 23 (.pointer (some ⟨b, 0, none⟩)) (some (.int .i64 (l : Int))) none none).run Tryd.prog w = .ok (.slice (some ⟨b, l, none⟩) (8 - l) (8 - l)) w := by
  rw [run_sliceAt_array_l w _ _ hu8 .i64 (l : Int) (by omega) (by rw [hl8]; omega), hs8]
  simp only [Result.andThen, slicedAt, hl8, Int.toNat_natCast]
  rw [if_neg (by omega), Nat.mul_one, add_at, Nat.zero_add]
theorem sl_l8 (b : Nat) (w : World) : (Instr.sliceAt 23 (.pointer (some ⟨b, 0, none⟩)) (some (.int .i64 8)) none none).run Tryd.prog w = .ok (.slice (some ⟨b, 0, none⟩) 0 0) w := by
  rw [run_sliceAt_array_l w _ _ hu8 .i64 8 (by omega) (by rw [hl8]; omega), hs8]
  simp only [Result.andThen, slicedAt, hl8]
  rfl
theorem sl_lh (b o k n : Nat) (hk : k ≤ n) (hn : n ≤ 7) (w : World) : (Instr.sliceAt 23 (.pointer (some ⟨b, o, none⟩)) (some (.int .i64 (k : Int))) (some (.int .i64 (n : Int))) none).run Tryd.prog w = .ok (.slice (some ⟨b, o + k, none⟩) (n - k) (8 - k)) w := by
  rw [run_sliceAt_array_lh w _ _ hu8 .i64 .i64 (k : Int) (n : Int) (by omega) (by omega) (by rw [hl8]; omega), hs8]
  simp only [Result.andThen, slicedAt, hl8, Int.toNat_natCast]
  rw [if_neg (by omega), Nat.mul_one, add_at]
def u16s (l : List Nat) : List Value := l.map fun n : Nat => Value.int .u16 (n : Int)
def lay (h : Nat → Nat) (o : Nat) (l : List Nat) (i : Nat) : Nat := if o ≤ i ∧ i < o + l.length then l.getD (i - o) 0 else h i
structure CW (w W : World) (b : Nat) (f h : Nat → Nat) (n k : Nat) : Prop where
  c9 : W.cell? ⟨w.heap.size + 1, 9, none⟩ = some (.int .i64 (n : Int))
  c10 : W.cell? ⟨w.heap.size + 1, 10, none⟩ = some (.int .i64 (k : Int))
  ps : R8 W (w.heap.size + 1) 1 f
  ar : R8 W b 0 h
  r0 : R8 W w.heap.size 0 fun _ => 0
  bel : Below w.heap.size w W
  lt : w.heap.size + 1 < b
theorem CW.drewN {w W : World} {b : Nat} {f h : Nat → Nat} {n k : Nat} (c : CW w W b f h n k) (q : Nat) : CW w (W.drewN q) b f h n k := ⟨c.c9, c.c10, ⟨c.ps.at_, c.ps.fr⟩, ⟨c.ar.at_, c.ar.fr⟩, ⟨c.r0.at_, c.r0.fr⟩, pw_below_drewN c.bel _, c.lt⟩
theorem CW.drew {w W : World} {b : Nat} {f h : Nat → Nat} {n k : Nat} (c : CW w W b f h n k) : CW w W.drew b f h n k := ⟨c.c9, c.c10, ⟨c.ps.at_, c.ps.fr⟩, ⟨c.ar.at_, c.ar.fr⟩, ⟨c.r0.at_, c.r0.fr⟩, below_drew c.bel, c.lt⟩
theorem cells_far {W : World} {b g o i : Nat} {cs : List Value} (h : g ≠ b) : (W.setCells b o cs).cell? ⟨g, i, none⟩ = W.cell? ⟨g, i, none⟩ := World.cell?_setCells_out b cs o W _ (fun e _ => absurd e h)
theorem CW.put {w W : World} {b : Nat} {f h : Nat → Nat} {n k : Nat} (c : CW w W b f h n k) (o : Nat) (l : List Nat) (hl : o + l.length ≤ 8) : CW w (W.setCells b o (u16s l)) b f (lay h o l) n k := by
  have hlt := c.lt
  have far : ∀ g i, g < b → (W.setCells b o (u16s l)).cell? ⟨g, i, none⟩ = W.cell? ⟨g, i, none⟩ := fun g i hg => cells_far (by omega)
  refine ⟨by rw [far _ _ (by omega)]; exact c.c9, by rw [far _ _ (by omega)]; exact c.c10, ⟨fun i hi => by rw [far _ _ (by omega)]; exact c.ps.at_ i hi, fun i hi => by rw [World.frozen?_setCells]; exact c.ps.fr i hi⟩, ⟨fun i hi => ?_, fun i hi => by rw [World.frozen?_setCells]; exact c.ar.fr i hi⟩, ⟨fun i hi => by rw [far _ _ (by omega)]; exact c.r0.at_ i hi, fun i hi => by rw [World.frozen?_setCells]; exact c.r0.fr i hi⟩, below_cells (by omega) _ _ c.bel, hlt⟩
  rw [Nat.zero_add]
  unfold lay
  have hz : (u16s l).length = l.length := by simp [u16s]
  split
  · next hc =>
    obtain ⟨m, rfl⟩ : ∃ m, i = o + m := ⟨i - o, by omega⟩
    have hm : m < l.length := by omega
    rw [World.cell?_setCells_in b (u16s l) o W (fun j hj => by have := c.ar.at_ (o + j) (by omega); rw [Nat.zero_add] at this; rw [this]; rfl) m (by omega)]
    rw [show o + m - o = m by omega, List.getD_eq_getElem?_getD, List.getElem?_eq_getElem hm]
    simp [u16s]
  · next hc =>
    rw [World.cell?_setCells_out b (u16s l) o W _ (fun _ _ => by simp only; omega)]
    have := c.ar.at_ i hi
    rwa [Nat.zero_add] at this
theorem CW.copy {w W : World} {b : Nat} {f h : Nat → Nat} {n k : Nat} (c : CW w W b f h n k) (o dLen dCap a sLen sCap : Nat) (l : List Nat) (hn : l.length = Nat.min sLen dLen) (ho : o + l.length ≤ 8) (ha : a + l.length ≤ 8) (hl : ∀ j, j < l.length → l.getD j 0 = f (a + j)) :
    (Builtin.copy_ #[37, 37] 3 #[.slice (some ⟨b, o, none⟩) dLen dCap, .slice (some ⟨w.heap.size + 1, 1 + a, none⟩) sLen sCap]).run Tryd.prog W = .ok (goInt l.length) (W.setCells b o (u16s l)) := by
  have hz : (u16s l).length = l.length := by simp [u16s]
  have := run_copy_cells (P := Tryd.prog) W 37 37 3 22 b o dLen dCap ⟨w.heap.size + 1, 1 + a, none⟩ sLen sCap (u16s l) Tryd.underlying37 (by kernel_rfl) (by rw [hz]; exact hn) (fun j v hv => ?_) (fun j hj => ?_) (fun j hj => ?_) (fun v hv => ?_)
  · rw [hz] at this; exact this
  · have hj : j < l.length := by have := (List.getElem?_eq_some_iff.1 hv).1; omega
    rw [add_at, Nat.add_assoc, c.ps.at_ (a + j) (by omega), ← hl j hj, ← hv]
    simp [u16s, List.getD_eq_getElem?_getD, List.getElem?_eq_getElem hj]
  · have := c.ar.at_ (o + j) (by omega)
    rw [Nat.zero_add] at this
    rw [this]; rfl
  · have := c.ar.fr (o + j) (by omega)
    rwa [Nat.zero_add] at this
  · simp only [u16s, List.mem_map] at hv
    obtain ⟨x, _, rfl⟩ := hv
    rfl
def SixQ (o : Option (List Nat)) (e : Ending) : Prop := match o with | none => e = .returned (.tuple #[.agg (cs8 fun _ => 0).toArray, .int .i64 8]) | some a => e = .returned (.tuple #[.agg (cs8 (pad8 a)).toArray, .int .i64 0])
theorem R8.store {W : World} {b : Nat} {f : Nat → Nat} (h : R8 W b 0 f) (f' : Nat → Nat) : (W.setCells b 0 (cs8 f')).rangeAt b 0 (cs8 f') := World.rangeAt_setCells_same _ _ _ _ h.there
set_option maxRecDepth 8000 in
set_option maxHeartbeats 8000000 in
theorem parse_any (s : List UInt8) (w : World) (hs : s.length ≤ 2147483648) :
    Calls Tryd.prog 8 #[.string (mkB s)] w fun e w' => Below w.heap.size w w' ∧ SixQ (sixA s) e := by
  have HA : Aside0 (∀ W, PW w W s (fun i => [].getD i 0) 0 (-1) → Calls Tryd.prog 14 #[.pointer (some ⟨w.heap.size + 1, 0, none⟩)] W fun e w' => R8 w' w.heap.size 0 (fun _ => 0) ∧ Below w.heap.size w w' ∧ AllQ (w.heap.size + 1) (allF s) e w') := ⟨fun W hW => (all_any (w.heap.size + 1) W s hW.st hs).mono fun e w' ⟨h1, h2⟩ => ⟨hW.r0.keep h1 (by omega), hW.bel.trans ⟨h1.1, h1.2, h1.3, h1.size, fun i hi => h1.block i (by omega)⟩, h2⟩⟩
  have HP := Aside0.mk (PW.start w s)
  have HS : Aside0 (sixA s = match allF s with
  | none => none
  | some (acc, gap) => if gap < 0 then (if acc.length = 8 then some acc else none) else if 7 < acc.length then none else some (acc.take gap.toNat ++ List.replicate (8 - acc.length) 0 ++ acc.drop gap.toNat)) := ⟨rfl⟩
  have HG := Aside0.mk (@allF_gap s)
  generalize sixA s = R at HS ⊢
  cases ha : allF s with
  | none =>
    rw [ha] at HA HS
    clear ha HG
    go_enter Tryd.func8, Tryd.ntmps8
    have HR : Aside0 (R = none) := ⟨HS.out⟩
    go_wp2_with (first | (go_at_call 14; refine (HA.out _ HP.out).mono ?_; rintro e w1 ⟨hr, hb, rfl⟩; replace hr := Aside0.mk hr) | (with_reducible refine wpList_store_mid rfl 23 _ _ rfl w.heap.size 0 #[.int .u16 0, .int .u16 0, .int .u16 0, .int .u16 0, .int .u16 0, .int .u16 0, .int .u16 0, .int .u16 0] rfl rfl (th_z8 hr.out) size_z8 one_z8 ?_))
    refine bodyPost_ret (v := .tuple #[.agg (cs8 fun _ => 0).toArray, .int .i64 8]) (results_ct (g := w.heap.size) (fn := Tryd.f8) (p := 2) (u := 3) rfl _ _ (cs8 fun _ => 0) _ (by simp [Act.put]) (hr.out.store _) Tryd.underlying23 rfl (info8c _) (by simp [Act.put])) rfl ⟨below_cells (Nat.le_refl _) _ _ hb, by rw [HR.out]; rfl⟩
  | some pr =>
    obtain ⟨acc, gap⟩ := pr
    rw [ha] at HA HS HG
    clear ha
    have hgap := HG.out rfl
    simp only at HS
    have HA2 : Aside0 (∀ W, PW w W s (fun i => [].getD i 0) 0 (-1) → Calls Tryd.prog 14 #[.pointer (some ⟨w.heap.size + 1, 0, none⟩)] W fun e w' => e = .returned (.bool true) ∧ R8 w' w.heap.size 0 (fun _ => 0) ∧ Below w.heap.size w w' ∧ acc.length ≤ 8 ∧ ∃ s', StF (w.heap.size + 1) w' s' (pad8 acc) acc.length gap) := ⟨fun W hW => (HA.out W hW).mono fun e w' ⟨h1, h2, h3⟩ => ⟨h3.1, h1, h2, h3.2⟩⟩
    clear HA HG
    by_cases hg : gap < 0
    · have hg1 : decide (gap < 0) = true := decide_eq_true hg
      have hg2 : decide (0 ≤ gap) = false := decide_eq_false (by omega)
      rw [if_pos hg] at HS
      by_cases h8 : acc.length = 8
      · have h8b : ((acc.length : Int) == 8) = true := by rw [h8]; rfl
        have h8c : ((acc.length : Int) = 8) := by omega
        rw [if_pos h8] at HS
        go_enter Tryd.func8, Tryd.ntmps8
        go_wp2_with (first | (go_at_call 14; refine (HA2.out _ HP.out).mono ?_; rintro e w1 ⟨rfl, hr, hb, hl, s', hs'⟩; have c9 := hs'.cn; have c10 := hs'.cg; replace hr := Aside0.mk hr; replace hs' := Aside0.mk hs') | (with_reducible refine wpList_load_mid rfl 23 _ rfl (w.heap.size + 1) 1 rfl (cs8 (pad8 acc)) _ hs'.out.r8.range Tryd.underlying23 rfl (info8c _) ?_) | (with_reducible refine wpList_store_mid rfl 23 _ _ rfl w.heap.size 0 (cs8 (pad8 acc)).toArray rfl rfl (th_8 hr.out _) (info8a _) (one8 _) ?_))
        refine bodyPost_ret (v := .tuple #[.agg (cs8 (pad8 acc)).toArray, .int .i64 0]) (results_ct (g := w.heap.size) (fn := Tryd.f8) (p := 2) (u := 3) rfl _ _ (cs8 (pad8 acc)) _ (by simp [Act.put]) (hr.out.store _) Tryd.underlying23 rfl (info8c _) (by simp [Act.put])) rfl ⟨below_cells (Nat.le_refl _) _ _ hb, by rw [HS.out]; rfl⟩
      · have h8b : ((acc.length : Int) == 8) = false := beq_eq_false_iff_ne.2 (by omega)
        have h8c : ¬ ((acc.length : Int) = 8) := by omega
        rw [if_neg h8] at HS
        go_enter Tryd.func8, Tryd.ntmps8
        go_wp2_with (first | (go_at_call 14; refine (HA2.out _ HP.out).mono ?_; rintro e w1 ⟨rfl, hr, hb, hl, s', hs'⟩; have c9 := hs'.cn; have c10 := hs'.cg; replace hr := Aside0.mk hr; replace hs' := Aside0.mk hs') | (with_reducible refine wpList_store_mid rfl 23 _ _ rfl w.heap.size 0 #[.int .u16 0, .int .u16 0, .int .u16 0, .int .u16 0, .int .u16 0, .int .u16 0, .int .u16 0, .int .u16 0] rfl rfl (th_z8 hr.out) size_z8 one_z8 ?_))
        refine bodyPost_ret (v := .tuple #[.agg (cs8 fun _ => 0).toArray, .int .i64 8]) (results_ct (g := w.heap.size) (fn := Tryd.f8) (p := 2) (u := 3) rfl _ _ (cs8 fun _ => 0) _ (by simp [Act.put]) (hr.out.store _) Tryd.underlying23 rfl (info8c _) (by simp [Act.put])) rfl ⟨below_cells (Nat.le_refl _) _ _ hb, by rw [HS.out]; rfl⟩
    · have hg1 : decide (gap < 0) = false := decide_eq_false hg
      have hg2 : decide (0 ≤ gap) = true := decide_eq_true (by omega)
      rw [if_neg hg] at HS
      by_cases h7 : 7 < acc.length
      · have h7b : decide ((7 : Int) < (acc.length : Int)) = true := decide_eq_true (by omega)
        have h7c : decide (7 < acc.length) = true := decide_eq_true (by omega)
        rw [if_pos h7] at HS
        go_enter Tryd.func8, Tryd.ntmps8
        go_wp2_with (first | (go_at_call 14; refine (HA2.out _ HP.out).mono ?_; rintro e w1 ⟨rfl, hr, hb, hl, s', hs'⟩; have c9 := hs'.cn; have c10 := hs'.cg; replace hr := Aside0.mk hr; replace hs' := Aside0.mk hs') | (with_reducible refine wpList_store_mid rfl 23 _ _ rfl w.heap.size 0 #[.int .u16 0, .int .u16 0, .int .u16 0, .int .u16 0, .int .u16 0, .int .u16 0, .int .u16 0, .int .u16 0] rfl rfl (th_z8 hr.out) size_z8 one_z8 ?_))
        refine bodyPost_ret (v := .tuple #[.agg (cs8 fun _ => 0).toArray, .int .i64 8]) (results_ct (g := w.heap.size) (fn := Tryd.f8) (p := 2) (u := 3) rfl _ _ (cs8 fun _ => 0) _ (by simp [Act.put]) (hr.out.store _) Tryd.underlying23 rfl (info8c _) (by simp [Act.put])) rfl ⟨below_cells (Nat.le_refl _) _ _ hb, by rw [HS.out]; rfl⟩
      · have h7b : decide ((7 : Int) < (acc.length : Int)) = false := decide_eq_false (by omega)
        have h7c : decide (7 < acc.length) = false := decide_eq_false (by omega)
        rw [if_neg h7] at HS
        obtain ⟨k, rfl⟩ := Int.eq_ofNat_of_zero_le (show 0 ≤ gap by omega)
        have hk : k ≤ acc.length := by omega
        rw [Int.toNat_natCast] at HS
        clear hg hgap
        go_enter Tryd.func8, Tryd.ntmps8
        go_upto_region 7 with (first | (go_at_call 14; refine (HA2.out _ HP.out).mono ?_; rintro e w1 ⟨rfl, hr, hb, hl, s', hs'⟩; have c9 := hs'.cn; have c10 := hs'.cg; replace hr := Aside0.mk hr; replace hs' := Aside0.mk hs') | (with_reducible refine wpList_store_mid rfl 23 _ _ rfl w.heap.size 0 #[.int .u16 0, .int .u16 0, .int .u16 0, .int .u16 0, .int .u16 0, .int .u16 0, .int .u16 0, .int .u16 0] rfl rfl (th_z8 hr.out) size_z8 one_z8 ?_))
        have hb2 : w.heap.size + 1 < w1.heap.size := hs'.out.sz
        have hC : CW w (w1.alloc (.cells #[.int .u16 0, .int .u16 0, .int .u16 0, .int .u16 0, .int .u16 0, .int .u16 0, .int .u16 0, .int .u16 0] 23)) w1.heap.size (pad8 acc) (fun _ => 0) acc.length k := by
          have far : ∀ g i, g < w1.heap.size → (w1.alloc (.cells #[.int .u16 0, .int .u16 0, .int .u16 0, .int .u16 0, .int .u16 0, .int .u16 0, .int .u16 0, .int .u16 0] 23)).cell? ⟨g, i, none⟩ = w1.cell? ⟨g, i, none⟩ := fun g i hg => World.cell?_alloc_lt _ _ _ hg
          have fez : ∀ g i, g < w1.heap.size → (w1.alloc (.cells #[.int .u16 0, .int .u16 0, .int .u16 0, .int .u16 0, .int .u16 0, .int .u16 0, .int .u16 0, .int .u16 0] 23)).frozen? ⟨g, i, none⟩ = w1.frozen? ⟨g, i, none⟩ := fun g i hg => World.frozen?_alloc_old _ _ _ (by simp only; omega)
          refine ⟨by rw [far _ _ (by omega)]; exact c9, by rw [far _ _ (by omega)]; exact c10, ⟨fun i hi => by rw [far _ _ (by omega)]; exact hs'.out.r8.at_ i hi, fun i hi => by rw [fez _ _ (by omega)]; exact hs'.out.r8.fr i hi⟩, ⟨fun i hi => ?_, fun i hi => by rw [World.frozen?_alloc_new]⟩, ⟨fun i hi => by rw [far _ _ (by omega)]; exact hr.out.at_ i hi, fun i hi => by rw [fez _ _ (by omega)]; exact hr.out.fr i hi⟩, hb.alloc (by omega) _, hb2⟩
          rw [World.cell?_alloc_new, Nat.zero_add]
          rcases (by omega : i = 0 ∨ i = 1 ∨ i = 2 ∨ i = 3 ∨ i = 4 ∨ i = 5 ∨ i = 6 ∨ i = 7) with rfl | rfl | rfl | rfl | rfl | rfl | rfl | rfl <;> rfl
        clear c9 c10 hr hs' hb hb2
        generalize w1.alloc (.cells #[.int .u16 0, .int .u16 0, .int .u16 0, .int .u16 0, .int .u16 0, .int .u16 0, .int .u16 0, .int .u16 0] 23) = W at hC ⊢
        generalize w1.heap.size = b at hC ⊢
        have hlt : (acc.take k).length = k := by simp; omega
        have s1 := sl_all b 0
        have s2 := sl_h (w.heap.size + 1) 1 k (by omega)
        have hmn : k = Nat.min k 8 := (Nat.min_eq_left (by omega)).symm
        have hp1 := hC.drew.copy 0 8 8 0 k 8 (acc.take k) (by rw [hlt]; exact hmn) (by omega) (by omega) (fun j hj => by rw [hlt] at hj; unfold pad8; simp [List.getD_eq_getElem?_getD, List.getElem?_take, hj])
        rw [hlt] at hp1
        simp only [Nat.add_zero] at hp1
        have hC1 := hC.drew.put 0 (acc.take k) (by omega)
        have e9 := hC.c9
        have e10 := hC.c10
        clear hC hmn
        go_upto_region 8 with (go_region)
        clear hp1 e9 e10
        generalize W.drew.setCells b 0 (u16s (acc.take k)) = W1 at hC1 ⊢
        clear W s1 s2
        have hPad : Aside0 (cs8 (lay (lay (fun _ => 0) 0 (acc.take k)) (8 - (acc.length - k)) (acc.drop k)) = cs8 (pad8 (acc.take k ++ List.replicate (8 - acc.length) 0 ++ acc.drop k))) := ⟨cs8_congr fun i hi => by
          unfold lay pad8
          rw [List.length_drop, hlt, List.getD_eq_getElem?_getD, List.getD_eq_getElem?_getD, List.getD_eq_getElem?_getD, List.append_assoc, List.getElem?_append, hlt]
          by_cases h1 : i < k
          · rw [if_neg (by omega), if_pos (by omega), if_pos h1, Nat.sub_zero]
          · rw [if_neg h1, List.getElem?_append, List.length_replicate]
            by_cases h2 : i - k < 8 - acc.length
            · rw [if_neg (by omega), if_neg (by omega), if_pos h2, List.getElem?_replicate, if_pos h2]; rfl
            · rw [if_pos (by omega), if_neg h2]
              congr 2
              omega⟩
        have e9 := hC1.c9
        have e10 := hC1.c10
        have HM : ∃ W2, Aside0 (CW w W2 b (pad8 acc) (lay (lay (fun _ => 0) 0 (acc.take k)) (8 - (acc.length - k)) (acc.drop k)) acc.length k) ∧ ∃ (a1 a2 : Addr) (l1 c1 l2 c2 : Nat),
            (∀ W, (Instr.sliceAt 23 (.pointer (some ⟨b, 0, none⟩)) (some (.int .i64 (8 - ((acc.length : Int) - (k : Int))))) none none).run Tryd.prog W = .ok (.slice (some a1) l1 c1) W) ∧
            (∀ W, (Instr.sliceAt 23 (.pointer (some ⟨w.heap.size + 1, 1, none⟩)) (some (.int .i64 (k : Int))) (some (.int .i64 (acc.length : Int))) none).run Tryd.prog W = .ok (.slice (some a2) l2 c2) W) ∧
            (Builtin.copy_ #[37, 37] 3 #[.slice (some a1) l1 c1, .slice (some a2) l2 c2]).run Tryd.prog W1.drew = .ok (goInt ((acc.length - k : Nat) : Int)) W2 := by
          have s4 := sl_lh (w.heap.size + 1) 1 k acc.length hk (by omega)
          by_cases hkn : k = acc.length
          · refine ⟨W1.drew, ⟨?_⟩, ⟨b, 0, none⟩, _, 0, 0, _, _, (fun W => ?_), s4, ?_⟩
            · have := hC1.drew.put (8 - (acc.length - k)) (acc.drop k) (by simp; omega)
              rw [List.drop_eq_nil_of_le (by omega)] at this ⊢
              exact this
            · rw [show 8 - ((acc.length : Int) - (k : Int)) = 8 by omega]
              exact sl_l8 b W
            · rw [show acc.length - k = 0 by omega]
              exact run_copy_none (P := Tryd.prog) W1.drew 37 37 3 22 _ _ _ _ _ _ Tryd.underlying37 (by kernel_rfl) rfl
          · have hcp := hC1.drew.copy (8 - (acc.length - k)) (8 - (8 - (acc.length - k))) (8 - (8 - (acc.length - k))) k (acc.length - k) (8 - k) (acc.drop k) (by rw [List.length_drop, show 8 - (8 - (acc.length - k)) = acc.length - k by omega]; exact (Nat.min_self _).symm) (by simp; omega) (by simp; omega) (fun j hj => by unfold pad8; simp [List.getD_eq_getElem?_getD])
            rw [List.length_drop] at hcp
            refine ⟨_, ⟨hC1.drew.put (8 - (acc.length - k)) (acc.drop k) (by simp; omega)⟩, _, _, _, _, _, _, (fun W => ?_), s4, hcp⟩
            rw [show 8 - ((acc.length : Int) - (k : Int)) = ((8 - (acc.length - k) : Nat) : Int) by omega]
            exact sl_l b _ (by omega) W
        obtain ⟨W2, hC2, a1, a2, l1, c1, l2, c2, s3, s4, hcp⟩ := HM
        clear hC1
        go_upto_region 9 with (go_region)
        clear hcp s3 s4 e9 e10
        have hrA := hC2.out.ar
        have HrA := Aside0.mk hrA.range
        rw [hPad.out] at HrA
        have HR := HS.out
        generalize acc.take k ++ List.replicate (8 - acc.length) 0 ++ acc.drop k = L at HrA HR
        clear hrA
        go_wp2_with (first | (with_reducible refine wpList_load_mid rfl 23 _ rfl b 0 rfl (cs8 (pad8 L)) _ HrA.out Tryd.underlying23 rfl (info8c _) ?_) | (with_reducible refine wpList_store_mid rfl 23 _ _ rfl w.heap.size 0 (cs8 (pad8 L)).toArray rfl rfl (th_8 hC2.out.r0 _) (info8a _) (one8 _) ?_))
        refine bodyPost_ret (v := .tuple #[.agg (cs8 (pad8 L)).toArray, .int .i64 0]) (results_ct (g := w.heap.size) (fn := Tryd.f8) (p := 2) (u := 3) rfl _ _ (cs8 (pad8 L)) _ (by simp [Act.put]) (hC2.out.r0.store _) Tryd.underlying23 rfl (info8c _) (by simp [Act.put])) rfl ⟨below_cells (Nat.le_refl _) _ _ hC2.out.bel, by rw [HR]; rfl⟩
end Go.Proofs.YtbgmepfejbbpaaaDoor.Pr
