import Derived.Test.YtbeffjdplelojaaPrA
import Derived.WalkSpells
import Derived.Lib.Hide
import Derived.Deep.RegionHeld3
import Derived.Deep.MidRow
import Derived.WalkLawsBesides
namespace Go.Proofs.Ytbeffjdplelojaa.Pr
open Go.RowKit Go.Proofs.YtbeffjdplelojaaW.PrintWords Go.Proofs.YtbeffjdplelojaaW.PrintLast Go.Proofs.YtbeffjdplelojaaW.PrintMore
set_option linter.unusedVariables false
set_option linter.unusedSimpArgs false

/-- What the table makes of the first n bits of a sum. -/
def tabOf (l : List Int) (r : Int) : Nat → Int
  | 0 => 0
  | n + 1 => if Go.bits .and .u32 (r / 2 ^ n) 1 = 1 then Go.bits .xor .u32 (tabOf l r n) (l.getD n 0) else tabOf l r n
theorem tabOf_yes {l : List Int} {r : Int} {n : Nat} (h : (Go.bits .and .u32 (r / 2 ^ n) 1 == 1) = true) : Go.bits .xor .u32 (tabOf l r n) (l[n]?.getD 0) = tabOf l r (n + 1) := by
  rw [tabOf, if_pos (by simpa using h)]; simp
theorem tabOf_no {l : List Int} {r : Int} {n : Nat} (h : (Go.bits .and .u32 (r / 2 ^ n) 1 == 1) = false) : tabOf l r n = tabOf l r (n + 1) := by
  rw [tabOf, if_neg (by simpa using h)]
theorem nums_at {k : IntKind} {l : List Int} {n i : Nat} (H : Hid (l.length = n)) (h : i < n) : (nums k l)[i]? = some (.int k (l[i]?.getD 0)) := by
  have h' : i < l.length := by rw [H.out]; exact h
  simp [nums, List.getElem?_eq_getElem h']

set_option maxHeartbeats 1000000 in
theorem crc_table_of.calls (l : List Int) (a1 : Int) (hl : l.length = 32) (w : World) :
    Calls Try.prog 20 #[.agg (nums .u32 l).toArray, .int .u32 a1] w fun e w' => e = .returned (.int .u32 (tabOf l a1 32)) ∧ Below w.heap.size w w' := by
  have HL := Lib.hid hl
  clear hl
  go_enter Try.func20, Try.ntmps20
  go_wp2_with fail
  go_loop [5, 7] (fun x i => ∃ k : Nat, k ≤ 32 ∧ i = .int .i64 k ∧ x = .int .u32 (tabOf l a1 k)) (fun _ i => 32 - (intOf i).toNat)
  case atStart => exact ⟨0, by omega, rfl, rfl⟩
  case round =>
    obtain ⟨k, hk, rfl, rfl⟩ := hrel
    by_cases hlt : k < 32
    · have hc := nums_at (k := .u32) HL hlt
      go_wp2
      · have ht : (bits BinOp.and IntKind.u32 (a1 / 2 ^ k) 1 == 1) = true := by assumption
        go_round
        case rel => exact ⟨k + 1, by omega, by go_num, by rw [← tabOf_yes ht]⟩
        case measure => simp [intOf]; omega
      · have ht : (bits BinOp.and IntKind.u32 (a1 / 2 ^ k) 1 == 1) = false := by assumption
        go_round
        case rel => exact ⟨k + 1, by omega, by go_num, by rw [← tabOf_no ht]⟩
        case measure => simp [intOf]; omega
    · obtain rfl : k = 32 := by omega
      go_wp2
      go_ret
      exact ⟨rfl, (Below.refl _ _).alloc (Nat.le_refl _) _⟩

theorem info47 : (Try.prog.info? 47).map (·.size) = some 32 := by kernel_rfl

def twoOf (l : List Int) (k : Nat) : List Int := (l.take k).map (fun r => tabOf l r 32) ++ List.replicate (32 - k) 0
theorem twoOf_length {l : List Int} (hl : l.length = 32) {k : Nat} (hk : k ≤ 32) : (twoOf l k).length = 32 := by simp [twoOf]; omega
theorem twoOf_set {l : List Int} (hl : l.length = 32) {k : Nat} (hk : k < 32) : (twoOf l k).set k (tabOf l (l[k]?.getD 0) 32) = twoOf l (k + 1) := by
  apply List.ext_getElem?
  intro i
  have hk' : k < l.length := by omega
  simp only [twoOf, List.getElem?_set, List.getElem?_append, List.length_map, List.length_take, List.length_append, List.length_replicate, List.getElem?_map, List.getElem?_take, List.getElem?_replicate]
  by_cases h1 : k = i
  · subst h1
    simp [hl, List.getElem?_eq_getElem hk', show min k 32 + (32 - k) = 32 by omega, hk, show k < min (k + 1) 32 by omega]
  · by_cases h2 : i < k
    · simp [h1, hl, h2, show i < min k 32 by omega, show i < min (k + 1) 32 by omega, show i < k + 1 by omega]
    · simp [h1, hl, show ¬ i < min k 32 by omega, show ¬ i < min (k + 1) 32 by omega]
      by_cases h3 : i < 32
      · rw [if_pos (by omega), if_pos (by omega)]
      · rw [if_neg (by omega), if_neg (by omega)]

theorem rangeAt_below {B b o : Nat} {cs : List Value} {w w' : World} (h : w.rangeAt b o cs) (hb : Below B w w') (hB : b < B) : w'.rangeAt b o cs := fun j v hv => (hb.cell (p := ⟨b, o + j, none⟩) hB).trans (h j v hv)
theorem there_below {B b o n : Nat} {w w' : World} (h : w.there b o n) (hb : Below B w w') (hB : b < B) : w'.there b o n := fun j hj => by
  rw [hb.cell (p := ⟨b, o + j, none⟩) hB, hb.frozen (p := ⟨b, o + j, none⟩) hB]; exact h j hj
theorem there_setCell {b o n : Nat} {w : World} (h : w.there b o n) (g k : Nat) (v : Value) : (w.setCell ⟨g, k, none⟩ v).there b o n := fun j hj => by
  refine ⟨?_, by rw [World.frozen?_setCell]; exact (h j hj).2⟩
  obtain ⟨x, hx⟩ := Option.isSome_iff_exists.1 (h j hj).1
  obtain ⟨x', hx'⟩ := cell?_setCell_some (w := w) (p := ⟨g, k, none⟩) (x := v) (q := ⟨b, o + j, none⟩) (v := x) hx
  rw [hx']; rfl

/-- The round's own memory: the table, the result's place, the new table but for its place k. -/
structure TwA (w wr : World) (l : List Int) (k : Nat) : Prop where
  ra : wr.rangeAt w.heap.size 0 (nums .u32 l)
  rc : ∀ j v, j ≠ k → (nums .u32 (twoOf l k))[j]? = some v → wr.cell? ⟨w.heap.size + 1 + 1, j, none⟩ = some v
  th : wr.there (w.heap.size + 1 + 1) 0 32
  tr : wr.there (w.heap.size + 1) 0 32
  sz : w.heap.size + 1 + 1 < wr.heap.size
  bel : Below w.heap.size w wr
theorem nums_one (k : IntKind) (l : List Int) : (nums k l).toArray.all (·.oneCell') = true := all_oneCell_toArray fun v hv => by
  obtain ⟨x, _, rfl⟩ := List.mem_map.1 hv
  rfl
theorem below_cells {B b : Nat} {a : World} (hb : B ≤ b) : ∀ (vs : List Value) (o : Nat) {w : World}, Below B a w → Below B a (w.setCells b o vs)
  | [], _, _, h => h
  | v :: vs, o, w, h => by
    simp only [World.setCells]
    exact below_cells hb vs (o + 1) (h.setCell (by simpa using hb) v)
theorem size_cells (b : Nat) : ∀ (vs : List Value) (o : Nat) (w : World), (w.setCells b o vs).heap.size = w.heap.size
  | [], _, _ => rfl
  | v :: vs, o, w => by
    simp only [World.setCells]
    rw [size_cells b vs (o + 1)]
    simp
theorem results_cell_mid {fn : Func} {p : Tmp} {ty : TypeId} (h : fn.results = #[.cell p ty]) (tmps : Array Value) (w : World) (g : Nat) (cs : List Value) (d : TypeDesc)
    (hp : tmps.getD p undef = .pointer (some ⟨g, 0, none⟩)) (hc : w.rangeAt g 0 cs)
    (hu : Try.prog.underlying ty = some d) (hd : d.isRow = true) (hi : (Try.prog.info? ty).map (·.size) = some cs.length) :
    (results fn tmps).run Try.prog w = .ok (.agg cs.toArray) w := by
  have hp' : tmps[p]?.getD undef = .pointer (some ⟨g, 0, none⟩) := by simpa using hp
  simp [results, h, hp', asAddr, run_loadVar_mid w g 0 ty cs d hc hu hd hi]
structure TwInv (w wr : World) (l : List Int) (k : Nat) : Prop where
  a : TwA w wr l k
  c : ∀ v, (nums .u32 (twoOf l k))[k]? = some v → wr.cell? ⟨w.heap.size + 1 + 1, k, none⟩ = some v
theorem TwA.keep {w wr w1 : World} {l : List Int} {k : Nat} (h : TwA w wr l k) (hb : Below wr.heap.size wr w1) : TwA w w1 l k :=
  ⟨rangeAt_below h.ra hb (by have := h.sz; omega), fun j v hj hv => (hb.cell (p := ⟨w.heap.size + 1 + 1, j, none⟩) h.sz).trans (h.rc j v hj hv), there_below h.th hb h.sz, there_below h.tr hb (by have := h.sz; omega), Nat.lt_of_lt_of_le h.sz hb.size, below_then h.bel (by have := h.sz; omega) hb⟩
theorem TwA.drew {w wr : World} {l : List Int} {k : Nat} (h : TwA w wr l k) : TwA w wr.drew l k := h.keep (below_drew (Below.refl _ _))
theorem TwA.facts {w wr : World} {l : List Int} {k : Nat} (h : TwA w wr l k) (hl : l.length = 32) (hk : k < 32) :
    wr.rangeAt w.heap.size 0 (nums .u32 l) ∧ wr.cell? ⟨w.heap.size, k, none⟩ = some (.int .u32 (l[k]?.getD 0)) ∧ TwA w wr l k :=
  ⟨h.ra, by have := h.ra k _ (nums_at (Lib.hid hl) hk); rwa [Nat.zero_add] at this, h⟩
theorem TwA.place {w wr : World} {l : List Int} {k : Nat} (h : TwA w wr l k) (hk : k < 32) : (∃ x, wr.cell? ⟨w.heap.size + 1 + 1, k, none⟩ = some x) ∧ wr.frozen? ⟨w.heap.size + 1 + 1, k, none⟩ = false := by
  have := h.th k hk
  rw [Nat.zero_add] at this
  exact ⟨Option.isSome_iff_exists.1 this.1, this.2⟩
theorem TwA.set {w wr : World} {l : List Int} {k : Nat} (h : TwA w wr l k) (v : Value) : TwA w (wr.setCell ⟨w.heap.size + 1 + 1, k, none⟩ v) l k :=
  ⟨fun j u hu => by rw [World.cell?_setCell_far _ _ _ _ (by simp; omega)]; exact h.ra j u hu,
   fun j u hj hu => by rw [World.cell?_setCell_other _ _ _ _ (by simp [hj])]; exact h.rc j u hj hu,
   there_setCell h.th _ _ _, there_setCell h.tr _ _ _, by simpa using h.sz, h.bel.setCell (by simp; omega) _⟩
theorem TwA.done {w wr : World} {l : List Int} {k : Nat} (h : TwA w wr l k) (hl : l.length = 32) (hk : k < 32) : TwInv w (wr.setCell ⟨w.heap.size + 1 + 1, k, none⟩ (.int .u32 (tabOf l (l[k]?.getD 0) 32))) l (k + 1) := by
  have hs := h.set (.int .u32 (tabOf l (l[k]?.getD 0) 32))
  have all : ∀ j v, (nums .u32 (twoOf l (k + 1)))[j]? = some v → (wr.setCell ⟨w.heap.size + 1 + 1, k, none⟩ (.int .u32 (tabOf l (l[k]?.getD 0) 32))).cell? ⟨w.heap.size + 1 + 1, j, none⟩ = some v := by
    intro j v hv
    rw [← twoOf_set hl hk] at hv
    by_cases e : j = k
    · subst e
      obtain ⟨x, hx⟩ := (h.place hk).1
      have hlen := twoOf_length hl (Nat.le_of_lt hk)
      simp [nums, List.getElem?_set, hlen, hk] at hv
      subst hv
      exact World.cell?_setCell_same _ _ _ hx
    · refine hs.rc j v e ?_
      simpa [nums, List.getElem?_set, Ne.symm e] using hv
  exact ⟨⟨hs.ra, fun j v _ hv => all j v hv, hs.th, hs.tr, hs.sz, hs.bel⟩, fun v hv => all (k + 1) v hv⟩
theorem TwInv.whole {w wr : World} {l : List Int} {k : Nat} (h : TwInv w wr l k) : wr.rangeAt (w.heap.size + 1 + 1) 0 (nums .u32 (twoOf l k)) := fun j v hv => by
  rw [Nat.zero_add]
  by_cases e : j = k
  · subst e; exact h.c v hv
  · exact h.a.rc j v e hv
theorem zero_range (w : World) (n : Nat) : (w.alloc (.cells (Array.replicate n (.int .u32 0)) 47)).rangeAt w.heap.size 0 (nums .u32 (List.replicate n 0)) := fun j v hv => by
  rw [cell_of_row _ _ _ _ _ _ (heap_alloc_new w _)]
  simpa [nums, Array.getElem?_replicate, List.getElem?_replicate] using hv
theorem row_there (w : World) (cs : Array Value) : (w.alloc (.cells cs 47)).there w.heap.size 0 cs.size := fun j hj => by
  rw [cell_of_row _ _ _ _ _ _ (heap_alloc_new w _), frozen_of_row _ _ _ _ _ (heap_alloc_new w _)]
  simp [hj]
theorem TwInv.start (w : World) (l : List Int) :
    TwInv w (((w.alloc (.cells (nums .u32 l).toArray 47)).alloc (.cells (Array.replicate 32 (.int .u32 0)) 47)).alloc (.cells (Array.replicate 32 (.int .u32 0)) 47)) l 0 := by
  have hu := zero_range ((w.alloc (.cells (nums .u32 l).toArray 47)).alloc (.cells (Array.replicate 32 (.int .u32 0)) 47)) 32
  have ht := row_there ((w.alloc (.cells (nums .u32 l).toArray 47)).alloc (.cells (Array.replicate 32 (.int .u32 0)) 47)) (Array.replicate 32 (.int .u32 0))
  have hr := World.there_alloc (row_there (w.alloc (.cells (nums .u32 l).toArray 47)) (Array.replicate 32 (.int .u32 0))) (.cells (Array.replicate 32 (.int .u32 0)) 47)
  have ha : (w.alloc (.cells (nums .u32 l).toArray 47)).rangeAt w.heap.size 0 (nums .u32 l) := fun j v hv => by
    rw [cell_of_row _ _ _ _ _ _ (heap_alloc_new w _)]
    simpa using hv
  simp only [World.size_alloc, Array.size_replicate] at hu ht hr
  have hz : twoOf l 0 = List.replicate 32 0 := by simp [twoOf]
  refine ⟨⟨World.rangeAt_alloc (World.rangeAt_alloc ha _) _, fun j v _ hv => ?_, ht, hr, by simp, (((Below.refl _ _).alloc (Nat.le_refl _) _).alloc (by simp) _).alloc (by simp; omega) _⟩, fun v hv => ?_⟩
  · rw [hz] at hv; have := hu j v hv; rwa [Nat.zero_add] at this
  · rw [hz] at hv; have := hu 0 v hv; rwa [Nat.zero_add] at this

set_option maxHeartbeats 1000000 in
theorem crc_table_twice.calls (l : List Int) (hl : l.length = 32) (w : World) :
    Calls Try.prog 21 #[.agg (nums .u32 l).toArray] w fun e w' => e = .returned (.agg (nums .u32 (twoOf l 32)).toArray) ∧ Below w.heap.size w w' := by
  have HL := Lib.hid hl
  have hi : (Try.prog.info? 47).map (·.size) = some (nums .u32 l).length := by rw [info47]; simp [nums, hl]
  have HI := Lib.hid hi
  clear hl hi
  go_enter Try.func21, Try.ntmps21
  go_wp2_with fail
  have H0 := TwInv.start w l
  go_loopw [5] (fun i wr => ∃ k : Nat, k ≤ 32 ∧ i = .int .i64 k ∧ TwInv w wr l k) (fun i _ => 32 - (intOf i).toNat)
  case atStart => exact ⟨0, by omega, rfl, H0⟩
  case round =>
    clear H0
    obtain ⟨k, hk, rfl, HT⟩ := hrel
    by_cases hlt : k < 32
    · have hu := Try.underlying47
      have hi := HI.out
      go_wp2_with fail
      go_region_held3 (fun w' => w'.rangeAt w.heap.size 0 (nums .u32 l) ∧ w'.cell? ⟨w.heap.size, k, none⟩ = some (.int .u32 (l[k]?.getD 0)) ∧ TwA w w' l k) (first | exact HT.a.drew.facts HL.out hlt | exact (HT.a.drew.keep (by assumption)).facts HL.out hlt | exact ((HT.a.drew.keep (by assumption)).set _).facts HL.out hlt) (first | (go_at_call 20; refine (crc_table_of.calls l _ HL.out _).mono ?_; rintro e w1 ⟨rfl, hb1⟩; obtain ⟨⟨x0, hx0⟩, hf0⟩ := (HT.a.drew.keep hb1).place hlt))
      have HD := (HT.a.drew.keep hb1).done HL.out hlt
      go_wp2_with fail
      go_roundw
      case rel => exact ⟨k + 1, by omega, by go_num, HD⟩
      case measure => simp [intOf]; omega
    · obtain rfl : k = 32 := by omega
      have hlen : (nums .u32 (twoOf l 32)).length = 32 := by simp [nums, twoOf_length HL.out]
      have hsz : (Try.prog.info? 47).map (·.size) = some (nums .u32 (twoOf l 32)).length := by rw [info47, hlen]
      have hsz2 : (Try.prog.info? 47).map (·.size) = some (nums .u32 (twoOf l 32)).toArray.size := by rw [info47]; simp [hlen]
      have hth : wr.there (w.heap.size + 1) 0 (nums .u32 (twoOf l 32)).toArray.size := by simp [hlen]; exact HT.a.tr
      have HS := Lib.hid hlen
      have HH := Lib.hid hth
      clear hth
      have HZ := Lib.hid hsz
      have HZ2 := Lib.hid hsz2
      clear hlen hsz hsz2
      go_wp2_with (first | (with_reducible refine wpList_load_mid rfl 47 _ rfl (w.heap.size + 1 + 1) 0 rfl (nums .u32 (twoOf l 32)) _ HT.whole Try.underlying47 rfl HZ.out ?_) | (with_reducible refine wpList_store_mid rfl 47 _ _ rfl (w.heap.size + 1) 0 (nums .u32 (twoOf l 32)).toArray rfl rfl HH.out HZ2.out (nums_one _ _) ?_))
      refine bodyPost_ret (v := .agg (nums .u32 (twoOf l 32)).toArray) (results_cell_mid (g := w.heap.size + 1) rfl _ _ _ _ (by simp [Act.put]) (World.rangeAt_setCells_same _ _ _ _ (by rw [HS.out]; exact HT.a.tr)) Try.underlying47 rfl HZ.out) rfl ⟨rfl, ?_⟩
      exact below_cells (Nat.le_succ _) _ _ HT.a.bel

/-! ### Joined -/
def st1 (x : Int) : Int := Go.bits .xor .u32 (x / 2) ((3988292384 * (Go.bits .and .u32 x 1)) % 4294967296)
def st8 (x : Int) : Int := st1 (st1 (st1 (st1 (st1 (st1 (st1 (st1 x)))))))
theorem steps_is (a : Int) : crc_steps.f 9 a = some (st8 a) := by
  simp [crc_steps.f, crc_steps.l0, wrap64, st8, st1]
theorem steps_more (k : Nat) (a : Int) (hk : 9 ≤ k) : crc_steps.f k a = some (st8 a) := by
  obtain ⟨k, rfl⟩ : ∃ m, k = m + 9 := ⟨k - 9, by omega⟩
  simp [crc_steps.f, crc_steps.l0, wrap64, st8, st1]
theorem steps_any (a : Int) (w : World) : Calls Try.prog 18 #[.int .u32 a] w fun e w' => e = .returned (.int .u32 (st8 a)) ∧ Below w.heap.size w w' :=
  (crc_steps.calls 9 a _ w (steps_is a)).mono fun _ _ ⟨he, hd⟩ => ⟨he, hd.below⟩

def tab0 (k : Nat) : List Int := (List.range k).map (fun i => st8 (2 ^ i % 4294967296)) ++ List.replicate (32 - k) 0
theorem tab0_length {k : Nat} (hk : k ≤ 32) : (tab0 k).length = 32 := by simp [tab0]; omega
theorem tab0_set {k : Nat} (hk : k < 32) : (tab0 k).set k (st8 (2 ^ k % 4294967296)) = tab0 (k + 1) := by
  apply List.ext_getElem?
  intro i
  simp only [tab0, List.getElem?_set, List.getElem?_append, List.length_map, List.length_range, List.length_append, List.length_replicate, List.getElem?_map, List.getElem?_replicate]
  by_cases h1 : k = i
  · subst h1
    simp [show k < k + (32 - k) by omega]
  · by_cases h2 : i < k
    · simp [h1, h2, show i < k + 1 by omega]
    · simp [h1, h2, show ¬ i < k + 1 by omega]
      by_cases h3 : i < 32
      · rw [if_pos (by omega), if_pos (by omega)]
      · rw [if_neg (by omega), if_neg (by omega)]

def jn : Nat → List Int → Int → Int → Int
  | 0, _, a, _ => a
  | k + 1, t, a, n => if 0 < n then jn k (twoOf t 32) (if Go.bits .and .i64 n 1 = 1 then tabOf t a 32 else a) (n / 2) else a
def crc_Joined.f (a0 a1 a2 : Int) : Option (Int × Int) := if a2 < 0 then some (0, 2) else some (Go.bits .xor .u32 (jn a2.toNat (tab0 32) a0 a2) a1, 0)

/-- A row of cells, whole; and all of it but one. -/
structure Row (w : World) (g : Nat) (cs : List Value) : Prop where
  at_ : w.rangeAt g 0 cs
  th : w.there g 0 cs.length
structure RowBut (w : World) (g : Nat) (cs : List Value) (k : Nat) : Prop where
  at_ : ∀ j v, j ≠ k → cs[j]? = some v → w.cell? ⟨g, j, none⟩ = some v
  th : w.there g 0 cs.length
theorem Row.below {w w1 : World} {g : Nat} {cs : List Value} (h : Row w g cs) (hb : Below w.heap.size w w1) (hg : g < w.heap.size) : Row w1 g cs := ⟨rangeAt_below h.at_ hb hg, there_below h.th hb hg⟩
theorem RowBut.below {w w1 : World} {g k : Nat} {cs : List Value} (h : RowBut w g cs k) (hb : Below w.heap.size w w1) (hg : g < w.heap.size) : RowBut w1 g cs k :=
  ⟨fun j v hj hv => (hb.cell (p := ⟨g, j, none⟩) hg).trans (h.at_ j v hj hv), there_below h.th hb hg⟩
theorem Row.but {w : World} {g : Nat} {cs : List Value} (h : Row w g cs) (k : Nat) : RowBut w g cs k := ⟨fun j v _ hv => by have := h.at_ j v hv; rwa [Nat.zero_add] at this, h.th⟩
theorem RowBut.set {w : World} {g k : Nat} {cs : List Value} (h : RowBut w g cs k) (v : Value) : RowBut (w.setCell ⟨g, k, none⟩ v) g cs k :=
  ⟨fun j u hj hu => by rw [World.cell?_setCell_other _ _ _ _ (by simp [hj])]; exact h.at_ j u hj hu, there_setCell h.th _ _ _⟩
theorem RowBut.place {w : World} {g k : Nat} {cs : List Value} (h : RowBut w g cs k) (hk : k < cs.length) : (∃ x, w.cell? ⟨g, k, none⟩ = some x) ∧ w.frozen? ⟨g, k, none⟩ = false := by
  have := h.th k hk
  rw [Nat.zero_add] at this
  exact ⟨Option.isSome_iff_exists.1 this.1, this.2⟩
theorem RowBut.done {w : World} {g k : Nat} {cs : List Value} (h : RowBut w g cs k) (hk : k < cs.length) (v : Value) : Row (w.setCell ⟨g, k, none⟩ v) g (cs.set k v) := by
  refine ⟨fun j u hu => ?_, by rw [List.length_set]; exact (h.set v).th⟩
  rw [Nat.zero_add]
  by_cases e : j = k
  · subst e
    obtain ⟨x, hx⟩ := (h.place hk).1
    simp [List.getElem?_set, hk] at hu
    subst hu
    exact World.cell?_setCell_same _ _ _ hx
  · exact (h.set v).at_ j u e (by simpa [List.getElem?_set, Ne.symm e] using hu)
theorem Row.all {w : World} {g : Nat} {cs vs : List Value} (h : Row w g cs) (hl : vs.length = cs.length) : Row (w.setCells g 0 vs) g vs :=
  ⟨World.rangeAt_setCells_same _ _ _ _ (by rw [hl]; exact h.th), World.there_setCells (by rw [hl]; exact h.th) _ _ _⟩
theorem Row.new (w : World) (cs : List Value) : Row (w.alloc (.cells cs.toArray 47)) w.heap.size cs :=
  ⟨fun j v hv => by rw [cell_of_row _ _ _ _ _ _ (heap_alloc_new w _)]; simpa using hv, by have := row_there w cs.toArray; simpa using this⟩

theorem lt_two_pow_int {n : Int} (h : 0 ≤ n) : n < 2 ^ n.toNat := by
  have := @Nat.lt_two_pow_self n.toNat
  have e : ((2 ^ n.toNat : Nat) : Int) = (2 : Int) ^ n.toNat := by simp
  omega
theorem half_lt {n : Int} {k : Nat} (h : n < 2 ^ (k + 1)) : n / 2 < 2 ^ k := by
  have : (2 : Int) ^ (k + 1) = 2 ^ k * 2 := by rw [Int.pow_succ]
  omega
theorem twoOf32_length {l : List Int} (hl : l.length = 32) : (twoOf l 32).length = 32 := twoOf_length hl (Nat.le_refl _)
theorem size47 {l : List Int} (hl : l.length = 32) : (Try.prog.info? 47).map (·.size) = some (nums .u32 l).length := by rw [info47, nums_length, hl]
theorem size47a {l : List Int} (hl : l.length = 32) : (Try.prog.info? 47).map (·.size) = some (nums .u32 l).toArray.size := by rw [info47, List.size_toArray, nums_length, hl]
theorem Row.th_of {w : World} {g : Nat} {l l' : List Int} (h : Row w g (nums .u32 l)) (hl : l.length = 32) (hl' : l'.length = 32) : w.there g 0 (nums .u32 l').toArray.size := by
  have := h.th
  rw [nums_length, hl] at this
  rwa [List.size_toArray, nums_length, hl']
theorem Row.next {w : World} {g : Nat} {l l' : List Int} (h : Row w g (nums .u32 l)) (hl : l.length = 32) (hl' : l'.length = 32) : Row (w.setCells g 0 (nums .u32 l')) g (nums .u32 l') := h.all (by rw [nums_length, nums_length, hl, hl'])
set_option maxHeartbeats 1000000 in
theorem crc_Joined.calls (a0 a1 a2 : Int) (r1 r2 : Int) (w : World) (h : crc_Joined.f a0 a1 a2 = some (r1, r2)) :
    Calls Try.prog 12 #[.int .u32 a0, .int .u32 a1, .int .i64 a2] w fun e w' => e = .returned (.tuple #[.int .u32 r1, .int .i64 r2]) ∧ Below w.heap.size w w' := by
  unfold crc_Joined.f at h
  by_cases hn : a2 < 0
  · rw [if_pos hn] at h
    obtain ⟨rfl, rfl⟩ := Prod.mk.inj (Option.some.inj h)
    go_enter Try.func12, Try.ntmps12
    go_wp2
    go_ret2
    exact ⟨rfl, Below.refl _ _⟩
  · rw [if_neg hn] at h
    obtain ⟨rfl, rfl⟩ := Prod.mk.inj (Option.some.inj h)
    clear h
    have h0 : 0 ≤ a2 := by omega
    go_enter Try.func12, Try.ntmps12
    go_wp2_with fail
    have H0 : Row (w.alloc (.cells (Array.replicate 32 (.int .u32 0)) 47)) w.heap.size (nums .u32 (tab0 0)) := Row.new w (nums .u32 (tab0 0))
    go_loopw [12] (fun i wr => ∃ k : Nat, k ≤ 32 ∧ i = .int .i64 k ∧ Row wr w.heap.size (nums .u32 (tab0 k)) ∧ w.heap.size < wr.heap.size ∧ Below w.heap.size w wr) (fun i _ => 32 - (intOf i).toNat)
    case atStart => exact ⟨0, by omega, rfl, H0, by simp, (Below.refl _ _).alloc (Nat.le_refl _) _⟩
    case round =>
      clear H0
      obtain ⟨k, hk, rfl, HT, hsz, hbel⟩ := hrel
      by_cases hlt : k < 32
      · have HR := HT.but k
        have hlen : k < (nums .u32 (tab0 k)).length := by rw [nums_length, tab0_length hk]; exact hlt
        go_wp2_with (first | (go_at_call 18; refine (steps_any _ _).mono ?_; rintro e w1 ⟨rfl, hb1⟩; obtain ⟨⟨x0, hx0⟩, hf0⟩ := (HR.below hb1 hsz).place hlen))
        have HD : Row (w1.setCell ⟨w.heap.size, k, none⟩ (.int .u32 (st8 (2 ^ k % 4294967296)))) w.heap.size (nums .u32 (tab0 (k + 1))) := by
          have := (HR.below hb1 hsz).done hlen (.int .u32 (st8 (2 ^ k % 4294967296)))
          rw [← tab0_set hlt]
          simpa [nums] using this
        have hsz1 := Nat.lt_of_lt_of_le hsz hb1.size
        go_roundw
        case rel => exact ⟨k + 1, by omega, by go_num, HD, by simpa using hsz1, (below_then hbel (by omega) hb1).setCell (by simp) _⟩
        case measure => simp [intOf]; omega
      · obtain rfl : k = 32 := by omega
        go_wp2_with fail
        simp only [show ((32 : Nat) : Int) = 32 from rfl]
        have hs := hbel.size
        go_loopw [0, 2] (fun a n wr => ∃ (t : List Int) (av nv : Int) (k : Nat), a = .int .u32 av ∧ n = .int .i64 nv ∧ 0 ≤ nv ∧ nv < 2 ^ k ∧ t.length = 32 ∧ Row wr w.heap.size (nums .u32 t) ∧ w.heap.size < wr.heap.size ∧ Below w.heap.size w wr ∧ Hid (jn k t av nv = jn a2.toNat (tab0 32) a0 a2)) (fun _ n _ => (intOf n).toNat)
        case atStart => exact ⟨tab0 32, a0, a2, a2.toNat, rfl, rfl, h0, lt_two_pow_int h0, tab0_length (by omega), HT, hsz, hbel, Lib.hid rfl⟩
        case round =>
          clear HT hsz hbel hs
          obtain ⟨t, av, nv, k, rfl, rfl, hn0, hnk, htl, HT, hsz, hbel, HJ⟩ := hrel
          have HL := Lib.hid htl
          clear htl
          by_cases hp : 0 < nv
          · cases k with
            | zero => exact absurd hnk (by simp; omega)
            | succ k =>
              have hk2 := half_lt hnk
              have hJ := HJ.out
              rw [jn, if_pos hp] at hJ
              have h20 : 0 ≤ nv / 2 := by omega
              by_cases hb : Go.bits .and .i64 nv 1 = 1
              · rw [if_pos hb] at hJ
                have HJ2 := Lib.hid hJ
                have hb' : (Go.bits .and .i64 nv 1 == 1) = true := by simpa using hb
                clear hJ hb HJ hnk
                go_wp2_with (first | (with_reducible refine wpList_load_mid rfl 47 _ rfl w.heap.size 0 rfl (nums .u32 t) _ HT.at_ Try.underlying47 rfl (size47 HL.out) ?_) | (with_reducible refine wpList_load_mid rfl 47 _ rfl w.heap.size 0 rfl (nums .u32 t) _ HT1.at_ Try.underlying47 rfl (size47 HL.out) ?_) | (go_at_call 20; refine (crc_table_of.calls t _ HL.out _).mono ?_; rintro e w1 ⟨rfl, hb1⟩; have HT1 := HT.below hb1 hsz) | (go_at_call 21; refine (crc_table_twice.calls t HL.out _).mono ?_; rintro e w2 ⟨rfl, hb2⟩; have HT2 := HT1.below hb2 (Nat.lt_of_lt_of_le hsz hb1.size)) | (with_reducible refine wpList_store_mid rfl 47 _ _ rfl w.heap.size 0 (nums .u32 (twoOf t 32)).toArray rfl rfl (HT2.th_of HL.out (twoOf32_length HL.out)) (size47a (twoOf32_length HL.out)) (nums_one _ _) ?_))
                have hs1 := hb1.size
                have hs2 := hb2.size
                go_roundw
                case rel => exact ⟨twoOf t 32, _, nv / 2, k, rfl, rfl, h20, hk2, twoOf32_length HL.out, HT2.next HL.out (twoOf32_length HL.out), by rw [size_cells]; omega, below_cells (Nat.le_refl _) _ _ (below_then (below_then hbel (by omega) hb1) (by omega) hb2), HJ2⟩
                case measure => simp [intOf]; omega
              · rw [if_neg hb] at hJ
                have HJ2 := Lib.hid hJ
                have hb' : (Go.bits .and .i64 nv 1 == 1) = false := by simpa using hb
                clear hJ hb HJ hnk
                go_wp2_with (first | (with_reducible refine wpList_load_mid rfl 47 _ rfl w.heap.size 0 rfl (nums .u32 t) _ HT.at_ Try.underlying47 rfl (size47 HL.out) ?_) | (go_at_call 21; refine (crc_table_twice.calls t HL.out _).mono ?_; rintro e w2 ⟨rfl, hb2⟩; have HT2 := HT.below hb2 hsz) | (with_reducible refine wpList_store_mid rfl 47 _ _ rfl w.heap.size 0 (nums .u32 (twoOf t 32)).toArray rfl rfl (HT2.th_of HL.out (twoOf32_length HL.out)) (size47a (twoOf32_length HL.out)) (nums_one _ _) ?_))
                have hs2 := hb2.size
                go_roundw
                case rel => exact ⟨twoOf t 32, _, nv / 2, k, rfl, rfl, h20, hk2, twoOf32_length HL.out, HT2.next HL.out (twoOf32_length HL.out), by rw [size_cells]; omega, below_cells (Nat.le_refl _) _ _ (below_then hbel (by omega) hb2), HJ2⟩
                case measure => simp [intOf]; omega
          · have hJ : jn k t av nv = av := by cases k <;> simp [jn, hp]
            rw [HJ.out] at hJ
            have HJ2 := Lib.hid hJ
            clear hJ HJ
            go_wp2_with fail
            go_ret2
            exact ⟨by rw [HJ2.out]; rfl, hbel⟩
end Go.Proofs.Ytbeffjdplelojaa.Pr
