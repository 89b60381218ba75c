import Derived.Test.YtikhoooiklkbiaaDoorGnf
import Derived.Shelf.SlSortCmp.WholeK
import Derived.Shelf.Lay
import Derived.Ground.SlsfProg
namespace Go.Proofs
shelf_lay_g SlLaysF0.n6 Slsf 6 at Tryd 48 as Tryd.sortEd
end Go.Proofs
namespace Go.Proofs.YtikhoooiklkbiaaDoor.Pr
open Go.RowKit Go.Lib Go.Sort Go.Proofs.YtikhoooiklkbiaaDoorW.PrintWords Go.Proofs.YtikhoooiklkbiaaDoorW.PrintLast Go.Proofs.YtikhoooiklkbiaaDoorW.PrintMore
set_option linter.unusedVariables false
set_option linter.unusedSimpArgs false

/-! ### The edges put in order -/
instance : Inhabited Ed := ⟨⟨0, 0, 0⟩⟩
def encE (x : Ed) : List Value := [.int .i32 x.f0, .int .i64 x.f1, .int .i64 x.f2]
def cfE (x y : Ed) : Int := if x.f0 < y.f0 then -1 else if y.f0 < x.f0 then 1 else 0
theorem isNaN_any (x : Int) (W : World) : Calls Tryd.prog 55 #[.int .i32 x] W fun e w' => e = .returned (.bool false) ∧ w' = W := by
  go_enter Tryd.func55, Tryd.ntmps55
  go_wp2_with fail
  go_ret
  exact ⟨by simp, rfl⟩
theorem compare_any (x y : Int) (W : World) : Calls Tryd.prog 50 #[.int .i32 x, .int .i32 y] W fun e w' => e = .returned (.int .i64 (if x < y then -1 else if y < x then 1 else 0)) ∧ w' = W := by
  by_cases h1 : x < y
  · have h1b : decide (x < y) = true := decide_eq_true h1
    rw [if_pos h1]
    clear h1
    go_enter Tryd.func50, Tryd.ntmps50
    go_wp2_with (go_at_call 55; refine (isNaN_any _ _).mono ?_; rintro e w' ⟨rfl, rfl⟩)
    go_ret
    exact ⟨rfl, rfl⟩
  · have h1b : decide (x < y) = false := decide_eq_false h1
    rw [if_neg h1]
    by_cases h2 : y < x
    · have h2b : decide (y < x) = true := decide_eq_true h2
      rw [if_pos h2]
      clear h1 h2
      go_enter Tryd.func50, Tryd.ntmps50
      go_wp2_with (go_at_call 55; refine (isNaN_any _ _).mono ?_; rintro e w' ⟨rfl, rfl⟩)
      go_ret
      exact ⟨rfl, rfl⟩
    · have h2b : decide (y < x) = false := decide_eq_false h2
      rw [if_neg h2]
      clear h1 h2
      go_enter Tryd.func50, Tryd.ntmps50
      go_wp2_with (go_at_call 55; refine (isNaN_any _ _).mono ?_; rintro e w' ⟨rfl, rfl⟩)
      go_ret
      exact ⟨rfl, rfl⟩
theorem closE (x y : Ed) (W : World) : Calls Tryd.prog 49 #[.agg (encE x).toArray, .agg (encE y).toArray] W fun e w' => e = .returned (.int .i64 (cfE x y)) ∧ ∃ q os', w' = grow (W.drewN q) os' := by
  have hcon := fun W' => compare_any x.f0 y.f0 W'
  show Calls Tryd.prog 49 #[.agg #[.int .i32 x.f0, .int .i64 x.f1, .int .i64 x.f2], .agg #[.int .i32 y.f0, .int .i64 y.f1, .int .i64 y.f2]] W _
  unfold cfE
  generalize (if x.f0 < y.f0 then (-1 : Int) else if y.f0 < x.f0 then 1 else 0) = r at hcon ⊢
  go_enter Tryd.func49, Tryd.ntmps49
  go_wp2_with (go_at_call 50; refine (hcon _).mono ?_; rintro e w' ⟨rfl, rfl⟩)
  go_ret
  exact ⟨rfl, 0, _, by rw [alloc_eq_grow, alloc_eq_grow, grow_grow]; rfl⟩
theorem cmpLaysE (blk off size : Nat) (w : World) : CmpLays Tryd.prog 49 #[] encE 3 cfE blk off size w := fun _ _ _ _ x y => closE x y _
theorem ltE (x y : Ed) : ltOf cfE x y = decide (x.f0 < y.f0) := by
  unfold ltOf cfE
  by_cases h1 : x.f0 < y.f0
  · simp [h1]
  · by_cases h2 : y.f0 < x.f0 <;> simp [h1, h2]
theorem swoE : SWO (ltOf cfE) where
  irrefl x := by rw [ltE]; simp
  trans x y z h1 h2 := by rw [ltE] at *; simp at *; omega
  ntrans x y z h1 h2 := by rw [ltE] at *; simp at *; omega

theorem heap_putRowK {α : Type} [Inhabited α] (enc : α → List Value) (k : Nat) (w : World) (blk off : Nat) (d : Array α) (i : Nat) (h : i ≠ blk) : (putRowK enc k w blk off d).heap[i]? = w.heap[i]? := by
  show (w.heap.modify blk _)[i]? = _
  rw [Array.getElem?_modify, if_neg (Ne.symm h)]
theorem below_putRowK {α : Type} [Inhabited α] (enc : α → List Value) (k : Nat) {B : Nat} {w W : World} (blk off n : Nat) (d : Array α) (os : Array Obj) (h : Below B w W) (hB : B ≤ blk) (hs : blk < W.heap.size) : Below B w (sortWorldK enc k W blk off n d os) := by
  have hsz : (putRowK enc k (Sort.ahead W n) blk off d).heap.size = W.heap.size := by unfold putRowK; rw [size_putRow]; rfl
  refine ⟨h.os, h.tape, h.output, ?_, fun i hi => ?_⟩
  · unfold sortWorldK
    rw [size_grow, hsz]
    exact Nat.le_trans h.size (Nat.le_add_right _ _)
  · unfold sortWorldK
    rw [heap_grow_old _ _ (by rw [hsz]; omega), heap_putRowK _ _ _ _ _ _ _ (by omega)]
    exact h.block i hi
theorem encE_get (x : Ed) (c : Nat) (hc : c < 3) : (encE x)[c]? = some (encE x)[c]! := by
  rw [List.getElem!_eq_getElem?_getD]
  rcases (by omega : c = 0 ∨ c = 1 ∨ c = 2) with rfl | rfl | rfl <;> rfl
theorem holdsE {w0 W : World} {base : Nat} {g cap : Nat} {E0 : List Ed} {ok : Nat → Prop} (hR : Kd.R k68 68 W base ok (.slice (some ⟨g, 0, none⟩) E0.length cap) E0) : HoldsK encE 3 W g 0 E0.toArray := by
  intro j hj
  rw [size_flatK] at hj
  rw [get_flatK _ _ _ _ hj]
  have hi : j / 3 < E0.length := by simp at hj; omega
  obtain ⟨c, hcl, hM, hcc, hfr⟩ := Kd.R_elem hR z68 ((j / 3 : Nat) : Int) (Int.natCast_nonneg _) (Int.ofNat_lt.2 hi)
  obtain rfl := k68_openM hM
  have hget : E0.toArray[j / 3]! = E0.getD ((j / 3 : Nat) : Int).toNat z68 := by
    rw [Int.toNat_natCast, List.getD_eq_getElem?_getD, List.getElem?_eq_getElem hi, getElem!_pos E0.toArray (j / 3) (by simpa using hi)]
    rfl
  rw [hget]
  have hc := hcc (j % 3) _ (encE_get (E0.getD ((j / 3 : Nat) : Int).toNat z68) (j % 3) (by omega))
  have hf := hfr (j % 3)
  have hsz : k68.sz = 3 := rfl
  rw [hsz, Int.toNat_natCast] at hc hf
  rw [show 0 + j = j / 3 * 3 + j % 3 by omega]
  exact ⟨hc, hf⟩
theorem rowE {W : World} {g : Nat} {d : Array Ed} (h : HoldsK encE 3 W g 0 d) (hl : d.size ≤ 9223372036854775807) : Kd.C k68 W (some ⟨g, 0, none⟩) d.toList.length d.toList := by
  refine ⟨rfl, by simpa using hl, fun _ => ⟨_, rfl, fun j p hp => ⟨encE p, rfl, k68_mk _ _, fun i u hu => ?_⟩⟩⟩
  have hj : j < d.size := by have := (List.getElem?_eq_some_iff.1 hp).1; simpa using this
  have hi : i < 3 := (List.getElem?_eq_some_iff.1 hu).1
  have hp2 : d[j]! = p := by
    rw [getElem!_pos d j hj]
    rw [Array.getElem?_toList, Array.getElem?_eq_getElem hj] at hp
    exact Option.some.inj hp
  have := (HoldsK.cell h hj hi).1
  rw [hp2] at this
  rw [encE_get p i hi] at hu
  rw [← Option.some.inj hu]
  have hsz : k68.sz = 3 := rfl
  have he : Addr.add ⟨g, 0, none⟩ (j * 3 + i) = ⟨g, 0 + j * 3 + i, none⟩ := by unfold Addr.add; simp [Nat.add_assoc]; intro h1 h2; omega
  rw [hsz, he]
  exact this
theorem sort_any {w W : World} {v : Value} {E0 : List Ed} (hR : Kd.R k68 68 W w.heap.size (fun _ => True) v E0) (hne : 0 < E0.length) (hb : Below w.heap.size w W) (hl : E0.length ≤ 1000000) :
    ∃ g c, v = .slice (some ⟨g, 0, none⟩) E0.length c ∧ Calls Tryd.prog 48 #[v, .func (.func 49) #[] #[]] W fun e w' => e = .returned (.tuple #[]) ∧ ∃ E : List Ed, E.Perm E0 ∧ Asc E ∧ Kd.C k68 w' (some ⟨g, 0, none⟩) E.length E ∧ Below w.heap.size w w' ∧ g < w'.heap.size := by
  obtain ⟨g, cap, rfl, hbg, hlt, _⟩ := Kd.R_form hR hne
  refine ⟨g, cap, rfl, ?_⟩
  have eg : ∀ args w, (callFunc 49 args).run Tryd.prog w = .ok (.enter 49 args) w := enters_of Tryd.func49 (by kernel_rfl) rfl
  have hH := holdsE (w0 := w) hR
  have hsz : E0.toArray.size = E0.length := by simp
  have hcon := AnyQ.slices_SortFunc Tryd.sortEd 3 Tryd.isAgg68 Tryd.sizeOf68 encE (fun _ => rfl) (fun x v hv => by simp [encE] at hv; rcases hv with rfl | rfl | rfl <;> rfl) cfE swoE 49 #[] g 0 cap E0.toArray W eg (cmpLaysE g 0 E0.toArray.size W) hH hlt (by rw [hsz]; omega)
  rw [hsz] at hcon
  change Calls Tryd.prog 48 _ _ _ at hcon
  refine hcon.mono ?_
  rintro e w' ⟨rfl, d', n, os, ⟨hp1, _, hp3⟩, hs, rfl⟩
  have hdl : d'.size = E0.length := by rw [hp1, hsz]
  have hperm : d'.toList.Perm E0 := by
    have e1 : d'.extract 0 E0.length = d' := by rw [← hdl]; exact Array.extract_size
    have e2 : E0.toArray.extract 0 E0.length = E0.toArray := by rw [← hsz]; exact Array.extract_size
    rw [e1, e2] at hp3
    simpa using hp3
  refine ⟨rfl, d'.toList, hperm, ?_, ?_, below_putRowK _ _ _ _ _ _ _ hb hbg hlt, ?_⟩
  · unfold Asc
    rw [List.pairwise_iff_getElem]
    intro i j hi hj hij
    have h2 := hs i j (Nat.zero_le _) hij (by rw [← hdl]; simpa using hj)
    rw [ltE, getElem!_pos d' i (by simpa using hi), getElem!_pos d' j (by simpa using hj)] at h2
    have := of_decide_eq_false h2
    simp only [Array.getElem_toList]
    omega
  · refine rowE (holdsK_sortWorldK_c encE 3 W g 0 E0.toArray d' n os hH hlt (by rw [hdl, hsz])) ?_
    rw [hdl]; omega
  · exact Nat.lt_of_lt_of_le hlt (size_sortWorldK_c encE 3 W g 0 n d' os)
end Go.Proofs.YtikhoooiklkbiaaDoor.Pr
