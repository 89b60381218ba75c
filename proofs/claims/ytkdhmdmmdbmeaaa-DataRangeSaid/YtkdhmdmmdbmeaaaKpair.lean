import Derived.Test.YtkdhmdmmdbmeaaaKfind
import Derived.Laws.ResultCell
namespace Go.Proofs.Ytkdhmdmmdbmeaaa.Pr
open Go.RowKit Go.Proofs.YtkdhmdmmdbmeaaaW.PrintWords Go.Proofs.YtkdhmdmmdbmeaaaW.PrintLast Go.Proofs.YtkdhmdmmdbmeaaaW.PrintMore
set_option linter.unusedVariables false
set_option linter.unusedSimpArgs false

theorem info_p : (Try.prog.info? 40).map (·.size) = some 3 := by kernel_rfl
theorem pair_size (x : S40) : (Try.prog.info? 40).map (·.size) = some (cells_p x).length := info_p
/-- Where the first of a table's is for which something is so. -/
def posP (p : S40 → Bool) (T : List S40) : Int := match T.findIdx? p with | some i => i | none => -1
/-- What a told function answers. -/
abbrev Tells (K : Nat) (caps : Array Value) (p : S40 → Bool) (w : World) : Prop := ∀ (x : S40) (W : World), Below w.heap.size w W → Calls Try.prog K (#[.agg (cells_p x).toArray] ++ caps) W fun e W' => e = .returned (.bool (p x)) ∧ Below W.heap.size W W'

set_option maxHeartbeats 1000000 in
theorem index_calls (K : Nat) (caps : Array Value) (p : S40 → Bool) (T : List S40) (g c : Nat) (w : World) (hT : RowsAt cells_p 3 w g T) (hg : g < w.heap.size) (hn : T.length ≤ 1000000) (hK : Tells K caps p w) (hcf : ∀ xs W, (callFunc K xs).run Try.prog W = .ok (.enter K xs) W) :
    Calls Try.prog 39 #[.slice (some ⟨g, 0, none⟩) T.length c, .func (.func K) #[] caps] w fun e w' => e = .returned (.int .i64 (posP p T)) ∧ Below w.heap.size w w' := by
  have HK := Lib.hid hK
  clear hK
  go_enter Try.func39, Try.ntmps39
  go_wp2_with fail
  go_loopw [8] (fun i wr => ∃ a : Nat, i = .int .i64 a ∧ a ≤ T.length ∧ (∀ m x, m < a → T[m]? = some x → p x = false) ∧ Below w.heap.size w wr) (fun i _ => T.length - (intOf i).toNat)
  case atStart => exact ⟨0, rfl, Nat.zero_le _, fun m x h => absurd h (Nat.not_lt_zero _), Below.refl _ _⟩
  case round =>
    obtain ⟨a, rfl, h1, h2, hb⟩ := hrel
    have H2 := Lib.hid h2
    clear h2
    by_cases hlt : a < T.length
    · obtain ⟨x, hx⟩ : ∃ x, T[a]? = some x := ⟨_, List.getElem?_eq_getElem (by omega)⟩
      have hr : wr.rangeAt g (a * 3) (cells_p x) := hT.below hb hg _ _ hx
      have HX := Lib.hid hx
      have HR := Lib.hid hr
      clear hx hr
      cases hp : p x with
      | false =>
        go_wp2_with (first | (with_reducible refine wpList_load_mid rfl 40 _ rfl g (a * 3) rfl (cells_p x) _ HR.out Try.underlying40 rfl (pair_size x) ?_) | (with_reducible refine (HK.out x _ hb).mono ?_; rintro e w1 ⟨rfl, hb1⟩))
        go_roundw
        case rel => exact ⟨a + 1, by go_num, by omega, fun m y hm hy => by
          rcases Nat.lt_or_eq_of_le (Nat.le_of_lt_succ hm) with h | rfl
          · exact H2.out m y h hy
          · rw [HX.out] at hy; obtain rfl := Option.some.inj hy; exact hp, below_then hb hb.size hb1⟩
        case measure => simp [intOf]; omega
      | true =>
        have hq : posP p T = (a : Int) := by
          have : T.findIdx? p = some a := by
            rw [List.findIdx?_eq_some_iff_getElem]
            obtain ⟨hl, e⟩ := List.getElem?_eq_some_iff.1 HX.out
            refine ⟨hl, by rw [e]; exact hp, fun j hj => ?_⟩
            rw [H2.out j _ hj (List.getElem?_eq_getElem (by omega))]; decide
          unfold posP; rw [this]
        have HQ := Lib.hid hq
        clear hq
        go_wp2_with (first | (with_reducible refine wpList_load_mid rfl 40 _ rfl g (a * 3) rfl (cells_p x) _ HR.out Try.underlying40 rfl (pair_size x) ?_) | (with_reducible refine (HK.out x _ hb).mono ?_; rintro e w1 ⟨rfl, hb1⟩))
        go_ret
        exact ⟨by rw [HQ.out]; rfl, below_then hb hb.size hb1⟩
    · have hq : posP p T = -1 := by
        have : T.findIdx? p = none := by
          rw [List.findIdx?_eq_none_iff]
          intro x hx
          obtain ⟨m, hm⟩ := List.mem_iff_getElem?.1 hx
          have := (List.getElem?_eq_some_iff.1 hm).1
          exact H2.out m x (by omega) hm
        unfold posP; rw [this]
      have HQ := Lib.hid hq
      clear hq
      go_wp2_with fail
      go_ret
      exact ⟨by rw [HQ.out]; rfl, hb⟩

theorem callFunc_enter {f : FuncId} {fn : Func} {c : Code} (hf : Try.prog.funcs[f]? = some fn) (hname : (fn.name == "runtime.NumGoroutine") = false) (hb : fn.body = some c) (xs : Array Value) (w : World) :
    (callFunc f xs).run Try.prog w = .ok (.enter f xs) w := by
  have h1 : fn.name ≠ "runtime.NumGoroutine" := by simpa using hname
  simp [callFunc, hf, h1, hb]
theorem one_p (r : Int) (g : Nat) (W : World) (hg : g < W.heap.size) (hW : W.cell? ⟨g, 0, none⟩ = some (.int .i32 r)) (x : S40) :
    Calls Try.prog 28 #[.agg (cells_p x).toArray, .pointer (some ⟨g, 0, none⟩)] W fun e W' => e = .returned (.bool (x.f0 == r)) ∧ Below W.heap.size W W' := by
  unfold cells_p
  go_enter Try.func28, Try.ntmps28
  go_wp2
  go_ret
  exact ⟨rfl, (Below.refl _ _).alloc (Nat.le_refl _) _⟩
theorem two_p (a b : Int) (g h : Nat) (W : World) (hg : g < W.heap.size) (hW : W.cell? ⟨g, 0, none⟩ = some (.int .i32 a)) (hh : h < W.heap.size) (hV : W.cell? ⟨h, 0, none⟩ = some (.int .i32 b)) (x : S40) :
    Calls Try.prog 29 #[.agg (cells_p x).toArray, .pointer (some ⟨g, 0, none⟩), .pointer (some ⟨h, 0, none⟩)] W fun e W' => e = .returned (.bool (x.f1 == a && x.f2 == b)) ∧ Below W.heap.size W W' := by
  unfold cells_p
  by_cases e : x.f1 = a
  · have e1 : (x.f1 == a) = true := by simpa using e
    rw [e1, Bool.true_and]
    go_enter Try.func29, Try.ntmps29
    go_wp2
    go_ret
    exact ⟨rfl, (Below.refl _ _).alloc (Nat.le_refl _) _⟩
  · have e1 : (x.f1 == a) = false := by simpa using e
    rw [e1, Bool.false_and]
    go_enter Try.func29, Try.ntmps29
    go_wp2
    go_ret
    exact ⟨rfl, (Below.refl _ _).alloc (Nat.le_refl _) _⟩
theorem tells_one (r : Int) (g : Nat) (w : World) (hg : g < w.heap.size) (hW : w.cell? ⟨g, 0, none⟩ = some (.int .i32 r)) : Tells 28 #[.pointer (some ⟨g, 0, none⟩)] (fun x => x.f0 == r) w := fun x W hb =>
  one_p r g W (Nat.lt_of_lt_of_le hg hb.size) ((hb.cell (p := ⟨g, 0, none⟩) hg).trans hW) x
theorem tells_two (a b : Int) (g h : Nat) (w : World) (hg : g < w.heap.size) (hW : w.cell? ⟨g, 0, none⟩ = some (.int .i32 a)) (hh : h < w.heap.size) (hV : w.cell? ⟨h, 0, none⟩ = some (.int .i32 b)) : Tells 29 #[.pointer (some ⟨g, 0, none⟩), .pointer (some ⟨h, 0, none⟩)] (fun x => x.f1 == a && x.f2 == b) w := fun x W hb =>
  two_p a b g h W (Nat.lt_of_lt_of_le hg hb.size) ((hb.cell (p := ⟨g, 0, none⟩) hg).trans hW) (Nat.lt_of_lt_of_le hh hb.size) ((hb.cell (p := ⟨h, 0, none⟩) hh).trans hV) x
theorem cf_one (xs : Array Value) (W : World) : (callFunc 28 xs).run Try.prog W = .ok (.enter 28 xs) W := callFunc_enter Try.func28 (by kernel_rfl) rfl xs W
theorem cf_two (xs : Array Value) (W : World) : (callFunc 29 xs).run Try.prog W = .ok (.enter 29 xs) W := callFunc_enter Try.func29 (by kernel_rfl) rfl xs W

/-! ### among -/
def z3 : S40 := ⟨0, 0, 0⟩
def ofP (p : S40 → Bool) : S40 × Bool := match (uP0 ++ uP1).find? p with | some x => (x, true) | none => (z3, false)
theorem lenP0 : uP0.length = 40 := rfl
theorem lenP1 : uP1.length = 40 := rfl
theorem pos_some {p : S40 → Bool} {T : List S40} {x : S40} (h : T.find? p = some x) : ∃ i : Nat, posP p T = (i : Int) ∧ T[i]? = some x := by
  obtain ⟨h1, as1, bs, h2, h3⟩ := List.find?_eq_some_iff_append.1 h
  refine ⟨as1.length, ?_, by rw [h2]; simp⟩
  have : T.findIdx? p = some as1.length := by
    rw [List.findIdx?_eq_some_iff_getElem]
    refine ⟨by rw [h2]; simp, ?_, fun j hj => ?_⟩
    · simp [h2, h1]
    · have := h3 as1[j] (List.getElem_mem hj)
      simp only [h2, List.getElem_append_left hj]
      simpa using this
  unfold posP; rw [this]
theorem pos_none {p : S40 → Bool} {T : List S40} (h : T.find? p = none) : posP p T = -1 := by
  have : T.findIdx? p = none := by
    rw [List.findIdx?_eq_none_iff]
    intro x hx
    have := List.find?_eq_none.1 h x hx
    simpa using this
  unfold posP; rw [this]
theorem ofP0 {p : S40 → Bool} {x : S40} (h : uP0.find? p = some x) : ofP p = (x, true) := by unfold ofP; rw [List.find?_append, h]; rfl
theorem ofP1 {p : S40 → Bool} {x : S40} (h0 : uP0.find? p = none) (h : uP1.find? p = some x) : ofP p = (x, true) := by unfold ofP; rw [List.find?_append, h0, h]; rfl
theorem ofP2 {p : S40 → Bool} (h0 : uP0.find? p = none) (h : uP1.find? p = none) : ofP p = (z3, false) := by unfold ofP; rw [List.find?_append, h0, h]; rfl
structure PW (w W : World) : Prop where
  r0 : RowsAt cells_p 3 W (w.heap.size + 1) uP0
  r1 : RowsAt cells_p 3 W (w.heap.size + 1 + 1) uP1
  th : W.there w.heap.size 0 3
  sz : w.heap.size + 1 + 1 < W.heap.size
  bel : Below w.heap.size w W
theorem PW.keep {w W W1 : World} (h : PW w W) (hb : Below W.heap.size W W1) : PW w W1 :=
  ⟨h.r0.below hb (by have := h.sz; omega), h.r1.below hb h.sz, there_below h.th hb (by have := h.sz; omega), Nat.lt_of_lt_of_le h.sz hb.size, below_then h.bel (by have := h.sz; omega) hb⟩
theorem PW.start (w : World) (c : Array Value) (hc : c.size = 3) : PW w (((w.alloc (.cells c 40)).alloc (.cells (uP0.flatMap cells_p).toArray 40)).alloc (.cells (uP1.flatMap cells_p).toArray 40)) := by
  have h0 := RowsAt.new (f := cells_p) (n := 3) (fun _ => rfl) (w.alloc (.cells c 40)) uP0 40
  have h1 := RowsAt.new (f := cells_p) (n := 3) (fun _ => rfl) ((w.alloc (.cells c 40)).alloc (.cells (uP0.flatMap cells_p).toArray 40)) uP1 40
  simp only [World.size_alloc] at h0 h1
  have ht := there_new w c 40
  rw [hc] at ht
  exact ⟨h0.later _, h1, World.there_alloc (World.there_alloc ht _) _, by simp, (((Below.refl _ _).alloc (Nat.le_refl _) _).alloc (by simp) _).alloc (by simp; omega) _⟩
theorem index2 (x0 x1 : Value) : (∀ w, (Instr.index 57 (.agg #[x0, x1]) (.int .i64 0)).run Try.prog w = .ok x0 w) ∧ (∀ w, (Instr.index 57 (.agg #[x0, x1]) (.int .i64 1)).run Try.prog w = .ok x1 w) :=
  ⟨fun _ => by kernel_rfl, fun _ => by kernel_rfl⟩
theorem pair_size_a (x : S40) : (Try.prog.info? 40).map (·.size) = some (cells_p x).toArray.size := info_p
theorem th_p {W : World} {g : Nat} (h : W.there g 0 3) (x : S40) : W.there g 0 (cells_p x).toArray.size := h
theorem th_zp {W : World} {g : Nat} (h : W.there g 0 3) : W.there g 0 (#[.int .i32 0, .int .i32 0, .int .i32 0] : Array Value).size := h
theorem size_zp : (Try.prog.info? 40).map (·.size) = some (#[.int .i32 0, .int .i32 0, .int .i32 0] : Array Value).size := info_p
theorem one_zp : (#[.int .i32 0, .int .i32 0, .int .i32 0] : Array Value).all (·.oneCell') = true := by simp [Value.oneCell']
theorem pair_one (x : S40) : (cells_p x).toArray.all (·.oneCell') = true := by simp [cells_p, Value.oneCell']
theorem results_ct {fn : Func} {p u : Tmp} {ty : TypeId} (h : fn.results = #[.cell p ty, .tmp u]) (tmps : Array Value) (w : World) (g : Nat) (cs : List Value) (d : TypeDesc)
    (hp : tmps.getD p undef = .pointer (some ⟨g, 0, none⟩)) (hc : w.rangeAt g 0 cs)
    (hu : Try.prog.underlying ty = some d) (hd : d.isRow = true) (hi : (Try.prog.info? ty).map (·.size) = some cs.length) {v : Value} (hv : .tuple #[.agg cs.toArray, tmps.getD u undef] = v) :
    (results fn tmps).run Try.prog w = .ok v w := by
  subst hv
  rw [results_cell_tmp h]
  have hp' : tmps[p]?.getD undef = .pointer (some ⟨g, 0, none⟩) := by simpa using hp
  simp [hp', asAddr, run_loadVar_mid w g 0 ty cs d hc hu hd hi, Result.andThen]
abbrev CF (K : Nat) : Prop := ∀ (xs : Array Value) (W : World), (callFunc K xs).run Try.prog W = .ok (.enter K xs) W
theorem Tells.later {K : Nat} {caps : Array Value} {p : S40 → Bool} {w W : World} (h : Tells K caps p w) (hb : Below w.heap.size w W) : Tells K caps p W := fun x W' hb' => h x W' (below_then hb hb.size hb')
def IYes (T : List S40) (x : S40) (w : World) (e : Ending) (w' : World) : Prop := ∃ i : Nat, T[i]? = some x ∧ e = .returned (.int .i64 i) ∧ Below w.heap.size w w'
theorem index_yes {T : List S40} {p : S40 → Bool} {x : S40} (hx : T.find? p = some x) (g c K : Nat) (caps : Array Value) (w : World) (hT : RowsAt cells_p 3 w g T) (hg : g < w.heap.size) (hn : T.length ≤ 1000000) (hK : Tells K caps p w) (hcf : CF K) :
    Calls Try.prog 39 #[.slice (some ⟨g, 0, none⟩) T.length c, .func (.func K) #[] caps] w (IYes T x w) :=
  (index_calls K caps p T g c w hT hg hn hK hcf).mono fun e w' ⟨he, hb⟩ => by
    obtain ⟨i, hi, hx⟩ := pos_some hx
    exact ⟨i, hx, by rw [he, hi], hb⟩
theorem index_no {T : List S40} {p : S40 → Bool} (hx : T.find? p = none) (g c K : Nat) (caps : Array Value) (w : World) (hT : RowsAt cells_p 3 w g T) (hg : g < w.heap.size) (hn : T.length ≤ 1000000) (hK : Tells K caps p w) (hcf : CF K) :
    Calls Try.prog 39 #[.slice (some ⟨g, 0, none⟩) T.length c, .func (.func K) #[] caps] w fun e w' => e = .returned (.int .i64 (-1)) ∧ Below w.heap.size w w' :=
  (index_calls K caps p T g c w hT hg hn hK hcf).mono fun e w' ⟨he, hb⟩ => ⟨by rw [he, pos_none hx], hb⟩
set_option maxHeartbeats 2000000 in
theorem among_0 (K : Nat) (caps : Array Value) (p : S40 → Bool) (w : World) (hK : Tells K caps p w) (hcf : CF K) {x : S40} (h0 : uP0.find? p = some x) :
    Calls Try.prog 27 #[.func (.func K) #[] caps] w fun e w' => e = .returned (.tuple #[.agg (cells_p x).toArray, .bool true]) ∧ Below w.heap.size w w' := by
  have HK := Lib.hid hK
  have HF := Lib.hid hcf
  clear hK hcf
  have H0 := Lib.hid h0
  clear h0
  obtain ⟨i0, i1⟩ := index2 (.slice (some ⟨w.heap.size + 1, 0, none⟩) uP0.length uP0.length) (.slice (some ⟨w.heap.size + 1 + 1, 0, none⟩) uP1.length uP1.length)
  go_enter Try.func27, Try.ntmps27
  go_wp2_with (first | (go_at_call 37; refine (unidata_pairs0.run _).mono ?_; rintro e w1 ⟨rfl, rfl⟩) | (go_at_call 38; refine (unidata_pairs1.run _).mono ?_; rintro e w1 ⟨rfl, rfl⟩))
  have hW := PW.start w #[.int .i32 0, .int .i32 0, .int .i32 0] rfl
  generalize World.alloc (World.alloc (World.alloc w _) _) _ = W at hW ⊢
  refine wp_loop_rounds 3 ?_
  rw [rounds_succ]
  go_wp2_with (first | (go_at_call 39; refine (index_yes H0.out (w.heap.size + 1) _ _ _ _ hW.r0 (by have := hW.sz; omega) (by decide) (HK.out.later hW.bel) HF.out).mono ?_; rintro e w9 ⟨i, hx, rfl, hb9⟩; have hW9 := hW.keep hb9; have hr := hW9.r0 i x hx; have hi1 := (List.getElem?_eq_some_iff.1 hx).1; have HX := Lib.hid hx; clear hx) | (with_reducible refine wpList_load_mid rfl 40 _ rfl ((w.heap.size + 1)) (i * 3) rfl (cells_p x) _ hr Try.underlying40 rfl (pair_size x) ?_) | (with_reducible refine wpList_store_mid rfl 40 _ _ rfl w.heap.size 0 (cells_p x).toArray rfl rfl (th_p hW9.th x) (pair_size_a x) (pair_one x) ?_))
  refine bodyPost_ret (v := .tuple #[.agg (cells_p x).toArray, .bool true]) (results_ct (g := w.heap.size) (fn := Try.f27) (p := 2) (u := 3) rfl _ _ (cells_p x) _ (by simp [Act.put]) (World.rangeAt_setCells_same _ _ _ _ (th_p hW9.th x)) Try.underlying40 rfl (pair_size x) (by simp [Act.put])) rfl ⟨rfl, ?_⟩
  exact below_cells (Nat.le_refl _) _ _ hW9.bel
set_option maxHeartbeats 2000000 in
theorem among_1 (K : Nat) (caps : Array Value) (p : S40 → Bool) (w : World) (hK : Tells K caps p w) (hcf : CF K) {x : S40} (h0 : uP0.find? p = none) (h1 : uP1.find? p = some x) :
    Calls Try.prog 27 #[.func (.func K) #[] caps] w fun e w' => e = .returned (.tuple #[.agg (cells_p x).toArray, .bool true]) ∧ Below w.heap.size w w' := by
  have HK := Lib.hid hK
  have HF := Lib.hid hcf
  clear hK hcf
  have H0 := Lib.hid h0
  have H1 := Lib.hid h1
  clear h0 h1
  obtain ⟨i0, i1⟩ := index2 (.slice (some ⟨w.heap.size + 1, 0, none⟩) uP0.length uP0.length) (.slice (some ⟨w.heap.size + 1 + 1, 0, none⟩) uP1.length uP1.length)
  go_enter Try.func27, Try.ntmps27
  go_wp2_with (first | (go_at_call 37; refine (unidata_pairs0.run _).mono ?_; rintro e w1 ⟨rfl, rfl⟩) | (go_at_call 38; refine (unidata_pairs1.run _).mono ?_; rintro e w1 ⟨rfl, rfl⟩))
  have hW := PW.start w #[.int .i32 0, .int .i32 0, .int .i32 0] rfl
  generalize World.alloc (World.alloc (World.alloc w _) _) _ = W at hW ⊢
  refine wp_loop_rounds 3 ?_
  rw [rounds_succ]
  go_wp2_with (first | (go_at_call 39; refine (index_no H0.out (w.heap.size + 1) _ _ _ _ hW.r0 (by have := hW.sz; omega) (by decide) (HK.out.later hW.bel) HF.out).mono ?_; rintro e w9 ⟨rfl, hb9⟩))
  have hW1 := hW.keep hb9
  clear hb9
  rw [rounds_succ]
  go_wp2_with (first | (go_at_call 39; refine (index_yes H1.out (w.heap.size + 1 + 1) _ _ _ _ hW1.r1 (by have := hW1.sz; omega) (by decide) (HK.out.later hW1.bel) HF.out).mono ?_; rintro e w9 ⟨i, hx, rfl, hb9⟩; have hW9 := hW1.keep hb9; have hr := hW9.r1 i x hx; have hi1 := (List.getElem?_eq_some_iff.1 hx).1; have HX := Lib.hid hx; clear hx) | (with_reducible refine wpList_load_mid rfl 40 _ rfl ((w.heap.size + 1 + 1)) (i * 3) rfl (cells_p x) _ hr Try.underlying40 rfl (pair_size x) ?_) | (with_reducible refine wpList_store_mid rfl 40 _ _ rfl w.heap.size 0 (cells_p x).toArray rfl rfl (th_p hW9.th x) (pair_size_a x) (pair_one x) ?_))
  refine bodyPost_ret (v := .tuple #[.agg (cells_p x).toArray, .bool true]) (results_ct (g := w.heap.size) (fn := Try.f27) (p := 2) (u := 3) rfl _ _ (cells_p x) _ (by simp [Act.put]) (World.rangeAt_setCells_same _ _ _ _ (th_p hW9.th x)) Try.underlying40 rfl (pair_size x) (by simp [Act.put])) rfl ⟨rfl, ?_⟩
  exact below_cells (Nat.le_refl _) _ _ hW9.bel
set_option maxHeartbeats 2000000 in
theorem among_2 (K : Nat) (caps : Array Value) (p : S40 → Bool) (w : World) (hK : Tells K caps p w) (hcf : CF K) (h0 : uP0.find? p = none) (h1 : uP1.find? p = none) :
    Calls Try.prog 27 #[.func (.func K) #[] caps] w fun e w' => e = .returned (.tuple #[.agg (cells_p z3).toArray, .bool false]) ∧ Below w.heap.size w w' := by
  have HK := Lib.hid hK
  have HF := Lib.hid hcf
  clear hK hcf
  have H0 := Lib.hid h0
  have H1 := Lib.hid h1
  clear h0 h1
  obtain ⟨i0, i1⟩ := index2 (.slice (some ⟨w.heap.size + 1, 0, none⟩) uP0.length uP0.length) (.slice (some ⟨w.heap.size + 1 + 1, 0, none⟩) uP1.length uP1.length)
  go_enter Try.func27, Try.ntmps27
  go_wp2_with (first | (go_at_call 37; refine (unidata_pairs0.run _).mono ?_; rintro e w1 ⟨rfl, rfl⟩) | (go_at_call 38; refine (unidata_pairs1.run _).mono ?_; rintro e w1 ⟨rfl, rfl⟩))
  have hW := PW.start w #[.int .i32 0, .int .i32 0, .int .i32 0] rfl
  generalize World.alloc (World.alloc (World.alloc w _) _) _ = W at hW ⊢
  refine wp_loop_rounds 3 ?_
  rw [rounds_succ]
  go_wp2_with (first | (go_at_call 39; refine (index_no H0.out (w.heap.size + 1) _ _ _ _ hW.r0 (by have := hW.sz; omega) (by decide) (HK.out.later hW.bel) HF.out).mono ?_; rintro e w9 ⟨rfl, hb9⟩))
  have hW1 := hW.keep hb9
  clear hb9
  rw [rounds_succ]
  go_wp2_with (first | (go_at_call 39; refine (index_no H1.out (w.heap.size + 1 + 1) _ _ _ _ hW1.r1 (by have := hW1.sz; omega) (by decide) (HK.out.later hW1.bel) HF.out).mono ?_; rintro e w9 ⟨rfl, hb9⟩))
  have hW2 := hW1.keep hb9
  clear hb9
  rw [rounds_succ]
  go_wp2_with (first | (with_reducible refine wpList_store_mid rfl 40 _ _ rfl w.heap.size 0 #[.int .i32 0, .int .i32 0, .int .i32 0] rfl rfl (th_zp hW2.th) size_zp one_zp ?_))
  refine bodyPost_ret (v := .tuple #[.agg (cells_p z3).toArray, .bool false]) (results_ct (g := w.heap.size) (fn := Try.f27) (p := 2) (u := 3) rfl _ _ (cells_p z3) _ (by simp [Act.put]) (World.rangeAt_setCells_same _ _ _ _ (th_p hW2.th z3)) Try.underlying40 rfl (pair_size z3) (by simp [Act.put])) rfl ⟨rfl, ?_⟩
  exact below_cells (Nat.le_refl _) _ _ hW2.bel
theorem among_any (K : Nat) (caps : Array Value) (p : S40 → Bool) (w : World) (hK : Tells K caps p w) (hcf : CF K) :
    Calls Try.prog 27 #[.func (.func K) #[] caps] w fun e w' => e = .returned (.tuple #[.agg (cells_p (ofP p).1).toArray, .bool (ofP p).2]) ∧ Below w.heap.size w w' := by
  cases h0 : uP0.find? p with
  | some x => rw [ofP0 h0]; exact among_0 K caps p w hK hcf h0
  | none =>
    cases h1 : uP1.find? p with
    | some x => rw [ofP1 h0 h1]; exact among_1 K caps p w hK hcf h0 h1
    | none => rw [ofP2 h0 h1]; exact among_2 K caps p w hK hcf h0 h1
/-! ### Decomp -/
def unidata_Decomp.f (r : Int) : Option (List Int) := some (if r = 8486 then [937] else if r = 8490 then [75] else if r = 8491 then [197] else if (ofP fun x => x.f0 == r).2 = true then [(ofP fun x => x.f0 == r).1.f1, (ofP fun x => x.f0 == r).1.f2] else [])
def DRes (w : World) (r : List Int) (e : Ending) (w' : World) : Prop := ∃ v0_ : Value, e = .returned (v0_) ∧ Kd.R (Kd.int .i32) 21 w' w.heap.size (fun _ => True) v0_ r ∧ Below w.heap.size w w'
theorem decomp_8 (w : World) : Calls Try.prog 18 #[.int .i32 8486] w (DRes w [937]) := by
  go_enter Try.func18, Try.ntmps18
  go_wp2_with (first | ((with_reducible refine gate_dst (N := 8) rfl ?_); refine Kd.R_lit (Kd.int .i32) _ 21 ?hg (N := 8) ?hd (xs := ([937] : List Int)) (inner := [.int .i32 937]) (ok := fun _ => True) (okp := fun _ => True) ?hr ?hp (fun _ hk => hk) trivial (Below.refl _ _) (Nat.le_refl _) (by simp) ?_; (case hd => rfl); (case hg => rfl); (case hr => first | (go_simp; done) | (go_simp; rfl)); (case hp => exact (Reps.one (show Kd.M (Kd.int .i32) _ _ _ 937 [.int .i32 937] from rfl) (Reps.none _ _))); intro v204 w5 ho6 hb hg_ hnew_; clear hg_ hnew_))
  go_ret
  exact ⟨_, rfl, Kd.R_lower ho6 (by simp), below_step (below_alloc (Below.refl _ _) _) hb⟩
theorem decomp_11 (w : World) : Calls Try.prog 18 #[.int .i32 8490] w (DRes w [75]) := by
  go_enter Try.func18, Try.ntmps18
  go_wp2_with (first | ((with_reducible refine gate_dst (N := 11) rfl ?_); refine Kd.R_lit (Kd.int .i32) _ 21 ?hg (N := 11) ?hd (xs := ([75] : List Int)) (inner := [.int .i32 75]) (ok := fun _ => True) (okp := fun _ => True) ?hr ?hp (fun _ hk => hk) trivial (Below.refl _ _) (Nat.le_refl _) (by simp) ?_; (case hd => rfl); (case hg => rfl); (case hr => first | (go_simp; done) | (go_simp; rfl)); (case hp => exact (Reps.one (show Kd.M (Kd.int .i32) _ _ _ 75 [.int .i32 75] from rfl) (Reps.none _ _))); intro v204 w5 ho6 hb hg_ hnew_; clear hg_ hnew_))
  go_ret
  exact ⟨_, rfl, Kd.R_lower ho6 (by simp), below_step (below_alloc (Below.refl _ _) _) hb⟩
theorem decomp_14 (w : World) : Calls Try.prog 18 #[.int .i32 8491] w (DRes w [197]) := by
  go_enter Try.func18, Try.ntmps18
  go_wp2_with (first | ((with_reducible refine gate_dst (N := 14) rfl ?_); refine Kd.R_lit (Kd.int .i32) _ 21 ?hg (N := 14) ?hd (xs := ([197] : List Int)) (inner := [.int .i32 197]) (ok := fun _ => True) (okp := fun _ => True) ?hr ?hp (fun _ hk => hk) trivial (Below.refl _ _) (Nat.le_refl _) (by simp) ?_; (case hd => rfl); (case hg => rfl); (case hr => first | (go_simp; done) | (go_simp; rfl)); (case hp => exact (Reps.one (show Kd.M (Kd.int .i32) _ _ _ 197 [.int .i32 197] from rfl) (Reps.none _ _))); intro v204 w5 ho6 hb hg_ hnew_; clear hg_ hnew_))
  go_ret
  exact ⟨_, rfl, Kd.R_lower ho6 (by simp), below_step (below_alloc (Below.refl _ _) _) hb⟩
theorem cell_new (w : World) (v : Value) (t : TypeId) : (w.alloc (.cells #[v] t)).cell? ⟨w.heap.size, 0, none⟩ = some v := by
  rw [cell_of_row _ _ _ _ _ _ (heap_alloc_new w _)]; rfl
theorem there3 (w : World) (a b c : Value) (t : TypeId) : (w.alloc (.cells #[a, b, c] t)).there w.heap.size 0 3 := there_new w #[a, b, c] t
theorem after_store (w : World) (a b c : Value) (t : TypeId) (x : S40) : ∃ W, (w.alloc (.cells #[a, b, c] t)).setCells w.heap.size 0 (cells_p x).toArray.toList = W ∧ w.heap.size < W.heap.size ∧ W.cell? ⟨w.heap.size, 0, none⟩ = some (.int .i32 x.f0) ∧ W.cell? ⟨w.heap.size, 1, none⟩ = some (.int .i32 x.f1) ∧ W.cell? ⟨w.heap.size, 2, none⟩ = some (.int .i32 x.f2) ∧ Below w.heap.size w W := by
  have hr := World.rangeAt_setCells_same (w.alloc (.cells #[a, b, c] t)) w.heap.size 0 (cells_p x) (there3 w a b c t)
  refine ⟨_, rfl, ?_, hr 0 _ rfl, hr 1 _ rfl, hr 2 _ rfl, below_cells (Nat.le_refl _) _ _ (below_alloc (Below.refl _ _) _)⟩
  rw [size_cells]; simp
set_option maxHeartbeats 1000000 in
theorem decomp_no (r : Int) (w : World) (h1 : ¬ r = 8486) (h2 : ¬ r = 8490) (h3 : ¬ r = 8491) (x : S40) (hq : (ofP fun x => x.f0 == r) = (x, false)) : Calls Try.prog 18 #[.int .i32 r] w (DRes w []) := by
  go_enter Try.func18, Try.ntmps18
  go_wp2_with (first | (go_at_call 27; refine (among_any 28 _ (fun x => x.f0 == r) _ (tells_one r _ _ (by simp) (cell_new _ _ _)) cf_one).mono ?_; rw [hq]; rintro e w1 ⟨rfl, hb1⟩) | (with_reducible refine wpList_store_mid rfl 40 _ _ rfl w1.heap.size 0 (cells_p x).toArray rfl rfl (th_p (there3 w1 _ _ _ _) x) (pair_size_a x) (pair_one x) ?_; obtain ⟨W, eW, hs, c0, c1, c2, hbW⟩ := after_store w1 (.int .i32 0) (.int .i32 0) (.int .i32 0) 40 x; rw [eW]; clear eW))
  go_ret
  exact ⟨_, rfl, Kd.R_nil _ _ _ _ _, below_step (below_step (below_alloc (Below.refl _ _) _) hb1) hbW⟩
set_option maxHeartbeats 1000000 in
theorem decomp_yes (r : Int) (w : World) (h1 : ¬ r = 8486) (h2 : ¬ r = 8490) (h3 : ¬ r = 8491) (x : S40) (hq : (ofP fun x => x.f0 == r) = (x, true)) : Calls Try.prog 18 #[.int .i32 r] w (DRes w [x.f1, x.f2]) := by
  go_enter Try.func18, Try.ntmps18
  go_wp2_with (first | (go_at_call 27; refine (among_any 28 _ (fun x => x.f0 == r) _ (tells_one r _ _ (by simp) (cell_new _ _ _)) cf_one).mono ?_; rw [hq]; rintro e w1 ⟨rfl, hb1⟩) | (with_reducible refine wpList_store_mid rfl 40 _ _ rfl w1.heap.size 0 (cells_p x).toArray rfl rfl (th_p (there3 w1 _ _ _ _) x) (pair_size_a x) (pair_one x) ?_; obtain ⟨W, eW, hs, c0, c1, c2, hbW⟩ := after_store w1 (.int .i32 0) (.int .i32 0) (.int .i32 0) 40 x; rw [eW]; clear eW) | ((with_reducible refine gate_dst (N := 25) rfl ?_); refine Kd.R_lit (Kd.int .i32) _ 21 ?hg (N := 25) ?hd (xs := [x.f1, x.f2]) (inner := [.int .i32 x.f1, .int .i32 x.f2]) (ok := fun _ => True) (okp := fun _ => True) ?hr ?hp (fun _ hk => hk) trivial (Below.refl _ _) (Nat.le_refl _) (by simp) ?_; (case hd => rfl); (case hg => rfl); (case hr => first | (go_simp; done) | (go_simp; rfl)); (case hp => exact (Reps.one (show Kd.M (Kd.int .i32) _ _ _ x.f1 [.int .i32 x.f1] from rfl) (Reps.one (show Kd.M (Kd.int .i32) _ _ _ x.f2 [.int .i32 x.f2] from rfl) (Reps.none _ _)))); intro v204 w5 ho6 hb hg_ hnew_; clear hg_ hnew_))
  go_ret
  exact ⟨_, rfl, Kd.R_lower ho6 (below_step (below_step (below_alloc (Below.refl _ _) _) hb1) hbW).size, below_step (below_step (below_step (below_alloc (Below.refl _ _) _) hb1) hbW) hb⟩
theorem unidata_Decomp.calls (a0 : Int) (r : List Int) (w : World) (h : unidata_Decomp.f a0 = some r) :
    Calls Try.prog 18 #[.int .i32 a0] w fun e w' => ∃ v0_ : Value, e = .returned (v0_) ∧ Kd.R (Kd.int .i32) 21 w' w.heap.size (fun _ => True) v0_ r ∧ Below w.heap.size w w' := by
  obtain rfl := Option.some.inj h
  by_cases h1 : a0 = 8486
  · rw [if_pos h1]; subst h1; exact decomp_8 w
  · rw [if_neg h1]
    by_cases h2 : a0 = 8490
    · rw [if_pos h2]; subst h2; exact decomp_11 w
    · rw [if_neg h2]
      by_cases h3 : a0 = 8491
      · rw [if_pos h3]; subst h3; exact decomp_14 w
      · rw [if_neg h3]
        cases hq : (ofP fun x => x.f0 == a0) with
        | mk x b =>
          cases b with
          | true => exact decomp_yes a0 w h1 h2 h3 x hq
          | false => exact decomp_no a0 w h1 h2 h3 x hq
/-! ### Pair -/
def unidata_Pair.f (a b : Int) : Option (Int × Bool) := some ((ofP fun x => x.f1 == a && x.f2 == b).1.f0, (ofP fun x => x.f1 == a && x.f2 == b).2)
theorem cell_old {w : World} {g : Nat} {v : Value} (h : w.cell? ⟨g, 0, none⟩ = some v) (hg : g < w.heap.size) (ob : Obj) : (w.alloc ob).cell? ⟨g, 0, none⟩ = some v := by rw [World.cell?_alloc_past _ _ _ hg]; exact h
theorem tells_pair (a b : Int) (w : World) (t : TypeId) : Tells 29 #[.pointer (some ⟨w.heap.size, 0, none⟩), .pointer (some ⟨w.heap.size + 1, 0, none⟩)] (fun x => x.f1 == a && x.f2 == b) ((w.alloc (.cells #[.int .i32 a] t)).alloc (.cells #[.int .i32 b] t)) := by
  have h := cell_new (w.alloc (.cells #[.int .i32 a] t)) (.int .i32 b) t
  simp only [World.size_alloc] at h
  exact tells_two a b _ _ _ (by simp; omega) (cell_old (cell_new w (.int .i32 a) t) (by simp) _) (by simp) h
set_option maxHeartbeats 1000000 in
theorem pair_any (a b : Int) (w : World) (x : S40) (is : Bool) (hq : (ofP fun x => x.f1 == a && x.f2 == b) = (x, is)) : Calls Try.prog 19 #[.int .i32 a, .int .i32 b] w fun e w' => e = .returned (.tuple #[.int .i32 x.f0, .bool is]) ∧ Below w.heap.size w w' := by
  go_enter Try.func19, Try.ntmps19
  go_wp2_with (first | (go_at_call 27; refine (among_any 29 _ (fun x => x.f1 == a && x.f2 == b) _ (tells_pair a b w _) cf_two).mono ?_; rw [hq]; rintro e w1 ⟨rfl, hb1⟩) | (with_reducible refine wpList_store_mid rfl 40 _ _ rfl w1.heap.size 0 (cells_p x).toArray rfl rfl (th_p (there3 w1 _ _ _ _) x) (pair_size_a x) (pair_one x) ?_; obtain ⟨W, eW, hs, c0, c1, c2, hbW⟩ := after_store w1 (.int .i32 0) (.int .i32 0) (.int .i32 0) 40 x; rw [eW]; clear eW))
  go_ret2
  exact ⟨rfl, below_step (below_step (below_alloc (below_alloc (Below.refl _ _) _) _) hb1) hbW⟩
theorem unidata_Pair.calls (a0 : Int) (a1 : Int) (r1 : Int) (r2 : Bool) (w : World) (h : unidata_Pair.f a0 a1 = some (r1, r2)) :
    Calls Try.prog 19 #[.int .i32 a0, .int .i32 a1] w fun e w' => e = .returned (.tuple #[.int .i32 r1, .bool r2]) ∧ Below w.heap.size w w' := by
  have h := Option.some.inj h
  simp only [Prod.mk.injEq] at h
  obtain ⟨rfl, rfl⟩ := h
  exact pair_any a0 a1 w _ _ rfl
end Go.Proofs.Ytkdhmdmmdbmeaaa.Pr
