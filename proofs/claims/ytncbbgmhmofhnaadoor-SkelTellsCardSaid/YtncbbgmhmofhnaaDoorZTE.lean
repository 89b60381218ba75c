import Derived.Test.YtncbbgmhmofhnaaDoorZTC
import Derived.Laws.ResultCell
import Derived.Test.YtncbbgmhmofhnaaDoorZTD
import Derived.Test.YtncbbgmhmofhnaaDoorZTB
import Derived.Lib.Hide
import Derived.Lib.ConvBytes
import Derived.Lib.SlicesS
import Derived.Shelf.RegionOpen
section
namespace Go.Proofs.YtncbbgmhmofhnaaDoor.Pr
open Go.RowKit Go.Proofs.YtncbbgmhmofhnaaDoorW.PrintWords Go.Proofs.YtncbbgmhmofhnaaDoorW.PrintLast Go.Proofs.YtncbbgmhmofhnaaDoorW.PrintMore
set_option linter.unusedVariables false
set_option linter.unusedSimpArgs false

theorem info_p : (Tryd.prog.info? 91).map (·.size) = some 3 := by kernel_rfl
theorem pair_size (x : S91) : (Tryd.prog.info? 91).map (·.size) = some (cells_p x).length := info_p
/-- Where the first of a table's is for which something is so. -/
def posP (p : S91 → Bool) (T : List S91) : Int := match T.findIdx? p with | some i => i | none => -1
/-- What a told function answers. -/
abbrev Tells (K : Nat) (caps : Array Value) (p : S91 → Bool) (w : World) : Prop := ∀ (x : S91) (W : World), Below w.heap.size w W → Calls Tryd.prog K (#[.agg (cells_p x).toArray] ++ caps) W fun e W' => e = .returned (.bool (p x)) ∧ Below W.heap.size W W'

set_option maxHeartbeats 1000000 in
theorem index_calls (K : Nat) (caps : Array Value) (p : S91 → Bool) (T : List S91) (g c : Nat) (w : World) (hT : RowsAt cells_p 3 w g T) (hg : g < w.heap.size) (hn : T.length ≤ 1000000) (hK : Tells K caps p w) (hcf : ∀ xs W, (callFunc K xs).run Tryd.prog W = .ok (.enter K xs) W) :
    Calls Tryd.prog 88 #[.slice (some ⟨g, 0, none⟩) T.length c, .func (.func K) #[] caps] w fun e w' => e = .returned (.int .i64 (posP p T)) ∧ Below w.heap.size w w' := by
  have HK := Lib.hid hK
  clear hK
  go_enter Tryd.func88, Tryd.ntmps88
  go_wp2_with fail
  go_loopw [8] (fun i wr => ∃ a : Nat, i = .int .i64 a ∧ a ≤ T.length ∧ (∀ m x, m < a → T[m]? = some x → p x = false) ∧ Below w.heap.size w wr) (fun i _ => T.length - (intOf i).toNat)
  case atStart => exact ⟨0, rfl, Nat.zero_le _, fun m x h => absurd h (Nat.not_lt_zero _), Below.refl _ _⟩
  case round =>
    obtain ⟨a, rfl, h1, h2, hb⟩ := hrel
    have H2 := Lib.hid h2
    clear h2
    by_cases hlt : a < T.length
    · obtain ⟨x, hx⟩ : ∃ x, T[a]? = some x := ⟨_, List.getElem?_eq_getElem (by omega)⟩
      have hr : wr.rangeAt g (a * 3) (cells_p x) := hT.below hb hg _ _ hx
      have HX := Lib.hid hx
      have HR := Lib.hid hr
      clear hx hr
      cases hp : p x with
      | false =>
        go_wp2_with (first | (with_reducible refine wpList_load_mid rfl 91 _ rfl g (a * 3) rfl (cells_p x) _ HR.out Tryd.underlying91 rfl (pair_size x) ?_) | (with_reducible refine (HK.out x _ hb).mono ?_; rintro e w1 ⟨rfl, hb1⟩))
        go_roundw
        case rel => exact ⟨a + 1, by go_num, by omega, fun m y hm hy => by
          rcases Nat.lt_or_eq_of_le (Nat.le_of_lt_succ hm) with h | rfl
          · exact H2.out m y h hy
          · rw [HX.out] at hy; obtain rfl := Option.some.inj hy; exact hp, below_then hb hb.size hb1⟩
        case measure => simp [intOf]; omega
      | true =>
        have hq : posP p T = (a : Int) := by
          have : T.findIdx? p = some a := by
            rw [List.findIdx?_eq_some_iff_getElem]
            obtain ⟨hl, e⟩ := List.getElem?_eq_some_iff.1 HX.out
            refine ⟨hl, by rw [e]; exact hp, fun j hj => ?_⟩
            rw [H2.out j _ hj (List.getElem?_eq_getElem (by omega))]; decide
          unfold posP; rw [this]
        have HQ := Lib.hid hq
        clear hq
        go_wp2_with (first | (with_reducible refine wpList_load_mid rfl 91 _ rfl g (a * 3) rfl (cells_p x) _ HR.out Tryd.underlying91 rfl (pair_size x) ?_) | (with_reducible refine (HK.out x _ hb).mono ?_; rintro e w1 ⟨rfl, hb1⟩))
        go_ret
        exact ⟨by rw [HQ.out]; rfl, below_then hb hb.size hb1⟩
    · have hq : posP p T = -1 := by
        have : T.findIdx? p = none := by
          rw [List.findIdx?_eq_none_iff]
          intro x hx
          obtain ⟨m, hm⟩ := List.mem_iff_getElem?.1 hx
          have := (List.getElem?_eq_some_iff.1 hm).1
          exact H2.out m x (by omega) hm
        unfold posP; rw [this]
      have HQ := Lib.hid hq
      clear hq
      go_wp2_with fail
      go_ret
      exact ⟨by rw [HQ.out]; rfl, hb⟩

theorem callFunc_enter {f : FuncId} {fn : Func} {c : Code} (hf : Tryd.prog.funcs[f]? = some fn) (hname : (fn.name == "runtime.NumGoroutine") = false) (hb : fn.body = some c) (xs : Array Value) (w : World) :
    (callFunc f xs).run Tryd.prog w = .ok (.enter f xs) w := by
  have h1 : fn.name ≠ "runtime.NumGoroutine" := by simpa using hname
  simp [callFunc, hf, h1, hb]
theorem one_p (r : Int) (g : Nat) (W : World) (hg : g < W.heap.size) (hW : W.cell? ⟨g, 0, none⟩ = some (.int .i32 r)) (x : S91) :
    Calls Tryd.prog 74 #[.agg (cells_p x).toArray, .pointer (some ⟨g, 0, none⟩)] W fun e W' => e = .returned (.bool (x.f0 == r)) ∧ Below W.heap.size W W' := by
  unfold cells_p
  go_enter Tryd.func74, Tryd.ntmps74
  go_wp2
  go_ret
  exact ⟨rfl, (Below.refl _ _).alloc (Nat.le_refl _) _⟩
theorem tells_one (r : Int) (g : Nat) (w : World) (hg : g < w.heap.size) (hW : w.cell? ⟨g, 0, none⟩ = some (.int .i32 r)) : Tells 74 #[.pointer (some ⟨g, 0, none⟩)] (fun x => x.f0 == r) w := fun x W hb =>
  one_p r g W (Nat.lt_of_lt_of_le hg hb.size) ((hb.cell (p := ⟨g, 0, none⟩) hg).trans hW) x
theorem cf_one (xs : Array Value) (W : World) : (callFunc 74 xs).run Tryd.prog W = .ok (.enter 74 xs) W := callFunc_enter Tryd.func74 (by kernel_rfl) rfl xs W
def z3 : S91 := ⟨0, 0, 0⟩
def ofP (p : S91 → Bool) : S91 × Bool := match (uP0 ++ uP1).find? p with | some x => (x, true) | none => (z3, false)
theorem pos_some {p : S91 → Bool} {T : List S91} {x : S91} (h : T.find? p = some x) : ∃ i : Nat, posP p T = (i : Int) ∧ T[i]? = some x := by
  obtain ⟨h1, as1, bs, h2, h3⟩ := List.find?_eq_some_iff_append.1 h
  refine ⟨as1.length, ?_, by rw [h2]; simp⟩
  have : T.findIdx? p = some as1.length := by
    rw [List.findIdx?_eq_some_iff_getElem]
    refine ⟨by rw [h2]; simp, ?_, fun j hj => ?_⟩
    · simp [h2, h1]
    · have := h3 as1[j] (List.getElem_mem hj)
      simp only [h2, List.getElem_append_left hj]
      simpa using this
  unfold posP; rw [this]
theorem pos_none {p : S91 → Bool} {T : List S91} (h : T.find? p = none) : posP p T = -1 := by
  have : T.findIdx? p = none := by
    rw [List.findIdx?_eq_none_iff]
    intro x hx
    have := List.find?_eq_none.1 h x hx
    simpa using this
  unfold posP; rw [this]
theorem ofP0 {p : S91 → Bool} {x : S91} (h : uP0.find? p = some x) : ofP p = (x, true) := by unfold ofP; rw [List.find?_append, h]; rfl
theorem ofP1 {p : S91 → Bool} {x : S91} (h0 : uP0.find? p = none) (h : uP1.find? p = some x) : ofP p = (x, true) := by unfold ofP; rw [List.find?_append, h0, h]; rfl
theorem ofP2 {p : S91 → Bool} (h0 : uP0.find? p = none) (h : uP1.find? p = none) : ofP p = (z3, false) := by unfold ofP; rw [List.find?_append, h0, h]; rfl
structure PW (w W : World) : Prop where
  r0 : RowsAt cells_p 3 W (w.heap.size + 1) uP0
  r1 : RowsAt cells_p 3 W (w.heap.size + 1 + 1) uP1
  th : W.there w.heap.size 0 3
  sz : w.heap.size + 1 + 1 < W.heap.size
  bel : Below w.heap.size w W
theorem PW.keep {w W W1 : World} (h : PW w W) (hb : Below W.heap.size W W1) : PW w W1 :=
  ⟨h.r0.below hb (by have := h.sz; omega), h.r1.below hb h.sz, there_below h.th hb (by have := h.sz; omega), Nat.lt_of_lt_of_le h.sz hb.size, below_then h.bel (by have := h.sz; omega) hb⟩
theorem PW.start (w : World) (c : Array Value) (hc : c.size = 3) : PW w (((w.alloc (.cells c 91)).alloc (.cells (uP0.flatMap cells_p).toArray 91)).alloc (.cells (uP1.flatMap cells_p).toArray 91)) := by
  have h0 := RowsAt.new (f := cells_p) (n := 3) (fun _ => rfl) (w.alloc (.cells c 91)) uP0 91
  have h1 := RowsAt.new (f := cells_p) (n := 3) (fun _ => rfl) ((w.alloc (.cells c 91)).alloc (.cells (uP0.flatMap cells_p).toArray 91)) uP1 91
  simp only [World.size_alloc] at h0 h1
  have ht := there_new w c 91
  rw [hc] at ht
  exact ⟨h0.later _, h1, World.there_alloc (World.there_alloc ht _) _, by simp, (((Below.refl _ _).alloc (Nat.le_refl _) _).alloc (by simp) _).alloc (by simp; omega) _⟩
theorem index2 (x0 x1 : Value) : (∀ w, (Instr.index 108 (.agg #[x0, x1]) (.int .i64 0)).run Tryd.prog w = .ok x0 w) ∧ (∀ w, (Instr.index 108 (.agg #[x0, x1]) (.int .i64 1)).run Tryd.prog w = .ok x1 w) :=
  ⟨fun _ => by kernel_rfl, fun _ => by kernel_rfl⟩
theorem pair_size_a (x : S91) : (Tryd.prog.info? 91).map (·.size) = some (cells_p x).toArray.size := info_p
theorem th_p {W : World} {g : Nat} (h : W.there g 0 3) (x : S91) : W.there g 0 (cells_p x).toArray.size := h
theorem th_zp {W : World} {g : Nat} (h : W.there g 0 3) : W.there g 0 (#[.int .i32 0, .int .i32 0, .int .i32 0] : Array Value).size := h
theorem size_zp : (Tryd.prog.info? 91).map (·.size) = some (#[.int .i32 0, .int .i32 0, .int .i32 0] : Array Value).size := info_p
theorem one_zp : (#[.int .i32 0, .int .i32 0, .int .i32 0] : Array Value).all (·.oneCell') = true := by simp [Value.oneCell']
theorem pair_one (x : S91) : (cells_p x).toArray.all (·.oneCell') = true := by simp [cells_p, Value.oneCell']
theorem results_ct {fn : Func} {p u : Tmp} {ty : TypeId} (h : fn.results = #[.cell p ty, .tmp u]) (tmps : Array Value) (w : World) (g : Nat) (cs : List Value) (d : TypeDesc)
    (hp : tmps.getD p undef = .pointer (some ⟨g, 0, none⟩)) (hc : w.rangeAt g 0 cs)
    (hu : Tryd.prog.underlying ty = some d) (hd : d.isRow = true) (hi : (Tryd.prog.info? ty).map (·.size) = some cs.length) {v : Value} (hv : .tuple #[.agg cs.toArray, tmps.getD u undef] = v) :
    (results fn tmps).run Tryd.prog w = .ok v w := by
  subst hv
  rw [results_cell_tmp h]
  have hp' : tmps[p]?.getD undef = .pointer (some ⟨g, 0, none⟩) := by simpa using hp
  simp [hp', asAddr, run_loadVar_mid w g 0 ty cs d hc hu hd hi, Result.andThen]
abbrev CF (K : Nat) : Prop := ∀ (xs : Array Value) (W : World), (callFunc K xs).run Tryd.prog W = .ok (.enter K xs) W
theorem Tells.later {K : Nat} {caps : Array Value} {p : S91 → Bool} {w W : World} (h : Tells K caps p w) (hb : Below w.heap.size w W) : Tells K caps p W := fun x W' hb' => h x W' (below_then hb hb.size hb')
def IYes (T : List S91) (x : S91) (w : World) (e : Ending) (w' : World) : Prop := ∃ i : Nat, T[i]? = some x ∧ e = .returned (.int .i64 i) ∧ Below w.heap.size w w'
theorem index_yes {T : List S91} {p : S91 → Bool} {x : S91} (hx : T.find? p = some x) (g c K : Nat) (caps : Array Value) (w : World) (hT : RowsAt cells_p 3 w g T) (hg : g < w.heap.size) (hn : T.length ≤ 1000000) (hK : Tells K caps p w) (hcf : CF K) :
    Calls Tryd.prog 88 #[.slice (some ⟨g, 0, none⟩) T.length c, .func (.func K) #[] caps] w (IYes T x w) :=
  (index_calls K caps p T g c w hT hg hn hK hcf).mono fun e w' ⟨he, hb⟩ => by
    obtain ⟨i, hi, hx⟩ := pos_some hx
    exact ⟨i, hx, by rw [he, hi], hb⟩
theorem index_no {T : List S91} {p : S91 → Bool} (hx : T.find? p = none) (g c K : Nat) (caps : Array Value) (w : World) (hT : RowsAt cells_p 3 w g T) (hg : g < w.heap.size) (hn : T.length ≤ 1000000) (hK : Tells K caps p w) (hcf : CF K) :
    Calls Tryd.prog 88 #[.slice (some ⟨g, 0, none⟩) T.length c, .func (.func K) #[] caps] w fun e w' => e = .returned (.int .i64 (-1)) ∧ Below w.heap.size w w' :=
  (index_calls K caps p T g c w hT hg hn hK hcf).mono fun e w' ⟨he, hb⟩ => ⟨by rw [he, pos_none hx], hb⟩
set_option maxHeartbeats 2000000 in
theorem among_0 (K : Nat) (caps : Array Value) (p : S91 → Bool) (w : World) (hK : Tells K caps p w) (hcf : CF K) {x : S91} (h0 : uP0.find? p = some x) :
    Calls Tryd.prog 73 #[.func (.func K) #[] caps] w fun e w' => e = .returned (.tuple #[.agg (cells_p x).toArray, .bool true]) ∧ Below w.heap.size w w' := by
  have HK := Lib.hid hK
  have HF := Lib.hid hcf
  clear hK hcf
  have H0 := Lib.hid h0
  clear h0
  obtain ⟨i0, i1⟩ := index2 (.slice (some ⟨w.heap.size + 1, 0, none⟩) uP0.length uP0.length) (.slice (some ⟨w.heap.size + 1 + 1, 0, none⟩) uP1.length uP1.length)
  go_enter Tryd.func73, Tryd.ntmps73
  go_wp2_with (first | (go_at_call 86; refine (unidata_pairs0.run _).mono ?_; rintro e w1 ⟨rfl, rfl⟩) | (go_at_call 87; refine (unidata_pairs1.run _).mono ?_; rintro e w1 ⟨rfl, rfl⟩))
  have hW := PW.start w #[.int .i32 0, .int .i32 0, .int .i32 0] rfl
  generalize World.alloc (World.alloc (World.alloc w _) _) _ = W at hW ⊢
  refine wp_loop_rounds 3 ?_
  rw [rounds_succ]
  go_wp2_with (first | (go_at_call 88; refine (index_yes H0.out (w.heap.size + 1) _ _ _ _ hW.r0 (by have := hW.sz; omega) (by decide) (HK.out.later hW.bel) HF.out).mono ?_; rintro e w9 ⟨i, hx, rfl, hb9⟩; have hW9 := hW.keep hb9; have hr := hW9.r0 i x hx; have hi1 := (List.getElem?_eq_some_iff.1 hx).1; have HX := Lib.hid hx; clear hx) | (with_reducible refine wpList_load_mid rfl 91 _ rfl ((w.heap.size + 1)) (i * 3) rfl (cells_p x) _ hr Tryd.underlying91 rfl (pair_size x) ?_) | (with_reducible refine wpList_store_mid rfl 91 _ _ rfl w.heap.size 0 (cells_p x).toArray rfl rfl (th_p hW9.th x) (pair_size_a x) (pair_one x) ?_))
  refine bodyPost_ret (v := .tuple #[.agg (cells_p x).toArray, .bool true]) (results_ct (g := w.heap.size) (fn := Tryd.f73) (p := 2) (u := 3) rfl _ _ (cells_p x) _ (by simp [Act.put]) (World.rangeAt_setCells_same _ _ _ _ (th_p hW9.th x)) Tryd.underlying91 rfl (pair_size x) (by simp [Act.put])) rfl ⟨rfl, ?_⟩
  exact below_cells (Nat.le_refl _) _ _ hW9.bel
set_option maxHeartbeats 2000000 in
theorem among_1 (K : Nat) (caps : Array Value) (p : S91 → Bool) (w : World) (hK : Tells K caps p w) (hcf : CF K) {x : S91} (h0 : uP0.find? p = none) (h1 : uP1.find? p = some x) :
    Calls Tryd.prog 73 #[.func (.func K) #[] caps] w fun e w' => e = .returned (.tuple #[.agg (cells_p x).toArray, .bool true]) ∧ Below w.heap.size w w' := by
  have HK := Lib.hid hK
  have HF := Lib.hid hcf
  clear hK hcf
  have H0 := Lib.hid h0
  have H1 := Lib.hid h1
  clear h0 h1
  obtain ⟨i0, i1⟩ := index2 (.slice (some ⟨w.heap.size + 1, 0, none⟩) uP0.length uP0.length) (.slice (some ⟨w.heap.size + 1 + 1, 0, none⟩) uP1.length uP1.length)
  go_enter Tryd.func73, Tryd.ntmps73
  go_wp2_with (first | (go_at_call 86; refine (unidata_pairs0.run _).mono ?_; rintro e w1 ⟨rfl, rfl⟩) | (go_at_call 87; refine (unidata_pairs1.run _).mono ?_; rintro e w1 ⟨rfl, rfl⟩))
  have hW := PW.start w #[.int .i32 0, .int .i32 0, .int .i32 0] rfl
  generalize World.alloc (World.alloc (World.alloc w _) _) _ = W at hW ⊢
  refine wp_loop_rounds 3 ?_
  rw [rounds_succ]
  go_wp2_with (first | (go_at_call 88; refine (index_no H0.out (w.heap.size + 1) _ _ _ _ hW.r0 (by have := hW.sz; omega) (by decide) (HK.out.later hW.bel) HF.out).mono ?_; rintro e w9 ⟨rfl, hb9⟩))
  have hW1 := hW.keep hb9
  clear hb9
  rw [rounds_succ]
  go_wp2_with (first | (go_at_call 88; refine (index_yes H1.out (w.heap.size + 1 + 1) _ _ _ _ hW1.r1 (by have := hW1.sz; omega) (by decide) (HK.out.later hW1.bel) HF.out).mono ?_; rintro e w9 ⟨i, hx, rfl, hb9⟩; have hW9 := hW1.keep hb9; have hr := hW9.r1 i x hx; have hi1 := (List.getElem?_eq_some_iff.1 hx).1; have HX := Lib.hid hx; clear hx) | (with_reducible refine wpList_load_mid rfl 91 _ rfl ((w.heap.size + 1 + 1)) (i * 3) rfl (cells_p x) _ hr Tryd.underlying91 rfl (pair_size x) ?_) | (with_reducible refine wpList_store_mid rfl 91 _ _ rfl w.heap.size 0 (cells_p x).toArray rfl rfl (th_p hW9.th x) (pair_size_a x) (pair_one x) ?_))
  refine bodyPost_ret (v := .tuple #[.agg (cells_p x).toArray, .bool true]) (results_ct (g := w.heap.size) (fn := Tryd.f73) (p := 2) (u := 3) rfl _ _ (cells_p x) _ (by simp [Act.put]) (World.rangeAt_setCells_same _ _ _ _ (th_p hW9.th x)) Tryd.underlying91 rfl (pair_size x) (by simp [Act.put])) rfl ⟨rfl, ?_⟩
  exact below_cells (Nat.le_refl _) _ _ hW9.bel
set_option maxHeartbeats 2000000 in
theorem among_2 (K : Nat) (caps : Array Value) (p : S91 → Bool) (w : World) (hK : Tells K caps p w) (hcf : CF K) (h0 : uP0.find? p = none) (h1 : uP1.find? p = none) :
    Calls Tryd.prog 73 #[.func (.func K) #[] caps] w fun e w' => e = .returned (.tuple #[.agg (cells_p z3).toArray, .bool false]) ∧ Below w.heap.size w w' := by
  have HK := Lib.hid hK
  have HF := Lib.hid hcf
  clear hK hcf
  have H0 := Lib.hid h0
  have H1 := Lib.hid h1
  clear h0 h1
  obtain ⟨i0, i1⟩ := index2 (.slice (some ⟨w.heap.size + 1, 0, none⟩) uP0.length uP0.length) (.slice (some ⟨w.heap.size + 1 + 1, 0, none⟩) uP1.length uP1.length)
  go_enter Tryd.func73, Tryd.ntmps73
  go_wp2_with (first | (go_at_call 86; refine (unidata_pairs0.run _).mono ?_; rintro e w1 ⟨rfl, rfl⟩) | (go_at_call 87; refine (unidata_pairs1.run _).mono ?_; rintro e w1 ⟨rfl, rfl⟩))
  have hW := PW.start w #[.int .i32 0, .int .i32 0, .int .i32 0] rfl
  generalize World.alloc (World.alloc (World.alloc w _) _) _ = W at hW ⊢
  refine wp_loop_rounds 3 ?_
  rw [rounds_succ]
  go_wp2_with (first | (go_at_call 88; refine (index_no H0.out (w.heap.size + 1) _ _ _ _ hW.r0 (by have := hW.sz; omega) (by decide) (HK.out.later hW.bel) HF.out).mono ?_; rintro e w9 ⟨rfl, hb9⟩))
  have hW1 := hW.keep hb9
  clear hb9
  rw [rounds_succ]
  go_wp2_with (first | (go_at_call 88; refine (index_no H1.out (w.heap.size + 1 + 1) _ _ _ _ hW1.r1 (by have := hW1.sz; omega) (by decide) (HK.out.later hW1.bel) HF.out).mono ?_; rintro e w9 ⟨rfl, hb9⟩))
  have hW2 := hW1.keep hb9
  clear hb9
  rw [rounds_succ]
  go_wp2_with (first | (with_reducible refine wpList_store_mid rfl 91 _ _ rfl w.heap.size 0 #[.int .i32 0, .int .i32 0, .int .i32 0] rfl rfl (th_zp hW2.th) size_zp one_zp ?_))
  refine bodyPost_ret (v := .tuple #[.agg (cells_p z3).toArray, .bool false]) (results_ct (g := w.heap.size) (fn := Tryd.f73) (p := 2) (u := 3) rfl _ _ (cells_p z3) _ (by simp [Act.put]) (World.rangeAt_setCells_same _ _ _ _ (th_p hW2.th z3)) Tryd.underlying91 rfl (pair_size z3) (by simp [Act.put])) rfl ⟨rfl, ?_⟩
  exact below_cells (Nat.le_refl _) _ _ hW2.bel
theorem among_any (K : Nat) (caps : Array Value) (p : S91 → Bool) (w : World) (hK : Tells K caps p w) (hcf : CF K) :
    Calls Tryd.prog 73 #[.func (.func K) #[] caps] w fun e w' => e = .returned (.tuple #[.agg (cells_p (ofP p).1).toArray, .bool (ofP p).2]) ∧ Below w.heap.size w w' := by
  cases h0 : uP0.find? p with
  | some x => rw [ofP0 h0]; exact among_0 K caps p w hK hcf h0
  | none =>
    cases h1 : uP1.find? p with
    | some x => rw [ofP1 h0 h1]; exact among_1 K caps p w hK hcf h0 h1
    | none => rw [ofP2 h0 h1]; exact among_2 K caps p w hK hcf h0 h1
def unidata_Decomp.f (r : Int) : Option (List Int) := some (if r = 8486 then [937] else if r = 8490 then [75] else if r = 8491 then [197] else if (ofP fun x => x.f0 == r).2 = true then [(ofP fun x => x.f0 == r).1.f1, (ofP fun x => x.f0 == r).1.f2] else [])
def DRes (w : World) (r : List Int) (e : Ending) (w' : World) : Prop := ∃ v0_ : Value, e = .returned (v0_) ∧ Kd.R (Kd.int .i32) 21 w' w.heap.size (fun _ => True) v0_ r ∧ Below w.heap.size w w'
theorem decomp_8 (w : World) : Calls Tryd.prog 58 #[.int .i32 8486] w (DRes w [937]) := by
  go_enter Tryd.func58, Tryd.ntmps58
  go_wp2_with (first | ((with_reducible refine gate_dst (N := 8) rfl ?_); refine Kd.R_lit (Kd.int .i32) _ 21 ?hg (N := 8) ?hd (xs := ([937] : List Int)) (inner := [.int .i32 937]) (ok := fun _ => True) (okp := fun _ => True) ?hr ?hp (fun _ hk => hk) trivial (Below.refl _ _) (Nat.le_refl _) (by simp) ?_; (case hd => rfl); (case hg => rfl); (case hr => first | (go_simp; done) | (go_simp; rfl)); (case hp => exact (Reps.one (show Kd.M (Kd.int .i32) _ _ _ 937 [.int .i32 937] from rfl) (Reps.none _ _))); intro v204 w5 ho6 hb hg_ hnew_; clear hg_ hnew_))
  go_ret
  exact ⟨_, rfl, Kd.R_lower ho6 (by simp), below_step (below_alloc (Below.refl _ _) _) hb⟩
theorem decomp_11 (w : World) : Calls Tryd.prog 58 #[.int .i32 8490] w (DRes w [75]) := by
  go_enter Tryd.func58, Tryd.ntmps58
  go_wp2_with (first | ((with_reducible refine gate_dst (N := 11) rfl ?_); refine Kd.R_lit (Kd.int .i32) _ 21 ?hg (N := 11) ?hd (xs := ([75] : List Int)) (inner := [.int .i32 75]) (ok := fun _ => True) (okp := fun _ => True) ?hr ?hp (fun _ hk => hk) trivial (Below.refl _ _) (Nat.le_refl _) (by simp) ?_; (case hd => rfl); (case hg => rfl); (case hr => first | (go_simp; done) | (go_simp; rfl)); (case hp => exact (Reps.one (show Kd.M (Kd.int .i32) _ _ _ 75 [.int .i32 75] from rfl) (Reps.none _ _))); intro v204 w5 ho6 hb hg_ hnew_; clear hg_ hnew_))
  go_ret
  exact ⟨_, rfl, Kd.R_lower ho6 (by simp), below_step (below_alloc (Below.refl _ _) _) hb⟩
theorem decomp_14 (w : World) : Calls Tryd.prog 58 #[.int .i32 8491] w (DRes w [197]) := by
  go_enter Tryd.func58, Tryd.ntmps58
  go_wp2_with (first | ((with_reducible refine gate_dst (N := 14) rfl ?_); refine Kd.R_lit (Kd.int .i32) _ 21 ?hg (N := 14) ?hd (xs := ([197] : List Int)) (inner := [.int .i32 197]) (ok := fun _ => True) (okp := fun _ => True) ?hr ?hp (fun _ hk => hk) trivial (Below.refl _ _) (Nat.le_refl _) (by simp) ?_; (case hd => rfl); (case hg => rfl); (case hr => first | (go_simp; done) | (go_simp; rfl)); (case hp => exact (Reps.one (show Kd.M (Kd.int .i32) _ _ _ 197 [.int .i32 197] from rfl) (Reps.none _ _))); intro v204 w5 ho6 hb hg_ hnew_; clear hg_ hnew_))
  go_ret
  exact ⟨_, rfl, Kd.R_lower ho6 (by simp), below_step (below_alloc (Below.refl _ _) _) hb⟩
theorem cell_new (w : World) (v : Value) (t : TypeId) : (w.alloc (.cells #[v] t)).cell? ⟨w.heap.size, 0, none⟩ = some v := by
  rw [cell_of_row _ _ _ _ _ _ (heap_alloc_new w _)]; rfl
theorem there3 (w : World) (a b c : Value) (t : TypeId) : (w.alloc (.cells #[a, b, c] t)).there w.heap.size 0 3 := there_new w #[a, b, c] t
theorem after_store (w : World) (a b c : Value) (t : TypeId) (x : S91) : ∃ W, (w.alloc (.cells #[a, b, c] t)).setCells w.heap.size 0 (cells_p x).toArray.toList = W ∧ w.heap.size < W.heap.size ∧ W.cell? ⟨w.heap.size, 0, none⟩ = some (.int .i32 x.f0) ∧ W.cell? ⟨w.heap.size, 1, none⟩ = some (.int .i32 x.f1) ∧ W.cell? ⟨w.heap.size, 2, none⟩ = some (.int .i32 x.f2) ∧ Below w.heap.size w W := by
  have hr := World.rangeAt_setCells_same (w.alloc (.cells #[a, b, c] t)) w.heap.size 0 (cells_p x) (there3 w a b c t)
  refine ⟨_, rfl, ?_, hr 0 _ rfl, hr 1 _ rfl, hr 2 _ rfl, below_cells (Nat.le_refl _) _ _ (below_alloc (Below.refl _ _) _)⟩
  rw [size_cells]; simp
set_option maxHeartbeats 1000000 in
theorem decomp_no (r : Int) (w : World) (h1 : ¬ r = 8486) (h2 : ¬ r = 8490) (h3 : ¬ r = 8491) (x : S91) (hq : (ofP fun x => x.f0 == r) = (x, false)) : Calls Tryd.prog 58 #[.int .i32 r] w (DRes w []) := by
  go_enter Tryd.func58, Tryd.ntmps58
  go_wp2_with (first | (go_at_call 73; refine (among_any 74 _ (fun x => x.f0 == r) _ (tells_one r _ _ (by simp) (cell_new _ _ _)) cf_one).mono ?_; rw [hq]; rintro e w1 ⟨rfl, hb1⟩) | (with_reducible refine wpList_store_mid rfl 91 _ _ rfl w1.heap.size 0 (cells_p x).toArray rfl rfl (th_p (there3 w1 _ _ _ _) x) (pair_size_a x) (pair_one x) ?_; obtain ⟨W, eW, hs, c0, c1, c2, hbW⟩ := after_store w1 (.int .i32 0) (.int .i32 0) (.int .i32 0) 91 x; rw [eW]; clear eW))
  go_ret
  exact ⟨_, rfl, Kd.R_nil _ _ _ _ _, below_step (below_step (below_alloc (Below.refl _ _) _) hb1) hbW⟩
set_option maxHeartbeats 1000000 in
theorem decomp_yes (r : Int) (w : World) (h1 : ¬ r = 8486) (h2 : ¬ r = 8490) (h3 : ¬ r = 8491) (x : S91) (hq : (ofP fun x => x.f0 == r) = (x, true)) : Calls Tryd.prog 58 #[.int .i32 r] w (DRes w [x.f1, x.f2]) := by
  go_enter Tryd.func58, Tryd.ntmps58
  go_wp2_with (first | (go_at_call 73; refine (among_any 74 _ (fun x => x.f0 == r) _ (tells_one r _ _ (by simp) (cell_new _ _ _)) cf_one).mono ?_; rw [hq]; rintro e w1 ⟨rfl, hb1⟩) | (with_reducible refine wpList_store_mid rfl 91 _ _ rfl w1.heap.size 0 (cells_p x).toArray rfl rfl (th_p (there3 w1 _ _ _ _) x) (pair_size_a x) (pair_one x) ?_; obtain ⟨W, eW, hs, c0, c1, c2, hbW⟩ := after_store w1 (.int .i32 0) (.int .i32 0) (.int .i32 0) 91 x; rw [eW]; clear eW) | ((with_reducible refine gate_dst (N := 25) rfl ?_); refine Kd.R_lit (Kd.int .i32) _ 21 ?hg (N := 25) ?hd (xs := [x.f1, x.f2]) (inner := [.int .i32 x.f1, .int .i32 x.f2]) (ok := fun _ => True) (okp := fun _ => True) ?hr ?hp (fun _ hk => hk) trivial (Below.refl _ _) (Nat.le_refl _) (by simp) ?_; (case hd => rfl); (case hg => rfl); (case hr => first | (go_simp; done) | (go_simp; rfl)); (case hp => exact (Reps.one (show Kd.M (Kd.int .i32) _ _ _ x.f1 [.int .i32 x.f1] from rfl) (Reps.one (show Kd.M (Kd.int .i32) _ _ _ x.f2 [.int .i32 x.f2] from rfl) (Reps.none _ _)))); intro v204 w5 ho6 hb hg_ hnew_; clear hg_ hnew_))
  go_ret
  exact ⟨_, rfl, Kd.R_lower ho6 (below_step (below_step (below_alloc (Below.refl _ _) _) hb1) hbW).size, below_step (below_step (below_step (below_alloc (Below.refl _ _) _) hb1) hbW) hb⟩
theorem unidata_Decomp.calls (a0 : Int) (r : List Int) (w : World) (h : unidata_Decomp.f a0 = some r) :
    Calls Tryd.prog 58 #[.int .i32 a0] w fun e w' => ∃ v0_ : Value, e = .returned (v0_) ∧ Kd.R (Kd.int .i32) 21 w' w.heap.size (fun _ => True) v0_ r ∧ Below w.heap.size w w' := by
  obtain rfl := Option.some.inj h
  by_cases h1 : a0 = 8486
  · rw [if_pos h1]; subst h1; exact decomp_8 w
  · rw [if_neg h1]
    by_cases h2 : a0 = 8490
    · rw [if_pos h2]; subst h2; exact decomp_11 w
    · rw [if_neg h2]
      by_cases h3 : a0 = 8491
      · rw [if_pos h3]; subst h3; exact decomp_14 w
      · rw [if_neg h3]
        cases hq : (ofP fun x => x.f0 == a0) with
        | mk x b =>
          cases b with
          | true => exact decomp_yes a0 w h1 h2 h3 x hq
          | false => exact decomp_no a0 w h1 h2 h3 x hq
end Go.Proofs.YtncbbgmhmofhnaaDoor.Pr
end

section
namespace Go.Proofs.YtncbbgmhmofhnaaDoor.Pr
open Go.RowKit Go.Proofs.YtncbbgmhmofhnaaDoorW.PrintWords Go.Proofs.YtncbbgmhmofhnaaDoorW.PrintLast Go.Proofs.YtncbbgmhmofhnaaDoorW.PrintMore
set_option linter.unusedVariables false
set_option linter.unusedSimpArgs false
attribute [local go_sem] Oper.semAt_some

def decU (r : Int) : List Int := (unidata_Decomp.f r).getD []
theorem decU_f (r : Int) : unidata_Decomp.f r = some (decU r) := rfl
theorem decU_len (r : Int) : (decU r).length ≤ 2 := by
  have e : decU r = if r = 8486 then [937] else if r = 8490 then [75] else if r = 8491 then [197] else if (ofP fun x => x.f0 == r).2 = true then [(ofP fun x => x.f0 == r).1.f1, (ofP fun x => x.f0 == r).1.f2] else [] := rfl
  rw [e]
  repeat' split
  all_goals simp
def apartK : Nat → Int → List Int
  | 0, r => [r]
  | k + 1, r => if decU r = [] then [r] else (decU r).flatMap (apartK k)
def Dep : Nat → Int → Prop
  | 0, r => decU r = []
  | k + 1, r => ∀ x ∈ decU r, Dep k x
theorem apartK_nil {k : Nat} {r : Int} (h : decU r = []) : apartK k r = [r] := by
  cases k with
  | zero => rfl
  | succ k => rw [apartK, if_pos h]
theorem dep_nil {k : Nat} {r : Int} (h : decU r = []) : Dep k r := by
  cases k with
  | zero => exact h
  | succ k => intro x hx; rw [h] at hx; simp at hx
theorem apart_ne (k : Nat) (r : Int) : 0 < (apartK k r).length := by
  induction k generalizing r with
  | zero => simp [apartK]
  | succ k ih =>
    rw [apartK]
    split
    · simp
    · next h =>
      cases e : decU r with
      | nil => exact absurd e h
      | cons x t => rw [List.flatMap_cons, List.length_append]; have := ih x; omega

theorem RoundIn.wide' {m m' : Nat} {P : Program} {l l2 : Nat} {f : FuncId} {tmps : Array Value} {assign body : Code} {w : World} {R : Ending → World → Prop} (h : RoundIn Fence.wide m P l f tmps assign body w R) : RoundIn (Fence.wide.inRound l2) m' P l f tmps assign body w R := ⟨h.1, fun c cs _ => h.2 c cs (room_wide _)⟩
theorem RoundIn.wide0 {m m' : Nat} {P : Program} {l : Nat} {f : FuncId} {tmps : Array Value} {assign body : Code} {w : World} {R : Ending → World → Prop} (h : RoundIn Fence.wide m P l f tmps assign body w R) : RoundIn Fence.wide m' P l f tmps assign body w R := ⟨h.1, fun c cs _ => h.2 c cs (room_wide _)⟩
/-- What an iterator under way holds: the loop's own J; and that blocks of its own hold what they held. -/
structure ApS (J : List Int → (Nat → Prop) → World → Prop) (n1 : Nat) (Mn : Nat → Obj → Prop) (pre : List Int) (O : Nat → Prop) (U : World) : Prop where
  j : J pre O U
  o : ∀ k, O k → n1 ≤ k ∧ k < U.heap.size
  m : ∀ k o, Mn k o → n1 ≤ k ∧ ¬ O k ∧ U.heap[k]? = some o
theorem ApS.turn {J : List Int → (Nat → Prop) → World → Prop} {n1 : Nat} {Q : Nat → Prop} {Mn : Nat → Obj → Prop} {pre : List Int} {O T : Nat → Prop} {A B : World} (hJ : ∀ s O A B, J s O A → Turned (fun k => (Q k ∨ n1 ≤ k) ∧ ¬ O k) A B → J s O B)
    (h : ApS J n1 Mn pre O A) (ht : Turned T A B) (hT : ∀ k, T k → n1 ≤ k ∧ ¬ O k) (hM : ∀ k o, Mn k o → ¬ T k) : ApS J n1 Mn pre O B :=
  ⟨hJ _ _ _ _ h.j (ht.mono fun k _ hk => ⟨.inr (hT k hk).1, (hT k hk).2⟩), fun k hk => ⟨(h.o k hk).1, Nat.lt_of_lt_of_le (h.o k hk).2 ht.size⟩, fun k o hk => ⟨(h.m k o hk).1, (h.m k o hk).2.1, (ht.same k (Array.getElem?_eq_some_iff.1 (h.m k o hk).2.2).1 (hM k o hk)).trans (h.m k o hk).2.2⟩⟩
theorem ApS.new {J : List Int → (Nat → Prop) → World → Prop} {n1 : Nat} {Q : Nat → Prop} {Mn : Nat → Obj → Prop} {pre : List Int} {O : Nat → Prop} {A B : World} (hJ : ∀ s O A B, J s O A → Turned (fun k => (Q k ∨ n1 ≤ k) ∧ ¬ O k) A B → J s O B)
    (h : ApS J n1 Mn pre O A) (hb : Below A.heap.size A B) : ApS J n1 Mn pre O B := h.turn hJ (Turned.of_below (fun _ => False) hb) (fun _ hk => hk.elim) (fun _ _ _ hk => hk)
theorem ApS.more {J : List Int → (Nat → Prop) → World → Prop} {n1 : Nat} {Mn : Nat → Obj → Prop} {pre : List Int} {O : Nat → Prop} {A : World} (h : ApS J n1 Mn pre O A) {D : Nat} {o : Obj} (h1 : n1 ≤ D) (h2 : ¬ O D) (h3 : A.heap[D]? = some o) : ApS J n1 (fun k x => Mn k x ∨ (k = D ∧ x = o)) pre O A :=
  ⟨h.j, h.o, fun k x hk => hk.elim (h.m k x) fun ⟨e1, e2⟩ => by rw [e1, e2]; exact ⟨h1, h2, h3⟩⟩
/-- Behind a round of the outer loop's. -/
theorem ApS.behind {J J' : List Int → (Nat → Prop) → World → Prop} {n1 : Nat} {Q : Nat → Prop} {Mn : Nat → Obj → Prop} {pre pre' : List Int} {O O' : Nat → Prop} {A B : World} (h : ApS J n1 Mn pre O A) (hr : Rnd (fun k => Q k ∨ n1 ≤ k) O O' A B) (hn : n1 ≤ A.heap.size) (hj : J' pre' O' B) : ApS J' n1 Mn pre' O' B :=
  ⟨hj, fun k hk => ⟨(hr.new k hk).elim (fun h' => (h.o k h').1) (fun h' => Nat.le_trans hn h'), hr.lt k hk⟩, fun k o hk => by
    obtain ⟨h1, h2, h3⟩ := h.m k o hk
    have hlt := (Array.getElem?_eq_some_iff.1 h3).1
    refine ⟨h1, fun h' => ?_, (hr.same k hlt (.inr h1) h2).trans h3⟩
    rcases hr.new k h' with h' | h'
    · exact h2 h'
    · omega⟩
/-- The inner loop's invariant. -/
def InI (J : List Int → (Nat → Prop) → World → Prop) (n1 N Bx : Nat) (Mn : Nat → Obj → Prop) (pre s : List Int) (O2 : Nat → Prop) (U : World) : Prop :=
  ∃ O : Nat → Prop, ApS J n1 Mn (pre ++ s) O U ∧ (∀ k, O2 k ↔ O k ∧ N ≤ k) ∧ ¬ O Bx ∧ N ≤ U.heap.size
theorem InI.abides {J : List Int → (Nat → Prop) → World → Prop} {n1 N Bx : Nat} {Q : Nat → Prop} {Mn : Nat → Obj → Prop} {pre s : List Int} {O2 : Nat → Prop} {A B : World} (hJ : ∀ s O A B, J s O A → Turned (fun k => (Q k ∨ n1 ≤ k) ∧ ¬ O k) A B → J s O B) (hB : n1 ≤ Bx) (hN : n1 ≤ N) (hM : ∀ k o, Mn k o → k ≠ Bx ∧ k < N)
    (h : InI J n1 N Bx Mn pre s O2 A) (ht : Turned (fun k => (k = Bx ∨ N ≤ k) ∧ ¬ O2 k) A B) : InI J n1 N Bx Mn pre s O2 B := by
  obtain ⟨O, hS, hO2, hn, hz⟩ := h
  refine ⟨O, hS.turn hJ ht (fun k hk => ?_) (fun k o hk hh => ?_), hO2, hn, Nat.le_trans hz ht.size⟩
  · rcases hk.1 with rfl | h
    · exact ⟨hB, hn⟩
    · exact ⟨Nat.le_trans hN h, fun h' => hk.2 ((hO2 k).2 ⟨h', h⟩)⟩
  · have := hM k o hk
    rcases hh.1 with h | h
    · exact this.1 h
    · omega
/-- A round of the inner loop's in which the outer one's has been called. -/
theorem InI.round {J J' : List Int → (Nat → Prop) → World → Prop} {n1 N Bx : Nat} {Q : Nat → Prop} {Mn : Nat → Obj → Prop} {pre s : List Int} {y : Int} {O O' O2 : Nat → Prop} {A B : World} (hB : n1 ≤ Bx) (hN : n1 ≤ N) (hBN : Bx < N) (hS : ApS J n1 Mn (pre ++ s) O A) (hO2 : ∀ k, O2 k ↔ O k ∧ N ≤ k) (hn : ¬ O Bx) (hz : N ≤ A.heap.size)
    (hr : Rnd (fun k => Q k ∨ n1 ≤ k) O O' A B) (hj : J' (pre ++ s ++ [y]) O' B) : Rnd (fun k => k = Bx ∨ N ≤ k) O2 (fun k => O' k ∧ N ≤ k) A B ∧ InI J' n1 N Bx Mn pre (s ++ [y]) (fun k => O' k ∧ N ≤ k) B := by
  have hS' := hS.behind hr (Nat.le_trans hN hz) hj
  rw [List.append_assoc] at hS'
  refine ⟨⟨hr.size, fun k hk => ?_, fun k hk => hr.lt k hk.1, fun k hk hc hnk => hr.same k hk (.inr ?_) ?_⟩, O', hS', fun k => Iff.rfl, fun h => ?_, Nat.le_trans hz hr.size⟩
  · rcases hr.new k hk.1 with h | h
    · exact .inl ((hO2 k).2 ⟨h, hk.2⟩)
    · exact .inr h
  · rcases hc with rfl | h
    · exact hB
    · omega
  · rcases hc with rfl | h
    · exact hn
    · exact fun h' => hnk ((hO2 k).2 ⟨h', h⟩)
  · rcases hr.new Bx h with h | h
    · exact hn h
    · omega

theorem apart_makes (x : Int) (w : World) : Calls Tryd.prog 39 #[.int .i32 x] w fun e w' => e = .returned (.func (.func 57) #[] #[.pointer (some ⟨w.heap.size, 0, none⟩)]) ∧ w' = w.alloc (.cells #[.int .i32 x] 21) := by
  have hmf : ∀ (fn : Fn) (first cap : Array Value) (w : World), (Instr.makeFunc fn first cap).run Tryd.prog w = .ok (.func fn first cap) w := fun _ _ _ _ => rfl
  go_enter Tryd.func39, Tryd.ntmps39
  go_wp2
  go_ret
  exact ⟨rfl, rfl⟩
def GivesApart (k : Nat) : Prop := ∀ (r : Int), Dep k r → ∀ (Br : Nat) (w : World), w.cell? ⟨Br, 0, none⟩ = some (.int .i32 r) →
  Gives Tryd.prog 57 #[.pointer (some ⟨Br, 0, none⟩)] encS (fun j => j = Br) (fun _ => True) (fun zs => zs = apartK k r) (fun _ => True) (apartK k r).length w

set_option maxRecDepth 100000 in
set_option maxHeartbeats 2000000 in
theorem gives_none (k : Nat) (r : Int) (hd : decU r = []) (Br : Nat) (w : World) (hc0 : w.cell? ⟨Br, 0, none⟩ = some (.int .i32 r)) :
    Gives Tryd.prog 57 #[.pointer (some ⟨Br, 0, none⟩)] encS (fun j => j = Br) (fun _ => True) (fun zs => zs = apartK k r) (fun _ => True) (apartK k r).length w := by
  intro l J Jx W hW _ hJ hJx hY h0
  have hBr := World.block_lt_of_cell? _ _ hc0
  have hc : W.cell? ⟨Br, 0, none⟩ = some (.int .i32 r) := (hW.cell (p := ⟨Br, 0, none⟩) hBr).trans hc0
  have hD := fun W' => unidata_Decomp.calls r _ W' (decU_f r)
  rw [hd] at hD
  refine (callsIn_wide (n := 12)).1 (callsIn_of_wp_marks Tryd.func57 rfl trivial ?_ rfl)
  simp only [Tryd.ntmps57, List.size_toArray, List.length_cons, List.length_nil, Nat.reduceAdd, Nat.reduceSub, Array.replicate_succ, Array.replicate_zero, List.push_toArray, List.append_toArray, List.nil_append, List.cons_append]
  have hc1 : (W.alloc (.cells #[.func (.yield l) #[] #[]] 68)).cell? ⟨Br, 0, none⟩ = some (.int .i32 r) := pw_cell_below (below_alloc (Below.refl _ _) _) hc
  gi_wp2_with (refine ⟨trivial, ?_⟩; gi_at_call 58; refine ((callsIn_wide (n := 11)).2 (hD _)).mono ?_; rintro e w2 ⟨v, rfl, hR, hb⟩; obtain ⟨A, c, rfl⟩ := Kd.R_slice hR; have hb2 := below_step (below_alloc (Below.refl W.heap.size W) (.cells #[.func (.yield l) #[] #[]] 68)) hb; have hc2 := pw_cell_below hb hc1; have hcy : w2.cell? ⟨W.heap.size, 0, none⟩ = some (.func (.yield l) #[] #[]) := pw_cell_below hb (by simp); obtain ⟨fn, tmps, assign, body, hy, hRd⟩ := hY [] r (fun _ => False) w2 (hJ _ _ _ _ h0 (Turned.of_below _ hb2)) hb2.size (fun _ h => h.elim) (apart_ne k r))
  refine (RoundIn.wide0 hRd).mono ?_
  have hap := apartK_nil (k := k) hd
  rintro e W3 ⟨O', hr, ⟨rfl, hj⟩ | ⟨rfl, hj⟩⟩
  · have hO : ∀ k, O' k → W.heap.size ≤ k ∧ k < W3.heap.size := fun k h => ⟨(hr.new k h).elim (fun h => h.elim) (fun h => Nat.le_trans hb2.size h), hr.lt k h⟩
    gi_wp2
    exact ⟨_, results_none rfl _ _ _, _, O', rfl, hO, .inl ⟨[r], hap.symm, hj⟩⟩
  · have hO : ∀ k, O' k → W.heap.size ≤ k ∧ k < W3.heap.size := fun k h => ⟨(hr.new k h).elim (fun h => h.elim) (fun h => Nat.le_trans hb2.size h), hr.lt k h⟩
    gi_wp2
    exact ⟨_, results_none rfl _ _ _, _, O', rfl, hO, .inr ⟨_, trivial, hj⟩⟩
theorem cell_of_R {W : World} {base e g n cap i : Nat} {ok : Nat → Prop} {xs : List Int} {x : Int} (h : Kd.R (Kd.int .i32) e W base ok (.slice (some ⟨g, 0, none⟩) n cap) xs) (hx : xs[i]? = some x) : W.cell? ⟨g, i, none⟩ = some (.int .i32 x) := by
  obtain ⟨hn, _, _⟩ := Kd.R_reads' h
  have hi := (List.getElem?_eq_some_iff.1 hx).1
  obtain ⟨c, _, hM, hc, _⟩ := Kd.R_elem h 0 (i : Int) (by omega) (by omega)
  have hM' : c = [Value.int .i32 (xs.getD ((i : Int)).toNat 0)] := hM
  have := hc 0 (.int .i32 x) (by rw [hM', Int.toNat_natCast, List.getD_eq_getElem?_getD, hx]; rfl)
  have e1 : (i : Int).toNat * (Kd.int .i32).sz + 0 = i := by rw [Int.toNat_natCast]; show i * 1 + 0 = i; omega
  rw [e1] at this
  exact this

set_option maxRecDepth 100000 in
set_option maxHeartbeats 4000000 in
theorem gives_1 (k : Nat) (IH : GivesApart k) (r x : Int) (hd : decU r = [x]) (hdep : ∀ z ∈ [x], Dep k z) (Br : Nat) (w : World) (hc0 : w.cell? ⟨Br, 0, none⟩ = some (.int .i32 r)) :
    Gives Tryd.prog 57 #[.pointer (some ⟨Br, 0, none⟩)] encS (fun j => j = Br) (fun _ => True) (fun zs => zs = apartK (k + 1) r) (fun _ => True) (apartK (k + 1) r).length w := by
  intro l J Jx W hW _ hJ hJx hY h0
  have eg : ∀ args w, (callFunc 57 args).run Tryd.prog w = .ok (.enter 57 args) w := enters_of Tryd.func57 (by kernel_rfl) rfl
  have hap : apartK (k + 1) r = apartK k x := by rw [apartK, if_neg (by rw [hd]; simp), hd]; simp
  have hBr := World.block_lt_of_cell? _ _ hc0
  have hc : W.cell? ⟨Br, 0, none⟩ = some (.int .i32 r) := (hW.cell (p := ⟨Br, 0, none⟩) hBr).trans hc0
  have hc1 : (W.alloc (.cells #[.func (.yield l) #[] #[]] 68)).cell? ⟨Br, 0, none⟩ = some (.int .i32 r) := pw_cell_below (below_alloc (Below.refl _ _) _) hc
  have hD : ∀ W', Calls Tryd.prog 58 #[.int .i32 r] W' fun e w' => ∃ (gd c : Nat) (og : Obj), e = .returned (.slice (some ⟨gd, 0, none⟩) 1 c) ∧ W'.heap.size ≤ gd ∧ w'.heap[gd]? = some og ∧ w'.cell? ⟨gd, 0, none⟩ = some (.int .i32 x) ∧ Below W'.heap.size W' w' := fun W' => (unidata_Decomp.calls r _ W' (decU_f r)).mono fun e w' ⟨v, he, hR, hb⟩ => by
    rw [hd] at hR
    obtain ⟨gd, c, rfl, h1, h2, cells, h3⟩ := Kd.R_form hR (by simp)
    exact ⟨gd, c, _, he, h1, h3, cell_of_R hR rfl, hb⟩
  clear hc hd
  refine (callsIn_wide (n := 12)).1 (callsIn_of_wp_marks Tryd.func57 rfl trivial ?_ rfl)
  simp only [Tryd.ntmps57, List.size_toArray, List.length_cons, List.length_nil, Nat.reduceAdd, Nat.reduceSub, Array.replicate_succ, Array.replicate_zero, List.push_toArray, List.append_toArray, List.nil_append, List.cons_append]
  gi_wp2_with (refine ⟨trivial, ?_⟩; gi_at_call 58; refine ((callsIn_wide (n := 11)).2 (hD _)).mono ?_; rintro e w2 ⟨gd, c, og, rfl, hgd, hog, hcd0, hb⟩)
  have hb2 := below_step (below_alloc (Below.refl W.heap.size W) (.cells #[.func (.yield l) #[] #[]] 68)) hb
  have hbx : (W.alloc (.cells #[.func (.yield l) #[] #[]] 68)).heap[W.heap.size]? = some (.cells #[.func (.yield l) #[] #[]] 68 (0, 0)) := World.alloc_heap_new _ _
  have hoy : w2.heap[W.heap.size]? = some (.cells #[.func (.yield l) #[] #[]] 68 (0, 0)) := (hb.block _ (by simp)).trans hbx
  have hcy0 : w2.cell? ⟨W.heap.size, 0, none⟩ = some (.func (.yield l) #[] #[]) := by simp [World.cell?, hoy]
  rw [World.size_alloc] at hgd
  obtain ⟨Mn0, hMn0⟩ : ∃ Mn0 : Nat → Obj → Prop, Mn0 = fun k o => (k = W.heap.size ∧ o = .cells #[.func (.yield l) #[] #[]] 68 (0, 0)) ∨ (k = gd ∧ o = og) := ⟨_, rfl⟩
  have HMy0 : Mn0 W.heap.size (.cells #[.func (.yield l) #[] #[]] 68 (0, 0)) := by rw [hMn0]; exact .inl ⟨rfl, rfl⟩
  have HMg0 : Mn0 gd og := by rw [hMn0]; exact .inr ⟨rfl, rfl⟩
  have hS0 : ApS J W.heap.size Mn0 [] (fun _ => False) w2 := ⟨hJ _ _ _ _ h0 (Turned.of_below _ hb2), fun k h => h.elim, fun k o h => by
    rw [hMn0] at h
    rcases h with ⟨rfl, rfl⟩ | ⟨rfl, rfl⟩
    · exact ⟨Nat.le_refl _, fun h => h, hoy⟩
    · exact ⟨by omega, fun h => h, hog⟩⟩
  clear hMn0 hb hbx hc1
  have HN0 := hb2.size
  obtain ⟨O0, hO0⟩ : ∃ O0 : Nat → Prop, O0 = fun _ => False := ⟨_, rfl⟩
  rw [← hO0] at hS0
  clear hO0
  refine wpIn_loop_rounds 2 ?_
  rw [roundsIn_succ]
  have hcx0 : w2.cell? ⟨gd, 0, none⟩ = some (.int .i32 x) := (World.cell?_of_block ((hS0.m gd og HMg0).2.2.trans hog.symm)).trans hcd0
  gi_wp2_with (refine ⟨trivial, ?_⟩; gi_at_call 39; refine ((callsIn_wide (n := 11)).2 (apart_makes _ _)).mono ?_; rintro e w' ⟨rfl, rfl⟩)
  have hT0 := hS0.new hJ (below_alloc (Below.refl _ _) (.cells #[.int .i32 x] 21))
  have hcb0 : (w2.alloc (.cells #[.int .i32 x] 21)).cell? ⟨w2.heap.size, 0, none⟩ = some (.int .i32 x) := by simp
  have hsz0 : (w2.alloc (.cells #[.int .i32 x] 21)).heap.size = w2.heap.size + 1 := by simp
  have hnB0 : ¬ O0 w2.heap.size := fun h => Nat.lt_irrefl _ (hS0.o _ h).2
  have hM0 : ∀ k o, Mn0 k o → k < w2.heap.size := fun k o h => (Array.getElem?_eq_some_iff.1 (hS0.m k o h).2.2).1
  generalize w2.alloc (.cells #[.int .i32 x] 21) = V0 at hT0 hcb0 hsz0 ⊢
  refine wpIn_rangeFunc_gives (n := 12) (gf := 57) (lb := #[.pointer (some ⟨w2.heap.size, 0, none⟩)]) (a₁ := fun y_ => { tmps := #[.func (.yield l) #[] #[], .pointer (some ⟨Br, 0, none⟩), .pointer (some ⟨W.heap.size, 0, none⟩), .slice (some ⟨gd, 0, none⟩) 1 c, undef, .int .i32 x, .int .i32 y_, .int .i32 r, .slice (some ⟨gd, 0, none⟩) 1 c, .slice (some ⟨gd, 0, none⟩) 1 c, .int .i64 1, .bool false, undef, undef, undef, .slice (some ⟨gd, 0, none⟩) 1 c, .int .i64 1, .int .i64 0, .bool true, .pointer (some ⟨gd, 0, none⟩), .int .i32 x, .int .i32 x, .func (.func 57) #[] #[.pointer (some ⟨w2.heap.size, 0, none⟩)], .int .i32 y_, undef, undef, undef, undef, undef], defers := [] }) rfl eg (IH x (hdep x (by simp)) w2.heap.size V0 hcb0) (Below.refl _ _) (fun k h => by subst h; omega) (fun _ => rfl)
    (fun s O2 Wc => InI J W.heap.size V0.heap.size w2.heap.size Mn0 ([]) s O2 Wc)
    (fun c s O2 Wc => c = .ret ∧ InI Jx W.heap.size V0.heap.size w2.heap.size Mn0 ([]) s O2 Wc)
    (fun _ _ _ _ => trivial)
    (fun s O2 A B h ht => InI.abides hJ (by omega) (by omega) (fun k o hk => by have := hM0 k o hk; omega) h ht)
    (fun c s O2 A B h ht => ⟨h.1, InI.abides hJx (by omega) (by omega) (fun k o hk => by have := hM0 k o hk; omega) h.2 ht⟩)
    ⟨O0, by rw [List.append_nil]; exact hT0, fun k => ⟨fun h => h.elim, fun h => by have := (hS0.o k h.1).2; omega⟩, hnB0, Nat.le_refl _⟩
    ?assign0 ?body0 ?done0 ?stop0
  case assign0 =>
    intro l2 y Wa K hK
    gi_wp2
    exact hK
  case body0 =>
    rintro l2 s y O2 Wc ⟨O, hS, hO2, hnB, hz⟩ hN hOge hWge
    have hcy : Wc.cell? ⟨W.heap.size, 0, none⟩ = some (.func (.yield l) #[] #[]) := (World.cell?_of_block ((hS.m W.heap.size _ HMy0).2.2.trans hoy.symm)).trans hcy0
    obtain ⟨fn, tmps, assign, body, hy, hRd⟩ := hY ([] ++ s) y O Wc hS.j (by omega) hS.o (by rw [hap]; simp only [List.length_append, List.length_nil]; omega)
    gi_wp2
    refine (RoundIn.wide' hRd).mono ?_
    rintro e W' ⟨O', hr, ⟨rfl, hj⟩ | ⟨rfl, hj⟩⟩
    · gi_wp2
      obtain ⟨q1, q2⟩ := InI.round (J' := J) (Bx := w2.heap.size) (by omega) (by omega) (by omega) hS hO2 hnB hz hr hj
      exact ⟨_, q1, q2⟩
    · gi_wp2
      obtain ⟨q1, q2⟩ := InI.round (J' := Jx) (Bx := w2.heap.size) (by omega) (by omega) (by omega) hS hO2 hnB hz hr hj
      exact ⟨_, q1, rfl, q2⟩
  case stop0 =>
    rintro D cc s O2 Wc hD hnD _ ⟨rfl, O, hS, hO2, hnB, hz⟩ hK
    have hnO : ¬ O D := fun h => hnD ((hO2 D).2 ⟨h, hD⟩)
    gi_wp2
    have hT := hS.turn hJx (Turned.putObj (T := fun k => k = D) Wc (.deferred none) rfl) (fun k e => by subst e; exact ⟨by omega, hnO⟩) (fun k o hk e => by have := hM0 k o hk; omega)
    exact ⟨by simp, .inl ⟨_, _, rfl, run_takeDeferred hK, ⟨_, results_none rfl _ _ _, _, O, rfl, hT.o, .inr ⟨_, trivial, hT.j⟩⟩⟩⟩
  case done0 =>
    rintro D0 zs O2_ W0 hD0 hnD0 rfl ⟨O1, hS1, hO2, hnB, hz0⟩ hK0
    have hnO0 : ¬ O1 D0 := fun h => hnD0 ((hO2 _).2 ⟨h, hD0⟩)
    gi_wp2
    rw [roundsIn_succ]
    gi_wp2
    have hT := hS1.turn hJ (Turned.putObj (T := fun k => k = D0) W0 (.deferred none) rfl) (fun k e => by subst e; exact ⟨by omega, hnO0⟩) (fun k o hk e => by have := hM0 k o hk; omega)
    exact ⟨by simp, .inl ⟨_, _, rfl, run_takeDeferred hK0, ⟨_, results_none rfl _ _ _, _, O1, rfl, hT.o, .inl ⟨_, by rw [hap]; simp, hT.j⟩⟩⟩⟩

set_option maxRecDepth 100000 in
set_option maxHeartbeats 4000000 in
theorem gives_2 (k : Nat) (IH : GivesApart k) (r x y : Int) (hd : decU r = [x, y]) (hdep : ∀ z ∈ [x, y], Dep k z) (Br : Nat) (w : World) (hc0 : w.cell? ⟨Br, 0, none⟩ = some (.int .i32 r)) :
    Gives Tryd.prog 57 #[.pointer (some ⟨Br, 0, none⟩)] encS (fun j => j = Br) (fun _ => True) (fun zs => zs = apartK (k + 1) r) (fun _ => True) (apartK (k + 1) r).length w := by
  intro l J Jx W hW _ hJ hJx hY h0
  have eg : ∀ args w, (callFunc 57 args).run Tryd.prog w = .ok (.enter 57 args) w := enters_of Tryd.func57 (by kernel_rfl) rfl
  have hap : apartK (k + 1) r = apartK k x ++ apartK k y := by rw [apartK, if_neg (by rw [hd]; simp), hd]; simp
  have hBr := World.block_lt_of_cell? _ _ hc0
  have hc : W.cell? ⟨Br, 0, none⟩ = some (.int .i32 r) := (hW.cell (p := ⟨Br, 0, none⟩) hBr).trans hc0
  have hc1 : (W.alloc (.cells #[.func (.yield l) #[] #[]] 68)).cell? ⟨Br, 0, none⟩ = some (.int .i32 r) := pw_cell_below (below_alloc (Below.refl _ _) _) hc
  have hD : ∀ W', Calls Tryd.prog 58 #[.int .i32 r] W' fun e w' => ∃ (gd c : Nat) (og : Obj), e = .returned (.slice (some ⟨gd, 0, none⟩) 2 c) ∧ W'.heap.size ≤ gd ∧ w'.heap[gd]? = some og ∧ w'.cell? ⟨gd, 0, none⟩ = some (.int .i32 x) ∧ w'.cell? ⟨gd, 1, none⟩ = some (.int .i32 y) ∧ Below W'.heap.size W' w' := fun W' => (unidata_Decomp.calls r _ W' (decU_f r)).mono fun e w' ⟨v, he, hR, hb⟩ => by
    rw [hd] at hR
    obtain ⟨gd, c, rfl, h1, h2, cells, h3⟩ := Kd.R_form hR (by simp)
    exact ⟨gd, c, _, he, h1, h3, cell_of_R hR rfl, cell_of_R hR rfl, hb⟩
  clear hc hd
  refine (callsIn_wide (n := 12)).1 (callsIn_of_wp_marks Tryd.func57 rfl trivial ?_ rfl)
  simp only [Tryd.ntmps57, List.size_toArray, List.length_cons, List.length_nil, Nat.reduceAdd, Nat.reduceSub, Array.replicate_succ, Array.replicate_zero, List.push_toArray, List.append_toArray, List.nil_append, List.cons_append]
  gi_wp2_with (refine ⟨trivial, ?_⟩; gi_at_call 58; refine ((callsIn_wide (n := 11)).2 (hD _)).mono ?_; rintro e w2 ⟨gd, c, og, rfl, hgd, hog, hcd0, hcd1, hb⟩)
  have hb2 := below_step (below_alloc (Below.refl W.heap.size W) (.cells #[.func (.yield l) #[] #[]] 68)) hb
  have hbx : (W.alloc (.cells #[.func (.yield l) #[] #[]] 68)).heap[W.heap.size]? = some (.cells #[.func (.yield l) #[] #[]] 68 (0, 0)) := World.alloc_heap_new _ _
  have hoy : w2.heap[W.heap.size]? = some (.cells #[.func (.yield l) #[] #[]] 68 (0, 0)) := (hb.block _ (by simp)).trans hbx
  have hcy0 : w2.cell? ⟨W.heap.size, 0, none⟩ = some (.func (.yield l) #[] #[]) := by simp [World.cell?, hoy]
  rw [World.size_alloc] at hgd
  obtain ⟨Mn0, hMn0⟩ : ∃ Mn0 : Nat → Obj → Prop, Mn0 = fun k o => (k = W.heap.size ∧ o = .cells #[.func (.yield l) #[] #[]] 68 (0, 0)) ∨ (k = gd ∧ o = og) := ⟨_, rfl⟩
  have HMy0 : Mn0 W.heap.size (.cells #[.func (.yield l) #[] #[]] 68 (0, 0)) := by rw [hMn0]; exact .inl ⟨rfl, rfl⟩
  have HMg0 : Mn0 gd og := by rw [hMn0]; exact .inr ⟨rfl, rfl⟩
  have hS0 : ApS J W.heap.size Mn0 [] (fun _ => False) w2 := ⟨hJ _ _ _ _ h0 (Turned.of_below _ hb2), fun k h => h.elim, fun k o h => by
    rw [hMn0] at h
    rcases h with ⟨rfl, rfl⟩ | ⟨rfl, rfl⟩
    · exact ⟨Nat.le_refl _, fun h => h, hoy⟩
    · exact ⟨by omega, fun h => h, hog⟩⟩
  clear hMn0 hb hbx hc1
  have HN0 := hb2.size
  obtain ⟨O0, hO0⟩ : ∃ O0 : Nat → Prop, O0 = fun _ => False := ⟨_, rfl⟩
  rw [← hO0] at hS0
  clear hO0
  refine wpIn_loop_rounds 3 ?_
  rw [roundsIn_succ]
  have hcx0 : w2.cell? ⟨gd, 0, none⟩ = some (.int .i32 x) := (World.cell?_of_block ((hS0.m gd og HMg0).2.2.trans hog.symm)).trans hcd0
  gi_wp2_with (refine ⟨trivial, ?_⟩; gi_at_call 39; refine ((callsIn_wide (n := 11)).2 (apart_makes _ _)).mono ?_; rintro e w' ⟨rfl, rfl⟩)
  have hT0 := hS0.new hJ (below_alloc (Below.refl _ _) (.cells #[.int .i32 x] 21))
  have hcb0 : (w2.alloc (.cells #[.int .i32 x] 21)).cell? ⟨w2.heap.size, 0, none⟩ = some (.int .i32 x) := by simp
  have hsz0 : (w2.alloc (.cells #[.int .i32 x] 21)).heap.size = w2.heap.size + 1 := by simp
  have hnB0 : ¬ O0 w2.heap.size := fun h => Nat.lt_irrefl _ (hS0.o _ h).2
  have hM0 : ∀ k o, Mn0 k o → k < w2.heap.size := fun k o h => (Array.getElem?_eq_some_iff.1 (hS0.m k o h).2.2).1
  generalize w2.alloc (.cells #[.int .i32 x] 21) = V0 at hT0 hcb0 hsz0 ⊢
  refine wpIn_rangeFunc_gives (n := 12) (gf := 57) (lb := #[.pointer (some ⟨w2.heap.size, 0, none⟩)]) (a₁ := fun y_ => { tmps := #[.func (.yield l) #[] #[], .pointer (some ⟨Br, 0, none⟩), .pointer (some ⟨W.heap.size, 0, none⟩), .slice (some ⟨gd, 0, none⟩) 2 c, undef, .int .i32 x, .int .i32 y_, .int .i32 r, .slice (some ⟨gd, 0, none⟩) 2 c, .slice (some ⟨gd, 0, none⟩) 2 c, .int .i64 2, .bool false, undef, undef, undef, .slice (some ⟨gd, 0, none⟩) 2 c, .int .i64 2, .int .i64 0, .bool true, .pointer (some ⟨gd, 0, none⟩), .int .i32 x, .int .i32 x, .func (.func 57) #[] #[.pointer (some ⟨w2.heap.size, 0, none⟩)], .int .i32 y_, undef, undef, undef, undef, undef], defers := [] }) rfl eg (IH x (hdep x (by simp)) w2.heap.size V0 hcb0) (Below.refl _ _) (fun k h => by subst h; omega) (fun _ => rfl)
    (fun s O2 Wc => InI J W.heap.size V0.heap.size w2.heap.size Mn0 ([]) s O2 Wc)
    (fun c s O2 Wc => c = .ret ∧ InI Jx W.heap.size V0.heap.size w2.heap.size Mn0 ([]) s O2 Wc)
    (fun _ _ _ _ => trivial)
    (fun s O2 A B h ht => InI.abides hJ (by omega) (by omega) (fun k o hk => by have := hM0 k o hk; omega) h ht)
    (fun c s O2 A B h ht => ⟨h.1, InI.abides hJx (by omega) (by omega) (fun k o hk => by have := hM0 k o hk; omega) h.2 ht⟩)
    ⟨O0, by rw [List.append_nil]; exact hT0, fun k => ⟨fun h => h.elim, fun h => by have := (hS0.o k h.1).2; omega⟩, hnB0, Nat.le_refl _⟩
    ?assign0 ?body0 ?done0 ?stop0
  case assign0 =>
    intro l2 y Wa K hK
    gi_wp2
    exact hK
  case body0 =>
    rintro l2 s y O2 Wc ⟨O, hS, hO2, hnB, hz⟩ hN hOge hWge
    have hcy : Wc.cell? ⟨W.heap.size, 0, none⟩ = some (.func (.yield l) #[] #[]) := (World.cell?_of_block ((hS.m W.heap.size _ HMy0).2.2.trans hoy.symm)).trans hcy0
    obtain ⟨fn, tmps, assign, body, hy, hRd⟩ := hY ([] ++ s) y O Wc hS.j (by omega) hS.o (by rw [hap]; simp only [List.length_append, List.length_nil]; omega)
    gi_wp2
    refine (RoundIn.wide' hRd).mono ?_
    rintro e W' ⟨O', hr, ⟨rfl, hj⟩ | ⟨rfl, hj⟩⟩
    · gi_wp2
      obtain ⟨q1, q2⟩ := InI.round (J' := J) (Bx := w2.heap.size) (by omega) (by omega) (by omega) hS hO2 hnB hz hr hj
      exact ⟨_, q1, q2⟩
    · gi_wp2
      obtain ⟨q1, q2⟩ := InI.round (J' := Jx) (Bx := w2.heap.size) (by omega) (by omega) (by omega) hS hO2 hnB hz hr hj
      exact ⟨_, q1, rfl, q2⟩
  case stop0 =>
    rintro D cc s O2 Wc hD hnD _ ⟨rfl, O, hS, hO2, hnB, hz⟩ hK
    have hnO : ¬ O D := fun h => hnD ((hO2 D).2 ⟨h, hD⟩)
    gi_wp2
    have hT := hS.turn hJx (Turned.putObj (T := fun k => k = D) Wc (.deferred none) rfl) (fun k e => by subst e; exact ⟨by omega, hnO⟩) (fun k o hk e => by have := hM0 k o hk; omega)
    exact ⟨by simp, .inl ⟨_, _, rfl, run_takeDeferred hK, ⟨_, results_none rfl _ _ _, _, O, rfl, hT.o, .inr ⟨_, trivial, hT.j⟩⟩⟩⟩
  case done0 =>
    rintro D0 zs O2_ W0 hD0 hnD0 rfl ⟨O1, hS1, hO2, hnB, hz0⟩ hK0
    have hnO0 : ¬ O1 D0 := fun h => hnD0 ((hO2 _).2 ⟨h, hD0⟩)
    have HMg1 : (fun k x => Mn0 k x ∨ (k = D0 ∧ x = .deferred (some []))) gd og := .inl HMg0
    have HMy1 : (fun k x => Mn0 k x ∨ (k = D0 ∧ x = .deferred (some []))) W.heap.size (.cells #[.func (.yield l) #[] #[]] 68 (0, 0)) := .inl HMy0
    replace hS1 := hS1.more (D := D0) (o := .deferred (some [])) (by omega) hnO0 hK0
    gi_wp2
    rw [roundsIn_succ]

    have hcx1 : W0.cell? ⟨gd, 1, none⟩ = some (.int .i32 y) := (World.cell?_of_block ((hS1.m gd og HMg1).2.2.trans hog.symm)).trans hcd1
    gi_wp2_with (refine ⟨trivial, ?_⟩; gi_at_call 39; refine ((callsIn_wide (n := 11)).2 (apart_makes _ _)).mono ?_; rintro e w' ⟨rfl, rfl⟩)
    have hT1 := hS1.new hJ (below_alloc (Below.refl _ _) (.cells #[.int .i32 y] 21))
    have hcb1 : (W0.alloc (.cells #[.int .i32 y] 21)).cell? ⟨W0.heap.size, 0, none⟩ = some (.int .i32 y) := by simp
    have hsz1 : (W0.alloc (.cells #[.int .i32 y] 21)).heap.size = W0.heap.size + 1 := by simp
    have hnB1 : ¬ O1 W0.heap.size := fun h => Nat.lt_irrefl _ (hS1.o _ h).2
    have hM1 : ∀ k o, (fun k x => Mn0 k x ∨ (k = D0 ∧ x = .deferred (some []))) k o → k < W0.heap.size := fun k o h => (Array.getElem?_eq_some_iff.1 (hS1.m k o h).2.2).1
    generalize W0.alloc (.cells #[.int .i32 y] 21) = V1 at hT1 hcb1 hsz1 ⊢
    refine wpIn_rangeFunc_gives (n := 12) (gf := 57) (lb := #[.pointer (some ⟨W0.heap.size, 0, none⟩)]) (a₁ := fun y_ => { tmps := #[.func (.yield l) #[] #[], .pointer (some ⟨Br, 0, none⟩), .pointer (some ⟨W.heap.size, 0, none⟩), .slice (some ⟨gd, 0, none⟩) 2 c, undef, .int .i32 y, .int .i32 y_, .int .i32 r, .slice (some ⟨gd, 0, none⟩) 2 c, .slice (some ⟨gd, 0, none⟩) 2 c, .int .i64 2, .bool false, undef, undef, undef, .slice (some ⟨gd, 0, none⟩) 2 c, .int .i64 2, .int .i64 1, .bool true, .pointer (some ⟨gd, 1, none⟩), .int .i32 y, .int .i32 y, .func (.func 57) #[] #[.pointer (some ⟨W0.heap.size, 0, none⟩)], .int .i32 y_, undef, undef, undef, undef, .int .i64 1], defers := [] }) rfl eg (IH y (hdep y (by simp)) W0.heap.size V1 hcb1) (Below.refl _ _) (fun k h => by subst h; omega) (fun _ => rfl)
      (fun s O2 Wc => InI J W.heap.size V1.heap.size W0.heap.size (fun k x => Mn0 k x ∨ (k = D0 ∧ x = .deferred (some []))) ([] ++ apartK k x) s O2 Wc)
      (fun c s O2 Wc => c = .ret ∧ InI Jx W.heap.size V1.heap.size W0.heap.size (fun k x => Mn0 k x ∨ (k = D0 ∧ x = .deferred (some []))) ([] ++ apartK k x) s O2 Wc)
      (fun _ _ _ _ => trivial)
      (fun s O2 A B h ht => InI.abides hJ (by omega) (by omega) (fun k o hk => by have := hM1 k o hk; omega) h ht)
      (fun c s O2 A B h ht => ⟨h.1, InI.abides hJx (by omega) (by omega) (fun k o hk => by have := hM1 k o hk; omega) h.2 ht⟩)
      ⟨O1, by rw [List.append_nil]; exact hT1, fun k => ⟨fun h => h.elim, fun h => by have := (hS1.o k h.1).2; omega⟩, hnB1, Nat.le_refl _⟩
      ?assign1 ?body1 ?done1 ?stop1
    case assign1 =>
      intro l2 y Wa K hK
      gi_wp2
      exact hK
    case body1 =>
      rintro l2 s y O2 Wc ⟨O, hS, hO2, hnB, hz⟩ hN hOge hWge
      have hcy : Wc.cell? ⟨W.heap.size, 0, none⟩ = some (.func (.yield l) #[] #[]) := (World.cell?_of_block ((hS.m W.heap.size _ HMy1).2.2.trans hoy.symm)).trans hcy0
      obtain ⟨fn, tmps, assign, body, hy, hRd⟩ := hY ([] ++ apartK k x ++ s) y O Wc hS.j (by omega) hS.o (by rw [hap]; simp only [List.length_append, List.length_nil]; omega)
      gi_wp2
      refine (RoundIn.wide' hRd).mono ?_
      rintro e W' ⟨O', hr, ⟨rfl, hj⟩ | ⟨rfl, hj⟩⟩
      · gi_wp2
        obtain ⟨q1, q2⟩ := InI.round (J' := J) (Bx := W0.heap.size) (by omega) (by omega) (by omega) hS hO2 hnB hz hr hj
        exact ⟨_, q1, q2⟩
      · gi_wp2
        obtain ⟨q1, q2⟩ := InI.round (J' := Jx) (Bx := W0.heap.size) (by omega) (by omega) (by omega) hS hO2 hnB hz hr hj
        exact ⟨_, q1, rfl, q2⟩
    case stop1 =>
      rintro D cc s O2 Wc hD hnD _ ⟨rfl, O, hS, hO2, hnB, hz⟩ hK
      have hnO : ¬ O D := fun h => hnD ((hO2 D).2 ⟨h, hD⟩)
      gi_wp2
      have hT := hS.turn hJx (Turned.putObj (T := fun k => k = D) Wc (.deferred none) rfl) (fun k e => by subst e; exact ⟨by omega, hnO⟩) (fun k o hk e => by have := hM1 k o hk; omega)
      have hK' := (hT.m D0 _ (.inr ⟨rfl, rfl⟩))
      have hT2 := ApS.turn (Mn := fun k o => False) hJx ⟨hT.j, hT.o, fun _ _ h => h.elim⟩ (Turned.putObj (T := fun k => k = D0) _ (.deferred none) rfl) (fun k e => by subst e; exact ⟨hK'.1, hK'.2.1⟩) (fun k o hk e => hk)
      first | exact ⟨by simp, .inl ⟨_, _, rfl, run_takeDeferred hK, ⟨by simp, .inl ⟨_, _, rfl, run_takeDeferred hK'.2.2, ⟨_, results_none rfl _ _ _, _, O, rfl, hT2.o, .inr ⟨_, trivial, hT2.j⟩⟩⟩⟩⟩⟩ | exact ⟨by simp, .inl ⟨_, _, rfl, run_takeDeferred hK, ⟨by simp, .inl ⟨_, _, rfl, run_takeDeferred hK'.2.2, ⟨_, results_none rfl _ _ _, ⟨_, rfl⟩, O, hT2.o, .inr ⟨_, hT2.j⟩⟩⟩⟩⟩⟩
    case done1 =>
      rintro D1 zs O2_ W1 hD1 hnD1 rfl ⟨O2, hS2, hO2, hnB, hz1⟩ hK1
      have hnO1 : ¬ O2 D1 := fun h => hnD1 ((hO2 _).2 ⟨h, hD1⟩)
      gi_wp2
      rw [roundsIn_succ]
      gi_wp2
      have hT := hS2.turn hJ (Turned.putObj (T := fun k => k = D1) W1 (.deferred none) rfl) (fun k e => by subst e; exact ⟨by omega, hnO1⟩) (fun k o hk e => by have := hM1 k o hk; omega)
      have hK' := (hT.m D0 _ (.inr ⟨rfl, rfl⟩))
      have hT2 := ApS.turn (Mn := fun k o => False) hJ ⟨hT.j, hT.o, fun _ _ h => h.elim⟩ (Turned.putObj (T := fun k => k = D0) _ (.deferred none) rfl) (fun k e => by subst e; exact ⟨hK'.1, hK'.2.1⟩) (fun k o hk e => hk)
      exact ⟨by simp, .inl ⟨_, _, rfl, run_takeDeferred hK1, ⟨by simp, .inl ⟨_, _, rfl, run_takeDeferred hK'.2.2, ⟨_, results_none rfl _ _ _, _, O2, rfl, hT2.o, .inl ⟨_, by rw [hap]; simp, hT2.j⟩⟩⟩⟩⟩⟩

theorem apart_gives : ∀ k, GivesApart k
  | 0 => fun r h Br w hc => gives_none 0 r h Br w hc
  | k + 1 => fun r h Br w hc => by
    have hl := decU_len r
    match e : decU r with
    | [] => exact gives_none (k + 1) r e Br w hc
    | [x] => exact gives_1 k (apart_gives k) r x e (fun z hz => h z (by rw [e]; exact hz)) Br w hc
    | [x, y] => exact gives_2 k (apart_gives k) r x y e (fun z hz => h z (by rw [e]; exact hz)) Br w hc
    | _ :: _ :: _ :: _ => rw [e] at hl; simp at hl
end Go.Proofs.YtncbbgmhmofhnaaDoor.Pr
end

section
namespace Go.Proofs.YtncbbgmhmofhnaaDoor.Pr
open Go.RowKit Go.Proofs.YtncbbgmhmofhnaaDoorW.PrintWords Go.Proofs.YtncbbgmhmofhnaaDoorW.PrintLast Go.Proofs.YtncbbgmhmofhnaaDoorW.PrintMore
set_option linter.unusedVariables false
set_option linter.unusedSimpArgs false

def depB : Nat → Int → Bool
  | 0, r => decU r == []
  | k + 1, r => (decU r).all (depB k)
theorem dep_of : ∀ (k : Nat) (r : Int), depB k r = true → Dep k r
  | 0, r, h => by show decU r = []; simpa [depB] using h
  | k + 1, r, h => fun x hx => dep_of k x (by simp only [depB, List.all_eq_true] at h; exact h x hx)
/-- All that has parts. -/
def ptsU : List Int := [8486, 8490, 8491] ++ (uP0 ++ uP1).map fun p => p.f0
theorem decU_pts {r : Int} (h : r ∉ ptsU) : decU r = [] := by
  have e : decU r = if r = 8486 then [937] else if r = 8490 then [75] else if r = 8491 then [197] else if (ofP fun x => x.f0 == r).2 = true then [(ofP fun x => x.f0 == r).1.f1, (ofP fun x => x.f0 == r).1.f2] else [] := rfl
  unfold ptsU at h
  simp only [List.mem_append, List.mem_cons, List.not_mem_nil, or_false, not_or, List.mem_map] at h
  obtain ⟨⟨h1, h2, h3⟩, h4⟩ := h
  rw [e, if_neg h1, if_neg h2, if_neg h3]
  have hf : (uP0 ++ uP1).find? (fun x => x.f0 == r) = none := by
    rw [List.find?_eq_none]
    intro p hp hpr
    exact h4 ⟨p, List.mem_append.1 hp, by simpa using hpr⟩
  have : (ofP fun x => x.f0 == r).2 = false := by unfold ofP; rw [hf]
  rw [if_neg (by rw [this]; decide)]
theorem dep_pts : ptsU.all (depB 4) = true := by decide +kernel
theorem dep4 (r : Int) : Dep 4 r := by
  by_cases h : r ∈ ptsU
  · exact dep_of 4 r (List.all_eq_true.1 dep_pts r h)
  · exact dep_nil (decU_pts h)
theorem apart_len (k : Nat) : ∀ r, (apartK k r).length ≤ 2 ^ k := by
  induction k with
  | zero => intro r; simp [apartK]
  | succ k ih =>
    intro r
    rw [apartK]
    split
    · have := Nat.one_le_two_pow (n := k + 1); simpa using this
    · have hl := decU_len r
      match e : decU r with
      | [] => simp
      | [x] => have := ih x; rw [List.flatMap_cons, List.flatMap_nil, List.append_nil, Nat.pow_succ]; omega
      | [x, y] => have h1 := ih x; have h2 := ih y; rw [List.flatMap_cons, List.flatMap_cons, List.flatMap_nil, List.append_nil, List.length_append, Nat.pow_succ]; omega
      | _ :: _ :: _ :: _ => rw [e] at hl; simp at hl
/-- A row taken apart. -/
def apL (l : List Int) : List Int := l.flatMap (apartK 4)
theorem apL_append (a b : List Int) : apL (a ++ b) = apL a ++ apL b := List.flatMap_append
theorem apL_len : ∀ l : List Int, (apL l).length ≤ 16 * l.length
  | [] => Nat.zero_le _
  | x :: l => by
    have h1 := apart_len 4 x
    have h2 := apL_len l
    have e : apL (x :: l) = apartK 4 x ++ apL l := rfl
    rw [e, List.length_append, List.length_cons]
    omega
def norm_NFD.f (l : List Int) : Option (List Int) := if l.length ≤ 60000 then some (ordM clsU (apL l)) else none
set_option maxRecDepth 100000 in
set_option maxHeartbeats 2000000 in
theorem nfd_any (A0 : Option Addr) (c0 : Nat) (l0 : List Int) (w : World) (hr0 : Kd.C (Kd.int .i32) w A0 l0.length l0) (hc0 : l0.length ≤ c0) (hl : l0.length ≤ 60000) :
    Calls Tryd.prog 21 #[.slice A0 l0.length c0] w fun e w' => ∃ v0_ : Value, e = .returned (v0_) ∧ Kd.R (Kd.int .i32) 21 w' w.heap.size (fun _ => True) v0_ (ordM clsU (apL l0)) ∧ Below w.heap.size w w' := by
  obtain ⟨n, hn⟩ : ∃ n, l0.length = n := ⟨_, rfl⟩
  rw [hn] at hl hr0 hc0 ⊢
  have HR := Aside0.mk hr0
  have HN := Aside0.mk hn
  clear hr0 hn
  have eg : ∀ args w, (callFunc 57 args).run Tryd.prog w = .ok (.enter 57 args) w := enters_of Tryd.func57 (by kernel_rfl) rfl
  go_enter Tryd.func21, Tryd.ntmps21
  go_wp2_with fail
  go_loopw [3, 8] (fun v vi wr => ∃ (i : Nat) (P : List Int), vi = .int .i64 (i : Int) ∧ i ≤ n ∧ Aside0 (P = apL (l0.take i)) ∧ Aside0 (wr.ownsRow w.heap.size 21 1 v P.length (P.map vR)) ∧ Aside0 (Below w.heap.size w wr)) (fun _ vi _ => n - (intOf vi).toNat)
  case atStart => exact ⟨0, [], by rfl, by omega, ⟨rfl⟩, ⟨World.ownsRow_nil w w.heap.size _ _⟩, ⟨Below.refl _ _⟩⟩
  case round =>
    obtain ⟨i, P, rfl, hin, HP, HW, HB⟩ := hrel
    by_cases hlt : i < n
    · obtain ⟨x, hx⟩ : ∃ x, l0[i]? = some x := ⟨_, List.getElem?_eq_getElem (by rw [HN.out]; exact hlt)⟩
      obtain ⟨ad, hA, hcell⟩ := HR.out.2.2 (by omega)
      subst hA
      have hcx : wr.cell? (ad.add i) = some (.int .i32 x) := by
        obtain ⟨c, hc1, hc2, hc3⟩ := hcell i x hx
        have hc2' : c = [Value.int .i32 x] := hc2
        have := hc3 0 (.int .i32 x) (by rw [hc2']; rfl)
        have e1 : i * (Kd.int .i32).sz + 0 = i := by show i * 1 + 0 = i; omega
        rw [e1] at this
        exact pw_cell_below HB.out this
      have hz : (i : Int) < (n : Int) := by omega
      have hPl : P.length ≤ 16 * n := by rw [HP.out]; have := apL_len (l0.take i); rw [List.length_take] at this; omega
      have hseq := apart_gives 4 x (dep4 x) wr.heap.size (wr.alloc (.cells #[.int .i32 x] 21)) (by simp)
      have hcall := appendSeq_any _ _ eg (fun j => j = wr.heap.size) w.heap.size _ P (apartK 4 x) (wr.alloc (.cells #[.int .i32 x] 21)) (HW.out.alloc _) (by have := HB.out.size; simp; omega) (fun k hk => by subst hk; exact ⟨HB.out.size, by simp, fun e => by have := (ownsRow_lt HW.out e).2; omega⟩) (by have := apart_len 4 x; omega) hseq
      have hcz : (Aside0 _) := Aside0.mk hcall
      have HP2 : Aside0 (P ++ apartK 4 x = apL (l0.take (i + 1))) := ⟨by
        rw [HP.out, List.take_add_one, hx, apL_append]
        simp [apL]⟩
      have hbx : Aside0 (wr.heap.size ≤ (wr.alloc (.cells #[.int .i32 x] 21)).heap.size) := ⟨by simp⟩
      clear hcall hseq HP HW hPl hcell hx
      go_wp2_with (first | (go_at_call 39; (with_reducible refine (apart_makes _ _).mono ?_); rintro e w' ⟨rfl, rfl⟩) | (go_at_call 38; (with_reducible refine hcz.out.mono ?_); rintro e w9 ⟨v9, rfl, hown9, hb9⟩; replace hown9 := Aside0.mk hown9; replace hb9 := Aside0.mk hb9))
      go_roundw
      case rel => exact ⟨i + 1, P ++ apartK 4 x, by go_num, by omega, HP2, hown9, ⟨(HB.out.alloc HB.out.size _).trans hb9.out⟩⟩
      case measure => simp [intOf]; omega
    · have hz : ¬ (i : Int) < (n : Int) := by omega
      have hPe : P = apL l0 := by rw [HP.out, List.take_of_length_le (by rw [HN.out]; omega)]
      have hPl : P.length ≤ 1000000 := by rw [hPe]; have := apL_len l0; rw [HN.out] at this; omega
      have hRr : Kd.R (Kd.int .i32) 21 wr w.heap.size (fun _ => True) _ P := ⟨fun _ _ => trivial, P.map encR, HW.out, ints_reps P⟩
      obtain ⟨A, c, hv⟩ := Kd.R_slice hRr
      subst hv
      obtain ⟨_, hPc, hC⟩ := Kd.R_reads' hRr
      have hord := order_any A c P wr hC hPc hPl
      rw [hPe] at hord
      have hPL : P.length = (apL l0).length := by rw [hPe]
      rw [hPL]
      replace hord := Aside0.mk hord
      clear hC hPc hRr HW HP hPe hPl hPL
      go_wp2_with (first | (go_at_call 40; (with_reducible refine hord.out.mono ?_); rintro e w9 ⟨v9, rfl, hR9, hb9⟩))
      go_ret
      exact ⟨_, rfl, Kd.R_lower hR9 HB.out.size, below_step HB.out hb9⟩
theorem norm_NFD.calls (A0 : Option Addr) (c0 : Nat) (l0 : List Int) (r : List Int) (w : World) (hr0 : Kd.C (Kd.int .i32) w A0 l0.length l0) (hc0 : l0.length ≤ c0) (h : norm_NFD.f l0 = some r) :
    Calls Tryd.prog 21 #[.slice A0 l0.length c0] w fun e w' => ∃ v0_ : Value, e = .returned (v0_) ∧ Kd.R (Kd.int .i32) 21 w' w.heap.size (fun _ => True) v0_ r ∧ Below w.heap.size w w' := by
  unfold norm_NFD.f at h
  split at h
  · next hl =>
    obtain rfl := Option.some.inj h
    exact nfd_any A0 c0 l0 w hr0 hc0 hl
  · cases h
end Go.Proofs.YtncbbgmhmofhnaaDoor.Pr
end

section
namespace Go.Proofs.YtncbbgmhmofhnaaDoor.Pr
open Go.RowKit Go.Proofs.YtncbbgmhmofhnaaDoorW.PrintWords Go.Proofs.YtncbbgmhmofhnaaDoorW.PrintLast Go.Proofs.YtncbbgmhmofhnaaDoorW.PrintMore
attribute [local go_sem] max2_int min2_int max_two min_two max_three min_three max_four min_four Instr.field asAgg   -- for this text's walks alone
set_option linter.unusedVariables false
set_option linter.unusedSimpArgs false

def skel_Skeleton.l0 : Nat → List Int → List Int → Int → Int → Option (ByteArray)
 | 0, _, _, _, _ => none
 | k + 1, x3, x10, x11, x12 => if x12 < x11 then (if 0 ≤ x12 then (if x12 < (x10.length : Int) then (if (rd x10 x12) = 173 then (skel_Skeleton.l0 k x3 x10 x11 (wrap64 (x12 + 1))) else (if (rd x10 x12) = 8204 then (skel_Skeleton.l0 k x3 x10 x11 (wrap64 (x12 + 1))) else (if (rd x10 x12) = 8205 then (skel_Skeleton.l0 k x3 x10 x11 (wrap64 (x12 + 1))) else ((unidata_Like.f k (rd x10 x12)).bind fun t166 => (if x3.length + t166.length < 35184372088832 then (skel_Skeleton.l0 k (x3 ++ t166) x10 x11 (wrap64 (x12 + 1))) else (none)))))) else (none)) else (none)) else ((norm_NFD.f x3).bind fun t160 => ((utf_Encode.f t160).bind fun bt163 => (some bt163.1)))
def skel_Skeleton.f (k : Nat) (a0 : ByteArray) : Option (ByteArray) := (utf_Decode.f a0).bind fun t154 => ((norm_NFD.f t154).bind fun t157 => (skel_Skeleton.l0 k ([] : List Int) t157 (t157.length : Int) 0))
set_option maxHeartbeats 8000000 in
set_option maxRecDepth 100000 in
theorem skel_Skeleton.calls (k : Nat) (a0 : ByteArray) (r : ByteArray) (w : World) (h : skel_Skeleton.f k a0 = some r) (hG : WG w) :
  Calls Tryd.prog 9 #[.string a0] w fun e w' => e = .returned (.string r) ∧ Below w.heap.size w w' := by
 have HG := Aside0.mk hG
 clear hG
 have HB := Aside0.mk (Below.refl w.heap.size w)
 have H : ((utf_Decode.f a0).bind fun t154 => ((norm_NFD.f t154).bind fun t157 => (skel_Skeleton.l0 k ([] : List Int) t157 (t157.length : Int) 0))) = some r := h
 clear h
 replace H := Option.bind_eq_some_iff.mp H
 obtain ⟨t154, A20, H⟩ := H
 replace H : ((norm_NFD.f t154).bind fun t157 => (skel_Skeleton.l0 k ([] : List Int) t157 (t157.length : Int) 0)) = some r := H
 have A2 := Aside0.mk A20
 clear A20
 replace H := Option.bind_eq_some_iff.mp H
 obtain ⟨t157, A30, H⟩ := H
 replace H : (skel_Skeleton.l0 k ([] : List Int) t157 (t157.length : Int) 0) = some r := H
 have A3 := Aside0.mk A30
 clear A30
 have H' := Aside0.mk H
 clear H
 go_enter Tryd.func9, Tryd.ntmps9
 go_wp2_with (first | ((with_reducible refine gate_callee (f := 22) rfl ?_); refine goesL_ (some 9) rfl rfl Tryd.func22 (by kernel_rfl) rfl #[.string a0] rfl (by (try simp only [List.map_toArray, List.map_cons, List.map_nil]); first | done | rfl | (simp only [List.length_drop, List.length_take]; rfl)) ?_; (with_reducible refine (utf_Decode.calls a0 t154 _ A2.out (WG.keep HG.out (by repeat (first | (with_reducible first | exact HB.out | apply below_alloc | apply pw_below_drewN | apply below_drew1) | exact HB.out)))).mono ?_); rintro e w4 ⟨v155, rfl, ho0, hb⟩; refine ⟨_, rfl, ?_⟩; have n0_ := Aside0.mk (Kd.R_lower ho0 (below_size (by repeat (first | (with_reducible first | exact HB.out | apply below_alloc | apply pw_below_drewN | apply below_drew1) | exact HB.out)))); have n1_ := Aside0.mk (below_step (by repeat (first | (with_reducible first | exact HB.out | apply below_alloc | apply pw_below_drewN | apply below_drew1) | exact HB.out)) hb); clear HB; have HO156 := n0_; have HB := n1_; clear n0_ n1_; (try clear hb); (try clear hb2); (try clear hk); (try clear hi); (try clear ho0); obtain ⟨Ao5, co5, eo5⟩ := Kd.R_slice HO156.out; subst eo5) | ((with_reducible refine gate_callee (f := 21) rfl ?_); refine goesL_ (some 10) rfl rfl Tryd.func21 (by kernel_rfl) rfl #[.slice Ao5 t154.length co5] rfl (by (try simp only [List.map_toArray, List.map_cons, List.map_nil]); first | done | rfl | (simp only [List.length_drop, List.length_take]; rfl)) ?_; (with_reducible refine (norm_NFD.calls _ _ t154 t157 _ ?side1 ?side2 A3.out).mono ?_); (case side1 => repeat (first | exact (Kd.R_reads' HO156.out).2.2 | (with_reducible refine Kd.C_alloc ?_ _) | (with_reducible refine Kd.C_drewN ?_ _) | (with_reducible refine Kd.C_drew ?_))); (case side2 => exact (Kd.R_reads' HO156.out).2.1); rintro e w6 ⟨v158, rfl, ho0, hb⟩; refine ⟨_, rfl, ?_⟩; have n0_ := Aside0.mk (Kd.R_elder' (by (with_reducible repeat (first | apply Kd.R_alloc | apply Kd.R_drewN | apply Kd.R_drew)); exact HO156.out) (Kd.R_base ho0) hb); have n1_ := Aside0.mk (Kd.R_lower (Kd.R_new' ho0 (Kd.R_lt (by (with_reducible repeat (first | apply Kd.R_alloc | apply Kd.R_drewN | apply Kd.R_drew)); exact HO156.out))) (below_size (by repeat (first | (with_reducible first | exact HB.out | apply below_alloc | apply pw_below_drewN | apply below_drew1) | exact HB.out)))); have n2_ := Aside0.mk (below_step (by repeat (first | (with_reducible first | exact HB.out | apply below_alloc | apply pw_below_drewN | apply below_drew1) | exact HB.out)) hb); clear HO156; clear HB; have HO156 := n0_; have HO159 := n1_; have HB := n2_; clear n0_ n1_ n2_; (try clear hb); (try clear hb2); (try clear hk); (try clear hi); (try clear ho0); obtain ⟨Ao7, co7, eo7⟩ := Kd.R_slice HO159.out; subst eo7))
 go_loopg [3, 12] k (fun kq v3 v12 w' => ∃ (x3_1 : List Int) (x12_1 : Int), v12 = .int .i64 x12_1 ∧ Aside0 (skel_Skeleton.l0 kq x3_1 t157 (t157.length : Int) x12_1 = some r) ∧ Aside0 (kq ≤ k) ∧ Aside0 (Kd.R (Kd.int .i32) 21 w' w.heap.size (fun k_ => some k_ ≠ ((.slice Ao7 t157.length co7) : Value).ownBlock) v3 x3_1) ∧ Aside0 (Kd.R (Kd.int .i32) 21 w' w.heap.size (fun k_ => some k_ ≠ (v3 : Value).ownBlock) (.slice Ao7 t157.length co7) t157) ∧ Aside0 (Below w.heap.size w w'))
 case atStart => exact ⟨(([] : List Int)), (0), (by first | rfl | (simp; done) | (simp [*]; done)), H', ⟨Nat.le_refl _⟩, ⟨by first | exact Kd.R_nil _ _ _ _ _ | exact Kd.N_nil _ _ _ _ _ | exact Kd.V_nil _ _ _ _ _ | exact Kd.Q_nil _ _ _ _ _ | exact Kd.S_nil _ _ _ _ _⟩, ⟨by (with_reducible repeat (first | apply Kd.R_alloc | apply Kd.R_drewN | apply Kd.R_drew)); exact Kd.R_mono HO159.out (fun _ hk => (by simp [Value.ownBlock]))⟩, ⟨by repeat (first | (with_reducible first | exact HB.out | apply below_alloc | apply pw_below_drewN | apply below_drew1) | exact HB.out)⟩⟩
 case round =>
  clear H'
  try clear c2
  try clear p2
  obtain ⟨x3_1, x12_1, rfl, HA, HK1, HO_3, HO_10, HB⟩ := hrel
  cases gk with
  | zero => exact absurd HA.out (by simp [skel_Skeleton.l0])
  | succ k1 =>
   have H := HA.out
   clear HA
   simp only [skel_Skeleton.l0] at H
   by_cases c8 : x12_1 < (t157.length : Int)
   ·rw [if_pos c8] at H
    have c8b0 : decide (x12_1 < (t157.length : Int)) = true := decide_eq_true c8
    clear c8
    by_cases c9 : 0 ≤ x12_1
    ·rw [if_pos c9] at H
     have c9b0 : decide (0 ≤ x12_1) = true := decide_eq_true c9
     clear c9
     by_cases c10 : x12_1 < (t157.length : Int)
     ·rw [if_pos c10] at H
      have c10b0 : decide (x12_1 < (t157.length : Int)) = true := decide_eq_true c10
      clear c10
      by_cases c11 : (rd t157 x12_1) = 173
      ·rw [if_pos c11] at H
       have c11b0 : ((rd t157 x12_1) == 173) = true := beq_iff_eq.mpr c11
       have c11b1 : ((rd t157 x12_1) != 173) = false := bne_eq_false_iff_eq.mpr c11
       clear c11
       have H' := Aside0.mk H
       clear H
       have p165 : 0 ≤ (x12_1 : Int) := of_decide_eq_true (by first | (with_reducible assumption) | assumption)
       have q165 : x12_1 < (t157.length : Int) := of_decide_eq_true (by first | (with_reducible assumption) | assumption)
       obtain ⟨ad165, e165, hx165_0⟩ := Kd.at_int (Kd.R_reads' HO_10.out).2.2 x12_1 p165 q165
       cases e165
       replace p165 := eq_true p165
       replace q165 := eq_true q165
       go_wp2
       go_roundg k1
       case measure => have := HK1.out; omega
       case rel => exact ⟨(x3_1), (wrap64 (x12_1 + 1)), (by first | rfl | (simp; done) | (simp [*]; done)), H', ⟨by have := HK1.out; omega⟩, ⟨by (with_reducible repeat (first | apply Kd.R_alloc | apply Kd.R_drewN | apply Kd.R_drew)); exact HO_3.out⟩, ⟨by (with_reducible repeat (first | apply Kd.R_alloc | apply Kd.R_drewN | apply Kd.R_drew)); exact HO_10.out⟩, ⟨by repeat (first | (with_reducible first | exact HB.out | apply below_alloc | apply pw_below_drewN | apply below_drew1) | exact HB.out)⟩⟩
      ·rw [if_neg c11] at H
       have c11b0 : ((rd t157 x12_1) == 173) = false := beq_eq_false_iff_ne.mpr c11
       have c11b1 : ((rd t157 x12_1) != 173) = true := bne_iff_ne.mpr c11
       by_cases c12 : (rd t157 x12_1) = 8204
       ·rw [if_pos c12] at H
        have c12b0 : ((rd t157 x12_1) == 8204) = true := beq_iff_eq.mpr c12
        have c12b1 : ((rd t157 x12_1) != 8204) = false := bne_eq_false_iff_eq.mpr c12
        clear c12
        have H' := Aside0.mk H
        clear H
        have p165 : 0 ≤ (x12_1 : Int) := of_decide_eq_true (by first | (with_reducible assumption) | assumption)
        have q165 : x12_1 < (t157.length : Int) := of_decide_eq_true (by first | (with_reducible assumption) | assumption)
        obtain ⟨ad165, e165, hx165_0⟩ := Kd.at_int (Kd.R_reads' HO_10.out).2.2 x12_1 p165 q165
        cases e165
        replace p165 := eq_true p165
        replace q165 := eq_true q165
        go_wp2
        go_roundg k1
        case measure => have := HK1.out; omega
        case rel => exact ⟨(x3_1), (wrap64 (x12_1 + 1)), (by first | rfl | (simp; done) | (simp [*]; done)), H', ⟨by have := HK1.out; omega⟩, ⟨by (with_reducible repeat (first | apply Kd.R_alloc | apply Kd.R_drewN | apply Kd.R_drew)); exact HO_3.out⟩, ⟨by (with_reducible repeat (first | apply Kd.R_alloc | apply Kd.R_drewN | apply Kd.R_drew)); exact HO_10.out⟩, ⟨by repeat (first | (with_reducible first | exact HB.out | apply below_alloc | apply pw_below_drewN | apply below_drew1) | exact HB.out)⟩⟩
       ·rw [if_neg c12] at H
        have c12b0 : ((rd t157 x12_1) == 8204) = false := beq_eq_false_iff_ne.mpr c12
        have c12b1 : ((rd t157 x12_1) != 8204) = true := bne_iff_ne.mpr c12
        by_cases c13 : (rd t157 x12_1) = 8205
        ·rw [if_pos c13] at H
         have c13b0 : ((rd t157 x12_1) == 8205) = true := beq_iff_eq.mpr c13
         have c13b1 : ((rd t157 x12_1) != 8205) = false := bne_eq_false_iff_eq.mpr c13
         clear c13
         have H' := Aside0.mk H
         clear H
         have p165 : 0 ≤ (x12_1 : Int) := of_decide_eq_true (by first | (with_reducible assumption) | assumption)
         have q165 : x12_1 < (t157.length : Int) := of_decide_eq_true (by first | (with_reducible assumption) | assumption)
         obtain ⟨ad165, e165, hx165_0⟩ := Kd.at_int (Kd.R_reads' HO_10.out).2.2 x12_1 p165 q165
         cases e165
         replace p165 := eq_true p165
         replace q165 := eq_true q165
         go_wp2
         go_roundg k1
         case measure => have := HK1.out; omega
         case rel => exact ⟨(x3_1), (wrap64 (x12_1 + 1)), (by first | rfl | (simp; done) | (simp [*]; done)), H', ⟨by have := HK1.out; omega⟩, ⟨by (with_reducible repeat (first | apply Kd.R_alloc | apply Kd.R_drewN | apply Kd.R_drew)); exact HO_3.out⟩, ⟨by (with_reducible repeat (first | apply Kd.R_alloc | apply Kd.R_drewN | apply Kd.R_drew)); exact HO_10.out⟩, ⟨by repeat (first | (with_reducible first | exact HB.out | apply below_alloc | apply pw_below_drewN | apply below_drew1) | exact HB.out)⟩⟩
        ·rw [if_neg c13] at H
         have c13b0 : ((rd t157 x12_1) == 8205) = false := beq_eq_false_iff_ne.mpr c13
         have c13b1 : ((rd t157 x12_1) != 8205) = true := bne_iff_ne.mpr c13
         replace H := Option.bind_eq_some_iff.mp H
         obtain ⟨t166, A140, H⟩ := H
         replace H : (if x3_1.length + t166.length < 35184372088832 then (skel_Skeleton.l0 k1 (x3_1 ++ t166) t157 (t157.length : Int) (wrap64 (x12_1 + 1))) else (none)) = some r := H
         have A14 := Aside0.mk A140
         clear A140
         by_cases c15 : x3_1.length + t166.length < 35184372088832
         ·rw [if_pos c15] at H
          have LMc15 := Aside0.mk c15
          clear c15
          obtain ⟨y169, hy169⟩ : ∃ y_ : List Int, y_ = (x3_1 ++ t166) := ⟨_, rfl⟩
          replace H : (skel_Skeleton.l0 k1 y169 t157 (t157.length : Int) (wrap64 (x12_1 + 1))) = some r := by first | (rw [hy169]; with_reducible exact H) | (have H2_ := (Option.bind_some _ _).symm.trans H; rw [hy169]; with_reducible exact H2_) | (have H2_ := (Option.bind_some _ _).symm.trans H; with_reducible exact H2_) | with_reducible exact H | (rw [hy169]; exact H) | exact H
          have Ny169 := Aside0.mk hy169
          clear hy169
          have H' := Aside0.mk H
          clear H
          have p165 : 0 ≤ (x12_1 : Int) := of_decide_eq_true (by first | (with_reducible assumption) | assumption)
          have q165 : x12_1 < (t157.length : Int) := of_decide_eq_true (by first | (with_reducible assumption) | assumption)
          obtain ⟨ad165, e165, hx165_0⟩ := Kd.at_int (Kd.R_reads' HO_10.out).2.2 x12_1 p165 q165
          cases e165
          replace p165 := eq_true p165
          replace q165 := eq_true q165
          go_wp2_with (first | ((with_reducible refine gate_callee (f := 23) rfl ?_); refine goesL_ (some 23) rfl rfl Tryd.func23 (by kernel_rfl) rfl #[.int .i32 (rd t157 x12_1)] rfl (by (try simp only [List.map_toArray, List.map_cons, List.map_nil]); first | done | rfl | (simp only [List.length_drop, List.length_take]; rfl)) ?_; (with_reducible refine (unidata_Like.calls k1 (rd t157 x12_1) t166 _ A14.out).mono ?_); rintro e w16 ⟨v167, rfl, ho0, hb⟩; refine ⟨_, rfl, ?_⟩; have n0_ := Aside0.mk (Kd.R_elder' (by (with_reducible repeat (first | apply Kd.R_alloc | apply Kd.R_drewN | apply Kd.R_drew)); exact HO_3.out) (Kd.R_base ho0) hb); have n1_ := Aside0.mk (Kd.R_elder' (by (with_reducible repeat (first | apply Kd.R_alloc | apply Kd.R_drewN | apply Kd.R_drew)); exact HO_10.out) (Kd.R_base ho0) hb); have n2_ := Aside0.mk (Kd.R_lower (Kd.R_new' (Kd.R_new' ho0 (Kd.R_lt (by (with_reducible repeat (first | apply Kd.R_alloc | apply Kd.R_drewN | apply Kd.R_drew)); exact HO_3.out))) (Kd.R_lt (by (with_reducible repeat (first | apply Kd.R_alloc | apply Kd.R_drewN | apply Kd.R_drew)); exact HO_10.out))) (below_size (by repeat (first | (with_reducible first | exact HB.out | apply below_alloc | apply pw_below_drewN | apply below_drew1) | exact HB.out)))); have n3_ := Aside0.mk (below_step (by repeat (first | (with_reducible first | exact HB.out | apply below_alloc | apply pw_below_drewN | apply below_drew1) | exact HB.out)) hb); clear HO_3; clear HO_10; clear HB; have HO_3 := n0_; have HO_10 := n1_; have HO168 := n2_; have HB := n3_; clear n0_ n1_ n2_ n3_; (try clear hb); (try clear hb2); (try clear hk); (try clear hi); (try clear ho0); obtain ⟨Ao18, co18, eo18⟩ := Kd.R_slice HO168.out; subst eo18) | ((with_reducible refine gate_builtin (b := .append) (xs := #[.tmp 21, .tmp 23]) rfl ?_); at_builtin; refine Kd.R_append_rows (Kd.int .i32) (w0 := w) w.heap.size rfl (.tmp 21) (.tmp 23) 38 21 (.int .i32 0) 4 rfl Tryd.underlying38 info21 rfl (by decide) (by omega) u3 x3_1 t166 _ _ _ (fun k_ => some k_ ≠ (.slice (some ad165) t157.length co7 : Value).ownBlock ∧ some k_ ≠ (.slice Ao18 t166.length co18 : Value).ownBlock) (fun _ => False) rfl rfl ?aO ?aR (fun _ _ h => h) (fun _ h => h.elim) ?aF ?aB ?aS ?aL ?_; (case aR => repeat (first | exact (Kd.R_reads' HO168.out).2.2 | (with_reducible refine Kd.C_alloc ?_ _) | (with_reducible refine Kd.C_drewN ?_ _) | (with_reducible refine Kd.C_drew ?_))); (case aB => exact (by repeat (first | (with_reducible first | exact HB.out | apply below_alloc | apply pw_below_drewN | apply below_drew1) | exact HB.out))); (case aF => exact (fun k_ hk => ⟨Kd.fresh' (Kd.R_lt (by (with_reducible repeat (first | apply Kd.R_alloc | apply Kd.R_drewN | apply Kd.R_drew)); exact HO_10.out)) k_ hk, Kd.fresh' (Kd.R_lt (by (with_reducible repeat (first | apply Kd.R_alloc | apply Kd.R_drewN | apply Kd.R_drew)); exact HO168.out)) k_ hk⟩)); (case aO => exact (by (with_reducible repeat (first | apply Kd.R_alloc | apply Kd.R_drewN | apply Kd.R_drew)); exact HO_3.out)); (case aS => exact (below_size (by repeat (first | (with_reducible first | exact HB.out | apply below_alloc | apply pw_below_drewN | apply below_drew1) | exact HB.out)))); (case aL => have := LMc15.out; omega); intro v170 w17 ho hb hg hat; rw [← Ny169.out] at ho; have n0_ := Aside0.mk (Kd.R_after (ok := (fun k_ => some k_ ≠ (.slice Ao18 t166.length co18 : Value).ownBlock)) (by (with_reducible repeat (first | apply Kd.R_alloc | apply Kd.R_drewN | apply Kd.R_drew)); exact Kd.R_mono HO_10.out (fun _ hk => ⟨hk.2, hk.1⟩)) hg hat); have n1_ := Aside0.mk (Kd.R_after (ok := (fun k_ => some k_ ≠ (.slice (some ad165) t157.length co7 : Value).ownBlock)) (by (with_reducible repeat (first | apply Kd.R_alloc | apply Kd.R_drewN | apply Kd.R_drew)); exact Kd.R_mono HO168.out (fun _ hk => ⟨hk.2, hk.1.2⟩)) hg hat); have n2_ := Aside0.mk (hb); have n3_ := Aside0.mk (ho); clear HO_10; clear HO168; clear HB; clear HO_3; have HO_10 := n0_; have HO168 := n1_; have HB := n2_; have HO171 := n3_; clear n0_ n1_ n2_ n3_; clear ho hb hg hat))
          go_roundg k1
          case measure => have := HK1.out; omega
          case rel => exact ⟨(y169), (wrap64 (x12_1 + 1)), (by first | rfl | (simp; done) | (simp [*]; done)), H', ⟨by have := HK1.out; omega⟩, ⟨by (with_reducible repeat (first | apply Kd.R_alloc | apply Kd.R_drewN | apply Kd.R_drew)); exact Kd.R_mono HO171.out (fun _ hk => hk.1)⟩, ⟨by (with_reducible repeat (first | apply Kd.R_alloc | apply Kd.R_drewN | apply Kd.R_drew)); exact Kd.R_mono HO_10.out (fun _ hk => hk.2)⟩, ⟨by repeat (first | (with_reducible first | exact HB.out | apply below_alloc | apply pw_below_drewN | apply below_drew1) | exact HB.out)⟩⟩
         ·rw [if_neg c15] at H
          exact absurd H (by simp)
     ·rw [if_neg c10] at H
      exact absurd H (by simp)
    ·rw [if_neg c9] at H
     exact absurd H (by simp)
   ·rw [if_neg c8] at H
    have c8b0 : decide (x12_1 < (t157.length : Int)) = false := decide_eq_false c8
    clear c8
    replace H := Option.bind_eq_some_iff.mp H
    obtain ⟨t160, A190, H⟩ := H
    replace H : ((utf_Encode.f t160).bind fun bt163 => (some bt163.1)) = some r := H
    have A19 := Aside0.mk A190
    clear A190
    replace H := Option.bind_eq_some_iff.mp H
    obtain ⟨⟨t163, t164⟩, A200, H⟩ := H
    replace H : (some t163) = some r := H
    have A20 := Aside0.mk A200
    clear A200
    obtain rfl := Option.some.inj H
    obtain ⟨Ao21, co21, eo21⟩ := Kd.R_slice HO_3.out
    subst eo21
    go_wp2_with (first | ((with_reducible refine gate_callee (f := 21) rfl ?_); refine goesL_ (some 28) rfl rfl Tryd.func21 (by kernel_rfl) rfl #[.slice Ao21 x3_1.length co21] rfl (by (try simp only [List.map_toArray, List.map_cons, List.map_nil]); first | done | rfl | (simp only [List.length_drop, List.length_take]; rfl)) ?_; (with_reducible refine (norm_NFD.calls _ _ x3_1 t160 _ ?side1 ?side2 A19.out).mono ?_); (case side1 => repeat (first | exact (Kd.R_reads' HO_3.out).2.2 | (with_reducible refine Kd.C_alloc ?_ _) | (with_reducible refine Kd.C_drewN ?_ _) | (with_reducible refine Kd.C_drew ?_))); (case side2 => exact (Kd.R_reads' HO_3.out).2.1); rintro e w22 ⟨v161, rfl, ho0, hb⟩; refine ⟨_, rfl, ?_⟩; have n0_ := Aside0.mk (Kd.R_elder' (by (with_reducible repeat (first | apply Kd.R_alloc | apply Kd.R_drewN | apply Kd.R_drew)); exact HO_3.out) (Kd.R_base ho0) hb); have n1_ := Aside0.mk (Kd.R_elder' (by (with_reducible repeat (first | apply Kd.R_alloc | apply Kd.R_drewN | apply Kd.R_drew)); exact HO_10.out) (Kd.R_base ho0) hb); have n2_ := Aside0.mk (Kd.R_lower (Kd.R_new' (Kd.R_new' ho0 (Kd.R_lt (by (with_reducible repeat (first | apply Kd.R_alloc | apply Kd.R_drewN | apply Kd.R_drew)); exact HO_3.out))) (Kd.R_lt (by (with_reducible repeat (first | apply Kd.R_alloc | apply Kd.R_drewN | apply Kd.R_drew)); exact HO_10.out))) (below_size (by repeat (first | (with_reducible first | exact HB.out | apply below_alloc | apply pw_below_drewN | apply below_drew1) | exact HB.out)))); have n3_ := Aside0.mk (below_step (by repeat (first | (with_reducible first | exact HB.out | apply below_alloc | apply pw_below_drewN | apply below_drew1) | exact HB.out)) hb); clear HO_3; clear HO_10; clear HB; have HO_3 := n0_; have HO_10 := n1_; have HO162 := n2_; have HB := n3_; clear n0_ n1_ n2_ n3_; (try clear hb); (try clear hb2); (try clear hk); (try clear hi); (try clear ho0); obtain ⟨Ao23, co23, eo23⟩ := Kd.R_slice HO162.out; subst eo23) | ((with_reducible refine gate_callee (f := 24) rfl ?_); refine goesL_ (some 29) rfl rfl Tryd.func24 (by kernel_rfl) rfl #[.slice Ao23 t160.length co23] rfl (by (try simp only [List.map_toArray, List.map_cons, List.map_nil]); first | done | rfl | (simp only [List.length_drop, List.length_take]; rfl)) ?_; (with_reducible refine (utf_Encode.calls _ _ t160 t163 t164 _ ?side1 ?side2 A20.out).mono ?_); (case side1 => repeat (first | exact (Kd.R_reads' HO162.out).2.2 | (with_reducible refine Kd.C_alloc ?_ _) | (with_reducible refine Kd.C_drewN ?_ _) | (with_reducible refine Kd.C_drew ?_))); (case side2 => exact (Kd.R_reads' HO162.out).2.1); rintro e w24 ⟨rfl, hb⟩; refine ⟨_, rfl, ?_⟩; have n0_ := Aside0.mk (Kd.R_below (by (with_reducible repeat (first | apply Kd.R_alloc | apply Kd.R_drewN | apply Kd.R_drew)); exact HO_3.out) hb); have n1_ := Aside0.mk (Kd.R_below (by (with_reducible repeat (first | apply Kd.R_alloc | apply Kd.R_drewN | apply Kd.R_drew)); exact HO_10.out) hb); have n2_ := Aside0.mk (Kd.R_below (by (with_reducible repeat (first | apply Kd.R_alloc | apply Kd.R_drewN | apply Kd.R_drew)); exact HO162.out) hb); have n3_ := Aside0.mk (below_step (by repeat (first | (with_reducible first | exact HB.out | apply below_alloc | apply pw_below_drewN | apply below_drew1) | exact HB.out)) hb); clear HO_3; clear HO_10; clear HO162; clear HB; have HO_3 := n0_; have HO_10 := n1_; have HO162 := n2_; have HB := n3_; clear n0_ n1_ n2_ n3_; (try clear hb); (try clear hb2); (try clear hk); (try clear hi)))
    go_ret
    exact ⟨by first | rfl | (simp [errW_none, errW_some] <;> rfl) | (simp [*, errW_none, errW_some] <;> rfl), by repeat (first | (with_reducible first | exact HB.out | apply below_alloc | apply pw_below_drewN | apply below_drew1) | exact HB.out)⟩

def skel_Alike.f (k : Nat) (a0 : ByteArray) (a1 : ByteArray) : Option (Bool) := (skel_Skeleton.f k a0).bind fun t172 => ((skel_Skeleton.f k a1).bind fun t173 => (some (t172.toList == t173.toList)))
set_option maxHeartbeats 8000000 in
set_option maxRecDepth 100000 in
theorem skel_Alike.calls (k : Nat) (a0 : ByteArray) (a1 : ByteArray) (r : Bool) (w : World) (h : skel_Alike.f k a0 a1 = some r) (hG : WG w) :
  Calls Tryd.prog 10 #[.string a0, .string a1] w fun e w' => e = .returned (.bool r) ∧ Below w.heap.size w w' := by
 have HG := Aside0.mk hG
 clear hG
 have HB := Aside0.mk (Below.refl w.heap.size w)
 have H : ((skel_Skeleton.f k a0).bind fun t172 => ((skel_Skeleton.f k a1).bind fun t173 => (some (t172.toList == t173.toList)))) = some r := h
 clear h
 replace H := Option.bind_eq_some_iff.mp H
 obtain ⟨t172, A30, H⟩ := H
 replace H : ((skel_Skeleton.f k a1).bind fun t173 => (some (t172.toList == t173.toList))) = some r := H
 have A3 := Aside0.mk A30
 clear A30
 replace H := Option.bind_eq_some_iff.mp H
 obtain ⟨t173, A40, H⟩ := H
 replace H : (some (t172.toList == t173.toList)) = some r := H
 have A4 := Aside0.mk A40
 clear A40
 obtain rfl := Option.some.inj H
 go_enter Tryd.func10, Tryd.ntmps10
 go_wp2_with (first | ((with_reducible refine gate_callee (f := 9) rfl ?_); refine goesL_ (some 6) rfl rfl Tryd.func9 (by kernel_rfl) rfl #[.string a0] rfl (by (try simp only [List.map_toArray, List.map_cons, List.map_nil]); first | done | rfl | (simp only [List.length_drop, List.length_take]; rfl)) ?_; (with_reducible refine (skel_Skeleton.calls k a0 t172 _ A3.out (WG.keep HG.out (by repeat (first | (with_reducible first | exact HB.out | apply below_alloc | apply pw_below_drewN | apply below_drew1) | exact HB.out)))).mono ?_); rintro e w5 ⟨rfl, hb⟩; refine ⟨_, rfl, ?_⟩; have n0_ := Aside0.mk (below_step (by repeat (first | (with_reducible first | exact HB.out | apply below_alloc | apply pw_below_drewN | apply below_drew1) | exact HB.out)) hb); clear HB; have HB := n0_; clear n0_; (try clear hb); (try clear hb2); (try clear hk); (try clear hi)) | ((with_reducible refine gate_callee (f := 9) rfl ?_); refine goesL_ (some 8) rfl rfl Tryd.func9 (by kernel_rfl) rfl #[.string a1] rfl (by (try simp only [List.map_toArray, List.map_cons, List.map_nil]); first | done | rfl | (simp only [List.length_drop, List.length_take]; rfl)) ?_; (with_reducible refine (skel_Skeleton.calls k a1 t173 _ A4.out (WG.keep HG.out (by repeat (first | (with_reducible first | exact HB.out | apply below_alloc | apply pw_below_drewN | apply below_drew1) | exact HB.out)))).mono ?_); rintro e w6 ⟨rfl, hb⟩; refine ⟨_, rfl, ?_⟩; have n0_ := Aside0.mk (below_step (by repeat (first | (with_reducible first | exact HB.out | apply below_alloc | apply pw_below_drewN | apply below_drew1) | exact HB.out)) hb); clear HB; have HB := n0_; clear n0_; (try clear hb); (try clear hb2); (try clear hk); (try clear hi)))
 go_ret
 exact ⟨by first | rfl | (simp [errW_none, errW_some] <;> rfl) | (simp [*, errW_none, errW_some] <;> rfl), by repeat (first | (with_reducible first | exact HB.out | apply below_alloc | apply pw_below_drewN | apply below_drew1) | exact HB.out)⟩

def skel_bits.l0 : Nat → Int → List Int → Int → Int → Option (Int)
 | 0, _, _, _, _ => none
 | k + 1, x2, x6, x7, x8 => if x8 < x7 then (if 0 ≤ x8 then (if x8 < (x6.length : Int) then ((unidata_Script.f (rd x6 x8)).bind fun t186 => (if 0 ≤ t186 then (skel_bits.l0 k (Go.bits .or .u16 x2 (shl .u16 1 t186)) x6 x7 (wrap64 (x8 + 1))) else (none))) else (none)) else (none)) else (some (Go.bits .andNot .u16 x2 3))
def skel_bits.f (k : Nat) (a0 : ByteArray) : Option (Int) := (utf_Decode.f a0).bind fun t182 => (skel_bits.l0 k 0 t182 (t182.length : Int) 0)
set_option maxHeartbeats 8000000 in
set_option maxRecDepth 100000 in
theorem skel_bits.calls (k : Nat) (a0 : ByteArray) (r : Int) (w : World) (h : skel_bits.f k a0 = some r) (hG : WG w) :
  Calls Tryd.prog 31 #[.string a0] w fun e w' => e = .returned (.int .u16 r) ∧ Below w.heap.size w w' := by
 have HG := Aside0.mk hG
 clear hG
 have HB := Aside0.mk (Below.refl w.heap.size w)
 have H : ((utf_Decode.f a0).bind fun t182 => (skel_bits.l0 k 0 t182 (t182.length : Int) 0)) = some r := h
 clear h
 replace H := Option.bind_eq_some_iff.mp H
 obtain ⟨t182, A20, H⟩ := H
 replace H : (skel_bits.l0 k 0 t182 (t182.length : Int) 0) = some r := H
 have A2 := Aside0.mk A20
 clear A20
 have H' := Aside0.mk H
 clear H
 go_enter Tryd.func31, Tryd.ntmps31
 go_wp2_with (first | ((with_reducible refine gate_callee (f := 22) rfl ?_); refine goesL_ (some 6) rfl rfl Tryd.func22 (by kernel_rfl) rfl #[.string a0] rfl (by (try simp only [List.map_toArray, List.map_cons, List.map_nil]); first | done | rfl | (simp only [List.length_drop, List.length_take]; rfl)) ?_; (with_reducible refine (utf_Decode.calls a0 t182 _ A2.out (WG.keep HG.out (by repeat (first | (with_reducible first | exact HB.out | apply below_alloc | apply pw_below_drewN | apply below_drew1) | exact HB.out)))).mono ?_); rintro e w3 ⟨v183, rfl, ho0, hb⟩; refine ⟨_, rfl, ?_⟩; have n0_ := Aside0.mk (Kd.R_lower ho0 (below_size (by repeat (first | (with_reducible first | exact HB.out | apply below_alloc | apply pw_below_drewN | apply below_drew1) | exact HB.out)))); have n1_ := Aside0.mk (below_step (by repeat (first | (with_reducible first | exact HB.out | apply below_alloc | apply pw_below_drewN | apply below_drew1) | exact HB.out)) hb); clear HB; have HO184 := n0_; have HB := n1_; clear n0_ n1_; (try clear hb); (try clear hb2); (try clear hk); (try clear hi); (try clear ho0); obtain ⟨Ao4, co4, eo4⟩ := Kd.R_slice HO184.out; subst eo4))
 go_loopg [2, 8] k (fun kq v2 v8 w' => ∃ (x2_1 : Int) (x8_1 : Int), v2 = .int .u16 x2_1 ∧ v8 = .int .i64 x8_1 ∧ Aside0 (skel_bits.l0 kq x2_1 t182 (t182.length : Int) x8_1 = some r) ∧ Aside0 (kq ≤ k) ∧ Aside0 (Kd.R (Kd.int .i32) 21 w' w.heap.size (fun _ => True) (.slice Ao4 t182.length co4) t182) ∧ Aside0 (Below w.heap.size w w'))
 case atStart => exact ⟨(0), (0), (by first | rfl | (simp; done) | (simp [*]; done)), (by first | rfl | (simp; done) | (simp [*]; done)), H', ⟨Nat.le_refl _⟩, ⟨by (with_reducible repeat (first | apply Kd.R_alloc | apply Kd.R_drewN | apply Kd.R_drew)); exact HO184.out⟩, ⟨by repeat (first | (with_reducible first | exact HB.out | apply below_alloc | apply pw_below_drewN | apply below_drew1) | exact HB.out)⟩⟩
 case round =>
  clear H'
  try clear c2
  try clear p2
  try clear c3
  obtain ⟨x2_1, x8_1, rfl, rfl, HA, HK1, HO_6, HB⟩ := hrel
  cases gk with
  | zero => exact absurd HA.out (by simp [skel_bits.l0])
  | succ k1 =>
   have H := HA.out
   clear HA
   simp only [skel_bits.l0] at H
   by_cases c5 : x8_1 < (t182.length : Int)
   ·rw [if_pos c5] at H
    have c5b0 : decide (x8_1 < (t182.length : Int)) = true := decide_eq_true c5
    clear c5
    by_cases c6 : 0 ≤ x8_1
    ·rw [if_pos c6] at H
     have c6b0 : decide (0 ≤ x8_1) = true := decide_eq_true c6
     clear c6
     by_cases c7 : x8_1 < (t182.length : Int)
     ·rw [if_pos c7] at H
      have c7b0 : decide (x8_1 < (t182.length : Int)) = true := decide_eq_true c7
      clear c7
      replace H := Option.bind_eq_some_iff.mp H
      obtain ⟨t186, A80, H⟩ := H
      replace H : (if 0 ≤ t186 then (skel_bits.l0 k1 (Go.bits .or .u16 x2_1 (shl .u16 1 t186)) t182 (t182.length : Int) (wrap64 (x8_1 + 1))) else (none)) = some r := H
      have A8 := Aside0.mk A80
      clear A80
      by_cases c9 : 0 ≤ t186
      ·rw [if_pos c9] at H
       have c9b0 := eq_true c9
       have c9b1 : decide (0 ≤ t186) = true := decide_eq_true c9
       clear c9
       obtain ⟨ji10, hji10⟩ : ∃ j_ : Int, (shl .u16 1 t186) = j_ := ⟨_, rfl⟩
       replace H : (skel_bits.l0 k1 (Go.bits .or .u16 x2_1 (ji10)) t182 (t182.length : Int) (wrap64 (x8_1 + 1))) = some r := by first | (rw [hji10] at H; exact H) | (simp only [hji10] at H ⊢; exact H)
       (try rw [hji10] at A8)
       have hji10_ : (IntKind.u16.wrap (1 * 2 ^ min t186.toNat 16)) = ji10 := hji10
       have hji10z : t186 ≤ 16 → (IntKind.u16.wrap (1 * 2 ^ t186.toNat)) = ji10 := shl_small hji10
       have hji10u : (IntKind.u16.wrap (2 ^ min t186.toNat 16)) = ji10 := by have h_ := hji10_; rw [Int.one_mul] at h_; exact h_
       have hji10v : t186 ≤ 16 → (IntKind.u16.wrap (2 ^ t186.toNat)) = ji10 := fun hle_ => by have h_ := hji10z hle_; rw [Int.one_mul] at h_; exact h_
       have H' := Aside0.mk H
       clear H
       have p185 : 0 ≤ (x8_1 : Int) := of_decide_eq_true (by first | (with_reducible assumption) | assumption)
       have q185 : x8_1 < (t182.length : Int) := of_decide_eq_true (by first | (with_reducible assumption) | assumption)
       obtain ⟨ad185, e185, hx185_0⟩ := Kd.at_int (Kd.R_reads' HO_6.out).2.2 x8_1 p185 q185
       cases e185
       replace p185 := eq_true p185
       replace q185 := eq_true q185
       go_wp2_with (first | ((with_reducible refine gate_callee (f := 51) rfl ?_); refine goesL_ (some 14) rfl rfl Tryd.func51 (by kernel_rfl) rfl #[.int .i32 (rd t182 x8_1)] rfl (by (try simp only [List.map_toArray, List.map_cons, List.map_nil]); first | done | rfl | (simp only [List.length_drop, List.length_take]; rfl)) ?_; (with_reducible refine (unidata_Script.calls (rd t182 x8_1) t186 _ A8.out).mono ?_); rintro e w11 ⟨rfl, hb⟩; refine ⟨_, rfl, ?_⟩; have n0_ := Aside0.mk (Kd.R_below (by (with_reducible repeat (first | apply Kd.R_alloc | apply Kd.R_drewN | apply Kd.R_drew)); exact HO_6.out) hb); have n1_ := Aside0.mk (below_step (by repeat (first | (with_reducible first | exact HB.out | apply below_alloc | apply pw_below_drewN | apply below_drew1) | exact HB.out)) hb); clear HO_6; clear HB; have HO_6 := n0_; have HB := n1_; clear n0_ n1_; (try clear hb); (try clear hb2); (try clear hk); (try clear hi)))
       go_roundg k1
       case measure => have := HK1.out; omega
       case rel => exact ⟨(Go.bits .or .u16 x2_1 (ji10)), (wrap64 (x8_1 + 1)), (by first | rfl | (simp; done) | (simp only [← hji10] <;> (first | rfl | exact congrArg Value.bool (nE_ne _) | (simp; done))) | (simp [*]; done)), (by first | rfl | (simp; done) | (simp [*]; done)), H', ⟨by have := HK1.out; omega⟩, ⟨by (with_reducible repeat (first | apply Kd.R_alloc | apply Kd.R_drewN | apply Kd.R_drew)); exact HO_6.out⟩, ⟨by repeat (first | (with_reducible first | exact HB.out | apply below_alloc | apply pw_below_drewN | apply below_drew1) | exact HB.out)⟩⟩
      ·rw [if_neg c9] at H
       exact absurd H (by simp)
     ·rw [if_neg c7] at H
      exact absurd H (by simp)
    ·rw [if_neg c6] at H
     exact absurd H (by simp)
   ·rw [if_neg c5] at H
    have c5b0 : decide (x8_1 < (t182.length : Int)) = false := decide_eq_false c5
    clear c5
    obtain rfl := Option.some.inj H
    go_wp2
    go_ret
    exact ⟨by first | rfl | (simp [errW_none, errW_some] <;> rfl) | (simp [*, errW_none, errW_some] <;> rfl), by repeat (first | (with_reducible first | exact HB.out | apply below_alloc | apply pw_below_drewN | apply below_drew1) | exact HB.out)⟩

end Go.Proofs.YtncbbgmhmofhnaaDoor.Pr
end

section
namespace Go.Proofs.YtncbbgmhmofhnaaDoor.Pr
open Go.RowKit Go.Proofs.YtncbbgmhmofhnaaDoorW.PrintWords Go.Proofs.YtncbbgmhmofhnaaDoorW.PrintLast Go.Proofs.YtncbbgmhmofhnaaDoorW.PrintMore
set_option linter.unusedVariables false
set_option linter.unusedSimpArgs false

theorem bits_or16 (a b : Nat) (ha : a < 65536) (hb : b < 65536) : Go.bits .or .u16 (a : Int) (b : Int) = ((a ||| b : Nat) : Int) := by
  have h1 : (a ||| b) < 2 ^ 16 := Nat.or_lt_two_pow (by omega) (by omega)
  unfold Go.bits IntKind.wrap
  simp only [IntKind.bits, IntKind.signed, Bool.false_and, Bool.false_eq_true, if_false]
  rw [BitVec.ofInt_natCast, BitVec.ofInt_natCast]
  show (((BitVec.ofNat 16 a ||| BitVec.ofNat 16 b).toNat : Nat) : Int) % 2 ^ 16 = _
  rw [BitVec.toNat_or, BitVec.toNat_ofNat, BitVec.toNat_ofNat, Nat.mod_eq_of_lt (by omega), Nat.mod_eq_of_lt (by omega)]
  omega
theorem shl16 : ((List.range 12).all fun s => shl .u16 1 (s : Int) == ((2 ^ s : Nat) : Int)) = true := by decide +kernel
theorem shl16_is (s : Nat) (h : s < 12) : shl .u16 1 (s : Int) = ((2 ^ s : Nat) : Int) := by
  have := List.all_eq_true.1 shl16 s (List.mem_range.2 h)
  exact eq_of_beq this
def setF : Nat → Nat → Nat → List Int
  | 0, _, _ => []
  | f + 1, i, b => if b = 0 then [] else if b % 2 = 1 then (i : Int) :: setF f (i + 1) (b / 2) else setF f (i + 1) (b / 2)
theorem not3_tab : ((List.range 4096).all fun b => Go.bits .andNot .u16 (b : Int) 3 == ((b / 4 * 4 : Nat) : Int)) = true := by decide +kernel
theorem not3_is (b : Nat) (h : b < 4096) : Go.bits .andNot .u16 (b : Int) 3 = ((b / 4 * 4 : Nat) : Int) := eq_of_beq (List.all_eq_true.1 not3_tab b (List.mem_range.2 h))
theorem set_tab : ((List.range 4096).all fun b => setF 16 0 (b / 4 * 4) == ((List.range 12).filter fun i => decide (2 ≤ i) && b.testBit i).map (fun (i : Nat) => (i : Int))) = true := by decide +kernel
theorem set_is (b : Nat) (h : b < 4096) : setF 16 0 (b / 4 * 4) = ((List.range 12).filter fun i => decide (2 ≤ i) && b.testBit i).map (fun (i : Nat) => (i : Int)) := eq_of_beq (List.all_eq_true.1 set_tab b (List.mem_range.2 h))
/-- The level of a mask. -/
def lvI (b : Int) : Int :=
  if Go.bits .and .u16 b (IntKind.u16.wrap (b - 1)) = 0 then 2
  else if Go.bits .andNot .u16 b 1796 = 0 then 3
  else if (b ≠ Go.bits .andNot .u16 b 4 ∧ Go.bits .and .u16 (Go.bits .andNot .u16 b 4) (IntKind.u16.wrap (Go.bits .andNot .u16 b 4 - 1)) = 0) ∧ Go.bits .and .u16 (Go.bits .andNot .u16 b 4) 24 = 0 then 4 else 5
end Go.Proofs.YtncbbgmhmofhnaaDoor.Pr
end

section
namespace Go.Proofs.YtncbbgmhmofhnaaDoor.Pr
open Go.RowKit Go.Proofs.YtncbbgmhmofhnaaDoorW.PrintWords Go.Proofs.YtncbbgmhmofhnaaDoorW.PrintLast Go.Proofs.YtncbbgmhmofhnaaDoorW.PrintMore
set_option linter.unusedVariables false
set_option linter.unusedSimpArgs false

def byteN (s : ByteArray) (j : Nat) : Int := ((s.data.toList.getD j 0).toNat : Int)
def highB (s : ByteArray) : Bool := (List.range s.size).any fun j => decide (byteN s j ≥ 128)
theorem level_fn (x : Int) (w : World) : Calls Tryd.prog 34 #[.int .u8 x] w fun e w' => e = .returned (.bool (decide (x ≥ 128))) ∧ w' = w := by
  go_enter Tryd.func34, Tryd.ntmps34
  go_wp2
  go_ret
  exact ⟨rfl, rfl⟩
set_option maxHeartbeats 2000000 in
theorem index_high (s : ByteArray) (g c : Nat) (w : World) (hs : s.size ≤ 1000000000) (hc : ∀ j, j < s.size → w.cell? ⟨g, j, none⟩ = some (.int .u8 (byteN s j))) :
    Calls Tryd.prog 53 #[.slice (some ⟨g, 0, none⟩) s.size c, .func (.func 34) #[] #[]] w fun e w' => ∃ z : Int, e = .returned (.int .i64 z) ∧ Aside0 (decide (z ≥ 0) = highB s) ∧ w' = w := by
  obtain ⟨n, hn⟩ : ∃ n, s.size = n := ⟨_, rfl⟩
  rw [hn] at hs hc ⊢
  have HC := Aside0.mk hc
  have HN := Aside0.mk hn
  clear hc hn
  go_enter Tryd.func53, Tryd.ntmps53
  go_wp2_with fail
  go_loopw [5, 8] (fun v5 v8 wr => ∃ k : Nat, v8 = .int .i64 (k : Int) ∧ k ≤ n ∧ Aside0 (∀ j, j < k → decide (byteN s j ≥ 128) = false) ∧ wr = w) (fun _ v8 _ => n - (intOf v8).toNat)
  case atStart => exact ⟨0, by rfl, by omega, ⟨fun j hj => by omega⟩, rfl⟩
  case round =>
    obtain ⟨k, rfl, hk, HL, rfl⟩ := hrel
    by_cases hlt : k < n
    · have hcell := HC.out k hlt
      have hz : (k : Int) < (n : Int) := by omega
      cases hx : decide (byteN s k ≥ 128) with
      | true =>
        have HF : Aside0 (decide ((k : Int) ≥ 0) = highB s) := ⟨by
          rw [decide_eq_true (by omega)]
          exact (List.any_eq_true.2 ⟨k, List.mem_range.2 (by rw [HN.out]; exact hlt), hx⟩).symm⟩
        have hf := level_fn (byteN s k)
        rw [hx] at hf
        clear hx
        generalize byteN s k = x at hcell hf
        go_wp2_with ((with_reducible refine (hf _).mono ?_); rintro e w1 ⟨rfl, rfl⟩)
        go_ret
        exact ⟨_, rfl, HF, rfl⟩
      | false =>
        have HL2 : Aside0 (∀ j, j < k + 1 → decide (byteN s j ≥ 128) = false) := ⟨fun j hj => by
          by_cases e : j = k
          · rw [e]; exact hx
          · exact HL.out j (by omega)⟩
        have hf := level_fn (byteN s k)
        rw [hx] at hf
        clear hx
        generalize byteN s k = x at hcell hf
        go_wp2_with ((with_reducible refine (hf _).mono ?_); rintro e w1 ⟨rfl, rfl⟩)
        go_roundw
        case rel => exact ⟨k + 1, by go_num, by omega, HL2, by first | trivial | rfl⟩
        case measure => simp [intOf]; omega
    · have hz : ¬ (k : Int) < (n : Int) := by omega
      have HF : Aside0 (decide ((-1 : Int) ≥ 0) = highB s) := ⟨by
        rw [decide_eq_false (by omega)]
        refine (Bool.eq_false_iff.2 fun h => ?_).symm
        obtain ⟨j, hj, h2⟩ := List.any_eq_true.1 h
        rw [HL.out j (by have := List.mem_range.1 hj; rw [HN.out] at this; omega)] at h2
        cases h2⟩
      go_wp2_with fail
      go_ret
      exact ⟨_, rfl, HF, rfl⟩
set_option maxHeartbeats 2000000 in
theorem contains_high (s : ByteArray) (g c : Nat) (w : World) (hs : s.size ≤ 1000000000) (hc : ∀ j, j < s.size → w.cell? ⟨g, j, none⟩ = some (.int .u8 (byteN s j))) :
    Calls Tryd.prog 33 #[.slice (some ⟨g, 0, none⟩) s.size c, .func (.func 34) #[] #[]] w fun e w' => e = .returned (.bool (highB s)) ∧ w' = w := by
  have HI := Aside0.mk (index_high s g c w hs hc)
  clear hc
  go_enter Tryd.func33, Tryd.ntmps33
  go_wp2_with (go_at_call 53; (with_reducible refine HI.out.mono ?_); rintro e w1 ⟨z, rfl, hz, rfl⟩)
  go_ret
  exact ⟨by rw [hz.out]; rfl, rfl⟩
theorem bytes_below (w : World) (s : ByteArray) : Below w.heap.size w (Lib.bytesWorld w 5 s) :=
  ⟨rfl, rfl, rfl, by rw [Lib.bytesWorld_size]; omega, fun k hk => Lib.bytesWorld_at_old w _ s k hk⟩
end Go.Proofs.YtncbbgmhmofhnaaDoor.Pr
end

section
namespace Go.Proofs.YtncbbgmhmofhnaaDoor.Pr
open Go.RowKit Go.Proofs.YtncbbgmhmofhnaaDoorW.PrintWords Go.Proofs.YtncbbgmhmofhnaaDoorW.PrintLast Go.Proofs.YtncbbgmhmofhnaaDoorW.PrintMore
set_option linter.unusedVariables false
set_option linter.unusedSimpArgs false

theorem lvI_eq (b : Int) : lvI b = if Go.bits .and .u16 b (IntKind.u16.wrap (b - 1)) = 0 then 2
  else if Go.bits .andNot .u16 b 1796 = 0 then 3
  else if (b ≠ Go.bits .andNot .u16 b 4 ∧ Go.bits .and .u16 (Go.bits .andNot .u16 b 4) (IntKind.u16.wrap (Go.bits .andNot .u16 b 4 - 1)) = 0) ∧ Go.bits .and .u16 (Go.bits .andNot .u16 b 4) 24 = 0 then 4 else 5 := rfl
def skel_Level.f (s : ByteArray) : Option Int := if s.size ≤ 1000000000 then if highB s = false then some 1 else (skel_bits.f (s.size + 5) s).bind fun b => if 0 ≤ b ∧ b < 65536 then some (lvI b) else none else none
set_option maxRecDepth 100000 in
set_option maxHeartbeats 2000000 in
theorem level_low (s : ByteArray) (w : World) (hs : s.size ≤ 1000000000) (hh : highB s = false) : Calls Tryd.prog 15 #[.string s] w fun e w' => e = .returned (.int .u8 1) ∧ Below w.heap.size w w' := by
  have kb := Lib.run_convert_string_bytes (P := Tryd.prog) w 9 27 5 s Tryd.underlying9 Tryd.underlying27 Tryd.underlying5
  have HC := Aside0.mk fun c => contains_high s w.heap.size c (Lib.bytesWorld w 5 s) hs (fun j hj => Lib.bytesWorld_cell w 5 s j hj)
  rw [hh] at HC
  clear hh
  have HB := Aside0.mk (bytes_below w s)
  generalize Lib.bytesWorld w 5 s = w1 at kb HC HB
  go_enter Tryd.func15, Tryd.ntmps15
  go_wp2_with (go_at_call 33; (with_reducible refine (HC.out _).mono ?_); rintro e w2 ⟨rfl, rfl⟩)
  go_ret
  exact ⟨rfl, HB.out⟩
set_option maxRecDepth 100000 in
set_option maxHeartbeats 2000000 in
theorem level_high (s : ByteArray) (w : World) (hG : WG w) (hs : s.size ≤ 1000000000) (hh : highB s = true) (b : Int) (hb : skel_bits.f (s.size + 5) s = some b) (h0 : 0 ≤ b) (h1 : b < 65536) : Calls Tryd.prog 15 #[.string s] w fun e w' => e = .returned (.int .u8 (lvI b)) ∧ Below w.heap.size w w' := by
  have kb := Lib.run_convert_string_bytes (P := Tryd.prog) w 9 27 5 s Tryd.underlying9 Tryd.underlying27 Tryd.underlying5
  have HC := Aside0.mk fun c => contains_high s w.heap.size c (Lib.bytesWorld w 5 s) hs (fun j hj => Lib.bytesWorld_cell w 5 s j hj)
  rw [hh] at HC
  clear hh
  have HB := Aside0.mk (bytes_below w s)
  generalize Lib.bytesWorld w 5 s = w1 at kb HC HB
  have HQ := Aside0.mk (skel_bits.calls (s.size + 5) s b w1 hb (WG.keep hG HB.out))
  clear hb
  have H0 := Aside0.mk h0
  have H1 := Aside0.mk h1
  clear h0 h1 hs
  have HL := Aside0.mk (lvI_eq b)
  obtain ⟨r, hr⟩ : ∃ r, Go.bits .andNot .u16 b 4 = r := ⟨_, rfl⟩
  obtain ⟨d, hd⟩ : ∃ d, IntKind.u16.wrap (b - 1) = d := ⟨_, rfl⟩
  obtain ⟨c, hc⟩ : ∃ c, Go.bits .and .u16 b d = c := ⟨_, rfl⟩
  obtain ⟨z, hz⟩ : ∃ z, Go.bits .andNot .u16 b 1796 = z := ⟨_, rfl⟩
  obtain ⟨q, hq⟩ : ∃ q, IntKind.u16.wrap (r - 1) = q := ⟨_, rfl⟩
  obtain ⟨u, hu⟩ : ∃ u, Go.bits .and .u16 r q = u := ⟨_, rfl⟩
  obtain ⟨x, hx⟩ : ∃ x, Go.bits .and .u16 r 24 = x := ⟨_, rfl⟩
  rw [hr, hd, hc, hz, hq, hu, hx] at HL
  go_enter Tryd.func15, Tryd.ntmps15
  go_wp2_with (first | (go_at_call 33; (with_reducible refine (HC.out _).mono ?_); rintro e w2 ⟨rfl, rfl⟩) | (go_at_call 31; (with_reducible refine HQ.out.mono ?_); rintro e w2 ⟨rfl, hb2⟩; have HB2 := Aside0.mk (below_step HB.out hb2); clear hb2))
  all_goals
    go_ret
    refine ⟨?_, HB2.out⟩
    rw [HL.out]
    simp_all
theorem skel_Level.calls (a0 : ByteArray) (r : Int) (w : World) (h : skel_Level.f a0 = some r) (hG : WG w) :
    Calls Tryd.prog 15 #[.string a0] w fun e w' => e = .returned (.int .u8 r) ∧ Below w.heap.size w w' := by
  unfold skel_Level.f at h
  split at h
  · next hs =>
    split at h
    · next hl =>
      obtain rfl := Option.some.inj h
      exact level_low a0 w hs hl
    · next hl =>
      obtain ⟨b, hb, h2⟩ := Option.bind_eq_some_iff.1 h
      split at h2
      · next hr =>
        obtain rfl := Option.some.inj h2
        exact level_high a0 w hG hs (by simpa using hl) b hb hr.1 hr.2
      · cases h2
  · cases h
end Go.Proofs.YtncbbgmhmofhnaaDoor.Pr
end

section
namespace Go.Proofs.YtncbbgmhmofhnaaDoor.Pr
open Go.RowKit Go.Proofs.YtncbbgmhmofhnaaDoorW.PrintWords Go.Proofs.YtncbbgmhmofhnaaDoorW.PrintLast Go.Proofs.YtncbbgmhmofhnaaDoorW.PrintMore
set_option linter.unusedVariables false
set_option linter.unusedSimpArgs false

def nameT : List ByteArray := [⟨#[67, 111, 109, 109, 111, 110]⟩, ⟨#[73, 110, 104, 101, 114, 105, 116, 101, 100]⟩, ⟨#[76, 97, 116, 105, 110]⟩, ⟨#[71, 114, 101, 101, 107]⟩, ⟨#[67, 121, 114, 105, 108, 108, 105, 99]⟩, ⟨#[72, 101, 98, 114, 101, 119]⟩, ⟨#[65, 114, 97, 98, 105, 99]⟩, ⟨#[68, 101, 118, 97, 110, 97, 103, 97, 114, 105]⟩, ⟨#[72, 105, 114, 97, 103, 97, 110, 97]⟩, ⟨#[75, 97, 116, 97, 107, 97, 110, 97]⟩, ⟨#[72, 97, 110]⟩, ⟨#[68, 101, 115, 101, 114, 101, 116]⟩]
def nameV : Array Value := #[.string ⟨#[67, 111, 109, 109, 111, 110]⟩, .string ⟨#[73, 110, 104, 101, 114, 105, 116, 101, 100]⟩, .string ⟨#[76, 97, 116, 105, 110]⟩, .string ⟨#[71, 114, 101, 101, 107]⟩, .string ⟨#[67, 121, 114, 105, 108, 108, 105, 99]⟩, .string ⟨#[72, 101, 98, 114, 101, 119]⟩, .string ⟨#[65, 114, 97, 98, 105, 99]⟩, .string ⟨#[68, 101, 118, 97, 110, 97, 103, 97, 114, 105]⟩, .string ⟨#[72, 105, 114, 97, 103, 97, 110, 97]⟩, .string ⟨#[75, 97, 116, 97, 107, 97, 110, 97]⟩, .string ⟨#[72, 97, 110]⟩, .string ⟨#[68, 101, 115, 101, 114, 101, 116]⟩]
set_option maxRecDepth 100000 in
set_option maxHeartbeats 2000000 in
theorem names_calls (w : World) : Calls Tryd.prog 35 #[] w fun e w' => e = .returned (.agg nameV) ∧ ∃ t, w' = w.alloc (.cells nameV t) := by
  go_enter Tryd.func35, Tryd.ntmps35
  go_wp2_with fail
  refine bodyPost_ret (results_cell_row rfl _ _ w.heap.size 56 nameV (0, 0) _ rfl (heap_alloc_new _ _) Tryd.underlying56 (by rfl) (by kernel_rfl)) rfl ?_
  exact ⟨rfl, _, rfl⟩
set_option maxRecDepth 100000 in
set_option maxHeartbeats 2000000 in
theorem name_any (x : Int) (h0 : 0 ≤ x) (h1 : x ≤ 255) (w : World) : Calls Tryd.prog 19 #[.int .u8 x] w fun e w' => e = .returned (.string (nameT.getD x.toNat ⟨#[]⟩)) ∧ Below w.heap.size w w' := by
  by_cases hx : 12 ≤ x
  · have hd : decide (x ≥ 12) = true := decide_eq_true hx
    have e : nameT.getD x.toNat ⟨#[]⟩ = ⟨#[]⟩ := by
      rw [List.getD_eq_getElem?_getD, List.getElem?_eq_none (by show 12 ≤ x.toNat; omega)]
      rfl
    rw [e]
    go_enter Tryd.func19, Tryd.ntmps19
    go_wp2_with (first | (go_at_call 35; refine (names_calls _).mono ?_; rintro e w1 ⟨rfl, t, rfl⟩; unfold nameV))
    go_ret
    exact ⟨rfl, below_alloc (below_alloc (Below.refl _ _) _) _⟩
  · rcases (by omega : x = 0 ∨ x = 1 ∨ x = 2 ∨ x = 3 ∨ x = 4 ∨ x = 5 ∨ x = 6 ∨ x = 7 ∨ x = 8 ∨ x = 9 ∨ x = 10 ∨ x = 11) with rfl | rfl | rfl | rfl | rfl | rfl | rfl | rfl | rfl | rfl | rfl | rfl
    all_goals
      clear hx h0 h1
      go_enter Tryd.func19, Tryd.ntmps19
      go_wp2_with (first | (go_at_call 35; refine (names_calls _).mono ?_; rintro e w1 ⟨rfl, t, rfl⟩; unfold nameV))
      go_ret
      exact ⟨rfl, below_alloc (below_alloc (Below.refl _ _) _) _⟩
def skel_Name.f (x : Int) : Option ByteArray := if 0 ≤ x ∧ x ≤ 255 then some (nameT.getD x.toNat ⟨#[]⟩) else none
theorem skel_Name.calls (x : Int) (r : ByteArray) (w : World) (h : skel_Name.f x = some r) : Calls Tryd.prog 19 #[.int .u8 x] w fun e w' => e = .returned (.string r) ∧ Below w.heap.size w w' := by
  unfold skel_Name.f at h
  split at h
  · next hx =>
    obtain rfl := Option.some.inj h
    exact name_any x hx.1 hx.2 w
  · cases h
end Go.Proofs.YtncbbgmhmofhnaaDoor.Pr
end

section
namespace Go.Proofs.YtncbbgmhmofhnaaDoor.Pr
open Go.RowKit Go.Proofs.YtncbbgmhmofhnaaDoorW.PrintWords Go.Proofs.YtncbbgmhmofhnaaDoorW.PrintLast Go.Proofs.YtncbbgmhmofhnaaDoorW.PrintMore
set_option linter.unusedVariables false
set_option linter.unusedSimpArgs false

def skel_Of.f (x : ByteArray) : Option (Int × Int) := some (if 0 ≤ Lib.idxOfS nameT x then (Lib.idxOfS nameT x, 0) else (0, 5))
theorem idxS_lt (x : ByteArray) : Lib.idxOfS nameT x < 12 := by
  have key : ∀ (zs : List ByteArray) (i : Nat), Lib.idxFromS zs x i < (i + zs.length : Nat) ∨ Lib.idxFromS zs x i = -1 := by
    intro zs
    induction zs with
    | nil => intro i; exact .inr rfl
    | cons z zs ih =>
      intro i
      unfold Lib.idxFromS
      split
      · left; simp; omega
      · rcases ih (i + 1) with h | h
        · left; rw [List.length_cons]; omega
        · exact .inr h
  have := key nameT 0
  have e : nameT.length = 12 := rfl
  unfold Lib.idxOfS
  rw [e] at this
  omega
def CelS (W : World) (g : Nat) : Prop := ∀ j, j < nameT.length → W.cell? ⟨g, 0 + j, none⟩ = some (.string (nameT.getD j ByteArray.empty))
theorem cels_new (W : World) (ty : TypeId) (t : Nat × Nat) (g : Nat) (hg : g = W.heap.size) : CelS (W.alloc (.cells nameV ty t)) g := by
  subst hg
  intro j hj
  have hj2 : j < 12 := hj
  have h := heap_alloc_new W (.cells nameV ty t)
  rw [Nat.zero_add]
  have hx : nameV[j]? = some (.string (nameT.getD j ByteArray.empty)) := by
    rcases (by omega : j = 0 ∨ j = 1 ∨ j = 2 ∨ j = 3 ∨ j = 4 ∨ j = 5 ∨ j = 6 ∨ j = 7 ∨ j = 8 ∨ j = 9 ∨ j = 10 ∨ j = 11) with rfl | rfl | rfl | rfl | rfl | rfl | rfl | rfl | rfl | rfl | rfl | rfl <;> rfl
  simp only [World.cell?, h]
  exact hx
theorem of_index (x : ByteArray) (g : Nat) (W : World) (hc : CelS W g) : Calls Tryd.prog 36 #[.slice (some ⟨g, 0, none⟩) 12 12, .string x] W fun e w' => e = .returned (.int .i64 (Lib.idxOfS nameT x)) ∧ w' = W :=
  Tryd.slices_Index_string g 0 12 12 nameT x W (by show 12 ≤ 12; omega) (by omega) hc
set_option maxRecDepth 100000 in
set_option maxHeartbeats 2000000 in
theorem of_any (x : ByteArray) (i : Int) (hi : Lib.idxOfS nameT x = i) (w : World) : Calls Tryd.prog 18 #[.string x] w fun e w' => e = .returned (.tuple #[.int .u8 (if 0 ≤ i then i else 0), .int .i64 (if 0 ≤ i then 0 else 5)]) ∧ Below w.heap.size w w' := by
  have hlt := idxS_lt x
  rw [hi] at hlt
  have HI := Aside0.mk hi
  clear hi
  by_cases h0 : 0 ≤ i
  · rw [if_pos h0, if_pos h0]
    have hd : decide (i ≥ 0) = true := decide_eq_true h0
    have hwr : i % 256 = i := by omega
    go_enter Tryd.func18, Tryd.ntmps18
    go_wp2_with (first | (go_at_call 35; refine (names_calls _).mono ?_; rintro e w1 ⟨rfl, t, rfl⟩; unfold nameV) | (go_at_call 36; (with_reducible refine (of_index x _ _ ?hc).mono ?_); (case hc => exact cels_new _ _ _ _ (by simp)); rw [HI.out]; rintro e w1 ⟨rfl, rfl⟩))
    go_ret2
    exact ⟨rfl, below_alloc (below_alloc (Below.refl _ _) _) _⟩
  · rw [if_neg h0, if_neg h0]
    have hd : decide (i ≥ 0) = false := decide_eq_false h0
    go_enter Tryd.func18, Tryd.ntmps18
    go_wp2_with (first | (go_at_call 35; refine (names_calls _).mono ?_; rintro e w1 ⟨rfl, t, rfl⟩; unfold nameV) | (go_at_call 36; (with_reducible refine (of_index x _ _ ?hc).mono ?_); (case hc => exact cels_new _ _ _ _ (by simp)); rw [HI.out]; rintro e w1 ⟨rfl, rfl⟩))
    go_ret2
    exact ⟨rfl, below_alloc (below_alloc (Below.refl _ _) _) _⟩
theorem skel_Of.calls (a0 : ByteArray) (r1 r2 : Int) (w : World) (h : skel_Of.f a0 = some (r1, r2)) : Calls Tryd.prog 18 #[.string a0] w fun e w' => e = .returned (.tuple #[.int .u8 r1, .int .i64 r2]) ∧ Below w.heap.size w w' := by
  have h := Option.some.inj h
  have key := of_any a0 _ rfl w
  by_cases h0 : 0 ≤ Lib.idxOfS nameT a0
  · rw [if_pos h0] at h key
    rw [if_pos h0] at key
    obtain ⟨rfl, rfl⟩ := Prod.mk.inj h
    exact key
  · rw [if_neg h0] at h key
    rw [if_neg h0] at key
    obtain ⟨rfl, rfl⟩ := Prod.mk.inj h
    exact key
end Go.Proofs.YtncbbgmhmofhnaaDoor.Pr
end

section
namespace Go.Proofs.YtncbbgmhmofhnaaDoor.Pr
open Go.RowKit Go.Proofs.YtncbbgmhmofhnaaDoorW.PrintWords Go.Proofs.YtncbbgmhmofhnaaDoorW.PrintLast Go.Proofs.YtncbbgmhmofhnaaDoorW.PrintMore
attribute [local go_sem] max2_int min2_int max_two min_two max_three min_three max_four min_four Instr.field asAgg   -- for this text's walks alone
set_option linter.unusedVariables false
set_option linter.unusedSimpArgs false

def portcullislaw08_works.f (k : Nat)  : Option (Bool) := (skel_Of.f (⟨#[76, 97, 116, 105, 110]⟩ : ByteArray)).bind fun bt187 => ((skel_Skeleton.f k (⟨#[109]⟩ : ByteArray)).bind fun t189 => (if t189.toList = ([114, 110] : List UInt8) then ((skel_Alike.f k (⟨#[114, 110]⟩ : ByteArray) (⟨#[109]⟩ : ByteArray)).bind fun t190 => (if t190 = true then ((skel_Alike.f k (⟨#[97]⟩ : ByteArray) (⟨#[98]⟩ : ByteArray)).bind fun t191 => (if t191 = true then (some false) else ((skel_Skeleton.f k (⟨#[112, 208, 176, 121, 112, 97, 49]⟩ : ByteArray)).bind fun t192 => (if t192.toList = ([112, 97, 121, 112, 97, 108] : List UInt8) then ((skel_Level.f (⟨#[97, 98, 208, 176]⟩ : ByteArray)).bind fun t193 => (if t193 = 5 then ((skel_Level.f (⟨#[97, 98, 99]⟩ : ByteArray)).bind fun t194 => (if t194 = 1 then (if bt187.1 = 2 then (if bt187.2 = 0 then ((skel_Name.f 10).bind fun t195 => (some (t195.toList == ([72, 97, 110] : List UInt8)))) else (some false)) else (some false)) else (some false))) else (some false))) else (some false))))) else (some false))) else (some false)))
set_option maxHeartbeats 8000000 in
set_option maxRecDepth 100000 in
theorem portcullislaw08_works.calls (k : Nat)  (r : Bool) (w : World) (h : portcullislaw08_works.f k  = some r) (hG : WG w) :
  Calls Tryd.prog 8 #[] w fun e w' => e = .returned (.bool r) ∧ Below w.heap.size w w' := by
 have HG := Aside0.mk hG
 clear hG
 have HB := Aside0.mk (Below.refl w.heap.size w)
 have H : ((skel_Of.f (⟨#[76, 97, 116, 105, 110]⟩ : ByteArray)).bind fun bt187 => ((skel_Skeleton.f k (⟨#[109]⟩ : ByteArray)).bind fun t189 => (if t189.toList = ([114, 110] : List UInt8) then ((skel_Alike.f k (⟨#[114, 110]⟩ : ByteArray) (⟨#[109]⟩ : ByteArray)).bind fun t190 => (if t190 = true then ((skel_Alike.f k (⟨#[97]⟩ : ByteArray) (⟨#[98]⟩ : ByteArray)).bind fun t191 => (if t191 = true then (some false) else ((skel_Skeleton.f k (⟨#[112, 208, 176, 121, 112, 97, 49]⟩ : ByteArray)).bind fun t192 => (if t192.toList = ([112, 97, 121, 112, 97, 108] : List UInt8) then ((skel_Level.f (⟨#[97, 98, 208, 176]⟩ : ByteArray)).bind fun t193 => (if t193 = 5 then ((skel_Level.f (⟨#[97, 98, 99]⟩ : ByteArray)).bind fun t194 => (if t194 = 1 then (if bt187.1 = 2 then (if bt187.2 = 0 then ((skel_Name.f 10).bind fun t195 => (some (t195.toList == ([72, 97, 110] : List UInt8)))) else (some false)) else (some false)) else (some false))) else (some false))) else (some false))))) else (some false))) else (some false)))) = some r := h
 clear h
 replace H := Option.bind_eq_some_iff.mp H
 obtain ⟨⟨t187, t188⟩, A10, H⟩ := H
 replace H : ((skel_Skeleton.f k (⟨#[109]⟩ : ByteArray)).bind fun t189 => (if t189.toList = ([114, 110] : List UInt8) then ((skel_Alike.f k (⟨#[114, 110]⟩ : ByteArray) (⟨#[109]⟩ : ByteArray)).bind fun t190 => (if t190 = true then ((skel_Alike.f k (⟨#[97]⟩ : ByteArray) (⟨#[98]⟩ : ByteArray)).bind fun t191 => (if t191 = true then (some false) else ((skel_Skeleton.f k (⟨#[112, 208, 176, 121, 112, 97, 49]⟩ : ByteArray)).bind fun t192 => (if t192.toList = ([112, 97, 121, 112, 97, 108] : List UInt8) then ((skel_Level.f (⟨#[97, 98, 208, 176]⟩ : ByteArray)).bind fun t193 => (if t193 = 5 then ((skel_Level.f (⟨#[97, 98, 99]⟩ : ByteArray)).bind fun t194 => (if t194 = 1 then (if t187 = 2 then (if t188 = 0 then ((skel_Name.f 10).bind fun t195 => (some (t195.toList == ([72, 97, 110] : List UInt8)))) else (some false)) else (some false)) else (some false))) else (some false))) else (some false))))) else (some false))) else (some false))) = some r := H
 have A1 := Aside0.mk A10
 clear A10
 replace H := Option.bind_eq_some_iff.mp H
 obtain ⟨t189, A20, H⟩ := H
 replace H : (if t189.toList = ([114, 110] : List UInt8) then ((skel_Alike.f k (⟨#[114, 110]⟩ : ByteArray) (⟨#[109]⟩ : ByteArray)).bind fun t190 => (if t190 = true then ((skel_Alike.f k (⟨#[97]⟩ : ByteArray) (⟨#[98]⟩ : ByteArray)).bind fun t191 => (if t191 = true then (some false) else ((skel_Skeleton.f k (⟨#[112, 208, 176, 121, 112, 97, 49]⟩ : ByteArray)).bind fun t192 => (if t192.toList = ([112, 97, 121, 112, 97, 108] : List UInt8) then ((skel_Level.f (⟨#[97, 98, 208, 176]⟩ : ByteArray)).bind fun t193 => (if t193 = 5 then ((skel_Level.f (⟨#[97, 98, 99]⟩ : ByteArray)).bind fun t194 => (if t194 = 1 then (if t187 = 2 then (if t188 = 0 then ((skel_Name.f 10).bind fun t195 => (some (t195.toList == ([72, 97, 110] : List UInt8)))) else (some false)) else (some false)) else (some false))) else (some false))) else (some false))))) else (some false))) else (some false)) = some r := H
 have A2 := Aside0.mk A20
 clear A20
 by_cases c3 : t189.toList = ([114, 110] : List UInt8)
 ·rw [if_pos c3] at H
  have c3b0 : (t189.toList == ([114, 110] : List UInt8)) = true := beq_iff_eq.mpr c3
  have c3b1 : (t189.toList != ([114, 110] : List UInt8)) = false := bne_eq_false_iff_eq.mpr c3
  clear c3
  replace H := Option.bind_eq_some_iff.mp H
  obtain ⟨t190, A40, H⟩ := H
  replace H : (if t190 = true then ((skel_Alike.f k (⟨#[97]⟩ : ByteArray) (⟨#[98]⟩ : ByteArray)).bind fun t191 => (if t191 = true then (some false) else ((skel_Skeleton.f k (⟨#[112, 208, 176, 121, 112, 97, 49]⟩ : ByteArray)).bind fun t192 => (if t192.toList = ([112, 97, 121, 112, 97, 108] : List UInt8) then ((skel_Level.f (⟨#[97, 98, 208, 176]⟩ : ByteArray)).bind fun t193 => (if t193 = 5 then ((skel_Level.f (⟨#[97, 98, 99]⟩ : ByteArray)).bind fun t194 => (if t194 = 1 then (if t187 = 2 then (if t188 = 0 then ((skel_Name.f 10).bind fun t195 => (some (t195.toList == ([72, 97, 110] : List UInt8)))) else (some false)) else (some false)) else (some false))) else (some false))) else (some false))))) else (some false)) = some r := H
  have A4 := Aside0.mk A40
  clear A40
  by_cases c5 : t190 = true
  ·subst c5
   have H1 : ((skel_Alike.f k (⟨#[97]⟩ : ByteArray) (⟨#[98]⟩ : ByteArray)).bind fun t191 => (if t191 = true then (some false) else ((skel_Skeleton.f k (⟨#[112, 208, 176, 121, 112, 97, 49]⟩ : ByteArray)).bind fun t192 => (if t192.toList = ([112, 97, 121, 112, 97, 108] : List UInt8) then ((skel_Level.f (⟨#[97, 98, 208, 176]⟩ : ByteArray)).bind fun t193 => (if t193 = 5 then ((skel_Level.f (⟨#[97, 98, 99]⟩ : ByteArray)).bind fun t194 => (if t194 = 1 then (if t187 = 2 then (if t188 = 0 then ((skel_Name.f 10).bind fun t195 => (some (t195.toList == ([72, 97, 110] : List UInt8)))) else (some false)) else (some false)) else (some false))) else (some false))) else (some false))))) = some r := by rw [if_pos rfl] at H; exact H
   clear H
   have H := H1
   clear H1
   replace H := Option.bind_eq_some_iff.mp H
   obtain ⟨t191, A60, H⟩ := H
   replace H : (if t191 = true then (some false) else ((skel_Skeleton.f k (⟨#[112, 208, 176, 121, 112, 97, 49]⟩ : ByteArray)).bind fun t192 => (if t192.toList = ([112, 97, 121, 112, 97, 108] : List UInt8) then ((skel_Level.f (⟨#[97, 98, 208, 176]⟩ : ByteArray)).bind fun t193 => (if t193 = 5 then ((skel_Level.f (⟨#[97, 98, 99]⟩ : ByteArray)).bind fun t194 => (if t194 = 1 then (if t187 = 2 then (if t188 = 0 then ((skel_Name.f 10).bind fun t195 => (some (t195.toList == ([72, 97, 110] : List UInt8)))) else (some false)) else (some false)) else (some false))) else (some false))) else (some false)))) = some r := H
   have A6 := Aside0.mk A60
   clear A60
   by_cases c7 : t191 = true
   ·subst c7
    have H1 : (some false) = some r := by rw [if_pos rfl] at H; exact H
    clear H
    have H := H1
    clear H1
    obtain rfl := Option.some.inj H
    go_enter Tryd.func8, Tryd.ntmps8
    go_wp2_with (first | ((with_reducible refine gate_callee (f := 18) rfl ?_); refine goesL_ (some 4) rfl rfl Tryd.func18 (by kernel_rfl) rfl #[.string (⟨#[76, 97, 116, 105, 110]⟩ : ByteArray)] rfl (by (try simp only [List.map_toArray, List.map_cons, List.map_nil]); first | done | rfl | (simp only [List.length_drop, List.length_take]; rfl)) ?_; (with_reducible refine (skel_Of.calls (⟨#[76, 97, 116, 105, 110]⟩ : ByteArray) t187 t188 _ A1.out).mono ?_); rintro e w8 ⟨rfl, hb⟩; refine ⟨_, rfl, ?_⟩; have n0_ := Aside0.mk (below_step (by repeat (first | (with_reducible first | exact HB.out | apply below_alloc | apply pw_below_drewN | apply below_drew1) | exact HB.out)) hb); clear HB; have HB := n0_; clear n0_; (try clear hb); (try clear hb2); (try clear hk); (try clear hi)) | ((with_reducible refine gate_callee (f := 9) rfl ?_); refine goesL_ (some 7) rfl rfl Tryd.func9 (by kernel_rfl) rfl #[.string (⟨#[109]⟩ : ByteArray)] rfl (by (try simp only [List.map_toArray, List.map_cons, List.map_nil]); first | done | rfl | (simp only [List.length_drop, List.length_take]; rfl)) ?_; (with_reducible refine (skel_Skeleton.calls k (⟨#[109]⟩ : ByteArray) t189 _ A2.out (WG.keep HG.out (by repeat (first | (with_reducible first | exact HB.out | apply below_alloc | apply pw_below_drewN | apply below_drew1) | exact HB.out)))).mono ?_); rintro e w9 ⟨rfl, hb⟩; refine ⟨_, rfl, ?_⟩; have n0_ := Aside0.mk (below_step (by repeat (first | (with_reducible first | exact HB.out | apply below_alloc | apply pw_below_drewN | apply below_drew1) | exact HB.out)) hb); clear HB; have HB := n0_; clear n0_; (try clear hb); (try clear hb2); (try clear hk); (try clear hi)) | (go_at_call 10; (with_reducible refine (skel_Alike.calls k (⟨#[114, 110]⟩ : ByteArray) (⟨#[109]⟩ : ByteArray) true _ A4.out (WG.keep HG.out (by repeat (first | (with_reducible first | exact HB.out | apply below_alloc | apply pw_below_drewN | apply below_drew1) | exact HB.out)))).mono ?_); rintro e w10 ⟨rfl, hb⟩; have n0_ := Aside0.mk (below_step (by repeat (first | (with_reducible first | exact HB.out | apply below_alloc | apply pw_below_drewN | apply below_drew1) | exact HB.out)) hb); clear HB; have HB := n0_; clear n0_; (try clear hb); (try clear hb2); (try clear hk); (try clear hi)) | (go_at_call 10; (with_reducible refine (skel_Alike.calls k (⟨#[97]⟩ : ByteArray) (⟨#[98]⟩ : ByteArray) true _ A6.out (WG.keep HG.out (by repeat (first | (with_reducible first | exact HB.out | apply below_alloc | apply pw_below_drewN | apply below_drew1) | exact HB.out)))).mono ?_); rintro e w11 ⟨rfl, hb⟩; have n0_ := Aside0.mk (below_step (by repeat (first | (with_reducible first | exact HB.out | apply below_alloc | apply pw_below_drewN | apply below_drew1) | exact HB.out)) hb); clear HB; have HB := n0_; clear n0_; (try clear hb); (try clear hb2); (try clear hk); (try clear hi)))
    go_ret
    exact ⟨by first | rfl | (simp [errW_none, errW_some] <;> rfl) | (simp [*, errW_none, errW_some] <;> rfl), by repeat (first | (with_reducible first | exact HB.out | apply below_alloc | apply pw_below_drewN | apply below_drew1) | exact HB.out)⟩
   ·replace c7 := Bool.eq_false_iff.mpr c7
    subst c7
    have H1 : ((skel_Skeleton.f k (⟨#[112, 208, 176, 121, 112, 97, 49]⟩ : ByteArray)).bind fun t192 => (if t192.toList = ([112, 97, 121, 112, 97, 108] : List UInt8) then ((skel_Level.f (⟨#[97, 98, 208, 176]⟩ : ByteArray)).bind fun t193 => (if t193 = 5 then ((skel_Level.f (⟨#[97, 98, 99]⟩ : ByteArray)).bind fun t194 => (if t194 = 1 then (if t187 = 2 then (if t188 = 0 then ((skel_Name.f 10).bind fun t195 => (some (t195.toList == ([72, 97, 110] : List UInt8)))) else (some false)) else (some false)) else (some false))) else (some false))) else (some false))) = some r := by rw [if_neg (show ¬ (false = true) by decide)] at H; exact H
    clear H
    have H := H1
    clear H1
    replace H := Option.bind_eq_some_iff.mp H
    obtain ⟨t192, A120, H⟩ := H
    replace H : (if t192.toList = ([112, 97, 121, 112, 97, 108] : List UInt8) then ((skel_Level.f (⟨#[97, 98, 208, 176]⟩ : ByteArray)).bind fun t193 => (if t193 = 5 then ((skel_Level.f (⟨#[97, 98, 99]⟩ : ByteArray)).bind fun t194 => (if t194 = 1 then (if t187 = 2 then (if t188 = 0 then ((skel_Name.f 10).bind fun t195 => (some (t195.toList == ([72, 97, 110] : List UInt8)))) else (some false)) else (some false)) else (some false))) else (some false))) else (some false)) = some r := H
    have A12 := Aside0.mk A120
    clear A120
    by_cases c13 : t192.toList = ([112, 97, 121, 112, 97, 108] : List UInt8)
    ·rw [if_pos c13] at H
     have c13b0 : (t192.toList == ([112, 97, 121, 112, 97, 108] : List UInt8)) = true := beq_iff_eq.mpr c13
     have c13b1 : (t192.toList != ([112, 97, 121, 112, 97, 108] : List UInt8)) = false := bne_eq_false_iff_eq.mpr c13
     clear c13
     replace H := Option.bind_eq_some_iff.mp H
     obtain ⟨t193, A140, H⟩ := H
     replace H : (if t193 = 5 then ((skel_Level.f (⟨#[97, 98, 99]⟩ : ByteArray)).bind fun t194 => (if t194 = 1 then (if t187 = 2 then (if t188 = 0 then ((skel_Name.f 10).bind fun t195 => (some (t195.toList == ([72, 97, 110] : List UInt8)))) else (some false)) else (some false)) else (some false))) else (some false)) = some r := H
     have A14 := Aside0.mk A140
     clear A140
     by_cases c15 : t193 = 5
     ·rw [if_pos c15] at H
      have c15b0 : (t193 == 5) = true := beq_iff_eq.mpr c15
      have c15b1 : (t193 != 5) = false := bne_eq_false_iff_eq.mpr c15
      clear c15
      replace H := Option.bind_eq_some_iff.mp H
      obtain ⟨t194, A160, H⟩ := H
      replace H : (if t194 = 1 then (if t187 = 2 then (if t188 = 0 then ((skel_Name.f 10).bind fun t195 => (some (t195.toList == ([72, 97, 110] : List UInt8)))) else (some false)) else (some false)) else (some false)) = some r := H
      have A16 := Aside0.mk A160
      clear A160
      by_cases c17 : t194 = 1
      ·rw [if_pos c17] at H
       have c17b0 : (t194 == 1) = true := beq_iff_eq.mpr c17
       have c17b1 : (t194 != 1) = false := bne_eq_false_iff_eq.mpr c17
       clear c17
       by_cases c18 : t187 = 2
       ·rw [if_pos c18] at H
        have c18b0 : (t187 == 2) = true := beq_iff_eq.mpr c18
        have c18b1 : (t187 != 2) = false := bne_eq_false_iff_eq.mpr c18
        clear c18
        by_cases c19 : t188 = 0
        ·rw [if_pos c19] at H
         have c19b0 : (t188 == 0) = true := beq_iff_eq.mpr c19
         have c19b1 : (t188 != 0) = false := bne_eq_false_iff_eq.mpr c19
         clear c19
         replace H := Option.bind_eq_some_iff.mp H
         obtain ⟨t195, A200, H⟩ := H
         replace H : (some (t195.toList == ([72, 97, 110] : List UInt8))) = some r := H
         have A20 := Aside0.mk A200
         clear A200
         obtain rfl := Option.some.inj H
         go_enter Tryd.func8, Tryd.ntmps8
         go_wp2_with (first | ((with_reducible refine gate_callee (f := 18) rfl ?_); refine goesL_ (some 4) rfl rfl Tryd.func18 (by kernel_rfl) rfl #[.string (⟨#[76, 97, 116, 105, 110]⟩ : ByteArray)] rfl (by (try simp only [List.map_toArray, List.map_cons, List.map_nil]); first | done | rfl | (simp only [List.length_drop, List.length_take]; rfl)) ?_; (with_reducible refine (skel_Of.calls (⟨#[76, 97, 116, 105, 110]⟩ : ByteArray) t187 t188 _ A1.out).mono ?_); rintro e w21 ⟨rfl, hb⟩; refine ⟨_, rfl, ?_⟩; have n0_ := Aside0.mk (below_step (by repeat (first | (with_reducible first | exact HB.out | apply below_alloc | apply pw_below_drewN | apply below_drew1) | exact HB.out)) hb); clear HB; have HB := n0_; clear n0_; (try clear hb); (try clear hb2); (try clear hk); (try clear hi)) | ((with_reducible refine gate_callee (f := 9) rfl ?_); refine goesL_ (some 7) rfl rfl Tryd.func9 (by kernel_rfl) rfl #[.string (⟨#[109]⟩ : ByteArray)] rfl (by (try simp only [List.map_toArray, List.map_cons, List.map_nil]); first | done | rfl | (simp only [List.length_drop, List.length_take]; rfl)) ?_; (with_reducible refine (skel_Skeleton.calls k (⟨#[109]⟩ : ByteArray) t189 _ A2.out (WG.keep HG.out (by repeat (first | (with_reducible first | exact HB.out | apply below_alloc | apply pw_below_drewN | apply below_drew1) | exact HB.out)))).mono ?_); rintro e w22 ⟨rfl, hb⟩; refine ⟨_, rfl, ?_⟩; have n0_ := Aside0.mk (below_step (by repeat (first | (with_reducible first | exact HB.out | apply below_alloc | apply pw_below_drewN | apply below_drew1) | exact HB.out)) hb); clear HB; have HB := n0_; clear n0_; (try clear hb); (try clear hb2); (try clear hk); (try clear hi)) | (go_at_call 10; (with_reducible refine (skel_Alike.calls k (⟨#[114, 110]⟩ : ByteArray) (⟨#[109]⟩ : ByteArray) true _ A4.out (WG.keep HG.out (by repeat (first | (with_reducible first | exact HB.out | apply below_alloc | apply pw_below_drewN | apply below_drew1) | exact HB.out)))).mono ?_); rintro e w23 ⟨rfl, hb⟩; have n0_ := Aside0.mk (below_step (by repeat (first | (with_reducible first | exact HB.out | apply below_alloc | apply pw_below_drewN | apply below_drew1) | exact HB.out)) hb); clear HB; have HB := n0_; clear n0_; (try clear hb); (try clear hb2); (try clear hk); (try clear hi)) | (go_at_call 10; (with_reducible refine (skel_Alike.calls k (⟨#[97]⟩ : ByteArray) (⟨#[98]⟩ : ByteArray) false _ A6.out (WG.keep HG.out (by repeat (first | (with_reducible first | exact HB.out | apply below_alloc | apply pw_below_drewN | apply below_drew1) | exact HB.out)))).mono ?_); rintro e w24 ⟨rfl, hb⟩; have n0_ := Aside0.mk (below_step (by repeat (first | (with_reducible first | exact HB.out | apply below_alloc | apply pw_below_drewN | apply below_drew1) | exact HB.out)) hb); clear HB; have HB := n0_; clear n0_; (try clear hb); (try clear hb2); (try clear hk); (try clear hi)) | (go_at_call 9; (with_reducible refine (skel_Skeleton.calls k (⟨#[112, 208, 176, 121, 112, 97, 49]⟩ : ByteArray) t192 _ A12.out (WG.keep HG.out (by repeat (first | (with_reducible first | exact HB.out | apply below_alloc | apply pw_below_drewN | apply below_drew1) | exact HB.out)))).mono ?_); rintro e w25 ⟨rfl, hb⟩; have n0_ := Aside0.mk (below_step (by repeat (first | (with_reducible first | exact HB.out | apply below_alloc | apply pw_below_drewN | apply below_drew1) | exact HB.out)) hb); clear HB; have HB := n0_; clear n0_; (try clear hb); (try clear hb2); (try clear hk); (try clear hi)) | (go_at_call 15; (with_reducible refine (skel_Level.calls (⟨#[97, 98, 208, 176]⟩ : ByteArray) t193 _ A14.out (WG.keep HG.out (by repeat (first | (with_reducible first | exact HB.out | apply below_alloc | apply pw_below_drewN | apply below_drew1) | exact HB.out)))).mono ?_); rintro e w26 ⟨rfl, hb⟩; have n0_ := Aside0.mk (below_step (by repeat (first | (with_reducible first | exact HB.out | apply below_alloc | apply pw_below_drewN | apply below_drew1) | exact HB.out)) hb); clear HB; have HB := n0_; clear n0_; (try clear hb); (try clear hb2); (try clear hk); (try clear hi)) | (go_at_call 15; (with_reducible refine (skel_Level.calls (⟨#[97, 98, 99]⟩ : ByteArray) t194 _ A16.out (WG.keep HG.out (by repeat (first | (with_reducible first | exact HB.out | apply below_alloc | apply pw_below_drewN | apply below_drew1) | exact HB.out)))).mono ?_); rintro e w27 ⟨rfl, hb⟩; have n0_ := Aside0.mk (below_step (by repeat (first | (with_reducible first | exact HB.out | apply below_alloc | apply pw_below_drewN | apply below_drew1) | exact HB.out)) hb); clear HB; have HB := n0_; clear n0_; (try clear hb); (try clear hb2); (try clear hk); (try clear hi)) | (go_at_call 19; (with_reducible refine (skel_Name.calls 10 t195 _ A20.out).mono ?_); rintro e w28 ⟨rfl, hb⟩; have n0_ := Aside0.mk (below_step (by repeat (first | (with_reducible first | exact HB.out | apply below_alloc | apply pw_below_drewN | apply below_drew1) | exact HB.out)) hb); clear HB; have HB := n0_; clear n0_; (try clear hb); (try clear hb2); (try clear hk); (try clear hi)))
         go_ret
         exact ⟨by first | rfl | (simp [errW_none, errW_some] <;> rfl) | (simp [*, errW_none, errW_some] <;> rfl), by repeat (first | (with_reducible first | exact HB.out | apply below_alloc | apply pw_below_drewN | apply below_drew1) | exact HB.out)⟩
        ·rw [if_neg c19] at H
         have c19b0 : (t188 == 0) = false := beq_eq_false_iff_ne.mpr c19
         have c19b1 : (t188 != 0) = true := bne_iff_ne.mpr c19
         obtain rfl := Option.some.inj H
         go_enter Tryd.func8, Tryd.ntmps8
         go_wp2_with (first | ((with_reducible refine gate_callee (f := 18) rfl ?_); refine goesL_ (some 4) rfl rfl Tryd.func18 (by kernel_rfl) rfl #[.string (⟨#[76, 97, 116, 105, 110]⟩ : ByteArray)] rfl (by (try simp only [List.map_toArray, List.map_cons, List.map_nil]); first | done | rfl | (simp only [List.length_drop, List.length_take]; rfl)) ?_; (with_reducible refine (skel_Of.calls (⟨#[76, 97, 116, 105, 110]⟩ : ByteArray) t187 t188 _ A1.out).mono ?_); rintro e w29 ⟨rfl, hb⟩; refine ⟨_, rfl, ?_⟩; have n0_ := Aside0.mk (below_step (by repeat (first | (with_reducible first | exact HB.out | apply below_alloc | apply pw_below_drewN | apply below_drew1) | exact HB.out)) hb); clear HB; have HB := n0_; clear n0_; (try clear hb); (try clear hb2); (try clear hk); (try clear hi)) | ((with_reducible refine gate_callee (f := 9) rfl ?_); refine goesL_ (some 7) rfl rfl Tryd.func9 (by kernel_rfl) rfl #[.string (⟨#[109]⟩ : ByteArray)] rfl (by (try simp only [List.map_toArray, List.map_cons, List.map_nil]); first | done | rfl | (simp only [List.length_drop, List.length_take]; rfl)) ?_; (with_reducible refine (skel_Skeleton.calls k (⟨#[109]⟩ : ByteArray) t189 _ A2.out (WG.keep HG.out (by repeat (first | (with_reducible first | exact HB.out | apply below_alloc | apply pw_below_drewN | apply below_drew1) | exact HB.out)))).mono ?_); rintro e w30 ⟨rfl, hb⟩; refine ⟨_, rfl, ?_⟩; have n0_ := Aside0.mk (below_step (by repeat (first | (with_reducible first | exact HB.out | apply below_alloc | apply pw_below_drewN | apply below_drew1) | exact HB.out)) hb); clear HB; have HB := n0_; clear n0_; (try clear hb); (try clear hb2); (try clear hk); (try clear hi)) | (go_at_call 10; (with_reducible refine (skel_Alike.calls k (⟨#[114, 110]⟩ : ByteArray) (⟨#[109]⟩ : ByteArray) true _ A4.out (WG.keep HG.out (by repeat (first | (with_reducible first | exact HB.out | apply below_alloc | apply pw_below_drewN | apply below_drew1) | exact HB.out)))).mono ?_); rintro e w31 ⟨rfl, hb⟩; have n0_ := Aside0.mk (below_step (by repeat (first | (with_reducible first | exact HB.out | apply below_alloc | apply pw_below_drewN | apply below_drew1) | exact HB.out)) hb); clear HB; have HB := n0_; clear n0_; (try clear hb); (try clear hb2); (try clear hk); (try clear hi)) | (go_at_call 10; (with_reducible refine (skel_Alike.calls k (⟨#[97]⟩ : ByteArray) (⟨#[98]⟩ : ByteArray) false _ A6.out (WG.keep HG.out (by repeat (first | (with_reducible first | exact HB.out | apply below_alloc | apply pw_below_drewN | apply below_drew1) | exact HB.out)))).mono ?_); rintro e w32 ⟨rfl, hb⟩; have n0_ := Aside0.mk (below_step (by repeat (first | (with_reducible first | exact HB.out | apply below_alloc | apply pw_below_drewN | apply below_drew1) | exact HB.out)) hb); clear HB; have HB := n0_; clear n0_; (try clear hb); (try clear hb2); (try clear hk); (try clear hi)) | (go_at_call 9; (with_reducible refine (skel_Skeleton.calls k (⟨#[112, 208, 176, 121, 112, 97, 49]⟩ : ByteArray) t192 _ A12.out (WG.keep HG.out (by repeat (first | (with_reducible first | exact HB.out | apply below_alloc | apply pw_below_drewN | apply below_drew1) | exact HB.out)))).mono ?_); rintro e w33 ⟨rfl, hb⟩; have n0_ := Aside0.mk (below_step (by repeat (first | (with_reducible first | exact HB.out | apply below_alloc | apply pw_below_drewN | apply below_drew1) | exact HB.out)) hb); clear HB; have HB := n0_; clear n0_; (try clear hb); (try clear hb2); (try clear hk); (try clear hi)) | (go_at_call 15; (with_reducible refine (skel_Level.calls (⟨#[97, 98, 208, 176]⟩ : ByteArray) t193 _ A14.out (WG.keep HG.out (by repeat (first | (with_reducible first | exact HB.out | apply below_alloc | apply pw_below_drewN | apply below_drew1) | exact HB.out)))).mono ?_); rintro e w34 ⟨rfl, hb⟩; have n0_ := Aside0.mk (below_step (by repeat (first | (with_reducible first | exact HB.out | apply below_alloc | apply pw_below_drewN | apply below_drew1) | exact HB.out)) hb); clear HB; have HB := n0_; clear n0_; (try clear hb); (try clear hb2); (try clear hk); (try clear hi)) | (go_at_call 15; (with_reducible refine (skel_Level.calls (⟨#[97, 98, 99]⟩ : ByteArray) t194 _ A16.out (WG.keep HG.out (by repeat (first | (with_reducible first | exact HB.out | apply below_alloc | apply pw_below_drewN | apply below_drew1) | exact HB.out)))).mono ?_); rintro e w35 ⟨rfl, hb⟩; have n0_ := Aside0.mk (below_step (by repeat (first | (with_reducible first | exact HB.out | apply below_alloc | apply pw_below_drewN | apply below_drew1) | exact HB.out)) hb); clear HB; have HB := n0_; clear n0_; (try clear hb); (try clear hb2); (try clear hk); (try clear hi)))
         go_ret
         exact ⟨by first | rfl | (simp [errW_none, errW_some] <;> rfl) | (simp [*, errW_none, errW_some] <;> rfl), by repeat (first | (with_reducible first | exact HB.out | apply below_alloc | apply pw_below_drewN | apply below_drew1) | exact HB.out)⟩
       ·rw [if_neg c18] at H
        have c18b0 : (t187 == 2) = false := beq_eq_false_iff_ne.mpr c18
        have c18b1 : (t187 != 2) = true := bne_iff_ne.mpr c18
        obtain rfl := Option.some.inj H
        go_enter Tryd.func8, Tryd.ntmps8
        go_wp2_with (first | ((with_reducible refine gate_callee (f := 18) rfl ?_); refine goesL_ (some 4) rfl rfl Tryd.func18 (by kernel_rfl) rfl #[.string (⟨#[76, 97, 116, 105, 110]⟩ : ByteArray)] rfl (by (try simp only [List.map_toArray, List.map_cons, List.map_nil]); first | done | rfl | (simp only [List.length_drop, List.length_take]; rfl)) ?_; (with_reducible refine (skel_Of.calls (⟨#[76, 97, 116, 105, 110]⟩ : ByteArray) t187 t188 _ A1.out).mono ?_); rintro e w36 ⟨rfl, hb⟩; refine ⟨_, rfl, ?_⟩; have n0_ := Aside0.mk (below_step (by repeat (first | (with_reducible first | exact HB.out | apply below_alloc | apply pw_below_drewN | apply below_drew1) | exact HB.out)) hb); clear HB; have HB := n0_; clear n0_; (try clear hb); (try clear hb2); (try clear hk); (try clear hi)) | ((with_reducible refine gate_callee (f := 9) rfl ?_); refine goesL_ (some 7) rfl rfl Tryd.func9 (by kernel_rfl) rfl #[.string (⟨#[109]⟩ : ByteArray)] rfl (by (try simp only [List.map_toArray, List.map_cons, List.map_nil]); first | done | rfl | (simp only [List.length_drop, List.length_take]; rfl)) ?_; (with_reducible refine (skel_Skeleton.calls k (⟨#[109]⟩ : ByteArray) t189 _ A2.out (WG.keep HG.out (by repeat (first | (with_reducible first | exact HB.out | apply below_alloc | apply pw_below_drewN | apply below_drew1) | exact HB.out)))).mono ?_); rintro e w37 ⟨rfl, hb⟩; refine ⟨_, rfl, ?_⟩; have n0_ := Aside0.mk (below_step (by repeat (first | (with_reducible first | exact HB.out | apply below_alloc | apply pw_below_drewN | apply below_drew1) | exact HB.out)) hb); clear HB; have HB := n0_; clear n0_; (try clear hb); (try clear hb2); (try clear hk); (try clear hi)) | (go_at_call 10; (with_reducible refine (skel_Alike.calls k (⟨#[114, 110]⟩ : ByteArray) (⟨#[109]⟩ : ByteArray) true _ A4.out (WG.keep HG.out (by repeat (first | (with_reducible first | exact HB.out | apply below_alloc | apply pw_below_drewN | apply below_drew1) | exact HB.out)))).mono ?_); rintro e w38 ⟨rfl, hb⟩; have n0_ := Aside0.mk (below_step (by repeat (first | (with_reducible first | exact HB.out | apply below_alloc | apply pw_below_drewN | apply below_drew1) | exact HB.out)) hb); clear HB; have HB := n0_; clear n0_; (try clear hb); (try clear hb2); (try clear hk); (try clear hi)) | (go_at_call 10; (with_reducible refine (skel_Alike.calls k (⟨#[97]⟩ : ByteArray) (⟨#[98]⟩ : ByteArray) false _ A6.out (WG.keep HG.out (by repeat (first | (with_reducible first | exact HB.out | apply below_alloc | apply pw_below_drewN | apply below_drew1) | exact HB.out)))).mono ?_); rintro e w39 ⟨rfl, hb⟩; have n0_ := Aside0.mk (below_step (by repeat (first | (with_reducible first | exact HB.out | apply below_alloc | apply pw_below_drewN | apply below_drew1) | exact HB.out)) hb); clear HB; have HB := n0_; clear n0_; (try clear hb); (try clear hb2); (try clear hk); (try clear hi)) | (go_at_call 9; (with_reducible refine (skel_Skeleton.calls k (⟨#[112, 208, 176, 121, 112, 97, 49]⟩ : ByteArray) t192 _ A12.out (WG.keep HG.out (by repeat (first | (with_reducible first | exact HB.out | apply below_alloc | apply pw_below_drewN | apply below_drew1) | exact HB.out)))).mono ?_); rintro e w40 ⟨rfl, hb⟩; have n0_ := Aside0.mk (below_step (by repeat (first | (with_reducible first | exact HB.out | apply below_alloc | apply pw_below_drewN | apply below_drew1) | exact HB.out)) hb); clear HB; have HB := n0_; clear n0_; (try clear hb); (try clear hb2); (try clear hk); (try clear hi)) | (go_at_call 15; (with_reducible refine (skel_Level.calls (⟨#[97, 98, 208, 176]⟩ : ByteArray) t193 _ A14.out (WG.keep HG.out (by repeat (first | (with_reducible first | exact HB.out | apply below_alloc | apply pw_below_drewN | apply below_drew1) | exact HB.out)))).mono ?_); rintro e w41 ⟨rfl, hb⟩; have n0_ := Aside0.mk (below_step (by repeat (first | (with_reducible first | exact HB.out | apply below_alloc | apply pw_below_drewN | apply below_drew1) | exact HB.out)) hb); clear HB; have HB := n0_; clear n0_; (try clear hb); (try clear hb2); (try clear hk); (try clear hi)) | (go_at_call 15; (with_reducible refine (skel_Level.calls (⟨#[97, 98, 99]⟩ : ByteArray) t194 _ A16.out (WG.keep HG.out (by repeat (first | (with_reducible first | exact HB.out | apply below_alloc | apply pw_below_drewN | apply below_drew1) | exact HB.out)))).mono ?_); rintro e w42 ⟨rfl, hb⟩; have n0_ := Aside0.mk (below_step (by repeat (first | (with_reducible first | exact HB.out | apply below_alloc | apply pw_below_drewN | apply below_drew1) | exact HB.out)) hb); clear HB; have HB := n0_; clear n0_; (try clear hb); (try clear hb2); (try clear hk); (try clear hi)))
        go_ret
        exact ⟨by first | rfl | (simp [errW_none, errW_some] <;> rfl) | (simp [*, errW_none, errW_some] <;> rfl), by repeat (first | (with_reducible first | exact HB.out | apply below_alloc | apply pw_below_drewN | apply below_drew1) | exact HB.out)⟩
      ·rw [if_neg c17] at H
       have c17b0 : (t194 == 1) = false := beq_eq_false_iff_ne.mpr c17
       have c17b1 : (t194 != 1) = true := bne_iff_ne.mpr c17
       obtain rfl := Option.some.inj H
       go_enter Tryd.func8, Tryd.ntmps8
       go_wp2_with (first | ((with_reducible refine gate_callee (f := 18) rfl ?_); refine goesL_ (some 4) rfl rfl Tryd.func18 (by kernel_rfl) rfl #[.string (⟨#[76, 97, 116, 105, 110]⟩ : ByteArray)] rfl (by (try simp only [List.map_toArray, List.map_cons, List.map_nil]); first | done | rfl | (simp only [List.length_drop, List.length_take]; rfl)) ?_; (with_reducible refine (skel_Of.calls (⟨#[76, 97, 116, 105, 110]⟩ : ByteArray) t187 t188 _ A1.out).mono ?_); rintro e w43 ⟨rfl, hb⟩; refine ⟨_, rfl, ?_⟩; have n0_ := Aside0.mk (below_step (by repeat (first | (with_reducible first | exact HB.out | apply below_alloc | apply pw_below_drewN | apply below_drew1) | exact HB.out)) hb); clear HB; have HB := n0_; clear n0_; (try clear hb); (try clear hb2); (try clear hk); (try clear hi)) | ((with_reducible refine gate_callee (f := 9) rfl ?_); refine goesL_ (some 7) rfl rfl Tryd.func9 (by kernel_rfl) rfl #[.string (⟨#[109]⟩ : ByteArray)] rfl (by (try simp only [List.map_toArray, List.map_cons, List.map_nil]); first | done | rfl | (simp only [List.length_drop, List.length_take]; rfl)) ?_; (with_reducible refine (skel_Skeleton.calls k (⟨#[109]⟩ : ByteArray) t189 _ A2.out (WG.keep HG.out (by repeat (first | (with_reducible first | exact HB.out | apply below_alloc | apply pw_below_drewN | apply below_drew1) | exact HB.out)))).mono ?_); rintro e w44 ⟨rfl, hb⟩; refine ⟨_, rfl, ?_⟩; have n0_ := Aside0.mk (below_step (by repeat (first | (with_reducible first | exact HB.out | apply below_alloc | apply pw_below_drewN | apply below_drew1) | exact HB.out)) hb); clear HB; have HB := n0_; clear n0_; (try clear hb); (try clear hb2); (try clear hk); (try clear hi)) | (go_at_call 10; (with_reducible refine (skel_Alike.calls k (⟨#[114, 110]⟩ : ByteArray) (⟨#[109]⟩ : ByteArray) true _ A4.out (WG.keep HG.out (by repeat (first | (with_reducible first | exact HB.out | apply below_alloc | apply pw_below_drewN | apply below_drew1) | exact HB.out)))).mono ?_); rintro e w45 ⟨rfl, hb⟩; have n0_ := Aside0.mk (below_step (by repeat (first | (with_reducible first | exact HB.out | apply below_alloc | apply pw_below_drewN | apply below_drew1) | exact HB.out)) hb); clear HB; have HB := n0_; clear n0_; (try clear hb); (try clear hb2); (try clear hk); (try clear hi)) | (go_at_call 10; (with_reducible refine (skel_Alike.calls k (⟨#[97]⟩ : ByteArray) (⟨#[98]⟩ : ByteArray) false _ A6.out (WG.keep HG.out (by repeat (first | (with_reducible first | exact HB.out | apply below_alloc | apply pw_below_drewN | apply below_drew1) | exact HB.out)))).mono ?_); rintro e w46 ⟨rfl, hb⟩; have n0_ := Aside0.mk (below_step (by repeat (first | (with_reducible first | exact HB.out | apply below_alloc | apply pw_below_drewN | apply below_drew1) | exact HB.out)) hb); clear HB; have HB := n0_; clear n0_; (try clear hb); (try clear hb2); (try clear hk); (try clear hi)) | (go_at_call 9; (with_reducible refine (skel_Skeleton.calls k (⟨#[112, 208, 176, 121, 112, 97, 49]⟩ : ByteArray) t192 _ A12.out (WG.keep HG.out (by repeat (first | (with_reducible first | exact HB.out | apply below_alloc | apply pw_below_drewN | apply below_drew1) | exact HB.out)))).mono ?_); rintro e w47 ⟨rfl, hb⟩; have n0_ := Aside0.mk (below_step (by repeat (first | (with_reducible first | exact HB.out | apply below_alloc | apply pw_below_drewN | apply below_drew1) | exact HB.out)) hb); clear HB; have HB := n0_; clear n0_; (try clear hb); (try clear hb2); (try clear hk); (try clear hi)) | (go_at_call 15; (with_reducible refine (skel_Level.calls (⟨#[97, 98, 208, 176]⟩ : ByteArray) t193 _ A14.out (WG.keep HG.out (by repeat (first | (with_reducible first | exact HB.out | apply below_alloc | apply pw_below_drewN | apply below_drew1) | exact HB.out)))).mono ?_); rintro e w48 ⟨rfl, hb⟩; have n0_ := Aside0.mk (below_step (by repeat (first | (with_reducible first | exact HB.out | apply below_alloc | apply pw_below_drewN | apply below_drew1) | exact HB.out)) hb); clear HB; have HB := n0_; clear n0_; (try clear hb); (try clear hb2); (try clear hk); (try clear hi)) | (go_at_call 15; (with_reducible refine (skel_Level.calls (⟨#[97, 98, 99]⟩ : ByteArray) t194 _ A16.out (WG.keep HG.out (by repeat (first | (with_reducible first | exact HB.out | apply below_alloc | apply pw_below_drewN | apply below_drew1) | exact HB.out)))).mono ?_); rintro e w49 ⟨rfl, hb⟩; have n0_ := Aside0.mk (below_step (by repeat (first | (with_reducible first | exact HB.out | apply below_alloc | apply pw_below_drewN | apply below_drew1) | exact HB.out)) hb); clear HB; have HB := n0_; clear n0_; (try clear hb); (try clear hb2); (try clear hk); (try clear hi)))
       go_ret
       exact ⟨by first | rfl | (simp [errW_none, errW_some] <;> rfl) | (simp [*, errW_none, errW_some] <;> rfl), by repeat (first | (with_reducible first | exact HB.out | apply below_alloc | apply pw_below_drewN | apply below_drew1) | exact HB.out)⟩
     ·rw [if_neg c15] at H
      have c15b0 : (t193 == 5) = false := beq_eq_false_iff_ne.mpr c15
      have c15b1 : (t193 != 5) = true := bne_iff_ne.mpr c15
      obtain rfl := Option.some.inj H
      go_enter Tryd.func8, Tryd.ntmps8
      go_wp2_with (first | ((with_reducible refine gate_callee (f := 18) rfl ?_); refine goesL_ (some 4) rfl rfl Tryd.func18 (by kernel_rfl) rfl #[.string (⟨#[76, 97, 116, 105, 110]⟩ : ByteArray)] rfl (by (try simp only [List.map_toArray, List.map_cons, List.map_nil]); first | done | rfl | (simp only [List.length_drop, List.length_take]; rfl)) ?_; (with_reducible refine (skel_Of.calls (⟨#[76, 97, 116, 105, 110]⟩ : ByteArray) t187 t188 _ A1.out).mono ?_); rintro e w50 ⟨rfl, hb⟩; refine ⟨_, rfl, ?_⟩; have n0_ := Aside0.mk (below_step (by repeat (first | (with_reducible first | exact HB.out | apply below_alloc | apply pw_below_drewN | apply below_drew1) | exact HB.out)) hb); clear HB; have HB := n0_; clear n0_; (try clear hb); (try clear hb2); (try clear hk); (try clear hi)) | ((with_reducible refine gate_callee (f := 9) rfl ?_); refine goesL_ (some 7) rfl rfl Tryd.func9 (by kernel_rfl) rfl #[.string (⟨#[109]⟩ : ByteArray)] rfl (by (try simp only [List.map_toArray, List.map_cons, List.map_nil]); first | done | rfl | (simp only [List.length_drop, List.length_take]; rfl)) ?_; (with_reducible refine (skel_Skeleton.calls k (⟨#[109]⟩ : ByteArray) t189 _ A2.out (WG.keep HG.out (by repeat (first | (with_reducible first | exact HB.out | apply below_alloc | apply pw_below_drewN | apply below_drew1) | exact HB.out)))).mono ?_); rintro e w51 ⟨rfl, hb⟩; refine ⟨_, rfl, ?_⟩; have n0_ := Aside0.mk (below_step (by repeat (first | (with_reducible first | exact HB.out | apply below_alloc | apply pw_below_drewN | apply below_drew1) | exact HB.out)) hb); clear HB; have HB := n0_; clear n0_; (try clear hb); (try clear hb2); (try clear hk); (try clear hi)) | (go_at_call 10; (with_reducible refine (skel_Alike.calls k (⟨#[114, 110]⟩ : ByteArray) (⟨#[109]⟩ : ByteArray) true _ A4.out (WG.keep HG.out (by repeat (first | (with_reducible first | exact HB.out | apply below_alloc | apply pw_below_drewN | apply below_drew1) | exact HB.out)))).mono ?_); rintro e w52 ⟨rfl, hb⟩; have n0_ := Aside0.mk (below_step (by repeat (first | (with_reducible first | exact HB.out | apply below_alloc | apply pw_below_drewN | apply below_drew1) | exact HB.out)) hb); clear HB; have HB := n0_; clear n0_; (try clear hb); (try clear hb2); (try clear hk); (try clear hi)) | (go_at_call 10; (with_reducible refine (skel_Alike.calls k (⟨#[97]⟩ : ByteArray) (⟨#[98]⟩ : ByteArray) false _ A6.out (WG.keep HG.out (by repeat (first | (with_reducible first | exact HB.out | apply below_alloc | apply pw_below_drewN | apply below_drew1) | exact HB.out)))).mono ?_); rintro e w53 ⟨rfl, hb⟩; have n0_ := Aside0.mk (below_step (by repeat (first | (with_reducible first | exact HB.out | apply below_alloc | apply pw_below_drewN | apply below_drew1) | exact HB.out)) hb); clear HB; have HB := n0_; clear n0_; (try clear hb); (try clear hb2); (try clear hk); (try clear hi)) | (go_at_call 9; (with_reducible refine (skel_Skeleton.calls k (⟨#[112, 208, 176, 121, 112, 97, 49]⟩ : ByteArray) t192 _ A12.out (WG.keep HG.out (by repeat (first | (with_reducible first | exact HB.out | apply below_alloc | apply pw_below_drewN | apply below_drew1) | exact HB.out)))).mono ?_); rintro e w54 ⟨rfl, hb⟩; have n0_ := Aside0.mk (below_step (by repeat (first | (with_reducible first | exact HB.out | apply below_alloc | apply pw_below_drewN | apply below_drew1) | exact HB.out)) hb); clear HB; have HB := n0_; clear n0_; (try clear hb); (try clear hb2); (try clear hk); (try clear hi)) | (go_at_call 15; (with_reducible refine (skel_Level.calls (⟨#[97, 98, 208, 176]⟩ : ByteArray) t193 _ A14.out (WG.keep HG.out (by repeat (first | (with_reducible first | exact HB.out | apply below_alloc | apply pw_below_drewN | apply below_drew1) | exact HB.out)))).mono ?_); rintro e w55 ⟨rfl, hb⟩; have n0_ := Aside0.mk (below_step (by repeat (first | (with_reducible first | exact HB.out | apply below_alloc | apply pw_below_drewN | apply below_drew1) | exact HB.out)) hb); clear HB; have HB := n0_; clear n0_; (try clear hb); (try clear hb2); (try clear hk); (try clear hi)))
      go_ret
      exact ⟨by first | rfl | (simp [errW_none, errW_some] <;> rfl) | (simp [*, errW_none, errW_some] <;> rfl), by repeat (first | (with_reducible first | exact HB.out | apply below_alloc | apply pw_below_drewN | apply below_drew1) | exact HB.out)⟩
    ·rw [if_neg c13] at H
     have c13b0 : (t192.toList == ([112, 97, 121, 112, 97, 108] : List UInt8)) = false := beq_eq_false_iff_ne.mpr c13
     have c13b1 : (t192.toList != ([112, 97, 121, 112, 97, 108] : List UInt8)) = true := bne_iff_ne.mpr c13
     obtain rfl := Option.some.inj H
     go_enter Tryd.func8, Tryd.ntmps8
     go_wp2_with (first | ((with_reducible refine gate_callee (f := 18) rfl ?_); refine goesL_ (some 4) rfl rfl Tryd.func18 (by kernel_rfl) rfl #[.string (⟨#[76, 97, 116, 105, 110]⟩ : ByteArray)] rfl (by (try simp only [List.map_toArray, List.map_cons, List.map_nil]); first | done | rfl | (simp only [List.length_drop, List.length_take]; rfl)) ?_; (with_reducible refine (skel_Of.calls (⟨#[76, 97, 116, 105, 110]⟩ : ByteArray) t187 t188 _ A1.out).mono ?_); rintro e w56 ⟨rfl, hb⟩; refine ⟨_, rfl, ?_⟩; have n0_ := Aside0.mk (below_step (by repeat (first | (with_reducible first | exact HB.out | apply below_alloc | apply pw_below_drewN | apply below_drew1) | exact HB.out)) hb); clear HB; have HB := n0_; clear n0_; (try clear hb); (try clear hb2); (try clear hk); (try clear hi)) | ((with_reducible refine gate_callee (f := 9) rfl ?_); refine goesL_ (some 7) rfl rfl Tryd.func9 (by kernel_rfl) rfl #[.string (⟨#[109]⟩ : ByteArray)] rfl (by (try simp only [List.map_toArray, List.map_cons, List.map_nil]); first | done | rfl | (simp only [List.length_drop, List.length_take]; rfl)) ?_; (with_reducible refine (skel_Skeleton.calls k (⟨#[109]⟩ : ByteArray) t189 _ A2.out (WG.keep HG.out (by repeat (first | (with_reducible first | exact HB.out | apply below_alloc | apply pw_below_drewN | apply below_drew1) | exact HB.out)))).mono ?_); rintro e w57 ⟨rfl, hb⟩; refine ⟨_, rfl, ?_⟩; have n0_ := Aside0.mk (below_step (by repeat (first | (with_reducible first | exact HB.out | apply below_alloc | apply pw_below_drewN | apply below_drew1) | exact HB.out)) hb); clear HB; have HB := n0_; clear n0_; (try clear hb); (try clear hb2); (try clear hk); (try clear hi)) | (go_at_call 10; (with_reducible refine (skel_Alike.calls k (⟨#[114, 110]⟩ : ByteArray) (⟨#[109]⟩ : ByteArray) true _ A4.out (WG.keep HG.out (by repeat (first | (with_reducible first | exact HB.out | apply below_alloc | apply pw_below_drewN | apply below_drew1) | exact HB.out)))).mono ?_); rintro e w58 ⟨rfl, hb⟩; have n0_ := Aside0.mk (below_step (by repeat (first | (with_reducible first | exact HB.out | apply below_alloc | apply pw_below_drewN | apply below_drew1) | exact HB.out)) hb); clear HB; have HB := n0_; clear n0_; (try clear hb); (try clear hb2); (try clear hk); (try clear hi)) | (go_at_call 10; (with_reducible refine (skel_Alike.calls k (⟨#[97]⟩ : ByteArray) (⟨#[98]⟩ : ByteArray) false _ A6.out (WG.keep HG.out (by repeat (first | (with_reducible first | exact HB.out | apply below_alloc | apply pw_below_drewN | apply below_drew1) | exact HB.out)))).mono ?_); rintro e w59 ⟨rfl, hb⟩; have n0_ := Aside0.mk (below_step (by repeat (first | (with_reducible first | exact HB.out | apply below_alloc | apply pw_below_drewN | apply below_drew1) | exact HB.out)) hb); clear HB; have HB := n0_; clear n0_; (try clear hb); (try clear hb2); (try clear hk); (try clear hi)) | (go_at_call 9; (with_reducible refine (skel_Skeleton.calls k (⟨#[112, 208, 176, 121, 112, 97, 49]⟩ : ByteArray) t192 _ A12.out (WG.keep HG.out (by repeat (first | (with_reducible first | exact HB.out | apply below_alloc | apply pw_below_drewN | apply below_drew1) | exact HB.out)))).mono ?_); rintro e w60 ⟨rfl, hb⟩; have n0_ := Aside0.mk (below_step (by repeat (first | (with_reducible first | exact HB.out | apply below_alloc | apply pw_below_drewN | apply below_drew1) | exact HB.out)) hb); clear HB; have HB := n0_; clear n0_; (try clear hb); (try clear hb2); (try clear hk); (try clear hi)))
     go_ret
     exact ⟨by first | rfl | (simp [errW_none, errW_some] <;> rfl) | (simp [*, errW_none, errW_some] <;> rfl), by repeat (first | (with_reducible first | exact HB.out | apply below_alloc | apply pw_below_drewN | apply below_drew1) | exact HB.out)⟩
  ·replace c5 := Bool.eq_false_iff.mpr c5
   subst c5
   have H1 : (some false) = some r := by rw [if_neg (show ¬ (false = true) by decide)] at H; exact H
   clear H
   have H := H1
   clear H1
   obtain rfl := Option.some.inj H
   go_enter Tryd.func8, Tryd.ntmps8
   go_wp2_with (first | ((with_reducible refine gate_callee (f := 18) rfl ?_); refine goesL_ (some 4) rfl rfl Tryd.func18 (by kernel_rfl) rfl #[.string (⟨#[76, 97, 116, 105, 110]⟩ : ByteArray)] rfl (by (try simp only [List.map_toArray, List.map_cons, List.map_nil]); first | done | rfl | (simp only [List.length_drop, List.length_take]; rfl)) ?_; (with_reducible refine (skel_Of.calls (⟨#[76, 97, 116, 105, 110]⟩ : ByteArray) t187 t188 _ A1.out).mono ?_); rintro e w61 ⟨rfl, hb⟩; refine ⟨_, rfl, ?_⟩; have n0_ := Aside0.mk (below_step (by repeat (first | (with_reducible first | exact HB.out | apply below_alloc | apply pw_below_drewN | apply below_drew1) | exact HB.out)) hb); clear HB; have HB := n0_; clear n0_; (try clear hb); (try clear hb2); (try clear hk); (try clear hi)) | ((with_reducible refine gate_callee (f := 9) rfl ?_); refine goesL_ (some 7) rfl rfl Tryd.func9 (by kernel_rfl) rfl #[.string (⟨#[109]⟩ : ByteArray)] rfl (by (try simp only [List.map_toArray, List.map_cons, List.map_nil]); first | done | rfl | (simp only [List.length_drop, List.length_take]; rfl)) ?_; (with_reducible refine (skel_Skeleton.calls k (⟨#[109]⟩ : ByteArray) t189 _ A2.out (WG.keep HG.out (by repeat (first | (with_reducible first | exact HB.out | apply below_alloc | apply pw_below_drewN | apply below_drew1) | exact HB.out)))).mono ?_); rintro e w62 ⟨rfl, hb⟩; refine ⟨_, rfl, ?_⟩; have n0_ := Aside0.mk (below_step (by repeat (first | (with_reducible first | exact HB.out | apply below_alloc | apply pw_below_drewN | apply below_drew1) | exact HB.out)) hb); clear HB; have HB := n0_; clear n0_; (try clear hb); (try clear hb2); (try clear hk); (try clear hi)) | (go_at_call 10; (with_reducible refine (skel_Alike.calls k (⟨#[114, 110]⟩ : ByteArray) (⟨#[109]⟩ : ByteArray) false _ A4.out (WG.keep HG.out (by repeat (first | (with_reducible first | exact HB.out | apply below_alloc | apply pw_below_drewN | apply below_drew1) | exact HB.out)))).mono ?_); rintro e w63 ⟨rfl, hb⟩; have n0_ := Aside0.mk (below_step (by repeat (first | (with_reducible first | exact HB.out | apply below_alloc | apply pw_below_drewN | apply below_drew1) | exact HB.out)) hb); clear HB; have HB := n0_; clear n0_; (try clear hb); (try clear hb2); (try clear hk); (try clear hi)))
   go_ret
   exact ⟨by first | rfl | (simp [errW_none, errW_some] <;> rfl) | (simp [*, errW_none, errW_some] <;> rfl), by repeat (first | (with_reducible first | exact HB.out | apply below_alloc | apply pw_below_drewN | apply below_drew1) | exact HB.out)⟩
 ·rw [if_neg c3] at H
  have c3b0 : (t189.toList == ([114, 110] : List UInt8)) = false := beq_eq_false_iff_ne.mpr c3
  have c3b1 : (t189.toList != ([114, 110] : List UInt8)) = true := bne_iff_ne.mpr c3
  obtain rfl := Option.some.inj H
  go_enter Tryd.func8, Tryd.ntmps8
  go_wp2_with (first | ((with_reducible refine gate_callee (f := 18) rfl ?_); refine goesL_ (some 4) rfl rfl Tryd.func18 (by kernel_rfl) rfl #[.string (⟨#[76, 97, 116, 105, 110]⟩ : ByteArray)] rfl (by (try simp only [List.map_toArray, List.map_cons, List.map_nil]); first | done | rfl | (simp only [List.length_drop, List.length_take]; rfl)) ?_; (with_reducible refine (skel_Of.calls (⟨#[76, 97, 116, 105, 110]⟩ : ByteArray) t187 t188 _ A1.out).mono ?_); rintro e w64 ⟨rfl, hb⟩; refine ⟨_, rfl, ?_⟩; have n0_ := Aside0.mk (below_step (by repeat (first | (with_reducible first | exact HB.out | apply below_alloc | apply pw_below_drewN | apply below_drew1) | exact HB.out)) hb); clear HB; have HB := n0_; clear n0_; (try clear hb); (try clear hb2); (try clear hk); (try clear hi)) | ((with_reducible refine gate_callee (f := 9) rfl ?_); refine goesL_ (some 7) rfl rfl Tryd.func9 (by kernel_rfl) rfl #[.string (⟨#[109]⟩ : ByteArray)] rfl (by (try simp only [List.map_toArray, List.map_cons, List.map_nil]); first | done | rfl | (simp only [List.length_drop, List.length_take]; rfl)) ?_; (with_reducible refine (skel_Skeleton.calls k (⟨#[109]⟩ : ByteArray) t189 _ A2.out (WG.keep HG.out (by repeat (first | (with_reducible first | exact HB.out | apply below_alloc | apply pw_below_drewN | apply below_drew1) | exact HB.out)))).mono ?_); rintro e w65 ⟨rfl, hb⟩; refine ⟨_, rfl, ?_⟩; have n0_ := Aside0.mk (below_step (by repeat (first | (with_reducible first | exact HB.out | apply below_alloc | apply pw_below_drewN | apply below_drew1) | exact HB.out)) hb); clear HB; have HB := n0_; clear n0_; (try clear hb); (try clear hb2); (try clear hk); (try clear hi)))
  go_ret
  exact ⟨by first | rfl | (simp [errW_none, errW_some] <;> rfl) | (simp [*, errW_none, errW_some] <;> rfl), by repeat (first | (with_reducible first | exact HB.out | apply below_alloc | apply pw_below_drewN | apply below_drew1) | exact HB.out)⟩

end Go.Proofs.YtncbbgmhmofhnaaDoor.Pr
end

section
namespace Go.Proofs.YtncbbgmhmofhnaaDoor.Pr
open Go.RowKit Go.Proofs.YtncbbgmhmofhnaaDoorW.PrintWords Go.Proofs.YtncbbgmhmofhnaaDoorW.PrintLast Go.Proofs.YtncbbgmhmofhnaaDoorW.PrintMore
set_option linter.unusedVariables false
set_option linter.unusedSimpArgs false
attribute [local go_sem] Oper.semAt_some

theorem infoB : (Tryd.prog.info? 5).map (fun i => (i.zero, i.size, i.bytes)) = some (some (.int .u8 0), 1, 1) := by kernel_rfl
def vB (x : Int) : Value := .int .u8 x
abbrev encU (x : Int) : Array Value := #[.int .u8 x]
def boxNum (B : Nat) (W : World) : Nat := match W.cell? ⟨B, 0, none⟩ with
  | some (.int _ b) => b.toNat
  | _ => 0
theorem each_makes (b : Int) (w : World) : Calls Tryd.prog 30 #[.int .u16 b] w fun e w' => e = .returned (.func (.func 50) #[] #[.pointer (some ⟨w.heap.size, 0, none⟩)]) ∧ w' = w.alloc (.cells #[.int .u16 b] 49) := by
  have hmf : ∀ (fn : Fn) (first cap : Array Value) (w : World), (Instr.makeFunc fn first cap).run Tryd.prog w = .ok (.func fn first cap) w := fun _ _ _ _ => rfl
  go_enter Tryd.func30, Tryd.ntmps30
  go_wp2
  go_ret
  exact ⟨rfl, rfl⟩
/-- Under way: what has come, what is left in the box. -/
structure EachS (J : List Int → (Nat → Prop) → World → Prop) (n1 Bs : Nat) (all : List Int) (pre : List Int) (i b : Nat) (O : Nat → Prop) (U : World) : Prop where
  j : J pre O U
  o : ∀ k, O k → n1 ≤ k ∧ k < U.heap.size
  bs : ¬ O Bs
  box : Boxed U Bs 49 (.int .u16 (b : Int))
  left : ∃ f, all = pre ++ setF f i b ∧ b < 2 ^ f ∧ i + f ≤ 16
  size : n1 ≤ U.heap.size
theorem bit_one (b : Nat) (h : b < 65536) : Go.bits .and .u16 (b : Int) 1 = ((b % 2 : Nat) : Int) := by
  unfold Go.bits IntKind.wrap
  simp only [IntKind.bits, IntKind.signed, Bool.false_and, Bool.false_eq_true, if_false]
  rw [BitVec.ofInt_natCast]
  show (((BitVec.ofNat 16 b &&& BitVec.ofInt 16 1).toNat : Nat) : Int) % 2 ^ 16 = _
  rw [show BitVec.ofInt 16 1 = BitVec.ofNat 16 1 from rfl, BitVec.toNat_and, BitVec.toNat_ofNat, BitVec.toNat_ofNat, Nat.mod_eq_of_lt (show b < 2 ^ 16 by omega), Nat.mod_eq_of_lt (show 1 < 2 ^ 16 by omega), Nat.and_one_is_mod]
  omega
set_option maxRecDepth 100000 in
set_option maxHeartbeats 4000000 in
theorem each_gives (b0 : Nat) (hb0 : b0 < 65536) (Bs : Nat) (w : World) (hb : Boxed w Bs 49 (.int .u16 (b0 : Int))) :
    Gives Tryd.prog 50 #[.pointer (some ⟨Bs, 0, none⟩)] encU (fun j => j = Bs) (fun _ => True) (fun zs => zs = setF 16 0 b0) (fun _ => True) (setF 16 0 b0).length w := by
  intro l J Jx W hW hH hJ hJx hY h0
  have hbW : Boxed W Bs 49 (.int .u16 (b0 : Int)) := (hW.block Bs hb.lt).trans hb
  generalize hxs : setF 16 0 b0 = xs at hY ⊢
  refine (callsIn_wide (n := 12)).1 (callsIn_of_wp_marks Tryd.func50 rfl trivial ?_ rfl)
  simp only [Tryd.ntmps50, List.size_toArray, List.length_cons, List.length_nil, Nat.reduceAdd, Nat.reduceSub, Array.replicate_succ, Array.replicate_zero, List.push_toArray, List.append_toArray, List.nil_append, List.cons_append]
  have hS0 := Aside0.mk (show EachS J W.heap.size Bs xs [] 0 b0 (fun _ => False) W from ⟨h0, fun k h => h.elim, fun h => h, hbW, ⟨16, by rw [hxs]; rfl, by omega, by omega⟩, Nat.le_refl _⟩)
  gi_wp2
  gi_loopw [3] (fun v3 wr => ∃ (pre : List Int) (i b : Nat) (O : Nat → Prop), v3 = .int .u8 (i : Int) ∧ Aside0 (EachS J W.heap.size Bs xs pre i b O wr)) (fun _ wr => boxNum Bs wr)
  case atStart => exact ⟨[], 0, b0, _, rfl, hS0⟩
  case round =>
    clear hS0
    obtain ⟨pre, i, b, O, rfl, HS⟩ := hrel
    have hc := HS.out.box.cell
    obtain ⟨f, hr2, hbf, hif⟩ := HS.out.left
    by_cases hz : b = 0
    · subst hz
      have hxs' : pre = xs := by
        cases f <;> simp [setF] at hr2 <;> exact hr2.symm
      gi_wp2
      exact ⟨_, results_none rfl _ _ _, _, O, rfl, HS.out.o, .inl ⟨xs, rfl, by rw [← hxs']; exact HS.out.j⟩⟩
    · obtain ⟨f, rfl⟩ : ∃ g, f = g + 1 := by
        cases f with
        | zero => exact absurd hbf (by omega)
        | succ g => exact ⟨g, rfl⟩
      rw [setF, if_neg hz] at hr2
      have hb16 : b < 65536 := Nat.lt_of_lt_of_le hbf (Nat.pow_le_pow_right (n := 2) (i := f + 1) (j := 16) (by omega) (by omega))
      have hbit := bit_one b hb16
      have hzI : ((b : Int) == 0) = false := by rw [beq_eq_false_iff_ne]; omega
      have hzN : (b : Int) ≠ 0 := by omega
      have hbf2 : b / 2 < 2 ^ f := by rw [Nat.pow_succ] at hbf; omega
      have hi16 : i < 16 := by omega
      have hBs := HS.out.box.lt
      have hBW := hbW.lt
      by_cases ho : b % 2 = 1
      · rw [if_pos ho] at hr2
        rw [ho] at hbit
        have hbit1 : Go.bits .and .u16 (b : Int) 1 = 1 := hbit
        clear hbit
        have hlen : pre.length < xs.length := by rw [hr2, List.length_append]; simp
        obtain ⟨fn, tmps, assign, body, hy, hRd⟩ := hY pre (i : Int) O wr HS.out.j HS.out.size HS.out.o hlen
        gi_wp2
        refine (RoundIn.wide0' hRd).mono ?_
        rintro e W3 ⟨O', hr, ⟨rfl, hj⟩ | ⟨rfl, hj⟩⟩
        · have hbx3 : Boxed W3 Bs 49 (.int .u16 (b : Int)) := (hr.same Bs hBs (.inl rfl) HS.out.bs).trans HS.out.box
          have hc3 := hbx3.cell
          have hf3 := hbx3.frozen
          have hnb : ¬ O' Bs := fun h => by
            rcases hr.new Bs h with h | h
            · exact HS.out.bs h
            · omega
          have e2 : ((b / 2 : Nat) : Int) = (b : Int) / 2 := rfl
          have hS4 : EachS J W.heap.size Bs xs (pre ++ [(i : Int)]) (i + 1) (b / 2) O' (W3.setCell ⟨Bs, 0, none⟩ (.int .u16 ((b : Int) / 2))).drew :=
            ⟨hJ _ _ _ _ hj ((Turned.setCell _ _ _ ⟨.inl rfl, hnb⟩).trans (Turned.drew _ _)), fun k h => ⟨(hr.new k h).elim (fun h' => (HS.out.o k h').1) (fun h' => Nat.le_trans HS.out.size h'), by
              show k < (W3.setCell ⟨Bs, 0, none⟩ (.int .u16 ((b : Int) / 2))).heap.size
              rw [World.size_setCell]; exact hr.lt k h⟩, hnb, hbx3.set _, ⟨f, by rw [hr2]; simp, hbf2, by omega⟩, by
              show W.heap.size ≤ (W3.setCell ⟨Bs, 0, none⟩ (.int .u16 ((b : Int) / 2))).heap.size
              rw [World.size_setCell]; exact Nat.le_trans HS.out.size hr.size⟩
          replace hS4 := Aside0.mk hS4
          have hM : Aside0 (boxNum Bs (W3.setCell ⟨Bs, 0, none⟩ (.int .u16 ((b : Int) / 2))).drew < boxNum Bs wr) := ⟨by
            unfold boxNum
            rw [hS4.out.box.cell, HS.out.box.cell]
            simp
            omega⟩
          have mixed : Tryd.prog.follows Departure.mixedOrders = true := by kernel_rfl
          gi_wp2
          gi_region_o
          go_roundw
          case rel => exact ⟨_, _, _, _, _, _, _, _, _, _, _, _, _, _, _, _, ⟨_, i + 1, b / 2, O', by simp, hS4⟩, rfl⟩
          case measure => exact hM.out
        · gi_wp2
          exact ⟨_, results_none rfl _ _ _, _, O', rfl, fun k h => ⟨(hr.new k h).elim (fun h' => (HS.out.o k h').1) (fun h' => Nat.le_trans HS.out.size h'), hr.lt k h⟩, .inr ⟨_, trivial, hj⟩⟩
      · rw [if_neg ho] at hr2
        rw [show b % 2 = 0 by omega] at hbit
        have hbit1 : Go.bits .and .u16 (b : Int) 1 = 0 := hbit
        clear hbit
        have hbx3 := HS.out.box
        have hf3 := hbx3.frozen
        have hS4 : EachS J W.heap.size Bs xs pre (i + 1) (b / 2) O (wr.setCell ⟨Bs, 0, none⟩ (.int .u16 ((b : Int) / 2))).drew :=
          ⟨hJ _ _ _ _ HS.out.j ((Turned.setCell _ _ _ ⟨.inl rfl, HS.out.bs⟩).trans (Turned.drew _ _)), fun k h => ⟨(HS.out.o k h).1, by
              show k < (wr.setCell ⟨Bs, 0, none⟩ (.int .u16 ((b : Int) / 2))).heap.size
              rw [World.size_setCell]; exact (HS.out.o k h).2⟩, HS.out.bs, hbx3.set _, ⟨f, hr2, hbf2, by omega⟩, by
              show W.heap.size ≤ (wr.setCell ⟨Bs, 0, none⟩ (.int .u16 ((b : Int) / 2))).heap.size
              rw [World.size_setCell]; exact HS.out.size⟩
        replace hS4 := Aside0.mk hS4
        have hM : Aside0 (boxNum Bs (wr.setCell ⟨Bs, 0, none⟩ (.int .u16 ((b : Int) / 2))).drew < boxNum Bs wr) := ⟨by
            unfold boxNum
            rw [hS4.out.box.cell, HS.out.box.cell]
            simp
            omega⟩
        have mixed : Tryd.prog.follows Departure.mixedOrders = true := by kernel_rfl
        gi_wp2
        refine ⟨(by intro f hf; cases hf), ?_⟩
        gi_wp2
        gi_region_o
        go_roundw
        case rel => exact ⟨_, _, _, _, _, _, _, _, _, _, _, _, _, _, _, _, ⟨_, i + 1, b / 2, O, by simp, hS4⟩, rfl⟩
        case measure => exact hM.out

structure ApB (base Bs : Nat) (w : World) (pre : List Int) (O : Nat → Prop) (W : World) : Prop where
  ex : ∃ v, Boxed W Bs 27 v ∧ W.ownsRow base 5 1 v pre.length (pre.map vB) ∧ (∀ k, v.ownBlock = some k → O k)
  below : Below base w W
theorem ApB.abides {base Bs n1 : Nat} {w : World} {pre : List Int} {O Q : Nat → Prop} {A B : World} (h : ApB base Bs w pre O A) (hQ : ∀ k, Q k → base ≤ k ∧ k ≠ Bs) (hB : Bs < n1) (hb : base ≤ n1) (hs : base ≤ A.heap.size) (hO : ¬ O Bs)
    (ht : Turned (fun k => (Q k ∨ n1 ≤ k) ∧ ¬ O k) A B) : ApB base Bs w pre O B := by
  obtain ⟨v, h1, h2, h3⟩ := h.ex
  have hk : ∀ k, v.ownBlock = some k → ¬ ((Q k ∨ n1 ≤ k) ∧ ¬ O k) := fun k e hh => hh.2 (h3 k e)
  refine ⟨⟨v, ?_, ownsRow_turned h2 ht hk, h3⟩, ht.below h.below hs (fun k hk hh => ?_)⟩
  · refine (ht.same Bs h1.lt (fun hh => ?_)).trans h1
    rcases hh.1 with h' | h'
    · exact (hQ _ h').2 rfl
    · omega
  · rcases hh.1 with h' | h'
    · have := (hQ k h').1; omega
    · omega
theorem ints_repsB {w : World} {base : Nat} {ok : Nat → Prop} (xs : List Int) : Reps ((Kd.int .u8).M w base ok) 1 xs (xs.map vB) := by
  refine ⟨by simp, fun j p hj => ?_⟩
  show _ = [Value.int .u8 p]
  refine List.ext_getElem? fun i => ?_
  rw [Nat.mul_one, List.getElem?_take]
  by_cases hi : i < 1
  · obtain rfl : i = 0 := by omega
    rw [if_pos (by omega), List.getElem?_drop, List.getElem?_map, Nat.add_zero, hj]
    rfl
  · rw [if_neg hi, List.getElem?_eq_none (by simp; omega)]
theorem setF_len : ∀ (f i b : Nat), (setF f i b).length ≤ f
  | 0, _, _ => Nat.zero_le _
  | f + 1, i, b => by
    rw [setF]
    have := setF_len f (i + 1) (b / 2)
    split
    · exact Nat.zero_le _
    · split
      · rw [List.length_cons]; omega
      · omega
set_option maxRecDepth 100000 in
set_option maxHeartbeats 2000000 in
theorem scripts_any (s : ByteArray) (b : Nat) (hb : b < 65536) (w : World) (hG : WG w) (hq : skel_bits.f (s.size + 5) s = some (b : Int)) :
    Calls Tryd.prog 13 #[.string s] w fun e w' => ∃ v0_ : Value, e = .returned (v0_) ∧ Kd.R (Kd.int .u8) 5 w' w.heap.size (fun _ => True) v0_ (setF 16 0 b) ∧ Below w.heap.size w w' := by
  have eg : ∀ args w, (callFunc 50 args).run Tryd.prog w = .ok (.enter 50 args) w := enters_of Tryd.func50 (by kernel_rfl) rfl
  obtain ⟨i0, hi, hz0, hz1, hz2⟩ := info_parts infoB
  have hxl := setF_len 16 0 b
  generalize hxs : setF 16 0 b = xs at hxl ⊢
  have HQ := Aside0.mk (skel_bits.calls (s.size + 5) s b (w.alloc (.cells #[.slice none 0 0] 27)) hq (WG.keep hG (below_alloc (Below.refl _ _) _)))
  clear hq
  refine (callsIn_wide (n := 12)).1 (callsIn_of_wp_marks Tryd.func13 rfl trivial ?_ rfl)
  simp only [Tryd.ntmps13, List.size_toArray, List.length_cons, List.length_nil, Nat.reduceAdd, Nat.reduceSub, Array.replicate_succ, Array.replicate_zero, List.push_toArray, List.append_toArray, List.nil_append, List.cons_append]
  gi_wp2_with (first | (refine ⟨trivial, ?_⟩; gi_at_call 31; (with_reducible refine ((callsIn_wide (n := 11)).2 HQ.out).mono ?_); rintro e w2 ⟨rfl, hb2⟩; have hbx2 : Boxed w2 w.heap.size 27 (.slice none 0 0) := (hb2.block _ (by simp)).trans (Boxed.new w 27 (.slice none 0 0))) | (refine ⟨trivial, ?_⟩; gi_at_call 30; refine ((callsIn_wide (n := 11)).2 (each_makes _ _)).mono ?_; rintro e w9 ⟨rfl, rfl⟩))
  have hbox := hbx2.alloc (.cells #[.int .u16 (b : Int)] 49)
  have hsb := Boxed.new w2 49 (.int .u16 (b : Int))
  have hsz2 : w.heap.size + 1 ≤ w2.heap.size := by have := hb2.size; simpa using this
  have hB2 : Below w.heap.size w w2 := (below_alloc (Below.refl w.heap.size w) _).trans (hb2.mono (by simp))
  have hB0 : Below w.heap.size w (w2.alloc (.cells #[.int .u16 (b : Int)] 49)) := below_alloc hB2 _
  have hsz : (w2.alloc (.cells #[.int .u16 (b : Int)] 49)).heap.size = w2.heap.size + 1 := by simp
  generalize w2.alloc (.cells #[.int .u16 (b : Int)] 49) = w1 at hbox hsb hB0 hsz ⊢
  have hseq := each_gives b hb w2.heap.size w1 hsb
  rw [hxs] at hseq
  refine wpIn_rangeFunc_gives (n := 12) (gf := 50) (lb := #[.pointer (some ⟨w2.heap.size, 0, none⟩)]) (a₁ := fun x => { tmps := #[.string s, undef, .slice none 0 0, .pointer (some ⟨w.heap.size, 0, none⟩), .int .u8 x, .string s, .int .u16 (b : Int), .func (.func 50) #[] #[.pointer (some ⟨w2.heap.size, 0, none⟩)], .int .u8 x, undef, undef, undef, undef, undef], defers := [] }) rfl eg hseq (Below.refl _ _) (fun k h => by subst h; omega) (fun _ => rfl)
    (fun pre O W => ApB w.heap.size w.heap.size w pre O W ∧ pre.length ≤ xs.length ∧ w.heap.size ≤ W.heap.size ∧ ¬ O w.heap.size)
    (fun _ _ _ _ => False)
    (fun s O A h => trivial) ?hI ?hIx ?h0 ?assign ?body ?done ?stop
  case hI =>
    rintro s O A B ⟨h1, h2, h3, h4⟩ ht
    exact ⟨h1.abides (Q := fun j => j = w2.heap.size) (fun k h => by subst h; exact ⟨by omega, by omega⟩) (n1 := w1.heap.size) (by omega) (by omega) h3 h4 ht, h2, Nat.le_trans h3 ht.size, h4⟩
  case hIx => exact fun _ _ _ _ _ h _ => h
  case h0 => exact ⟨⟨⟨_, hbox, World.ownsRow_nil _ _ _ _, fun k e => by simp [Value.ownBlock] at e⟩, hB0⟩, by simp, by omega, fun h => h⟩
  case assign =>
    intro l x W K hK
    gi_wp2
    exact hK
  case body =>
    rintro l pre x O W ⟨hA, hpl, hbW, hnO⟩ hN hOge hWge
    obtain ⟨v, hv, hrow', hvO⟩ := hA.ex
    have hc := hv.cell
    gi_wp2_with (gi_at_builtin; refine wpListIn_append_at _ rfl _ _ 27 rfl w.heap.size 5 i0 (.int .u8 0) 1 1 Tryd.underlying27 hi hz0 hz1 hz2 rfl (by decide) _ _ _ rfl (hrow'.alloc _) ⟨W.heap.size, 0, none⟩ 1 1 [vB x] rfl rfl (cell_one_new _ _ _) (by simp [Value.oneCell', vB]) (by simp [maxLen]; omega) (by omega) (by simp; omega) ?_; intro v' w2 hown' hgrow hat; obtain ⟨g', cap', rfl⟩ := ownsRow_succ hown'; obtain ⟨hv1, hv2, hr2, hk2, hb2⟩ := hv.appended (by decide) hrow' hbW (Nat.le_refl _) hown' hgrow; have hc1 := hv1.cell; have hf1 := hv1.frozen)
    have hWs : W.heap.size ≤ w2.heap.size := Nat.le_trans (by simp) hgrow.size
    refine ⟨fun k => O k ∨ (k = g' ∧ W.heap.size ≤ k), ⟨by simpa using hWs, fun k h => h.imp id (fun h => h.2), fun k h => ?_, fun k hk hC hnk => ?_⟩, ⟨⟨_, hv2, ?_, ?_⟩, hA.below.trans hb2⟩, by simp; omega, by simp; omega, ?_⟩
    · rw [World.size_setCell]
      rcases h with h | ⟨rfl, _⟩
      · have := (hOge k h).2; omega
      · exact (ownsRow_lt hown' (by simp [Value.ownBlock])).2
    · have hkB : k ≠ w.heap.size := fun e => by
        subst e
        rcases hC with h | h <;> omega
      have hkv : some k ≠ v.ownBlock := fun e => hnk (hvO k e.symm)
      rw [Below.heap_setCell _ _ _ k (fun e => hkB e), hgrow.block k (by simp; omega) hkv]
      exact Below.heap_alloc _ _ k hk
    · have e1 : (pre ++ [x]).map vB = pre.map vB ++ [vB x] := by simp
      rw [e1, List.length_append, List.length_singleton]
      exact hr2
    · intro k e
      have ek : k = g' := by simpa [Value.ownBlock] using e.symm
      rcases hat with h | h
      · exact .inl (hvO k (h.symm.trans e))
      · have : k = W.heap.size + 1 := by have := e.symm.trans h; simpa using this
        exact .inr ⟨ek, by omega⟩
    · rintro (h | ⟨_, h⟩)
      · exact hnO h
      · omega
  case done =>
    rintro D zs O W hD hnD rfl ⟨hA, _, hbW, hnO⟩ hK
    obtain ⟨v, hv, hrow, _⟩ := hA.ex
    have hc := hv.cell
    gi_wp2
    refine ⟨by simp, .inl ⟨_, _, rfl, run_takeDeferred hK, ?_⟩⟩
    have hT : Turned (fun k => k = D) W (W.putObj D (.deferred none)) := Turned.putObj _ _ rfl
    have hfin := ownsRow_putObj hrow (.deferred none) hK rfl
    refine ⟨_, results_tmp rfl _ _ _, v, rfl, ⟨fun _ _ => trivial, _, hfin, ints_repsB _⟩, hT.below hA.below hbW (fun k hk e => by omega)⟩
  case stop => exact fun _ _ _ _ _ _ _ _ h _ => h.elim
def skel_Scripts.f (s : ByteArray) : Option (List Int) := if s.size ≤ 1000000000 then (skel_bits.f (s.size + 5) s).bind fun b => if 0 ≤ b ∧ b < 65536 then some (setF 16 0 b.toNat) else none else none
theorem skel_Scripts.calls (a0 : ByteArray) (r : List Int) (w : World) (h : skel_Scripts.f a0 = some r) (hG : WG w) :
    Calls Tryd.prog 13 #[.string a0] w fun e w' => ∃ v0_ : Value, e = .returned (v0_) ∧ Kd.R (Kd.int .u8) 5 w' w.heap.size (fun _ => True) v0_ r ∧ Below w.heap.size w w' := by
  unfold skel_Scripts.f at h
  split at h
  · obtain ⟨b, hb, h2⟩ := Option.bind_eq_some_iff.1 h
    split at h2
    · next hr =>
      obtain rfl := Option.some.inj h2
      obtain ⟨n, rfl⟩ : ∃ n : Nat, b = (n : Int) := ⟨b.toNat, by omega⟩
      exact scripts_any a0 n (by omega) w hG hb
    · cases h2
  · cases h
end Go.Proofs.YtncbbgmhmofhnaaDoor.Pr
end
