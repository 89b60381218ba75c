import Derived.Test.YtikhoooiklkbiaaDoorKnum
import Derived.Test.YtikhoooiklkbiaaDoorKsw
namespace Go.Proofs.YtikhoooiklkbiaaDoor.Pr
open Go.RowKit Go.Proofs.YtikhoooiklkbiaaDoorW.PrintWords Go.Proofs.YtikhoooiklkbiaaDoorW.PrintLast Go.Proofs.YtikhoooiklkbiaaDoorW.PrintMore
set_option linter.unusedVariables false
set_option linter.unusedSimpArgs false

/-! ### A set out of a text -/
theorem numK_le : ∀ (r : Nat) (l : List UInt8) (v j : Nat), (numK r l v j).2 ≤ j + l.length
  | 0, l, v, j => Nat.le_add_right _ _
  | r + 1, [], v, j => Nat.le_refl _
  | r + 1, c :: l, v, j => by
    unfold numK
    split
    · exact Nat.le_add_right _ _
    · cases hexl c with
      | none => exact Nat.le_add_right _ _
      | some d =>
        have := numK_le r l (v * 16 + d) (j + 1)
        simp only [List.length_cons]
        omega
theorem numF_le (s : List UInt8) (n : Nat) (hn : n ≤ s.length) : n + (numF s n).2 ≤ s.length := by
  have := numK_le 6 (s.drop n) 0 0
  unfold numF
  rw [List.length_drop] at this
  omega
def isAt (s : List UInt8) (n : Nat) (c : UInt8) : Bool := s[n]? == some c
theorem idx_any (s : List UInt8) (n : Nat) (hn : n < s.length) (w : World) : ∃ d : UInt8, s[n]? = some d ∧ (Instr.index 9 (.string (mkB s)) (.int .i64 (n : Int))).run Tryd.prog w = .ok (.int .u8 (d.toNat : Int)) w :=
  ⟨s[n], List.getElem?_eq_getElem hn, idx_mkB s n hn w⟩
set_option maxHeartbeats 1000000 in
theorem is_any (g : Nat) (w : World) (s : List UInt8) (n : Nat) (c : UInt8) (h : Rdr g w s n) (hs : s.length ≤ 1000000) :
    Calls Tryd.prog 32 #[.pointer (some ⟨g, 0, none⟩), .int .u8 (c.toNat : Int)] w fun e w' => Own1 g w w' ∧ e = .returned (.bool (isAt s n c)) ∧ Rdr g w' s (if isAt s n c = true then n + 1 else n) := by
  have h0 := h.c0
  have h1 := h.c1
  have H := Aside0.mk h
  have hz := mkB_size s
  clear h
  by_cases hn : n < s.length
  · have k1 : decide ((n : Int) < ((mkB s).size : Int)) = true := decide_eq_true (by omega)
    have k2 : decide (n < (mkB s).size) = true := decide_eq_true (by omega)
    obtain ⟨d, hd, hx⟩ : ∃ d : UInt8, s[n]? = some d ∧ ∀ W, (Instr.index 9 (.string (mkB s)) (.int .i64 (n : Int))).run Tryd.prog W = .ok (.int .u8 (d.toNat : Int)) W := ⟨s[n], List.getElem?_eq_getElem hn, fun W => idx_mkB s n hn W⟩
    by_cases hc : d = c
    · have e1 : ((d.toNat : Int) == (c.toNat : Int)) = true := beq_iff_eq.2 (by rw [hc])
      have HI : Aside0 (isAt s n c = true) := ⟨by unfold isAt; rw [hd, hc]; simp⟩
      have hwr : IntKind.i64.wrap ((n : Int) + 1) = ((n + 1 : Nat) : Int) := by rw [i64_w, IntWalk.wrap64_in _ (by omega)]; omega
      have hf1 := H.out.fr 1
      have HN : Aside0 (Rdr g ((w.drewN 1).setCell ⟨g, 1, none⟩ (.int .i64 ((n + 1 : Nat) : Int))) s (n + 1) ∧ Own1 g w ((w.drewN 1).setCell ⟨g, 1, none⟩ (.int .i64 ((n + 1 : Nat) : Int)))) := ⟨(H.out.drewN 1).setN (n + 1), Own1.set g w 1 1 _⟩
      clear hc hd
      rw [HI.out, if_pos rfl]
      go_enter Tryd.func32, Tryd.ntmps32
      go_wp2_with (go_region)
      go_ret
      exact ⟨HN.out.2, rfl, HN.out.1⟩
    · have e1 : ((d.toNat : Int) == (c.toNat : Int)) = false := beq_eq_false_iff_ne.2 (fun e => hc (UInt8.toNat_inj.1 (Int.ofNat.inj e)))
      have HI : Aside0 (isAt s n c = false) := ⟨by unfold isAt; rw [hd]; simpa using hc⟩
      clear hc hd
      rw [HI.out, if_neg (by decide)]
      go_enter Tryd.func32, Tryd.ntmps32
      go_wp2_with (go_region)
      go_ret
      exact ⟨Own1.drewN g w 1, rfl, H.out.drewN 1⟩
  · have k1 : decide ((n : Int) < ((mkB s).size : Int)) = false := decide_eq_false (by omega)
    have k2 : decide (n < (mkB s).size) = false := decide_eq_false (by omega)
    have HI : Aside0 (isAt s n c = false) := ⟨by unfold isAt; rw [List.getElem?_eq_none (by omega)]; rfl⟩
    rw [HI.out, if_neg (by decide)]
    go_enter Tryd.func32, Tryd.ntmps32
    go_wp2_with (go_region)
    go_ret
    exact ⟨Own1.drewN g w 1, rfl, H.out.drewN 1⟩
theorem nonempty_mkB (s : List UInt8) (h : 0 < s.length) : (!(mkB s).toList.isEmpty) = true := by
  cases s with
  | nil => cases h
  | cons c l =>
    have : (mkB (c :: l)).toList ≠ [] := fun e => by
      have h2 := congrArg List.length e
      have h3 : (mkB (c :: l)).toList.length = (mkB (c :: l)).size := by rw [Lib.toList_data]; exact Array.length_toList
      rw [h3, mkB_size] at h2
      cases h2
    simpa using this
/-- The spans of a text, from a place on. -/
def parK (s : List UInt8) : Nat → Nat → Int → List Sp → Option (List Sp × Int × Int)
  | 0, _, _, _ => none
  | f + 1, n, least, l =>
    if (numF s n).2 = 0 ∨ 1114111 < (numF s n).1 ∨ ((numF s n).1 : Int) < least then some ([], (n : Int), 8)
    else if isAt s (n + (numF s n).2) 45 = true then
      (if (numF s (n + (numF s n).2 + 1)).2 = 0 ∨ 1114111 < (numF s (n + (numF s n).2 + 1)).1 ∨ ((numF s (n + (numF s n).2 + 1)).1 : Int) < ((numF s n).1 : Int) + 1 then some ([], ((n + (numF s n).2 + 1 : Nat) : Int), 8)
      else if n + (numF s n).2 + 1 + (numF s (n + (numF s n).2 + 1)).2 = s.length then some (l ++ [⟨((numF s n).1 : Int), ((numF s (n + (numF s n).2 + 1)).1 : Int)⟩], 0, 0)
      else if l.length + 1 = 1024 ∨ isAt s (n + (numF s n).2 + 1 + (numF s (n + (numF s n).2 + 1)).2) 44 = false then some ([], ((n + (numF s n).2 + 1 + (numF s (n + (numF s n).2 + 1)).2 : Nat) : Int), 8)
      else parK s f (n + (numF s n).2 + 1 + (numF s (n + (numF s n).2 + 1)).2 + 1) (((numF s (n + (numF s n).2 + 1)).1 : Int) + 2) (l ++ [⟨((numF s n).1 : Int), ((numF s (n + (numF s n).2 + 1)).1 : Int)⟩]))
    else if n + (numF s n).2 = s.length then some (l ++ [⟨((numF s n).1 : Int), ((numF s n).1 : Int)⟩], 0, 0)
    else if l.length + 1 = 1024 ∨ isAt s (n + (numF s n).2) 44 = false then some ([], ((n + (numF s n).2 : Nat) : Int), 8)
    else parK s f (n + (numF s n).2 + 1) (((numF s n).1 : Int) + 2) (l ++ [⟨((numF s n).1 : Int), ((numF s n).1 : Int)⟩])
structure ParW (w W : World) (s : List UInt8) (n : Nat) (v : Value) (l : List Sp) : Prop where
  rd : Rdr w.heap.size W s n
  rw : Kd.R k37 37 W (w.heap.size + 1) (fun _ => True) v l
  bel : Below w.heap.size w W
theorem ParW.own1 {w W W1 : World} {s : List UInt8} {n n1 : Nat} {v : Value} {l : List Sp} (h : ParW w W s n v l) (ho : Own1 w.heap.size W W1) (hr : Rdr w.heap.size W1 s n1) : ParW w W1 s n1 v l :=
  ⟨hr, Kd.R_mono (Kd.R_move (Kd.R_bound h.rw) (fun k hk => ho.far k (by have := hk.2.1; omega))) (fun _ _ => trivial), h.bel.trans ho.bel⟩
theorem ParW.app {w W W1 : World} {s : List UInt8} {n : Nat} {v v1 : Value} {l l1 : List Sp} (h : ParW w W s n v l) (hb : Below (w.heap.size + 1) W W1) (hr : Kd.R k37 37 W1 (w.heap.size + 1) (fun _ => True) v1 l1) : ParW w W1 s n v1 l1 :=
  have hc : ∀ i, W1.cell? ⟨w.heap.size, i, none⟩ = W.cell? ⟨w.heap.size, i, none⟩ := fun i => World.cell?_of_block (hb.block _ (Nat.lt_succ_self w.heap.size))
  ⟨⟨(hc 0).trans h.rd.c0, (hc 1).trans h.rd.c1, fun i => (World.frozen?_of_block (hb.block _ (Nat.lt_succ_self w.heap.size))).trans (h.rd.fr i), Nat.lt_of_lt_of_le h.rd.sz hb.size⟩, hr, h.bel.trans (hb.mono (by omega))⟩
theorem ParW.drewN {w W : World} {s : List UInt8} {n : Nat} {v : Value} {l : List Sp} (h : ParW w W s n v l) (q : Nat) : ParW w (W.drewN q) s n v l := h.own1 (Own1.drewN _ _ _) (h.rd.drewN q)
theorem ParW.start (w : World) (s : List UInt8) : ParW w (w.alloc (.cells #[.string (mkB s), .int .i64 0] 50)) s 0 (.slice none 0 0) [] :=
  ⟨⟨by rw [World.cell?_alloc_new]; rfl, by rw [World.cell?_alloc_new]; rfl, fun i => by simp, by simp⟩, Kd.R_nil _ _ _ _ _, below_alloc (Below.refl _ _) _⟩
/-- number, where it is none, and where it is one. -/
theorem num_none (g : Nat) (w : World) (s : List UInt8) (n : Nat) (least : Int) (h : Rdr g w s n) (hs : s.length ≤ 1000000) (ha : n ≤ s.length) (hc : (numF s n).2 = 0 ∨ 1114111 < (numF s n).1 ∨ ((numF s n).1 : Int) < least) :
    Calls Tryd.prog 31 #[.pointer (some ⟨g, 0, none⟩), .int .i32 least] w fun e w' => Own1 g w w' ∧ e = .returned (.tuple #[.int .i32 0, .bool false]) ∧ Rdr g w' s n := by
  refine (num_any g w s n least h hs ha).mono ?_
  rintro e w' ⟨ho, hq⟩
  unfold NumQ at hq
  rw [if_pos hc] at hq
  exact ⟨ho, hq⟩
theorem num_some (g : Nat) (w : World) (s : List UInt8) (n : Nat) (least : Int) (h : Rdr g w s n) (hs : s.length ≤ 1000000) (ha : n ≤ s.length) (hc : ¬ ((numF s n).2 = 0 ∨ 1114111 < (numF s n).1 ∨ ((numF s n).1 : Int) < least)) (v j : Nat) (hv : (numF s n).1 = v) (hj : (numF s n).2 = j) :
    Calls Tryd.prog 31 #[.pointer (some ⟨g, 0, none⟩), .int .i32 least] w fun e w' => Own1 g w w' ∧ e = .returned (.tuple #[.int .i32 (v : Int), .bool true]) ∧ Rdr g w' s (n + j) := by
  subst hv hj
  refine (num_any g w s n least h hs ha).mono ?_
  rintro e w' ⟨ho, hq⟩
  unfold NumQ at hq
  rw [if_neg hc] at hq
  exact ⟨ho, hq⟩
theorem is_yes (g : Nat) (w : World) (s : List UInt8) (n : Nat) (c : UInt8) (h : Rdr g w s n) (hs : s.length ≤ 1000000) (hc : isAt s n c = true) :
    Calls Tryd.prog 32 #[.pointer (some ⟨g, 0, none⟩), .int .u8 (c.toNat : Int)] w fun e w' => Own1 g w w' ∧ e = .returned (.bool true) ∧ Rdr g w' s (n + 1) := by
  have := is_any g w s n c h hs
  rw [hc, if_pos rfl] at this
  exact this
theorem is_no (g : Nat) (w : World) (s : List UInt8) (n : Nat) (c : UInt8) (h : Rdr g w s n) (hs : s.length ≤ 1000000) (hc : isAt s n c = false) :
    Calls Tryd.prog 32 #[.pointer (some ⟨g, 0, none⟩), .int .u8 (c.toNat : Int)] w fun e w' => Own1 g w w' ∧ e = .returned (.bool false) ∧ Rdr g w' s n := by
  have := is_any g w s n c h hs
  rw [hc, if_neg (by decide)] at this
  exact this
set_option maxRecDepth 8000 in
set_option maxHeartbeats 4000000 in
theorem par_any (s : List UInt8) (w : World) (K : Nat) (r : List Sp × Int × Int) (hs : s.length ≤ 1000000) (h0 : 0 < s.length) (h : parK s K 0 0 [] = some r) :
    Calls Tryd.prog 13 #[.string (mkB s)] w fun e w' => ∃ v0_ : Value, e = .returned (.tuple #[v0_, .int .i64 r.2.1, .int .i64 r.2.2]) ∧ Kd.R k37 37 w' w.heap.size (fun _ => True) v0_ r.1 ∧ Below w.heap.size w w' := by
  have hz := mkB_size s
  have hne : (!(mkB s).toList.isEmpty) = true := nonempty_mkB s h0
  have HS := Aside0.mk (ParW.start w s)
  have H := Aside0.mk h
  clear h
  go_enter Tryd.func13, Tryd.ntmps13
  go_wp2_with fail
  generalize w.alloc (.cells #[.string (mkB s), .int .i64 0] 50) = W0 at HS ⊢
  go_loopg [5, 7] K (fun kq v5 v7 wi => ∃ (n : Nat) (least : Int) (l : List Sp), v7 = .int .i32 least ∧ Aside0 (parK s kq n least l = some r) ∧ Aside0 (kq ≤ K) ∧ Aside0 (ParW w wi s n v5 l) ∧ Aside0 (n ≤ s.length) ∧ Aside0 (l.length < 1024))
  case atStart => exact ⟨0, 0, [], rfl, H, ⟨Nat.le_refl _⟩, HS, ⟨Nat.zero_le _⟩, ⟨by simp⟩⟩
  case round =>
    clear H HS
    obtain ⟨n, least, l, rfl, HA, HK, HP, HN, HL⟩ := hrel
    cases gk with
    | zero => exact absurd HA.out (by simp [parK])
    | succ k1 =>
      have H := HA.out
      clear HA
      unfold parK at H
      have hnj := numF_le s n HN.out
      obtain ⟨v, hv⟩ : ∃ v, (numF s n).1 = v := ⟨_, rfl⟩
      obtain ⟨j, hj⟩ : ∃ j, (numF s n).2 = j := ⟨_, rfl⟩
      by_cases c1 : (numF s n).2 = 0 ∨ 1114111 < (numF s n).1 ∨ ((numF s n).1 : Int) < least
      · rw [if_pos c1] at H
        obtain rfl := Option.some.inj H
        have HC := Aside0.mk (num_none w.heap.size wr s n least HP.out.rd hs HN.out c1)
        clear H c1 hv hj hnj
        go_upto_region 7 with (go_at_call 31; with_reducible refine HC.out.mono ?_; rintro e w1 ⟨ho, rfl, hr⟩; have HP1 := Aside0.mk (HP.out.own1 ho hr); clear ho hr HC)
        have hc1 := HP1.out.rd.c1
        go_wp2_with (go_region)
        go_ret3
        exact ⟨_, rfl, Kd.R_nil _ _ _ _ _, below_drew HP1.out.bel⟩
      · rw [if_neg c1] at H
        have HC := Aside0.mk (num_some w.heap.size wr s n least HP.out.rd hs HN.out c1 v j hv hj)
        simp only [hv, hj] at H c1 hnj
        have hjp : Aside0 (0 < j ∧ v ≤ 1114111) := ⟨by omega⟩
        replace hnj := Aside0.mk hnj
        clear c1 hv hj
        go_upto_region 8 with (go_at_call 31; with_reducible refine HC.out.mono ?_; rintro e w1 ⟨ho, rfl, hr⟩; have HP1 := Aside0.mk (HP.out.own1 ho hr); clear ho hr HC HP)
        by_cases c2 : isAt s (n + j) 45 = true
        · rw [if_pos c2] at H
          have hlt : Aside0 (n + j < s.length) := ⟨by
            unfold isAt at c2
            rcases Nat.lt_or_ge (n + j) s.length with h | h
            · exact h
            · rw [List.getElem?_eq_none h] at c2; cases c2⟩
          have HC : Aside0 (Calls Tryd.prog 32 #[.pointer (some ⟨w.heap.size, 0, none⟩), .int .u8 45] w1 fun e w' => Own1 w.heap.size w1 w' ∧ e = .returned (.bool true) ∧ Rdr w.heap.size w' s (n + j + 1)) := ⟨is_yes w.heap.size w1 s (n + j) 45 HP1.out.rd hs c2⟩
          clear c2
          go_upto_region 10 with (go_at_call 32; with_reducible refine HC.out.mono ?_; rintro e w2 ⟨ho, rfl, hr⟩; have HP2 := Aside0.mk (HP1.out.own1 ho hr); clear ho hr HC HP1)
          obtain ⟨v2, hv2⟩ : ∃ v2, (numF s (n + j + 1)).1 = v2 := ⟨_, rfl⟩
          obtain ⟨j2, hj2⟩ : ∃ j2, (numF s (n + j + 1)).2 = j2 := ⟨_, rfl⟩
          have hn2 : n + j + 1 ≤ s.length := by have := hlt.out; omega
          have hnj2 := numF_le s (n + j + 1) hn2
          have hwl : IntKind.i32.wrap ((v : Int) + 1) = (v : Int) + 1 := by rw [i32_w]; exact w32s _ (by omega) (by have := hjp.out.2; omega)
          by_cases c3 : (numF s (n + j + 1)).2 = 0 ∨ 1114111 < (numF s (n + j + 1)).1 ∨ ((numF s (n + j + 1)).1 : Int) < (v : Int) + 1
          · rw [if_pos c3] at H
            obtain rfl := Option.some.inj H
            have HC := Aside0.mk (num_none w.heap.size w2 s (n + j + 1) ((v : Int) + 1) HP2.out.rd hs hn2 c3)
            clear H c3 hv2 hj2 hnj2 hn2
            go_upto_region 12 with (go_at_call 31; with_reducible refine HC.out.mono ?_; rintro e w3 ⟨ho, rfl, hr⟩; have HP3 := Aside0.mk (HP2.out.own1 ho hr); clear ho hr HC HP2)
            have hc1 := HP3.out.rd.c1
            go_wp2_with (go_region)
            go_ret3
            exact ⟨_, rfl, Kd.R_nil _ _ _ _ _, below_drew HP3.out.bel⟩
          · rw [if_neg c3] at H
            have HC := Aside0.mk (num_some w.heap.size w2 s (n + j + 1) ((v : Int) + 1) HP2.out.rd hs hn2 c3 v2 j2 hv2 hj2)
            simp only [hv2, hj2] at H c3 hnj2
            have hjq : Aside0 (v2 ≤ 1114111) := ⟨by omega⟩
            have HM : Aside0 (n + j + 1 + j2 ≤ s.length) := ⟨hnj2⟩
            clear c3 hv2 hj2 hnj2 hn2
            go_upto_region 13 with (go_at_call 31; with_reducible refine HC.out.mono ?_; rintro e w3 ⟨ho, rfl, hr⟩; have HP3 := Aside0.mk (HP2.out.own1 ho hr); clear ho hr HC HP2)
            go_upto_region 14 with ((with_reducible refine gate_builtin (b := .append) (xs := #[.tmp 44, .tmp 48]) rfl ?_); at_builtin; refine Kd.R_append k37 (w0 := w3) (w.heap.size + 1) rfl (.tmp 44) (.tmp 48) 22 37 (.agg #[(.int .i32 0), (.int .i32 0)]) 8 rfl Tryd.underlying22 info37 rfl (by decide) (by omega) u5 l (⟨(v : Int), (v2 : Int)⟩ : Sp) [.int .i32 (v : Int), .int .i32 (v2 : Int)] (fun _ => True) (fun _ => False) rfl rfl (k37_mkM _ _ _ (⟨(v : Int), (v2 : Int)⟩ : Sp)) (fun _ hk => hk.elim) (fun _ _ => trivial) HP3.out.rw (Below.refl _ _) (by have := HP3.out.rd.sz; omega) (by have := HL.out; omega) ?_; intro v9 w9 ho hbb hg hat; have HPY := Aside0.mk (HP3.out.app hbb ho); clear hg hat ho hbb HP3)
            obtain ⟨A9, c9, rfl⟩ := Kd.R_slice HPY.out.rw
            have hc1 := HPY.out.rd.c1
            have hwh : IntKind.i32.wrap ((v2 : Int) + 2) = (v2 : Int) + 2 := by rw [i32_w]; exact w32s _ (by have := hjq.out; omega) (by have := hjq.out; omega)
            have hll : (l ++ [(⟨(v : Int), (v2 : Int)⟩ : Sp)]).length = l.length + 1 := by simp
            rw [hll] at HPY ⊢
            obtain ⟨m, hm⟩ : ∃ m, n + j + 1 + j2 = m := ⟨_, rfl⟩
            rw [hm] at H HPY hc1
            by_cases c3 : m = s.length
            · rw [if_pos c3] at H
              obtain rfl := Option.some.inj H
              have e3 : ((m : Int) == (s.length : Int)) = true := beq_iff_eq.2 (by omega)
              have HRW := Aside0.mk (Kd.R_lower HPY.out.rw (Nat.le_succ w.heap.size))
              have HBW := Aside0.mk HPY.out.bel
              clear H c3 HPY hm
              go_wp2_with fail
              go_ret3
              exact ⟨_, rfl, HRW.out, HBW.out⟩
            · rw [if_neg c3] at H
              have e3 : ((m : Int) == (s.length : Int)) = false := beq_eq_false_iff_ne.2 (by omega)
              have hms : Aside0 (m < s.length) := ⟨by have := HM.out; omega⟩
              by_cases c4 : l.length + 1 = 1024
              · rw [if_pos (.inl c4)] at H
                obtain rfl := Option.some.inj H
                have e4 : ((l.length : Int) + 1 == 1024) = true := beq_iff_eq.2 (by omega)
                clear H c3 hm
                go_wp2_with (go_region)
                go_ret3
                exact ⟨_, rfl, Kd.R_nil _ _ _ _ _, below_drew HPY.out.bel⟩
              · have e4 : ((l.length : Int) + 1 == 1024) = false := beq_eq_false_iff_ne.2 (by omega)
                by_cases c5 : isAt s m 44 = false
                · rw [if_pos (.inr c5)] at H
                  obtain rfl := Option.some.inj H
                  have HC : Aside0 (Calls Tryd.prog 32 #[.pointer (some ⟨w.heap.size, 0, none⟩), .int .u8 44] w9 fun e w' => Own1 w.heap.size w9 w' ∧ e = .returned (.bool false) ∧ Rdr w.heap.size w' s m) := ⟨is_no w.heap.size w9 s m 44 HPY.out.rd hs c5⟩
                  clear H c3 c4 c5 hm
                  go_upto_region 17 with (go_at_call 32; with_reducible refine HC.out.mono ?_; rintro e w2 ⟨ho, rfl, hr⟩; have HPZ := Aside0.mk (HPY.out.own1 ho hr); clear ho hr HC HPY)
                  have hc2 := HPZ.out.rd.c1
                  go_wp2_with (go_region)
                  go_ret3
                  exact ⟨_, rfl, Kd.R_nil _ _ _ _ _, below_drew HPZ.out.bel⟩
                · rw [if_neg (fun e => by rcases e with e | e; exact c4 e; exact c5 e)] at H
                  have c6 : isAt s m 44 = true := by cases h : isAt s m 44 with | true => rfl | false => exact absurd h c5
                  have HC : Aside0 (Calls Tryd.prog 32 #[.pointer (some ⟨w.heap.size, 0, none⟩), .int .u8 44] w9 fun e w' => Own1 w.heap.size w9 w' ∧ e = .returned (.bool true) ∧ Rdr w.heap.size w' s (m + 1)) := ⟨is_yes w.heap.size w9 s m 44 HPY.out.rd hs c6⟩
                  have H' := Aside0.mk H
                  have HL2 : Aside0 ((l ++ [(⟨(v : Int), (v2 : Int)⟩ : Sp)]).length < 1024) := ⟨by have := HL.out; omega⟩
                  clear H c3 c4 c5 c6 hm
                  go_wp2_with (go_at_call 32; with_reducible refine HC.out.mono ?_; rintro e w2 ⟨ho, rfl, hr⟩; have HPZ := Aside0.mk (HPY.out.own1 ho hr); clear ho hr HC HPY)
                  go_roundg k1
                  case measure => have := HK.out; omega
                  case rel => exact ⟨m + 1, (v2 : Int) + 2, l ++ [(⟨(v : Int), (v2 : Int)⟩ : Sp)], rfl, H', ⟨by have := HK.out; omega⟩, HPZ, ⟨by have := hms.out; omega⟩, HL2⟩
        · rw [if_neg c2] at H
          have c7 : isAt s (n + j) 45 = false := by cases h : isAt s (n + j) 45 with | false => rfl | true => exact absurd h c2
          have HC : Aside0 (Calls Tryd.prog 32 #[.pointer (some ⟨w.heap.size, 0, none⟩), .int .u8 45] w1 fun e w' => Own1 w.heap.size w1 w' ∧ e = .returned (.bool false) ∧ Rdr w.heap.size w' s (n + j)) := ⟨is_no w.heap.size w1 s (n + j) 45 HP1.out.rd hs c7⟩
          have HM : Aside0 (n + j ≤ s.length) := hnj
          clear c2 c7
          go_upto_region 13 with (go_at_call 32; with_reducible refine HC.out.mono ?_; rintro e w3 ⟨ho, rfl, hr⟩; have HP3 := Aside0.mk (HP1.out.own1 ho hr); clear ho hr HC HP1)
          go_upto_region 14 with ((with_reducible refine gate_builtin (b := .append) (xs := #[.tmp 44, .tmp 48]) rfl ?_); at_builtin; refine Kd.R_append k37 (w0 := w3) (w.heap.size + 1) rfl (.tmp 44) (.tmp 48) 22 37 (.agg #[(.int .i32 0), (.int .i32 0)]) 8 rfl Tryd.underlying22 info37 rfl (by decide) (by omega) u5 l (⟨(v : Int), (v : Int)⟩ : Sp) [.int .i32 (v : Int), .int .i32 (v : Int)] (fun _ => True) (fun _ => False) rfl rfl (k37_mkM _ _ _ (⟨(v : Int), (v : Int)⟩ : Sp)) (fun _ hk => hk.elim) (fun _ _ => trivial) HP3.out.rw (Below.refl _ _) (by have := HP3.out.rd.sz; omega) (by have := HL.out; omega) ?_; intro v9 w9 ho hbb hg hat; have HPY := Aside0.mk (HP3.out.app hbb ho); clear hg hat ho hbb HP3)
          obtain ⟨A9, c9, rfl⟩ := Kd.R_slice HPY.out.rw
          have hc1 := HPY.out.rd.c1
          have hwh : IntKind.i32.wrap ((v : Int) + 2) = (v : Int) + 2 := by rw [i32_w]; exact w32s _ (by have := hjp.out.2; omega) (by have := hjp.out.2; omega)
          have hll : (l ++ [(⟨(v : Int), (v : Int)⟩ : Sp)]).length = l.length + 1 := by simp
          rw [hll] at HPY ⊢
          obtain ⟨m, hm⟩ : ∃ m, n + j = m := ⟨_, rfl⟩
          rw [hm] at H HPY hc1
          by_cases c3 : m = s.length
          · rw [if_pos c3] at H
            obtain rfl := Option.some.inj H
            have e3 : ((m : Int) == (s.length : Int)) = true := beq_iff_eq.2 (by omega)
            have HRW := Aside0.mk (Kd.R_lower HPY.out.rw (Nat.le_succ w.heap.size))
            have HBW := Aside0.mk HPY.out.bel
            clear H c3 HPY hm
            go_wp2_with fail
            go_ret3
            exact ⟨_, rfl, HRW.out, HBW.out⟩
          · rw [if_neg c3] at H
            have e3 : ((m : Int) == (s.length : Int)) = false := beq_eq_false_iff_ne.2 (by omega)
            have hms : Aside0 (m < s.length) := ⟨by have := HM.out; omega⟩
            by_cases c4 : l.length + 1 = 1024
            · rw [if_pos (.inl c4)] at H
              obtain rfl := Option.some.inj H
              have e4 : ((l.length : Int) + 1 == 1024) = true := beq_iff_eq.2 (by omega)
              clear H c3 hm
              go_wp2_with (go_region)
              go_ret3
              exact ⟨_, rfl, Kd.R_nil _ _ _ _ _, below_drew HPY.out.bel⟩
            · have e4 : ((l.length : Int) + 1 == 1024) = false := beq_eq_false_iff_ne.2 (by omega)
              by_cases c5 : isAt s m 44 = false
              · rw [if_pos (.inr c5)] at H
                obtain rfl := Option.some.inj H
                have HC : Aside0 (Calls Tryd.prog 32 #[.pointer (some ⟨w.heap.size, 0, none⟩), .int .u8 44] w9 fun e w' => Own1 w.heap.size w9 w' ∧ e = .returned (.bool false) ∧ Rdr w.heap.size w' s m) := ⟨is_no w.heap.size w9 s m 44 HPY.out.rd hs c5⟩
                clear H c3 c4 c5 hm
                go_upto_region 17 with (go_at_call 32; with_reducible refine HC.out.mono ?_; rintro e w2 ⟨ho, rfl, hr⟩; have HPZ := Aside0.mk (HPY.out.own1 ho hr); clear ho hr HC HPY)
                have hc2 := HPZ.out.rd.c1
                go_wp2_with (go_region)
                go_ret3
                exact ⟨_, rfl, Kd.R_nil _ _ _ _ _, below_drew HPZ.out.bel⟩
              · rw [if_neg (fun e => by rcases e with e | e; exact c4 e; exact c5 e)] at H
                have c6 : isAt s m 44 = true := by cases h : isAt s m 44 with | true => rfl | false => exact absurd h c5
                have HC : Aside0 (Calls Tryd.prog 32 #[.pointer (some ⟨w.heap.size, 0, none⟩), .int .u8 44] w9 fun e w' => Own1 w.heap.size w9 w' ∧ e = .returned (.bool true) ∧ Rdr w.heap.size w' s (m + 1)) := ⟨is_yes w.heap.size w9 s m 44 HPY.out.rd hs c6⟩
                have H' := Aside0.mk H
                have HL2 : Aside0 ((l ++ [(⟨(v : Int), (v : Int)⟩ : Sp)]).length < 1024) := ⟨by have := HL.out; omega⟩
                clear H c3 c4 c5 c6 hm
                go_wp2_with (go_at_call 32; with_reducible refine HC.out.mono ?_; rintro e w2 ⟨ho, rfl, hr⟩; have HPZ := Aside0.mk (HPY.out.own1 ho hr); clear ho hr HC HPY)
                go_roundg k1
                case measure => have := HK.out; omega
                case rel => exact ⟨m + 1, (v : Int) + 2, l ++ [(⟨(v : Int), (v : Int)⟩ : Sp)], rfl, H', ⟨by have := HK.out; omega⟩, HPZ, ⟨by have := hms.out; omega⟩, HL2⟩
def span_Parse.f (a0 : ByteArray) : Option (List Sp × Int × Int) := if a0.size ≤ 1000000 then (if a0.size = 0 then some ([], 0, 0) else parK a0.data.toList (a0.size + 1) 0 0 []) else none
theorem span_Parse.calls (a0 : ByteArray) (r1 : List Sp) (r2 r3 : Int) (w : World) (h : span_Parse.f a0 = some (r1, r2, r3)) :
    Calls Tryd.prog 13 #[.string a0] w fun e w' => ∃ v0_ : Value, e = .returned (.tuple #[v0_, .int .i64 r2, .int .i64 r3]) ∧ Kd.R k37 37 w' w.heap.size (fun _ => True) v0_ r1 ∧ Below w.heap.size w w' := by
  unfold span_Parse.f at h
  split at h
  · next hs =>
    split at h
    · next h0 =>
      have ha : a0 = ⟨#[]⟩ := by
        cases a0 with
        | mk d => simpa [ByteArray.size] using h0
      subst ha
      cases h
      go_enter Tryd.func13, Tryd.ntmps13
      go_wp2_with fail
      go_loopw [5, 7] (fun v5 v7 wi => v5 = .slice none 0 0 ∧ Aside0 (Below w.heap.size w wi)) (fun _ _ _ => 0)
      case atStart => exact ⟨rfl, ⟨below_alloc (Below.refl _ _) _⟩⟩
      case round =>
        obtain ⟨rfl, HB⟩ := hrel
        go_wp2_with fail
        go_ret3
        exact ⟨_, rfl, Kd.R_nil _ _ _ _ _, HB.out⟩
    · next h0 =>
      have hl : a0.data.toList.length = a0.size := Array.length_toList
      have := par_any a0.data.toList w (a0.size + 1) (r1, r2, r3) (by omega) (by omega) h
      rw [mkB_data] at this
      exact this
  · cases h
end Go.Proofs.YtikhoooiklkbiaaDoor.Pr
