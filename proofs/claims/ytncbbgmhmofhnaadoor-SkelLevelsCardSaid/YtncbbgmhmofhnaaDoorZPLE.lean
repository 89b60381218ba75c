import Derived.Test.YtncbbgmhmofhnaaDoorZPLB
import Derived.Test.YtncbbgmhmofhnaaDoorZPLD
import Derived.Lib.Hide
section
namespace Go.Proofs.YtncbbgmhmofhnaaDoor.Pr
open Go.RowKit Go.Proofs.YtncbbgmhmofhnaaDoorW.PrintWords Go.Proofs.YtncbbgmhmofhnaaDoorW.PrintLast Go.Proofs.YtncbbgmhmofhnaaDoorW.PrintMore
set_option linter.unusedVariables false
set_option linter.unusedSimpArgs false

theorem lev_works (W : World) (hG : WG W) : Calls Tryd.prog 8 #[] W fun e w' => e = .returned (.bool true) ∧ Aside0 (Below W.heap.size W w') := by
  obtain ⟨K, hK⟩ := works8_is
  exact (portcullislaw08_works.calls K true W (hK K (Nat.le_refl _)) hG).mono fun e w' h => ⟨h.1, ⟨h.2⟩⟩
theorem lev_valid (s : List UInt8) (b : Bool) (hs : s.length ≤ 1000000000) (hb : okB s.length s = b) (W : World) : Calls Tryd.prog 20 #[.string (mkB s)] W fun e w' => e = .returned (.bool b) ∧ Aside0 (Below W.heap.size W w') := by
  subst hb
  obtain ⟨K, hK⟩ := valid_is8 s hs
  exact (portcullisref01_Valid.calls K (mkB s) _ W (hK K (Nat.le_refl _))).mono fun e w' h => ⟨h.1, ⟨h.2⟩⟩
theorem lev_level (S : ByteArray) (x : Int) (h : skel_Level.f S = some x) (W : World) (hG : WG W) : Calls Tryd.prog 15 #[.string S] W fun e w' => e = .returned (.int .u8 x) ∧ Aside0 (Below W.heap.size W w') :=
  (skel_Level.calls S x W h hG).mono fun e w' h => ⟨h.1, ⟨h.2⟩⟩
theorem lev_scr (S : ByteArray) (l : List Int) (n : Nat) (hn : l.length = n) (h : skel_Scripts.f S = some l) (W : World) (hG : WG W) : Calls Tryd.prog 13 #[.string S] W fun e w' => ∃ A c, e = .returned (.slice A n c) ∧ Aside0 (Kd.R (Kd.int .u8) 5 w' W.heap.size (fun _ => True) (.slice A n c) l ∧ n ≤ c ∧ Kd.C (Kd.int .u8) w' A n l) ∧ Aside0 (Below W.heap.size W w') := by
  subst hn
  refine (skel_Scripts.calls S l W h hG).mono fun e w' h => ?_
  obtain ⟨v, rfl, hR, hB⟩ := h
  obtain ⟨A, c, rfl⟩ := Kd.R_slice hR
  exact ⟨A, c, rfl, ⟨hR, (Kd.R_reads' hR).2⟩, ⟨hB⟩⟩
set_option maxRecDepth 100000 in
set_option maxHeartbeats 2000000 in
theorem levels_a (S T : ByteArray) (w : World) (hG : WG w) (h : 600 < S.size) : Calls Tryd.prog 7 #[.string S, .string T] w fun e w' => e = .returned (.bool true) ∧ Below w.heap.size w w' := by
  have hz : decide ((S.size : Int) > 600) = true := decide_eq_true (by omega)
  have HG := Aside0.mk hG
  clear h hG
  go_enter Tryd.func7, Tryd.ntmps7
  go_wp2_with (go_at_call 8; (with_reducible refine (lev_works _ HG.out).mono ?_); rintro e w1 ⟨rfl, b1⟩)
  go_ret
  exact ⟨rfl, b1.out⟩
set_option maxRecDepth 100000 in
set_option maxHeartbeats 2000000 in
theorem levels_b (S T : ByteArray) (w : World) (hG : WG w) (h : S.size ≤ 600) (h2 : 600 < T.size) : Calls Tryd.prog 7 #[.string S, .string T] w fun e w' => e = .returned (.bool true) ∧ Below w.heap.size w w' := by
  have hz : decide ((S.size : Int) > 600) = false := decide_eq_false (by omega)
  have hz2 : decide ((T.size : Int) > 600) = true := decide_eq_true (by omega)
  have HG := Aside0.mk hG
  clear h hG h2
  go_enter Tryd.func7, Tryd.ntmps7
  go_wp2_with (go_at_call 8; (with_reducible refine (lev_works _ HG.out).mono ?_); rintro e w1 ⟨rfl, b1⟩)
  go_ret
  exact ⟨rfl, b1.out⟩
set_option maxRecDepth 100000 in
set_option maxHeartbeats 2000000 in
theorem levels_c (s : List UInt8) (T : ByteArray) (w : World) (hG : WG w) (h : s.length ≤ 600) (h2 : T.size ≤ 600) (hv : okB s.length s = false) : Calls Tryd.prog 7 #[.string (mkB s), .string T] w fun e w' => e = .returned (.bool true) ∧ Below w.heap.size w w' := by
  have HV := Aside0.mk (lev_valid s false (by omega) hv w)
  have hz : decide (((mkB s).size : Int) > 600) = false := decide_eq_false (by rw [mkB_size]; omega)
  have hz2 : decide ((T.size : Int) > 600) = false := decide_eq_false (by omega)
  have HG := Aside0.mk hG
  clear h hG h2 hv
  generalize mkB s = S at HV hz ⊢
  go_enter Tryd.func7, Tryd.ntmps7
  go_wp2_with (first | (go_at_call 20; (with_reducible refine HV.out.mono ?_); rintro e w1 ⟨rfl, b1⟩) | (go_at_call 8; (with_reducible refine (lev_works _ (WG.keep HG.out b1.out)).mono ?_); rintro e w2 ⟨rfl, b2⟩))
  go_ret
  exact ⟨rfl, below_step b1.out b2.out⟩
/-- All that the main way needs of the two texts. -/
structure LvS (S T ST : ByteArray) (a b c : Int) (A B M : List Int) : Prop where
  la : skel_Level.f S = some a
  lb : skel_Level.f T = some b
  lc : skel_Level.f ST = some c
  sa : skel_Scripts.f S = some A
  sb : skel_Scripts.f T = some B
  sm : skel_Scripts.f ST = some M
  ra : ∀ z ∈ A, ∃ x : Nat, z = (x : Int) ∧ x < 256
  rb : ∀ z ∈ B, ∃ x : Nat, z = (x : Int) ∧ x < 256
  mem : ∀ z ∈ M, z ∈ A ++ B
  cnt : cntU (A ++ B) = M.length
  rise : ∀ (i : Nat) (x y : Int), M[i]? = some x → M[i + 1]? = some y → x < y
/-- The array of marks, behind pre. -/
def Mks (W : World) (g : Nat) (pre : List Int) : Prop := ∃ arr : Array Value, W.heap[g]? = some (.cells arr 37) ∧ arr.size = 256 ∧ ∀ x : Nat, x < 256 → arr[x]? = some (.bool (decide ((x : Int) ∈ pre)))
theorem Mks.lt {W : World} {g : Nat} {pre : List Int} (h : Mks W g pre) : g < W.heap.size := by
  obtain ⟨arr, h1, _⟩ := h
  exact (Array.getElem?_eq_some_iff.1 h1).1
theorem Mks.cell {W : World} {g : Nat} {pre : List Int} (h : Mks W g pre) {x : Nat} (hx : x < 256) : W.cell? ⟨g, x, none⟩ = some (.bool (decide ((x : Int) ∈ pre))) := by
  obtain ⟨arr, h1, h2, h3⟩ := h
  simp only [World.cell?, h1]
  exact h3 x hx
theorem Mks.frozen {W : World} {g : Nat} {pre : List Int} (h : Mks W g pre) (x : Nat) : W.frozen? ⟨g, x, none⟩ = false := by
  obtain ⟨arr, h1, h2, h3⟩ := h
  simp [World.frozen?, h1]
theorem Mks.below {W W' : World} {g : Nat} {pre : List Int} (h : Mks W g pre) (hb : Below W.heap.size W W') : Mks W' g pre := by
  have := h.lt
  obtain ⟨arr, h1, h2, h3⟩ := h
  exact ⟨arr, (hb.block g this).trans h1, h2, h3⟩
theorem zero37 : Tryd.zeroCells37 = Array.replicate 256 (.bool false) := by kernel_rfl
theorem Mks.new (W : World) : Mks (W.alloc (.cells Tryd.zeroCells37 37)) W.heap.size [] := by
  refine ⟨_, heap_alloc_new _ _, by rw [zero37]; simp, fun x hx => ?_⟩
  rw [zero37, Array.getElem?_replicate, if_pos hx]
  simp
theorem Mks.set {W : World} {g : Nat} {pre : List Int} (h : Mks W g pre) {y : Nat} (hy : y < 256) : Mks (W.setCell ⟨g, y, none⟩ (.bool true)) g (pre ++ [(y : Int)]) := by
  obtain ⟨arr, h1, h2, h3⟩ := h
  obtain ⟨hlt, hk⟩ := Array.getElem?_eq_some_iff.1 h1
  refine ⟨arr.setIfInBounds y (.bool true), ?_, by simpa using h2, fun x hx => ?_⟩
  · show (W.heap.modify g _)[g]? = _
    rw [Array.getElem?_eq_getElem (by rw [Array.size_modify]; exact hlt), Array.getElem_modify_self, hk]
    rfl
  · rw [Array.getElem?_setIfInBounds]
    by_cases e : y = x
    · subst e
      rw [if_pos rfl, if_pos (by omega)]
      simp
    · rw [if_neg e, h3 x hx]
      have : ¬ (x : Int) = (y : Int) := by omega
      simp [this]
theorem Mks.same {W : World} {g : Nat} {pre pre' : List Int} (h : Mks W g pre) (he : ∀ z, z ∈ pre' ↔ z ∈ pre) : Mks W g pre' := by
  obtain ⟨arr, h1, h2, h3⟩ := h
  refine ⟨arr, h1, h2, fun x hx => ?_⟩
  rw [h3 x hx]
  congr 2
  rw [Bool.eq_iff_iff, decide_eq_true_eq, decide_eq_true_eq]
  exact (he _).symm
theorem cntU_le (l : List Int) : cntU l ≤ 256 := by
  have := List.countP_le_length (p := fun (x : Nat) => decide ((x : Int) ∈ l)) (l := List.range 256)
  rw [List.length_range] at this
  exact this
/-- A row of bytes' cells. -/
def RwB (W : World) (lb : Nat) (xs : List Int) : Prop := ∀ j x, xs[j]? = some x → W.cell? ⟨lb, j, none⟩ = some (.int .u8 x)
theorem RwB.below {W W' : World} {g : Nat} {xs : List Int} (h : RwB W g xs) (hb : Below W.heap.size W W') : RwB W' g xs := fun j x hj => pw_cell_below hb (h j x hj)
theorem RwB.of_R {W : World} {base n c : Nat} {ok : Nat → Prop} {A : Option Addr} {xs : List Int} (h : Kd.R (Kd.int .u8) 5 W base ok (.slice A n c) xs) (hn : 0 < xs.length) : ∃ lb, A = some ⟨lb, 0, none⟩ ∧ base ≤ lb ∧ RwB W lb xs := by
  have hC := (Kd.R_reads' h).2.2
  obtain ⟨_, cs, hO, _⟩ := h
  rcases hO.2 with ⟨e, h0⟩ | ⟨g, cap, cur, e, hb, _⟩
  · omega
  · injection e with e1 e2 e3
    refine ⟨g, e1, hb, fun j x hj => ?_⟩
    obtain ⟨ad, hA, hcell⟩ := hC.2.2 (by have : (Kd.int .u8).sz = 1 := rfl; omega)
    rw [e1] at hA
    injection hA with hA
    subst hA
    obtain ⟨c', hc1, hc2, hc3⟩ := hcell j x hj
    have hc2' : c' = [Value.int .u8 x] := hc2
    have := hc3 0 (.int .u8 x) (by rw [hc2']; rfl)
    have e4 : j * (Kd.int .u8).sz + 0 = j := by show j * 1 + 0 = j; omega
    rw [e4, Addr.add_lit, Nat.zero_add] at this
    exact this
set_option maxRecDepth 100000 in
set_option maxHeartbeats 4000000 in
theorem levels_d (S T ST : ByteArray) (hst : S ++ T = ST) (hv : ∀ W, Calls Tryd.prog 20 #[.string S] W fun e w' => e = .returned (.bool true) ∧ Aside0 (Below W.heap.size W w'))
    (hS : S.size ≤ 600) (hT : T.size ≤ 600) (a b c : Int) (hmx : max a b ≤ c) (A B M : List Int) (HL : LvS S T ST a b c A B M) (na nb nm : Nat) (hna : A.length = na) (hnb : B.length = nb) (hnm : M.length = nm) (hna2 : na ≤ 16) (hnb2 : nb ≤ 16) (hnm2 : nm ≤ 16) (w : World) (hG : WG w) :
    Calls Tryd.prog 7 #[.string S, .string T] w fun e w' => e = .returned (.bool true) ∧ Below w.heap.size w w' := by
  have HH := Aside0.mk HL
  have HV := Aside0.mk hv
  have HG := Aside0.mk hG
  have hz : decide ((S.size : Int) > 600) = false := decide_eq_false (by omega)
  have hz2 : decide ((T.size : Int) > 600) = false := decide_eq_false (by omega)
  have HA := Aside0.mk hna
  have HB := Aside0.mk hnb
  have HM := Aside0.mk hnm
  have HMX := Aside0.mk hmx
  have HSZ := Aside0.mk (show S.size + T.size ≤ 1200 by omega)
  have hlt : decide (c < max a b) = false := decide_eq_false (by omega)
  have hcat : S.size + T.size ≤ 9223372036854775807 := by omega
  have hcat2 : (9223372036854775807 < S.size + T.size) = False := eq_false (by omega)
  clear hv hG HL hna hnb hnm hmx hS hT
  go_enter Tryd.func7, Tryd.ntmps7
  go_wp2_with (first
    | (go_at_call 20; (with_reducible refine (HV.out _).mono ?_); rintro e w1 ⟨rfl, b1⟩)
    | ((fail_if_success have := b2.out); go_at_call 15; (with_reducible refine (lev_level ST c HH.out.lc _ (WG.keep HG.out b1.out)).mono ?_); rintro e w2 ⟨rfl, b2⟩; have b02 := Aside0.mk (below_step b1.out b2.out))
    | ((fail_if_success have := b3.out); go_at_call 15; (with_reducible refine (lev_level S a HH.out.la _ (WG.keep HG.out b02.out)).mono ?_); rintro e w3 ⟨rfl, b3⟩; have b03 := Aside0.mk (below_step b02.out b3.out))
    | ((fail_if_success have := b4.out); go_at_call 15; (with_reducible refine (lev_level T b HH.out.lb _ (WG.keep HG.out b03.out)).mono ?_); rintro e w4 ⟨rfl, b4⟩; have b04 := Aside0.mk (below_step b03.out b4.out))
    | ((fail_if_success have := b6.out); go_at_call 13; (with_reducible refine (lev_scr S A na HA.out HH.out.sa _ (WG.keep HG.out (below_alloc b04.out _))).mono ?_); rintro e w6 ⟨A6, c6, rfl, h6, b6⟩; have m6 := Aside0.mk ((Mks.new w4).below b6.out); have b06 := Aside0.mk (below_step (below_alloc b04.out _) b6.out))
    | ((fail_if_success have := h7.out); (with_reducible refine gate_builtin (b := .append) (xs := #[.const (.slice none 0 0), .tmp 36]) rfl ?_); at_builtin; refine Kd.R_append_rows (Kd.int .u8) (w0 := w6) w6.heap.size rfl (.const (.slice none 0 0)) (.tmp 36) 27 5 (.int .u8 0) 1 rfl Tryd.underlying27 infoB rfl (by decide) (by omega) (.slice none 0 0) [] A A6 na c6 (fun _ => True) (fun _ => False) rfl rfl (Kd.R_nil _ _ _ _ _) h6.out.2.2 (fun _ _ h => h) (fun _ h => h.elim) (fun _ _ => trivial) (Below.refl _ _) (Nat.le_refl _) (by simp; omega) ?_; intro v7 w7 ho7 hb7 hg7 hat7; rw [List.nil_append] at ho7; have h7 := Aside0.mk ho7; have b7 := Aside0.mk hb7; clear ho7 hb7 hg7 hat7; have m7 := Aside0.mk (m6.out.below b7.out); have b07 := Aside0.mk (below_step b06.out b7.out))
    | ((fail_if_success have := b8.out); go_at_call 13; (with_reducible refine (lev_scr T B nb HB.out HH.out.sb _ (WG.keep HG.out b07.out)).mono ?_); rintro e w8 ⟨A8, c8, rfl, h8, b8⟩; have m8 := Aside0.mk (m7.out.below b8.out); have b08 := Aside0.mk (below_step b07.out b8.out); have h78 := Aside0.mk (Kd.R_below h7.out b8.out); have b68 := Aside0.mk (below_step b7.out b8.out))
    | ((with_reducible refine gate_builtin (b := .append) (xs := #[.tmp 37, .tmp 39]) rfl ?_); at_builtin; refine Kd.R_append_rows (Kd.int .u8) (w0 := w6) w6.heap.size rfl (.tmp 37) (.tmp 39) 27 5 (.int .u8 0) 1 rfl Tryd.underlying27 infoB rfl (by decide) (by omega) v7 A B A8 nb c8 (fun _ => True) (fun _ => False) rfl rfl h78.out h8.out.2.2 (fun _ _ h => h) (fun _ h => h.elim) (fun _ _ => trivial) b68.out b68.out.size (by rw [HA.out]; omega) ?_; intro v9 w9 ho9 hb9 hg9 hat9; obtain ⟨A9, c9, rfl⟩ := Kd.R_slice ho9; have h9 := Aside0.mk ho9; have b9 := Aside0.mk hb9; clear ho9 hb9 hg9 hat9; have m9 := Aside0.mk (m6.out.below b9.out); have b09 := Aside0.mk (below_step b06.out b9.out)))
  have hgl := Aside0.mk (m6.out.lt)
  have hgb := Aside0.mk (b04.out.size)
  have HR := Aside0.mk (fun h => RwB.of_R h9.out h)
  have hL : Aside0 (∀ z ∈ A ++ B, ∃ x : Nat, z = (x : Int) ∧ x < 256) := ⟨fun z hz => (List.mem_append.1 hz).elim (HH.out.ra z) (HH.out.rb z)⟩
  have hC := Aside0.mk HH.out.cnt
  have hME := Aside0.mk HH.out.mem
  have hcap9 := Aside0.mk (Kd.R_reads' h9.out).2.1
  have hn32 : (A ++ B).length ≤ 32 := by rw [List.length_append, HA.out, HB.out]; omega
  clear h9 h78 h8 h7 h6 m8 m7 b68
  have hlen : (A ++ B).length = A.length + B.length := List.length_append
  generalize A ++ B = l at HR hL hC hME hcap9 hn32 hlen ⊢
  obtain ⟨n, hn⟩ : ∃ n, l.length = n := ⟨_, rfl⟩
  rw [← hlen]
  rw [hn] at hcap9 hn32 HR ⊢
  replace hn := Aside0.mk hn
  clear hlen
  generalize w4.heap.size = g at m9 m6 hgl hgb ⊢
  go_loopw [6, 8] (fun v6 v8 wr => ∃ i : Nat, v8 = .int .i64 (i : Int) ∧ i ≤ n ∧ v6 = .int .i64 ((cntU (l.take i) : Nat) : Int) ∧ Aside0 (Mks wr g (l.take i)) ∧ Aside0 (0 < n → ∃ lb, A9 = some ⟨lb, 0, none⟩ ∧ w6.heap.size ≤ lb ∧ RwB wr lb l) ∧ Aside0 (Below w.heap.size w wr)) (fun _ v8 _ => n - (intOf v8).toNat)
  case atStart => exact ⟨0, by rfl, by omega, by rw [List.take_zero]; simp [cntU], m9, ⟨fun h => HR.out h⟩, b09⟩
  case round =>
    clear HR m9 b09
    obtain ⟨i, rfl, hin, rfl, HM1, HR, HB1⟩ := hrel
    by_cases hi : i < n
    · obtain ⟨y, hy⟩ : ∃ y, l[i]? = some y := ⟨_, List.getElem?_eq_getElem (by rw [hn.out]; exact hi)⟩
      obtain ⟨lb, hlb, hlb6, hRW⟩ := HR.out (by omega)
      subst hlb
      obtain ⟨x, rfl, hx⟩ := hL.out y (List.mem_of_getElem? hy)
      have hcell := hRW i _ hy
      have hmk := HM1.out.cell hx
      have hfz := HM1.out.frozen x
      have hz : (i : Int) < (n : Int) := by omega
      have hcn := cntU_le (l.take i)
      have ht : l.take (i + 1) = l.take i ++ [(x : Int)] := by rw [List.take_add_one, hy]; rfl
      have hxn : Aside0 (x < 256) := ⟨hx⟩
      have hRW' := Aside0.mk hRW
      have hlb6' := Aside0.mk hlb6
      by_cases hmem : (x : Int) ∈ l.take i
      · rw [decide_eq_true hmem] at hmk
        have HM2 : Aside0 (Mks wr g (l.take (i + 1))) := ⟨HM1.out.same fun z => by
          rw [ht, List.mem_append, List.mem_singleton]
          exact ⟨fun h => h.elim id (fun h => by rw [h]; exact hmem), .inl⟩⟩
        have hc2 : cntU (l.take (i + 1)) = cntU (l.take i) := by rw [ht, cnt_old hmem]
        rw [← hc2] at hcn ⊢
        clear hmem ht hc2 hRW hlb6
        obtain ⟨q, hq⟩ : ∃ q, cntU (l.take (i + 1)) = q := ⟨_, rfl⟩
        rw [hq] at hcn ⊢
        replace hq := Aside0.mk hq
        go_wp2_with fail
        go_roundw
        case rel => exact ⟨i + 1, by first | rfl | go_num, by omega, by rw [hq.out], HM2, ⟨fun _ => ⟨lb, rfl, hlb6'.out, hRW'.out⟩⟩, HB1⟩
        case measure => simp [intOf]; omega
      · rw [decide_eq_false hmem] at hmk
        have HM2 : Aside0 (Mks (wr.setCell ⟨g, x, none⟩ (.bool true)) g (l.take (i + 1))) := ⟨by rw [ht]; exact HM1.out.set hx⟩
        have hc2 : cntU (l.take (i + 1)) = cntU (l.take i) + 1 := by rw [ht, cnt_new hx hmem]
        have hRW2 : Aside0 (RwB (wr.setCell ⟨g, x, none⟩ (.bool true)) lb l) := ⟨fun j z hj => by
          have hne : lb ≠ g := by have := hgl.out; omega
          have h1 := hRW'.out j z hj
          refine (World.cell?_of_block ?_).trans h1
          exact Below.heap_setCell _ _ _ lb hne⟩
        have HB2 : Aside0 (Below w.heap.size w (wr.setCell ⟨g, x, none⟩ (.bool true))) := ⟨HB1.out.setCell (p := ⟨g, x, none⟩) hgb.out _⟩
        clear hmem ht hRW hlb6
        obtain ⟨q, hq⟩ : ∃ q, cntU (l.take i) = q := ⟨_, rfl⟩
        rw [hq] at hcn hc2 ⊢
        replace hc2 := Aside0.mk hc2
        clear hq
        go_wp2_with fail
        go_roundw
        case rel => exact ⟨i + 1, by first | rfl | go_num, by omega, by rw [hc2.out]; first | rfl | go_num, HM2, ⟨fun _ => ⟨lb, rfl, hlb6'.out, hRW2.out⟩⟩, HB2⟩
        case measure => simp [intOf]; omega
    · have hz : ¬ (i : Int) < (n : Int) := by omega
      have hti : l.take i = l := List.take_of_length_le (by rw [hn.out]; omega)
      rw [hti] at HM1 ⊢
      have hcnt : cntU l = nm := by rw [hC.out, HM.out]
      rw [hcnt]
      clear hti hcnt HR
      have HMm := HM1
      go_wp2_with (go_at_call 13; (with_reducible refine (lev_scr ST M nm HM.out HH.out.sm _ (WG.keep HG.out HB1.out)).mono ?_); rintro e w10 ⟨A10, c10, rfl, h10, b10⟩; have m10 := Aside0.mk (HM1.out.below b10.out); have b010 := Aside0.mk (below_step HB1.out b10.out))
      have HR10 := Aside0.mk (fun h => RwB.of_R h10.out.1 h)
      rw [HM.out] at HR10
      have hcap10 := h10.out.2.1
      clear h10 HM1 HMm
      go_loopw [10] (fun v10 wr' => ∃ j : Nat, v10 = .int .i64 (j : Int) ∧ j ≤ nm ∧ Aside0 (Mks wr' g l) ∧ Aside0 (0 < nm → ∃ lb, A10 = some ⟨lb, 0, none⟩ ∧ RwB wr' lb M) ∧ Aside0 (Below w.heap.size w wr')) (fun v10 _ => nm - (intOf v10).toNat)
      case atStart => exact ⟨0, by rfl, by omega, m10, ⟨fun h => by obtain ⟨lb, h1, h2, h3⟩ := HR10.out h; exact ⟨lb, h1, h3⟩⟩, b010⟩
      case round =>
        clear HR10 m10 b010
        obtain ⟨j, rfl, hjn, HM1, HR1, HB2⟩ := hrel
        by_cases hj : j < nm
        · obtain ⟨y, hy⟩ : ∃ y, M[j]? = some y := ⟨_, List.getElem?_eq_getElem (by rw [HM.out]; exact hj)⟩
          obtain ⟨lb, hlb, hRW⟩ := HR1.out (by omega)
          subst hlb
          have hyl := hME.out y (List.mem_of_getElem? hy)
          obtain ⟨x, rfl, hx⟩ := hL.out y hyl
          have hcell := hRW j _ hy
          have hmk := HM1.out.cell hx
          rw [decide_eq_true hyl] at hmk
          have hz : (j : Int) < (nm : Int) := by omega
          have hdn := Aside0.mk (HM1.out)
          clear hyl
          have HRW := Aside0.mk hRW
          have fin : ∀ m, Aside0 (Mks (wr.drewN m) g l) ∧ Aside0 (0 < nm → ∃ lb', (some ⟨lb, 0, none⟩ : Option Addr) = some ⟨lb', 0, none⟩ ∧ RwB (wr.drewN m) lb' M) ∧ Aside0 (Below w.heap.size w (wr.drewN m)) := fun m =>
            ⟨⟨HM1.out.below (pw_below_drewN (Below.refl _ _) _)⟩, ⟨fun _ => ⟨lb, rfl, HRW.out.below (pw_below_drewN (Below.refl _ _) _)⟩⟩, ⟨below_step HB2.out (pw_below_drewN (Below.refl _ _) _)⟩⟩
          replace fin := Aside0.mk fin
          by_cases hj0 : j = 0
          · have e0 : (j : Int) = 0 := by omega
            rw [e0]
            have hz0 : decide ((0 : Int) > 0) = false := rfl
            have hz1 : (0 : Int) < (nm : Int) := by omega
            have hy0 : wr.cell? ⟨lb, 0, none⟩ = some (.int .u8 (x : Int)) := by rw [← hj0]; exact hcell
            clear hRW hcell hz
            go_wp2_with fail
            go_quiet (fail)
            go_wp2_with fail
            go_roundw
            case rel => exact ⟨1, by first | rfl | go_num, by omega, (fin.out _).1, (fin.out _).2.1, (fin.out _).2.2⟩
            case measure => simp [intOf]; omega
          · obtain ⟨y0, hy0⟩ : ∃ y, M[j - 1]? = some y := ⟨_, List.getElem?_eq_getElem (by rw [HM.out]; omega)⟩
            have hrs := HH.out.rise (j - 1) y0 (x : Int) hy0 (by rw [show j - 1 + 1 = j by omega]; exact hy)
            have hc0 := hRW (j - 1) _ hy0
            have hge : decide (y0 ≥ (x : Int)) = false := decide_eq_false (by omega)
            have hj1 : 1 ≤ j := by omega
            have hj2 : (1 : Int) ≤ (j : Int) := by omega
            have hj3 : 0 ≤ (j : Int) - 1 := by omega
            have hj4 : (j : Int) - 1 < (nm : Int) := by omega
            have hjp : 0 < j := by omega
            have hjq : decide (0 < j) = true := decide_eq_true hjp
            have hjr : (0 : Int) < (j : Int) := by omega
            have hjs : decide ((0 : Int) < (j : Int)) = true := decide_eq_true hjr
            have hxb : (x : Int) < 256 := by omega
            have hx64 : decide ((x : Int) < 256) = true := decide_eq_true hxb
            have hz0 : decide ((j : Int) > 0) = true := decide_eq_true (by omega)
            clear hRW hrs hj0
            go_wp2_with fail
            go_quiet (fail)
            go_wp2_with fail
            go_roundw
            case rel => exact ⟨j + 1, by first | rfl | go_num, by omega, (fin.out _).1, (fin.out _).2.1, (fin.out _).2.2⟩
            case measure => simp [intOf]; omega
        · have hz : ¬ (j : Int) < (nm : Int) := by omega
          go_wp2_with (go_at_call 8; (with_reducible refine (lev_works _ (WG.keep HG.out HB2.out)).mono ?_); rintro e w11 ⟨rfl, b11⟩)
          go_ret
          exact ⟨rfl, below_step HB2.out b11.out⟩
theorem levels_e (s t : List UInt8) (w : World) (hG : WG w) (hs : s.length ≤ 600) (ht : t.length ≤ 600) (hv : okB s.length s = true) : Calls Tryd.prog 7 #[.string (mkB s), .string (mkB t)] w fun e w' => e = .returned (.bool true) ∧ Below w.heap.size w w' := by
  have hm := lvl_more s t hv
  have l1 := setF_len 16 0 (mskB s)
  have l2 := setF_len 16 0 (mskB t)
  have l3 := setF_len 16 0 (mskB (s ++ t))
  have hlt : (s ++ t).length ≤ 1000000000 := by rw [List.length_append]; omega
  have hnat : ∀ u : List UInt8, ∀ z ∈ scrB u, ∃ x : Nat, z = (x : Int) ∧ x < 256 := fun u z hz => by
    obtain ⟨x, hx, h12⟩ := scr_nat u z hz
    exact ⟨x, hx, by omega⟩
  refine levels_d (mkB s) (mkB t) (mkB (s ++ t)) (mkB_append s t) (fun W => lev_valid s true (by omega) hv W) (by rw [mkB_size]; omega) (by rw [mkB_size]; omega) (lvlB s) (lvlB t) (lvlB (s ++ t)) (by omega) (scrB s) (scrB t) (scrB (s ++ t)) ?_ (scrB s).length (scrB t).length (scrB (s ++ t)).length rfl rfl rfl l1 l2 l3 w hG
  refine ⟨level_is s (by omega), level_is t (by omega), level_is (s ++ t) hlt, scripts_is s (by omega), scripts_is t (by omega), scripts_is (s ++ t) hlt, hnat s, hnat t, fun z hz => ?_, cnt_scr (s ++ t) _ (scr_join s t hv), fun i x y hx hy => ?_⟩
  · obtain ⟨x, rfl, _⟩ := hnat (s ++ t) z hz
    exact (scr_join s t hv x).1 hz
  · obtain ⟨h1, e1⟩ := List.getElem?_eq_some_iff.1 hx
    obtain ⟨h2, e2⟩ := List.getElem?_eq_some_iff.1 hy
    have := List.pairwise_iff_getElem.1 (scr_rise (s ++ t)) i (i + 1) h1 h2 (by omega)
    rw [← e1, ← e2]
    exact this
def portcullislaw08_SkelLevels.Pure : Prop := True
theorem portcullislaw08_SkelLevels.walk (P : portcullislaw08_SkelLevels.Pure) (a0 : ByteArray) (a1 : ByteArray) (w : World) (w0 : a0.size ≤ 140737488351232) (w1 : a1.size ≤ 140737488351232) (hG : WG w) :
    Calls Tryd.prog 7 #[.string a0, .string a1] w fun e w' => e = .returned (.bool true) ∧ Below w.heap.size w w' := by
  have z0 := mkB_size a0.data.toList
  have z1 := mkB_size a1.data.toList
  rw [mkB_data] at z0 z1
  by_cases h : 600 < a0.size
  · exact levels_a a0 a1 w hG h
  · by_cases h2 : 600 < a1.size
    · exact levels_b a0 a1 w hG (by omega) h2
    · cases hv : okB a0.data.toList.length a0.data.toList with
      | false =>
        have := levels_c a0.data.toList a1 w hG (by omega) (by omega) hv
        rw [mkB_data] at this
        exact this
      | true =>
        have := levels_e a0.data.toList a1.data.toList w hG (by omega) (by omega) hv
        rw [mkB_data, mkB_data] at this
        exact this
end Go.Proofs.YtncbbgmhmofhnaaDoor.Pr
end

section
namespace Go.Proofs.YtncbbgmhmofhnaaDoor.Pure
open Go.RowKit Go.Proofs.YtncbbgmhmofhnaaDoor.Pr

theorem SkelLevels : portcullislaw08_SkelLevels.Pure := trivial
end Go.Proofs.YtncbbgmhmofhnaaDoor.Pure
end
