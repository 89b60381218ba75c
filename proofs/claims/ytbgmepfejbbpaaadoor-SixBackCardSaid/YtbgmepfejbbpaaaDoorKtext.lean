import Derived.Test.YtbgmepfejbbpaaaDoorSixd
import Derived.Test.YtbgmepfejbbpaaaDoorGjoi
import Derived.WalkMore
namespace Go.Proofs.YtbgmepfejbbpaaaDoor.Pr
open Go.RowKit Go.Proofs.YtbgmepfejbbpaaaDoorW.PrintWords Go.Proofs.YtbgmepfejbbpaaaDoorW.PrintLast Go.Proofs.YtbgmepfejbbpaaaDoorW.PrintMore
set_option linter.unusedVariables false
set_option linter.unusedSimpArgs false

/-! ### six.Text -/
def runZ : List Nat → Nat
  | [] => 0
  | x :: xs => if x = 0 then runZ xs + 1 else 0
def bestF : List Nat → Nat → Int → Nat → Int × Nat
  | [], _, a, m => (a, m)
  | x :: xs, i, a, m => if m < runZ (x :: xs) then bestF xs (i + 1) (i : Int) (runZ (x :: xs)) else bestF xs (i + 1) a m
def textOf (L : List Nat) (b : Int × Nat) : List UInt8 := if b.1 < 0 then joinB L else joinB (L.take b.1.toNat) ++ [58, 58] ++ joinB (L.drop (b.1.toNat + b.2))
def textF (L : List Nat) : List UInt8 := textOf L (bestF L 0 (-1) 1)
theorem runZ_le : ∀ l, runZ l ≤ l.length
  | [] => Nat.le_refl _
  | x :: xs => by
    have := runZ_le xs
    unfold runZ
    split
    · simp; omega
    · simp
theorem runZ_drop (L : List Nat) (i : Nat) (hi : i < L.length) : runZ (L.drop i) = if L[i] = 0 then runZ (L.drop (i + 1)) + 1 else 0 := by
  rw [List.drop_eq_getElem_cons hi]; rfl
theorem bestF_drop (L : List Nat) (i : Nat) (hi : i < L.length) (a : Int) (m : Nat) : bestF (L.drop i) i a m = if m < runZ (L.drop i) then bestF (L.drop (i + 1)) (i + 1) (i : Int) (runZ (L.drop i)) else bestF (L.drop (i + 1)) (i + 1) a m := by
  rw [List.drop_eq_getElem_cons hi]; rfl
theorem rowC {W : World} {b o : Nat} {M : List Nat} (hn : M.length ≤ 8) (h : ∀ j (hj : j < M.length), W.cell? ⟨b, o + j, none⟩ = some (.int .u16 (M[j] : Int))) : Kd.C (Kd.int .u16) W (some ⟨b, o, none⟩) (ints M).length (ints M) := by
  refine ⟨rfl, by rw [ints_len]; omega, fun _ => ⟨_, rfl, fun j p hp => ⟨[.int .u16 p], rfl, rfl, fun i u hu => ?_⟩⟩⟩
  have hj : j < M.length := by have := (List.getElem?_eq_some_iff.1 hp).1; rwa [ints_len] at this
  have hi : i = 0 := by have := (List.getElem?_eq_some_iff.1 hu).1; simp at this; exact this
  subst hi
  have hpe : p = (M[j] : Int) := by
    rw [ints, List.getElem?_map, List.getElem?_eq_getElem hj] at hp
    exact (Option.some.inj hp).symm
  subst hpe
  have hue : u = .int .u16 (M[j] : Int) := (Option.some.inj hu).symm
  subst hue
  rw [addr_add, show o + (j * (Kd.int .u16).sz + 0) = o + j by show o + (j * 1 + 0) = o + j; omega]
  exact h j hj
theorem R8.sub {W : World} {b o : Nat} {L : List Nat} (h : R8 W b o (pad8 L)) (hL : L.length = 8) (k n : Nat) (hk : k + n ≤ 8) : Kd.C (Kd.int .u16) W (some ⟨b, o + k, none⟩) (ints ((L.drop k).take n)).length (ints ((L.drop k).take n)) := by
  refine rowC (by simp; omega) fun j hj => ?_
  simp at hj
  rw [Nat.add_assoc, h.at_ (k + j) (by omega)]
  unfold pad8
  rw [List.getD_eq_getElem?_getD, List.getElem?_eq_getElem (by omega)]
  simp
set_option maxRecDepth 8000 in
set_option maxHeartbeats 4000000 in
theorem text_any (L : List Nat) (hL : L.length = 8) (h16 : ∀ n ∈ L, n < 65536) (w : World) (hG : WG w) :
    Calls Tryd.prog 10 #[.agg (cs8 (pad8 L)).toArray] w fun e w' => e = .returned (.string (mkB (textF L))) ∧ Below w.heap.size w w' := by
  have hA : Aside0 (R8 (w.alloc (.cells (cs8 (pad8 L)).toArray 23)) w.heap.size 0 (pad8 L)) := ⟨⟨fun i hi => by
    rw [World.cell?_alloc_new, Nat.zero_add]
    rcases (by omega : i = 0 ∨ i = 1 ∨ i = 2 ∨ i = 3 ∨ i = 4 ∨ i = 5 ∨ i = 6 ∨ i = 7) with rfl | rfl | rfl | rfl | rfl | rfl | rfl | rfl <;> rfl, fun i hi => by rw [World.frozen?_alloc_new]⟩⟩
  have hB : Aside0 (Below w.heap.size w (w.alloc (.cells (cs8 (pad8 L)).toArray 23))) := ⟨below_alloc (Below.refl _ _) _⟩
  have HG := Aside0.mk hG
  clear hG
  go_enter Tryd.func10, Tryd.ntmps10
  go_wp2_with fail
  go_step3
  go_wp2_with fail
  go_step3
  go_wp2_with fail
  generalize w.alloc (.cells (cs8 (pad8 L)).toArray 23) = W at hA hB ⊢
  go_loop [3, 4, 8] (fun v3 v4 v8 => ∃ (a : Int) (m i : Nat), v3 = .int .i64 a ∧ v4 = .int .i64 (m : Int) ∧ v8 = .int .i64 (i : Int) ∧ i ≤ 8 ∧ -1 ≤ a ∧ a ≤ 7 ∧ 1 ≤ m ∧ m ≤ 8 ∧ Aside0 (0 ≤ a → a.toNat + m ≤ 8) ∧ Hid (bestF (L.drop i) i a m = bestF L 0 (-1) 1)) (fun _ _ v8 => 8 - (intOf v8).toNat)
  case atStart => exact ⟨-1, 1, 0, rfl, rfl, rfl, by omega, by omega, by omega, by omega, by omega, ⟨fun h => absurd h (by decide)⟩, Lib.hid (by rw [List.drop_zero])⟩
  case round =>
    obtain ⟨a, m, i, rfl, rfl, rfl, hi8, ha1, ha7, hm1, hm8, HA, HR⟩ := hrel
    by_cases hi : i < 8
    · have hst := bestF_drop L i (by omega) a m
      rw [HR.out] at hst
      have HS := Lib.hid hst
      have hib : decide ((i : Int) < 8) = true := decide_eq_true (by omega)
      have hib2 : decide (i < 8) = true := decide_eq_true hi
      clear hst HR
      go_wp2_with fail
      go_loop [3, 4, 6] (fun v3 v4 v6 => ∃ n : Nat, v3 = .int .i64 a ∧ v4 = .int .i64 (m : Int) ∧ v6 = .int .i64 (n : Int) ∧ i + n ≤ 8 ∧ Hid (runZ (L.drop i) = n + runZ (L.drop (i + n)))) (fun _ _ v6 => 8 - (intOf v6).toNat)
      case atStart => exact ⟨0, rfl, rfl, rfl, by omega, Lib.hid (by simp)⟩
      case round =>
        obtain ⟨n, rfl, rfl, rfl, hn, HZ⟩ := hrel
        have hend : runZ (L.drop i) = n → ((decide ((m : Int) < (n : Int)) = true ∧ decide (m < n) = true ∧ Aside0 (bestF (L.drop (i + 1)) (i + 1) (i : Int) n = bestF L 0 (-1) 1) ∧ m < n) ∨ (decide ((m : Int) < (n : Int)) = false ∧ decide (m < n) = false ∧ Aside0 (bestF (L.drop (i + 1)) (i + 1) a m = bestF L 0 (-1) 1))) := fun e => by
          have h := HS.out
          rw [e] at h
          by_cases hmn : m < n
          · rw [if_pos hmn] at h
            exact .inl ⟨decide_eq_true (by omega), decide_eq_true hmn, ⟨h.symm⟩, hmn⟩
          · rw [if_neg hmn] at h
            exact .inr ⟨decide_eq_false (by omega), decide_eq_false hmn, ⟨h.symm⟩⟩
        by_cases h8 : i + n = 8
        · have e8 : ((i : Int) + (n : Int) == 8) = true := by rw [beq_iff_eq]; omega
          have hz : runZ (L.drop i) = n := by rw [HZ.out, h8, List.drop_of_length_le (by omega)]; rfl
          rcases hend hz with ⟨m1, m2, HS2, hmn⟩ | ⟨m1, m2, HS2⟩
          · clear hend hz HS HZ
            go_wp2_with fail
            refine ⟨⟨(i : Int), n, i + 1, rfl, rfl, rfl, by omega, by omega, by omega, by omega, by omega, ⟨fun _ => by omega⟩, Lib.hid HS2.out⟩, by simp [intOf]; omega⟩
          · clear hend hz HS HZ
            go_wp2_with fail
            refine ⟨⟨a, m, i + 1, rfl, rfl, rfl, by omega, by omega, by omega, by omega, by omega, HA, Lib.hid HS2.out⟩, by simp [intOf]; omega⟩
        · have e8 : ((i : Int) + (n : Int) == 8) = false := beq_eq_false_iff_ne.2 (by omega)
          have hcell := hA.out.at_ (i + n) (by omega)
          rw [Nat.zero_add] at hcell
          have hpd : pad8 L (i + n) = L[i + n] := by unfold pad8; rw [List.getD_eq_getElem?_getD, List.getElem?_eq_getElem (by omega)]; rfl
          rw [hpd] at hcell
          have hzr := runZ_drop L (i + n) (by omega)
          generalize L[i + n] = x at hcell hzr
          clear hpd
          by_cases hx : x = 0
          · subst hx
            rw [if_pos rfl] at hzr
            have HZ2 := Lib.hid (show runZ (L.drop i) = (n + 1) + runZ (L.drop (i + (n + 1))) by rw [HZ.out, hzr, show i + (n + 1) = i + n + 1 by omega]; omega)
            clear hzr HZ hend
            go_wp2_with fail
            refine ⟨⟨n + 1, rfl, rfl, rfl, by omega, HZ2⟩, by simp [intOf]; omega⟩
          · rw [if_neg hx] at hzr
            have hz : runZ (L.drop i) = n := by rw [HZ.out, hzr]; rfl
            have x1 : ((x : Int) == 0) = false := beq_eq_false_iff_ne.2 (by omega)
            have x2 : ¬ (x : Int) = 0 := by omega
            rcases hend hz with ⟨m1, m2, HS2, hmn⟩ | ⟨m1, m2, HS2⟩
            · clear hend hz HS HZ hzr
              go_wp2_with fail
              refine ⟨⟨(i : Int), n, i + 1, rfl, rfl, rfl, by omega, by omega, by omega, by omega, by omega, ⟨fun _ => by omega⟩, Lib.hid HS2.out⟩, by simp [intOf]; omega⟩
            · clear hend hz HS HZ hzr
              go_wp2_with fail
              refine ⟨⟨a, m, i + 1, rfl, rfl, rfl, by omega, by omega, by omega, by omega, by omega, HA, Lib.hid HS2.out⟩, by simp [intOf]; omega⟩
    · obtain rfl : i = 8 := by omega
      have hbe : bestF L 0 (-1) 1 = (a, m) := by rw [← HR.out, List.drop_of_length_le (by omega)]; rfl
      have HT : Aside0 (textF L = textOf L (a, m)) := ⟨by unfold textF; rw [hbe]⟩
      have HGW := Aside0.mk (HG.out.keep hB.out)
      have HJ : Aside0 (∀ (W1 : World) (k n : Nat), k + n ≤ 8 → Below W.heap.size W W1 → ∀ c, n ≤ c → Calls Tryd.prog 16 #[.slice (some ⟨w.heap.size, k, none⟩) n c] W1 fun e w' => e = .returned (.string (mkB (joinB ((L.drop k).take n)))) ∧ Below W1.heap.size W1 w') := ⟨fun W1 k n hkn hb1 c hc => by
        have hlt : w.heap.size < W.heap.size := by
          have := hA.out.at_ 0 (by decide)
          exact World.block_lt_of_cell? _ _ this
        have hr := (hA.out.keep hb1 hlt).sub hL k n hkn
        rw [Nat.zero_add] at hr
        have hM : ∀ x ∈ (L.drop k).take n, x < 65536 := fun x hx => h16 x (List.mem_of_mem_drop (List.mem_of_mem_take hx))
        have hlM : ((L.drop k).take n).length = n := by simp; omega
        have hjl := joinB_len _ hM
        have := six_Text_1.calls 9 (some ⟨w.heap.size, k, none⟩) c (ints ((L.drop k).take n)) _ W1 hr (by rw [ints_len]; omega) (joi_is _ (by omega) hM (by omega) 9 (Nat.le_refl _)) (W16.keep HGW.out (by exact hb1))
        rw [ints_len, hlM] at this
        exact this⟩
      have hib : decide (((8 : Nat) : Int) < 8) = false := by decide
      clear hbe HR
      by_cases ha : a < 0
      · have hab : decide (a < 0) = true := decide_eq_true ha
        have HR2 : Aside0 (textF L = joinB L) := ⟨by rw [HT.out]; unfold textOf; rw [if_pos ha]⟩
        have hJ := Aside0.mk (HJ.out W 0 8 (by omega) (Below.refl _ _) 8 (Nat.le_refl _))
        rw [List.drop_zero, List.take_of_length_le (by omega)] at hJ
        clear HT HJ
        go_wp2_with (go_at_call 16; refine hJ.out.mono ?_; rintro e w1 ⟨rfl, hb1⟩)
        simp only [Exit.noGoto_ret]
        go_wp2_with fail
        go_ret
        exact ⟨by rw [HR2.out]; rfl, below_then hB.out hB.out.size hb1⟩
      · have hab : decide (a < 0) = false := decide_eq_false ha
        obtain ⟨k, rfl⟩ := Int.eq_ofNat_of_zero_le (show 0 ≤ a by omega)
        have hkm := HA.out (by omega)
        rw [Int.toNat_natCast] at hkm
        have HR2 : Aside0 (textF L = joinB (L.take k) ++ [58, 58] ++ joinB (L.drop (k + m))) := ⟨by rw [HT.out]; unfold textOf; rw [if_neg ha]; rfl⟩
        clear HT HA
        go_upto_region 14 with (fail)
        have s1 := sl_h w.heap.size 0 k (by omega)
        obtain ⟨a2, n2, c2, s2, HJ2⟩ : ∃ (k2 n2 c2 : Nat), (∀ W, (Instr.sliceAt 23 (.pointer (some ⟨w.heap.size, 0, none⟩)) (some (.int .i64 ((k : Int) + (m : Int)))) none none).run Tryd.prog W = .ok (.slice (some ⟨w.heap.size, k2, none⟩) n2 c2) W) ∧
            Aside0 (∀ W1, Below W.heap.size W W1 → Calls Tryd.prog 16 #[.slice (some ⟨w.heap.size, k2, none⟩) n2 c2] W1 fun e w' => e = .returned (.string (mkB (joinB (L.drop (k + m))))) ∧ Below W1.heap.size W1 w') := by
          by_cases h8 : k + m = 8
          · refine ⟨0, 0, 0, fun W => ?_, ⟨fun W1 hb1 => ?_⟩⟩
            · rw [show (k : Int) + (m : Int) = 8 by omega]; exact sl_l8 _ W
            · have := HJ.out W1 0 0 (by omega) hb1 0 (Nat.le_refl _)
              rw [List.take_zero] at this
              rw [List.drop_eq_nil_of_le (by omega)]
              exact this
          · refine ⟨k + m, 8 - (k + m), 8 - (k + m), fun W => ?_, ⟨fun W1 hb1 => ?_⟩⟩
            · rw [show (k : Int) + (m : Int) = ((k + m : Nat) : Int) by omega]; exact sl_l _ _ (by omega) W
            · have := HJ.out W1 (k + m) (8 - (k + m)) (by omega) hb1 (8 - (k + m)) (Nat.le_refl _)
              rw [List.take_of_length_le (by simp; omega)] at this
              exact this
        have HJ1 : Aside0 (∀ W1, Below W.heap.size W W1 → Calls Tryd.prog 16 #[.slice (some ⟨w.heap.size, 0, none⟩) k 8] W1 fun e w' => e = .returned (.string (mkB (joinB (L.take k)))) ∧ Below W1.heap.size W1 w') := ⟨fun W1 hb1 => by
          have := HJ.out W1 0 k (by omega) hb1 8 (by omega)
          rw [List.drop_zero] at this
          exact this⟩
        have z1 : (mkB (joinB (L.take k))).size ≤ 1000 := by rw [mkB_size]; have := joinB_len (L.take k) (fun x hx => h16 x (List.mem_of_mem_take hx)); simp at this; omega
        have z2 : (mkB (joinB (L.drop (k + m)))).size ≤ 1000 := by rw [mkB_size]; have := joinB_len (L.drop (k + m)) (fun x hx => h16 x (List.mem_of_mem_drop hx)); simp at this; omega
        clear HJ
        have e1 : (mkB (joinB (L.take k)) ++ ⟨#[58, 58]⟩) ++ mkB (joinB (L.drop (k + m))) = mkB (textF L) := by
          rw [HR2.out, show (⟨#[58, 58]⟩ : ByteArray) = mkB [58, 58] from rfl, mkB_append, mkB_append]
        have E1 := Aside0.mk e1
        clear e1 HR2
        have HZ := Aside0.mk (Below.refl W.heap.size W)
        have hwr : IntKind.i64.wrap ((k : Int) + (m : Int)) = (k : Int) + (m : Int) := IntWalk.i64_in _ (by omega)
        generalize mkB (joinB (L.take k)) = t1 at HJ1 E1 z1
        generalize mkB (joinB (L.drop (k + m))) = t2 at HJ2 E1 z2
        go_region_with (first | (go_at_call 16; with_reducible refine (HJ1.out _ (by first | exact HZ.out | exact below_drew HZ.out | exact pw_below_drewN HZ.out _)).mono ?_; rintro e w1 ⟨rfl, hb1⟩; replace HZ := Aside0.mk (below_then (by first | exact HZ.out | exact below_drew HZ.out | exact pw_below_drewN HZ.out _) (by first | exact HZ.out.size | exact (below_drew HZ.out).size | simp) hb1); clear hb1) | (go_at_call 16; with_reducible refine (HJ2.out _ (by first | exact HZ.out | exact below_drew HZ.out | exact pw_below_drewN HZ.out _)).mono ?_; rintro e w2 ⟨rfl, hb2⟩; replace HZ := Aside0.mk (below_then (by first | exact HZ.out | exact below_drew HZ.out | exact pw_below_drewN HZ.out _) (by first | exact HZ.out.size | exact (below_drew HZ.out).size | simp) hb2); clear hb2))
        all_goals
          go_wp2_with fail
          simp only [Exit.noGoto_ret]
          go_wp2_with fail
          go_ret
          exact ⟨by rw [← E1.out]; rfl, below_then hB.out hB.out.size HZ.out⟩
end Go.Proofs.YtbgmepfejbbpaaaDoor.Pr
