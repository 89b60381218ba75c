import Derived.Test.YtllcfifeaacmiaaDoorPrB2
import Derived.Test.YtllcfifeaacmiaaDoorEv
import Derived.Deep.RegionHeldLaw
namespace Go.Proofs.YtllcfifeaacmiaaDoor.Pr
open Go.RowKit Go.Proofs.YtllcfifeaacmiaaDoorW.PrintWords Go.Proofs.YtllcfifeaacmiaaDoorW.PrintLast Go.Proofs.YtllcfifeaacmiaaDoorW.PrintMore
attribute [local go_sem] max2_int min2_int max_two min_two
set_option linter.unusedVariables false
set_option linter.unusedSimpArgs false

/-! ### portcullisref20.Run -/
/-- What size and tail answer, of lists. -/
structure SzT where
  sz : List UInt8 → Nat × Nat × Nat × Int
  tl : List UInt8 → Nat × Bool × Int
  sz_is : ∀ (t : List UInt8) (W : World), t.length ≤ 80000 → Calls Tryd.prog 20 #[.string (mkB t)] W fun e W' => e = .returned (.tuple #[.int .i64 ((sz t).1 : Int), .int .i64 ((sz t).2.1 : Int), .int .i64 ((sz t).2.2.1 : Int), .int .i64 (sz t).2.2.2]) ∧ Below W.heap.size W W'
  tl_is : ∀ (t : List UInt8) (W : World), t.length ≤ 80000 → Calls Tryd.prog 21 #[.string (mkB t)] W fun e W' => e = .returned (.tuple #[.int .i64 ((tl t).1 : Int), .bool (tl t).2.1, .int .i64 (tl t).2.2]) ∧ Below W.heap.size W W'
  sz_le : ∀ t, t.length ≤ 80000 → (sz t).2.2.1 ≤ t.length ∧ (sz t).2.1 ≤ 4294967296
  tl_le : ∀ t, t.length ≤ 80000 → (tl t).1 ≤ t.length
/-- How a chunk ends: the two bytes behind it. -/
def endsF (r : List UInt8) : Option (Nat × Int) :=
  match r with
  | [] => some (0, 0)
  | c :: r => if c ≠ 13 then some (1, 200) else match r with
    | [] => some (1, 0)
    | d :: _ => if d ≠ 10 then some (2, 200) else none
theorem endsF_bad1 (c : UInt8) (r : List UInt8) (h : c ≠ 13) : endsF (c :: r) = some (1, 200) := by
  unfold endsF
  simp only [if_pos h]
theorem endsF_bad2 (d : UInt8) (r : List UInt8) (h : d ≠ 10) : endsF (13 :: d :: r) = some (2, 200) := by
  unfold endsF
  simp only [ne_eq, not_true, if_false, if_pos (show ¬ d = 10 from h)]
def runS (Z : SzT) (s : List UInt8) : Nat → Nat → Nat → List UInt8 → Option (Nat × List UInt8 × Bool × Int)
  | 0, _, _, _ => none
  | f + 1, n, sum, data =>
    if (Z.sz (s.drop n)).2.2.2 ≠ 0 ∨ (Z.sz (s.drop n)).1 = 0 then some (n + (Z.sz (s.drop n)).2.2.1, data, false, (Z.sz (s.drop n)).2.2.2)
    else if 16777216 < sum + (Z.sz (s.drop n)).2.1 then some (n + (Z.sz (s.drop n)).2.2.1, data, false, 4)
    else if (Z.sz (s.drop n)).2.1 = 0 then some (n + (Z.sz (s.drop n)).2.2.1 + (Z.tl (s.drop (n + (Z.sz (s.drop n)).2.2.1))).1, data, (Z.tl (s.drop (n + (Z.sz (s.drop n)).2.2.1))).2.1, (Z.tl (s.drop (n + (Z.sz (s.drop n)).2.2.1))).2.2)
    else if s.length - (n + (Z.sz (s.drop n)).2.2.1) < (Z.sz (s.drop n)).2.1 then some (s.length, data ++ s.drop (n + (Z.sz (s.drop n)).2.2.1), false, 0)
    else match endsF (s.drop (n + (Z.sz (s.drop n)).2.2.1 + (Z.sz (s.drop n)).2.1)) with
      | some (u, e) => some (n + (Z.sz (s.drop n)).2.2.1 + (Z.sz (s.drop n)).2.1 + u, data ++ (s.drop (n + (Z.sz (s.drop n)).2.2.1)).take (Z.sz (s.drop n)).2.1, false, e)
      | none => runS Z s f (n + (Z.sz (s.drop n)).2.2.1 + (Z.sz (s.drop n)).2.1 + 2) (sum + (Z.sz (s.drop n)).2.1) (data ++ (s.drop (n + (Z.sz (s.drop n)).2.2.1)).take (Z.sz (s.drop n)).2.1)
def TkV (n : Int) (data : ByteArray) (done : Bool) (e : Int) : Array Value := #[.int .i64 n, .string data, .bool done, .int .i64 e]
structure TW (w W : World) (n : Int) (data : ByteArray) : Prop where
  ra : W.heap[w.heap.size]? = some (.cells (TkV 0 ⟨#[]⟩ false 0) 38 (0, 0))
  ta : W.heap[w.heap.size + 1]? = some (.cells (TkV n data false 0) 38 (0, 0))
  bel : Below w.heap.size w W
theorem TW.low {w W W1 : World} {n : Int} {data : ByteArray} (h : TW w W n data) (hb : Below W.heap.size W W1) : TW w W1 n data := ⟨blk_below h.ra hb, blk_below h.ta hb, below_then h.bel h.bel.size hb⟩
theorem TW.setN {w W : World} {n : Int} {data : ByteArray} (h : TW w W n data) (m : Int) : TW w (W.setCell ⟨w.heap.size + 1, 0, none⟩ (.int .i64 m)) m data := ⟨blk_far h.ra (show w.heap.size ≠ w.heap.size + 1 by omega) _, blk_put h.ta 0 _ rfl, h.bel.setCell (by simp) _⟩
theorem TW.setD {w W : World} {n : Int} {data : ByteArray} (h : TW w W n data) (m : ByteArray) : TW w (W.setCell ⟨w.heap.size + 1, 1, none⟩ (.string m)) n m := ⟨blk_far h.ra (show w.heap.size ≠ w.heap.size + 1 by omega) _, blk_put h.ta 1 _ rfl, h.bel.setCell (by simp) _⟩
theorem TW.drew {w W : World} {n : Int} {data : ByteArray} (h : TW w W n data) : TW w W.drew n data := ⟨blk_drew h.ra, blk_drew h.ta, below_drew h.bel⟩
structure RA (w W : World) : Prop where
  ra : W.heap[w.heap.size]? = some (.cells (TkV 0 ⟨#[]⟩ false 0) 38 (0, 0))
  bel : Below w.heap.size w W
theorem TW.to {w W : World} {n : Int} {data : ByteArray} (h : TW w W n data) : RA w W := ⟨h.ra, h.bel⟩
theorem RA.set {w W : World} (h : RA w W) (c : Nat) (v : Value) : RA w (W.setCell ⟨w.heap.size + 1, c, none⟩ v) := ⟨blk_far h.ra (show w.heap.size ≠ w.heap.size + 1 by omega) _, h.bel.setCell (by simp) _⟩
theorem fin_put {w W : World} (h : RA w W) (n : Int) (d : ByteArray) (dn : Bool) (e : Int) :
    ((((W.setCell ⟨w.heap.size, 0, none⟩ (.int .i64 n)).setCell ⟨w.heap.size, 1, none⟩ (.string d)).setCell ⟨w.heap.size, 2, none⟩ (.bool dn)).setCell ⟨w.heap.size, 3, none⟩ (.int .i64 e)).heap[w.heap.size]? = some (.cells (TkV n d dn e) 38 (0, 0)) ∧ Below w.heap.size w ((((W.setCell ⟨w.heap.size, 0, none⟩ (.int .i64 n)).setCell ⟨w.heap.size, 1, none⟩ (.string d)).setCell ⟨w.heap.size, 2, none⟩ (.bool dn)).setCell ⟨w.heap.size, 3, none⟩ (.int .i64 e)) :=
  ⟨blk_put (cs := #[.int .i64 n, .string d, .bool dn, .int .i64 0]) (blk_put (cs := #[.int .i64 n, .string d, .bool false, .int .i64 0]) (blk_put (cs := #[.int .i64 n, .string ⟨#[]⟩, .bool false, .int .i64 0]) (blk_put h.ra 0 _ rfl) 1 _ rfl) 2 _ rfl) 3 _ rfl, (((h.bel.setCell (Nat.le_refl _) _).setCell (Nat.le_refl _) _).setCell (Nat.le_refl _) _).setCell (Nat.le_refl _) _⟩
theorem mkB_extract (s : List UInt8) (a b : Nat) : (mkB s).extract a b = mkB ((s.take b).drop a) := by
  apply ByteArray.ext
  rw [ByteArray.data_extract]
  unfold mkB
  simp
  exact (List.drop_take ..).symm
theorem mkB_from (s : List UInt8) (a : Nat) : (mkB s).extract a (mkB s).size = mkB (s.drop a) := by
  rw [mkB_extract, mkB_size, List.take_length]
set_option maxRecDepth 100000 in
set_option maxHeartbeats 4000000 in
theorem run_any (Z : SzT) (s : List UInt8) (hs : s.length ≤ 40000) (fuel : Nat) (n0 : Int) (r : Nat × List UInt8 × Bool × Int) (h : runS Z s fuel 0 0 [] = some r) (w : World) :
    Calls Tryd.prog 15 #[.int .u8 2, .int .i64 n0, .string (mkB s)] w fun e W' => e = .returned (.agg (TkV r.1 (mkB r.2.1) r.2.2.1 r.2.2.2)) ∧ Below w.heap.size w W' := by
  have HR0 := Aside0.mk h
  have HSZ := Aside0.mk (mkB_size s)
  have HFR := Aside0.mk (mkB_from s)
  have HEX := Aside0.mk (mkB_extract s)
  obtain ⟨b, hb⟩ : ∃ b, mkB s = b := ⟨_, rfl⟩
  rw [hb] at HSZ HFR HEX ⊢
  have hbs : b.size ≤ 40000 := by rw [HSZ.out]; exact hs
  have hbi : (b.size : Int) ≤ 40000 := by omega
  clear h hb
  go_enter Tryd.func15, Tryd.ntmps15
  go_upto_block 0 with fail
  have HT0 : Aside0 (TW w ((w.alloc (.cells #[.int .i64 0, .string ⟨#[]⟩, .bool false, .int .i64 0] 38)).alloc (.cells #[.int .i64 0, .string ⟨#[]⟩, .bool false, .int .i64 0] 38)) 0 ⟨#[]⟩) := ⟨⟨blk_alloc (Go.Deep.blk_alloc_new w _) _, by have := Go.Deep.blk_alloc_new (w.alloc (.cells #[.int .i64 0, .string ⟨#[]⟩, .bool false, .int .i64 0] 38)) (.cells #[.int .i64 0, .string ⟨#[]⟩, .bool false, .int .i64 0] 38); rw [World.size_alloc] at this; exact this, below_alloc (below_alloc (Below.refl _ _) _) _⟩⟩
  generalize (w.alloc (.cells #[.int .i64 0, .string ⟨#[]⟩, .bool false, .int .i64 0] 38)).alloc (.cells #[.int .i64 0, .string ⟨#[]⟩, .bool false, .int .i64 0] 38) = W0 at HT0 ⊢
  go_wp2_with fail
  go_loopg [9] fuel (fun kq v9 wx => ∃ (n sum : Nat) (data : List UInt8), v9 = .int .i64 (sum : Int) ∧ Aside0 (runS Z s kq n sum data = some r) ∧ Aside0 (TW w wx (n : Int) (mkB data)) ∧ n ≤ b.size ∧ sum ≤ 16777216 ∧ data.length ≤ n)
  case atStart => exact ⟨0, 0, [], rfl, HR0, HT0, Nat.zero_le _, by omega, Nat.le_refl _⟩
  case round =>
    clear HR0 HT0
    obtain ⟨n, sum, data, rfl, HR, HT, hn, hsum, hdl⟩ := hrel
    cases gk with
    | zero => exact absurd HR.out (by simp [runS])
    | succ g =>
      have H := HR.out
      clear HR
      unfold runS at H
      obtain ⟨q, hq⟩ : ∃ q, Z.sz (s.drop n) = q := ⟨_, rfl⟩
      have hdl2 : (s.drop n).length ≤ 80000 := by rw [List.length_drop]; omega
      have HC := Aside0.mk (fun W => Z.sz_is (s.drop n) W hdl2)
      have hle := Z.sz_le (s.drop n) hdl2
      simp only [hq] at H HC hle
      obtain ⟨ln, kk, u, er⟩ := q
      rw [List.length_drop, ← HSZ.out] at hle
      rw [← HFR.out n] at HC
      obtain ⟨hle1, hle2⟩ := hle
      replace H := Aside0.mk H
      simp only at H HC hle1 hle2
      clear hq hdl2
      have hni : (n : Int) ≤ (b.size : Int) := by omega
      have hn0 : (0 : Int) ≤ (n : Int) := by omega
      have hub : (u : Int) ≤ 40000 := by omega
      have hb0 : wr.cell? ⟨w.heap.size + 1, 0, none⟩ = some (.int .i64 (n : Int)) := (blk_cell HT.out.ta 0).trans rfl
      have hb1 : wr.cell? ⟨w.heap.size + 1, 1, none⟩ = some (.string (mkB data)) := (blk_cell HT.out.ta 1).trans rfl
      have hg0 := blk_frozen HT.out.ta 0
      have hg1 := blk_frozen HT.out.ta 1
      go_upto_region 7 with (go_at_call 20; (with_reducible refine (HC.out _).mono ?_); rintro e w1 ⟨rfl, hb⟩; have HT1 := Aside0.mk (HT.out.low hb); clear hb hb0 hb1 hg0 hg1)
      have hb0 : w1.cell? ⟨w.heap.size + 1, 0, none⟩ = some (.int .i64 (n : Int)) := (blk_cell HT1.out.ta 0).trans rfl
      have hb1 : w1.cell? ⟨w.heap.size + 1, 1, none⟩ = some (.string (mkB data)) := (blk_cell HT1.out.ta 1).trans rfl
      have hg0 := blk_frozen HT1.out.ta 0
      have hg1 := blk_frozen HT1.out.ta 1
      go_upto_region 8 with fail
      rw [show (n : Int) + (u : Int) = ((n + u : Nat) : Int) by omega]
      have HT2 := Aside0.mk (HT1.out.setN ((n + u : Nat) : Int))
      clear HT1 hb0 hb1 hg0 hg1
      generalize w1.setCell ⟨w.heap.size + 1, 0, none⟩ (.int .i64 ((n + u : Nat) : Int)) = w2 at HT2 ⊢
      obtain ⟨m1, hm1⟩ : ∃ m1, n + u = m1 := ⟨_, rfl⟩
      rw [hm1] at HT2 H ⊢
      by_cases h1 : er ≠ 0 ∨ ln = 0
      · have H' := H.out
        rw [if_pos h1] at H'
        have HE := Aside0.mk (Option.some.inj H')
        clear H H'
        have hb0 : w2.cell? ⟨w.heap.size + 1, 0, none⟩ = some (.int .i64 (m1 : Int)) := (blk_cell HT2.out.ta 0).trans rfl
        have hb1 : w2.cell? ⟨w.heap.size + 1, 1, none⟩ = some (.string (mkB data)) := (blk_cell HT2.out.ta 1).trans rfl
        have hb2 : w2.cell? ⟨w.heap.size + 1, 2, none⟩ = some (.bool false) := (blk_cell HT2.out.ta 2).trans rfl
        have hb3 : w2.cell? ⟨w.heap.size + 1, 3, none⟩ = some (.int .i64 0) := (blk_cell HT2.out.ta 3).trans rfl
        have hg0 := blk_frozen HT2.out.ta 0
        have hg1 := blk_frozen HT2.out.ta 1
        have hg2 := blk_frozen HT2.out.ta 2
        have hg3 := blk_frozen HT2.out.ta 3
        have ha0 : w2.cell? ⟨w.heap.size, 0, none⟩ = some (.int .i64 0) := (blk_cell HT2.out.ra 0).trans rfl
        have ha1 : w2.cell? ⟨w.heap.size, 1, none⟩ = some (.string ⟨#[]⟩) := (blk_cell HT2.out.ra 1).trans rfl
        have ha2 : w2.cell? ⟨w.heap.size, 2, none⟩ = some (.bool false) := (blk_cell HT2.out.ra 2).trans rfl
        have ha3 : w2.cell? ⟨w.heap.size, 3, none⟩ = some (.int .i64 0) := (blk_cell HT2.out.ra 3).trans rfl
        have hf0 := blk_frozen HT2.out.ra 0
        have hf1 := blk_frozen HT2.out.ra 1
        have hf2 := blk_frozen HT2.out.ra 2
        have hf3 := blk_frozen HT2.out.ra 3
        by_cases h2 : er = 0
        · have e1 : (er != 0) = false := by rw [h2]; rfl
          have e2 : ((ln : Int) == 0) = true := by rcases h1 with h1 | h1; exact absurd h2 h1; rw [h1]; rfl
          clear h1 h2
          go_wp2_with fail
          (try simp only [Exit.inBlock, Exit.then])
          have HF := fin_put (HT2.out.to.set 3 (.int .i64 er)) m1 (mkB data) false er
          refine bodyPost_ret (results_cell_row rfl _ _ w.heap.size 38 (TkV m1 (mkB data) false er) (0, 0) _ rfl HF.1 Tryd.underlying38 rfl (by kernel_rfl)) rfl ?_
          exact ⟨by rw [← HE.out], HF.2⟩
        · have e1 : (er != 0) = true := bne_iff_ne.2 h2
          clear h1 h2
          go_wp2_with fail
          (try simp only [Exit.inBlock, Exit.then])
          have HF := fin_put (HT2.out.to.set 3 (.int .i64 er)) m1 (mkB data) false er
          refine bodyPost_ret (results_cell_row rfl _ _ w.heap.size 38 (TkV m1 (mkB data) false er) (0, 0) _ rfl HF.1 Tryd.underlying38 rfl (by kernel_rfl)) rfl ?_
          exact ⟨by rw [← HE.out], HF.2⟩
      · have H' := H.out
        rw [if_neg h1] at H'
        have er0 : er = 0 := Classical.byContradiction fun e => h1 (.inl e)
        have e1 : (er != 0) = false := by rw [er0]; rfl
        have e2 : ((ln : Int) == 0) = false := beq_eq_false_iff_ne.2 (fun e => h1 (.inr (by omega)))
        have hsi : (sum : Int) ≤ 16777216 := by omega
        have hki : (kk : Int) ≤ 4294967296 := by omega
        have hmb : m1 ≤ b.size := by omega
        clear h1 H er0
        by_cases h2 : 16777216 < sum + kk
        · rw [if_pos h2] at H'
          have HE := Aside0.mk (Option.some.inj H')
          have e3 : decide (16777216 < (sum : Int) + (kk : Int)) = true := decide_eq_true (by omega)
          clear H' h2
          have hb0 : w2.cell? ⟨w.heap.size + 1, 0, none⟩ = some (.int .i64 (m1 : Int)) := (blk_cell HT2.out.ta 0).trans rfl
          have hb1 : w2.cell? ⟨w.heap.size + 1, 1, none⟩ = some (.string (mkB data)) := (blk_cell HT2.out.ta 1).trans rfl
          have hb2 : w2.cell? ⟨w.heap.size + 1, 2, none⟩ = some (.bool false) := (blk_cell HT2.out.ta 2).trans rfl
          have hb3 : w2.cell? ⟨w.heap.size + 1, 3, none⟩ = some (.int .i64 0) := (blk_cell HT2.out.ta 3).trans rfl
          have hg0 := blk_frozen HT2.out.ta 0
          have hg1 := blk_frozen HT2.out.ta 1
          have hg2 := blk_frozen HT2.out.ta 2
          have hg3 := blk_frozen HT2.out.ta 3
          have ha0 : w2.cell? ⟨w.heap.size, 0, none⟩ = some (.int .i64 0) := (blk_cell HT2.out.ra 0).trans rfl
          have ha1 : w2.cell? ⟨w.heap.size, 1, none⟩ = some (.string ⟨#[]⟩) := (blk_cell HT2.out.ra 1).trans rfl
          have ha2 : w2.cell? ⟨w.heap.size, 2, none⟩ = some (.bool false) := (blk_cell HT2.out.ra 2).trans rfl
          have ha3 : w2.cell? ⟨w.heap.size, 3, none⟩ = some (.int .i64 0) := (blk_cell HT2.out.ra 3).trans rfl
          have hf0 := blk_frozen HT2.out.ra 0
          have hf1 := blk_frozen HT2.out.ra 1
          have hf2 := blk_frozen HT2.out.ra 2
          have hf3 := blk_frozen HT2.out.ra 3
          go_wp2_with fail
          (try simp only [Exit.inBlock, Exit.then])
          have HF := fin_put (HT2.out.to.set 3 (.int .i64 4)) m1 (mkB data) false 4
          refine bodyPost_ret (results_cell_row rfl _ _ w.heap.size 38 (TkV m1 (mkB data) false 4) (0, 0) _ rfl HF.1 Tryd.underlying38 rfl (by kernel_rfl)) rfl ?_
          exact ⟨by rw [← HE.out], HF.2⟩
        · rw [if_neg h2] at H'
          have e3 : decide (16777216 < (sum : Int) + (kk : Int)) = false := decide_eq_false (by omega)
          by_cases h3 : kk = 0
          · rw [if_pos h3] at H'
            have e4 : ((kk : Int) == 0) = true := beq_iff_eq.2 (by omega)
            have HC2 := Aside0.mk (fun W => Z.tl_is (s.drop m1) W (by rw [List.length_drop]; omega))
            have hle3 := Z.tl_le (s.drop m1) (by rw [List.length_drop]; omega)
            obtain ⟨q, hq⟩ : ∃ q, Z.tl (s.drop m1) = q := ⟨_, rfl⟩
            simp only [hq] at H' HC2 hle3
            obtain ⟨u2, dn, e9⟩ := q
            simp only at H' HC2 hle3
            rw [List.length_drop, ← HSZ.out] at hle3
            rw [← HFR.out m1] at HC2
            have HE := Aside0.mk (Option.some.inj H')
            have hu2 : (u2 : Int) ≤ 40000 := by omega
            have hm2 : (m1 : Int) ≤ (b.size : Int) := by omega
            have hm0 : (0 : Int) ≤ (m1 : Int) := by omega
            clear H' h2 h3 hq hle3
            have hb0 : w2.cell? ⟨w.heap.size + 1, 0, none⟩ = some (.int .i64 (m1 : Int)) := (blk_cell HT2.out.ta 0).trans rfl
            have hb1 : w2.cell? ⟨w.heap.size + 1, 1, none⟩ = some (.string (mkB data)) := (blk_cell HT2.out.ta 1).trans rfl
            have hg0 := blk_frozen HT2.out.ta 0
            have hg1 := blk_frozen HT2.out.ta 1
            go_wp2_with (go_at_call 21; (with_reducible refine (HC2.out _).mono ?_); rintro e w3 ⟨rfl, hb⟩; have HT3 := Aside0.mk (HT2.out.low hb); clear hb hb0 hb1 hg0 hg1; have hb0 : w3.cell? ⟨w.heap.size + 1, 0, none⟩ = some (.int .i64 (m1 : Int)) := (blk_cell HT3.out.ta 0).trans rfl; have hb1 : w3.cell? ⟨w.heap.size + 1, 1, none⟩ = some (.string (mkB data)) := (blk_cell HT3.out.ta 1).trans rfl; have hb2 : w3.cell? ⟨w.heap.size + 1, 2, none⟩ = some (.bool false) := (blk_cell HT3.out.ta 2).trans rfl; have hb3 : w3.cell? ⟨w.heap.size + 1, 3, none⟩ = some (.int .i64 0) := (blk_cell HT3.out.ta 3).trans rfl; have hg0 := blk_frozen HT3.out.ta 0; have hg1 := blk_frozen HT3.out.ta 1; have hg2 := blk_frozen HT3.out.ta 2; have hg3 := blk_frozen HT3.out.ta 3; have ha0 : w3.cell? ⟨w.heap.size, 0, none⟩ = some (.int .i64 0) := (blk_cell HT3.out.ra 0).trans rfl; have ha1 : w3.cell? ⟨w.heap.size, 1, none⟩ = some (.string ⟨#[]⟩) := (blk_cell HT3.out.ra 1).trans rfl; have ha2 : w3.cell? ⟨w.heap.size, 2, none⟩ = some (.bool false) := (blk_cell HT3.out.ra 2).trans rfl; have ha3 : w3.cell? ⟨w.heap.size, 3, none⟩ = some (.int .i64 0) := (blk_cell HT3.out.ra 3).trans rfl; have hf0 := blk_frozen HT3.out.ra 0; have hf1 := blk_frozen HT3.out.ra 1; have hf2 := blk_frozen HT3.out.ra 2; have hf3 := blk_frozen HT3.out.ra 3)
            rw [show (m1 : Int) + (u2 : Int) = ((m1 + u2 : Nat) : Int) by omega]
            (try simp only [Exit.inBlock, Exit.then])
            have HF := fin_put (((HT3.out.to.set 0 (.int .i64 ((m1 + u2 : Nat) : Int))).set 2 (.bool dn)).set 3 (.int .i64 e9)) ((m1 + u2 : Nat) : Int) (mkB data) dn e9
            refine bodyPost_ret (results_cell_row rfl _ _ w.heap.size 38 (TkV ((m1 + u2 : Nat) : Int) (mkB data) dn e9) (0, 0) _ rfl HF.1 Tryd.underlying38 rfl (by kernel_rfl)) rfl ?_
            exact ⟨by rw [← HE.out], HF.2⟩
          · rw [if_neg h3] at H'
            have e4 : ((kk : Int) == 0) = false := beq_eq_false_iff_ne.2 (by omega)
            have hm2 : (m1 : Int) ≤ (b.size : Int) := by omega
            have hm0 : (0 : Int) ≤ (m1 : Int) := by omega
            by_cases h4 : s.length - m1 < kk
            · rw [if_pos h4] at H'
              have HE := Aside0.mk (Option.some.inj H')
              have e5 : decide (((b.size - m1 : Nat) : Int) < (kk : Int)) = true := decide_eq_true (by rw [HSZ.out]; omega)
              clear H' h2 h3
              have hb0 : w2.cell? ⟨w.heap.size + 1, 0, none⟩ = some (.int .i64 (m1 : Int)) := (blk_cell HT2.out.ta 0).trans rfl
              have hb1 : w2.cell? ⟨w.heap.size + 1, 1, none⟩ = some (.string (mkB data)) := (blk_cell HT2.out.ta 1).trans rfl
              have hg0 := blk_frozen HT2.out.ta 0
              have hg1 := blk_frozen HT2.out.ta 1
              go_upto_region 18 with fail
              clear hb0 hb1 hg0 hg1
              rw [HFR.out m1]
              obtain ⟨rb, hrb⟩ : ∃ rb, mkB (s.drop m1) = rb := ⟨_, rfl⟩
              have hrs : rb.size = b.size - m1 := by rw [← hrb, mkB_size, List.length_drop, HSZ.out]
              obtain ⟨db, hdb⟩ : ∃ db, mkB data = db := ⟨_, rfl⟩
              have hds : db.size ≤ 40000 := by rw [← hdb, mkB_size]; omega
              rw [hrb]
              rw [hdb] at HT2
              have hb0 : w2.cell? ⟨w.heap.size + 1, 0, none⟩ = some (.int .i64 (m1 : Int)) := (blk_cell HT2.out.ta 0).trans rfl
              have hb1 : w2.cell? ⟨w.heap.size + 1, 1, none⟩ = some (.string db) := (blk_cell HT2.out.ta 1).trans rfl
              have hg0 := blk_frozen HT2.out.ta 0
              have hg1 := blk_frozen HT2.out.ta 1
              rw [if_pos (show b.size - m1 < kk by rw [HSZ.out]; exact h4), ← hrs]
              rw [← hrs] at e5
              have e5n : decide (rb.size < kk) = true := decide_eq_true (by have := of_decide_eq_true e5; omega)
              have e6 : ((rb.size : Int) == (kk : Int)) = false := beq_eq_false_iff_ne.2 (by have := of_decide_eq_true e5; omega)
              have hRES : Aside0 (m1 + rb.size = s.length ∧ db ++ rb = mkB (data ++ s.drop m1)) := ⟨⟨by rw [hrs, HSZ.out]; have := HSZ.out; omega, by rw [← hdb, ← hrb, mkB_append]⟩⟩
              have hcc : ¬ 9223372036854775807 < db.size + rb.size := by omega
              replace hcc := eq_false hcc
              clear h4 hrs
              go_region
              have HT4 := Aside0.mk ((HT2.out.setD (db ++ rb)).drew)
              clear HT2 hb0 hb1 hg0 hg1
              generalize (w2.setCell ⟨w.heap.size + 1, 1, none⟩ (.string (db ++ rb))).drew = w4 at HT4 ⊢
              have hb0 : w4.cell? ⟨w.heap.size + 1, 0, none⟩ = some (.int .i64 (m1 : Int)) := (blk_cell HT4.out.ta 0).trans rfl
              have hb1 : w4.cell? ⟨w.heap.size + 1, 1, none⟩ = some (.string (db ++ rb)) := (blk_cell HT4.out.ta 1).trans rfl
              have hb2 : w4.cell? ⟨w.heap.size + 1, 2, none⟩ = some (.bool false) := (blk_cell HT4.out.ta 2).trans rfl
              have hb3 : w4.cell? ⟨w.heap.size + 1, 3, none⟩ = some (.int .i64 0) := (blk_cell HT4.out.ta 3).trans rfl
              have hg0 := blk_frozen HT4.out.ta 0
              have hg1 := blk_frozen HT4.out.ta 1
              have hg2 := blk_frozen HT4.out.ta 2
              have hg3 := blk_frozen HT4.out.ta 3
              have ha0 : w4.cell? ⟨w.heap.size, 0, none⟩ = some (.int .i64 0) := (blk_cell HT4.out.ra 0).trans rfl
              have ha1 : w4.cell? ⟨w.heap.size, 1, none⟩ = some (.string ⟨#[]⟩) := (blk_cell HT4.out.ra 1).trans rfl
              have ha2 : w4.cell? ⟨w.heap.size, 2, none⟩ = some (.bool false) := (blk_cell HT4.out.ra 2).trans rfl
              have ha3 : w4.cell? ⟨w.heap.size, 3, none⟩ = some (.int .i64 0) := (blk_cell HT4.out.ra 3).trans rfl
              have hf0 := blk_frozen HT4.out.ra 0
              have hf1 := blk_frozen HT4.out.ra 1
              have hf2 := blk_frozen HT4.out.ra 2
              have hf3 := blk_frozen HT4.out.ra 3
              have hrb4 : (rb.size : Int) ≤ 40000 := by have := hRES.out.1; omega
              clear hcc
              go_upto_block 2 with fail
              rw [show (m1 : Int) + (rb.size : Int) = ((m1 + rb.size : Nat) : Int) by omega]
              have HT5 := Aside0.mk (HT4.out.setN ((m1 + rb.size : Nat) : Int))
              clear HT4 hb0 hb1 hb2 hb3 hg0 hg1 hg2 hg3 ha0 ha1 ha2 ha3 hf0 hf1 hf2 hf3
              generalize w4.setCell ⟨w.heap.size + 1, 0, none⟩ (.int .i64 ((m1 + rb.size : Nat) : Int)) = w5 at HT5 ⊢
              have hb0 : w5.cell? ⟨w.heap.size + 1, 0, none⟩ = some (.int .i64 ((m1 + rb.size : Nat) : Int)) := (blk_cell HT5.out.ta 0).trans rfl
              have hb1 : w5.cell? ⟨w.heap.size + 1, 1, none⟩ = some (.string (db ++ rb)) := (blk_cell HT5.out.ta 1).trans rfl
              have hb2 : w5.cell? ⟨w.heap.size + 1, 2, none⟩ = some (.bool false) := (blk_cell HT5.out.ta 2).trans rfl
              have hb3 : w5.cell? ⟨w.heap.size + 1, 3, none⟩ = some (.int .i64 0) := (blk_cell HT5.out.ta 3).trans rfl
              have hg0 := blk_frozen HT5.out.ta 0
              have hg1 := blk_frozen HT5.out.ta 1
              have hg2 := blk_frozen HT5.out.ta 2
              have hg3 := blk_frozen HT5.out.ta 3
              have ha0 : w5.cell? ⟨w.heap.size, 0, none⟩ = some (.int .i64 0) := (blk_cell HT5.out.ra 0).trans rfl
              have ha1 : w5.cell? ⟨w.heap.size, 1, none⟩ = some (.string ⟨#[]⟩) := (blk_cell HT5.out.ra 1).trans rfl
              have ha2 : w5.cell? ⟨w.heap.size, 2, none⟩ = some (.bool false) := (blk_cell HT5.out.ra 2).trans rfl
              have ha3 : w5.cell? ⟨w.heap.size, 3, none⟩ = some (.int .i64 0) := (blk_cell HT5.out.ra 3).trans rfl
              have hf0 := blk_frozen HT5.out.ra 0
              have hf1 := blk_frozen HT5.out.ra 1
              have hf2 := blk_frozen HT5.out.ra 2
              have hf3 := blk_frozen HT5.out.ra 3
              go_wp2_with fail
              go_loopw [16] (fun v16 wi => v16 = .int .i64 0 ∧ wi = w5) (fun _ _ => 0)
              case atStart => exact ⟨rfl, rfl⟩
              case round =>
                obtain ⟨rfl, rfl⟩ := hrel
                go_wp2_with fail
                (try simp only [Exit.inBlock, Exit.then])
                have HF := fin_put HT5.out.to ((m1 + rb.size : Nat) : Int) (db ++ rb) false 0
                refine bodyPost_ret (results_cell_row rfl _ _ w.heap.size 38 (TkV ((m1 + rb.size : Nat) : Int) (db ++ rb) false 0) (0, 0) _ rfl HF.1 Tryd.underlying38 rfl (by kernel_rfl)) rfl ?_
                exact ⟨by rw [← HE.out, hRES.out.1, hRES.out.2], HF.2⟩
            · rw [if_neg h4] at H'
              have e5 : decide (((b.size - m1 : Nat) : Int) < (kk : Int)) = false := decide_eq_false (by rw [HSZ.out]; omega)
              replace H' := Aside0.mk H'
              clear h2 h3
              have hb0 : w2.cell? ⟨w.heap.size + 1, 0, none⟩ = some (.int .i64 (m1 : Int)) := (blk_cell HT2.out.ta 0).trans rfl
              have hb1 : w2.cell? ⟨w.heap.size + 1, 1, none⟩ = some (.string (mkB data)) := (blk_cell HT2.out.ta 1).trans rfl
              have hg0 := blk_frozen HT2.out.ta 0
              have hg1 := blk_frozen HT2.out.ta 1
              go_upto_region 18 with fail
              clear hb0 hb1 hg0 hg1
              rw [HFR.out m1]
              obtain ⟨rb, hrb⟩ : ∃ rb, mkB (s.drop m1) = rb := ⟨_, rfl⟩
              have hrs : rb.size = b.size - m1 := by rw [← hrb, mkB_size, List.length_drop, HSZ.out]
              obtain ⟨db, hdb⟩ : ∃ db, mkB data = db := ⟨_, rfl⟩
              have hds : db.size ≤ 40000 := by rw [← hdb, mkB_size]; omega
              rw [hrb]
              rw [hdb] at HT2
              have hb0 : w2.cell? ⟨w.heap.size + 1, 0, none⟩ = some (.int .i64 (m1 : Int)) := (blk_cell HT2.out.ta 0).trans rfl
              have hb1 : w2.cell? ⟨w.heap.size + 1, 1, none⟩ = some (.string db) := (blk_cell HT2.out.ta 1).trans rfl
              have hg0 := blk_frozen HT2.out.ta 0
              have hg1 := blk_frozen HT2.out.ta 1
              rw [if_neg (show ¬ b.size - m1 < kk by rw [HSZ.out]; exact h4)]
              have hkr : kk ≤ rb.size := by rw [hrs, HSZ.out]; omega
              have hkr2 : (kk : Int) ≤ (rb.size : Int) := by omega
              have hrb4 : rb.size ≤ 40000 := by rw [hrs]; omega
              have hmk : m1 + kk ≤ b.size := by have := HSZ.out; omega
              clear h4 hrs
              have e5n : decide (kk < kk) = false := decide_eq_false (by omega)
              have hRD : Aside0 (db ++ rb.extract 0 kk = mkB (data ++ (s.drop m1).take kk)) := ⟨by rw [← hdb, ← hrb, mkB_extract, List.drop_zero, mkB_append]⟩
              have hRR : Aside0 (rb.extract kk rb.size = mkB (s.drop (m1 + kk))) := ⟨by rw [← hrb, mkB_from, List.drop_drop]⟩
              go_region
              rw [hRD.out]
              have HT4 := Aside0.mk ((HT2.out.setD (mkB (data ++ (s.drop m1).take kk))).drew)
              clear HT2 hb0 hb1 hg0 hg1
              generalize (w2.setCell ⟨w.heap.size + 1, 1, none⟩ (.string (mkB (data ++ (s.drop m1).take kk)))).drew = w4 at HT4 ⊢
              have hdl3 : (data ++ (s.drop m1).take kk).length ≤ m1 + kk := by rw [List.length_append, List.length_take]; omega
              generalize data ++ (s.drop m1).take kk = data2 at HT4 H' hdl3 ⊢
              have hb0 : w4.cell? ⟨w.heap.size + 1, 0, none⟩ = some (.int .i64 (m1 : Int)) := (blk_cell HT4.out.ta 0).trans rfl
              have hb1 : w4.cell? ⟨w.heap.size + 1, 1, none⟩ = some (.string (mkB data2)) := (blk_cell HT4.out.ta 1).trans rfl
              have hb2 : w4.cell? ⟨w.heap.size + 1, 2, none⟩ = some (.bool false) := (blk_cell HT4.out.ta 2).trans rfl
              have hb3 : w4.cell? ⟨w.heap.size + 1, 3, none⟩ = some (.int .i64 0) := (blk_cell HT4.out.ta 3).trans rfl
              have hg0 := blk_frozen HT4.out.ta 0
              have hg1 := blk_frozen HT4.out.ta 1
              have hg2 := blk_frozen HT4.out.ta 2
              have hg3 := blk_frozen HT4.out.ta 3
              have ha0 : w4.cell? ⟨w.heap.size, 0, none⟩ = some (.int .i64 0) := (blk_cell HT4.out.ra 0).trans rfl
              have ha1 : w4.cell? ⟨w.heap.size, 1, none⟩ = some (.string ⟨#[]⟩) := (blk_cell HT4.out.ra 1).trans rfl
              have ha2 : w4.cell? ⟨w.heap.size, 2, none⟩ = some (.bool false) := (blk_cell HT4.out.ra 2).trans rfl
              have ha3 : w4.cell? ⟨w.heap.size, 3, none⟩ = some (.int .i64 0) := (blk_cell HT4.out.ra 3).trans rfl
              have hf0 := blk_frozen HT4.out.ra 0
              have hf1 := blk_frozen HT4.out.ra 1
              have hf2 := blk_frozen HT4.out.ra 2
              have hf3 := blk_frozen HT4.out.ra 3
              go_upto_block 2 with fail
              rw [show (m1 : Int) + (kk : Int) = ((m1 + kk : Nat) : Int) by omega]
              have HT5 := Aside0.mk (HT4.out.setN ((m1 + kk : Nat) : Int))
              clear HT4 hb0 hb1 hb2 hb3 hg0 hg1 hg2 hg3 ha0 ha1 ha2 ha3 hf0 hf1 hf2 hf3
              generalize w4.setCell ⟨w.heap.size + 1, 0, none⟩ (.int .i64 ((m1 + kk : Nat) : Int)) = w5 at HT5 ⊢
              rw [hRR.out]
              have hmb2 : m1 + kk ≤ 40000 := by omega
              have hmb3 := hmk
              clear hmk
              obtain ⟨m2, hm2'⟩ : ∃ m2, m1 + kk = m2 := ⟨_, rfl⟩
              rw [hm2'] at HT5 H' hmb2 hdl3 hmb3 ⊢
              obtain ⟨rs, hrs'⟩ : ∃ rs, s.drop m2 = rs := ⟨_, rfl⟩
              have hrl : rs.length = b.size - m2 := by rw [← hrs', List.length_drop, HSZ.out]
              rw [hrs'] at H' ⊢
              obtain ⟨rc, hrc⟩ : ∃ rc, mkB rs = rc := ⟨_, rfl⟩
              have hrcs : rc.size = rs.length := by rw [← hrc, mkB_size]
              have hrcd : rc.data.toList = rs := by rw [← hrc, data_mkB]
              rw [hrc]
              clear hrs' hrc hRR hRD hrb hdb hds hkr hkr2 hm2'
              have HRL := Aside0.mk (And.intro hrl hrcs)
              replace hrcd := Aside0.mk hrcd
              clear hrl hrcs
              go_wp2_with fail
              go_loopw [16] (fun v16 wi => ∃ i : Nat, v16 = .int .i64 (i : Int) ∧ i ≤ 2 ∧ Aside0 (TW w wi ((m2 + i : Nat) : Int) (mkB data2)) ∧ Aside0 (i ≤ rs.length ∧ rs.take i = ([13, 10] : List UInt8).take i)) (fun v _ => 2 - (intOf v).toNat)
              case atStart => exact ⟨0, rfl, by omega, HT5, ⟨⟨Nat.zero_le _, rfl⟩⟩⟩
              case round =>
                clear HT5
                obtain ⟨i, rfl, hi, HT, HP⟩ := hrel
                rcases (by omega : i = 0 ∨ i = 1 ∨ i = 2) with rfl | rfl | rfl
                · cases rs with
                  | nil =>
                    have HE : Aside0 ((m2 + 0, data2, false, (0 : Int)) = r) := ⟨Option.some.inj H'.out⟩
                    have e7 : rc.size = 0 := HRL.out.2
                    clear H'
                    have hb0 : wr.cell? ⟨w.heap.size + 1, 0, none⟩ = some (.int .i64 ((m2 + 0 : Nat) : Int)) := (blk_cell HT.out.ta 0).trans rfl
                    have hb1 : wr.cell? ⟨w.heap.size + 1, 1, none⟩ = some (.string (mkB data2)) := (blk_cell HT.out.ta 1).trans rfl
                    have hb2 : wr.cell? ⟨w.heap.size + 1, 2, none⟩ = some (.bool false) := (blk_cell HT.out.ta 2).trans rfl
                    have hb3 : wr.cell? ⟨w.heap.size + 1, 3, none⟩ = some (.int .i64 0) := (blk_cell HT.out.ta 3).trans rfl
                    have hg0 := blk_frozen HT.out.ta 0
                    have hg1 := blk_frozen HT.out.ta 1
                    have hg2 := blk_frozen HT.out.ta 2
                    have hg3 := blk_frozen HT.out.ta 3
                    have ha0 : wr.cell? ⟨w.heap.size, 0, none⟩ = some (.int .i64 0) := (blk_cell HT.out.ra 0).trans rfl
                    have ha1 : wr.cell? ⟨w.heap.size, 1, none⟩ = some (.string ⟨#[]⟩) := (blk_cell HT.out.ra 1).trans rfl
                    have ha2 : wr.cell? ⟨w.heap.size, 2, none⟩ = some (.bool false) := (blk_cell HT.out.ra 2).trans rfl
                    have ha3 : wr.cell? ⟨w.heap.size, 3, none⟩ = some (.int .i64 0) := (blk_cell HT.out.ra 3).trans rfl
                    have hf0 := blk_frozen HT.out.ra 0
                    have hf1 := blk_frozen HT.out.ra 1
                    have hf2 := blk_frozen HT.out.ra 2
                    have hf3 := blk_frozen HT.out.ra 3
                    go_wp2_with fail
                    (try simp only [Exit.inBlock, Exit.then])
                    have HF := fin_put HT.out.to m2 (mkB data2) false 0
                    refine bodyPost_ret (results_cell_row rfl _ _ w.heap.size 38 (TkV m2 (mkB data2) false 0) (0, 0) _ rfl HF.1 Tryd.underlying38 rfl (by kernel_rfl)) rfl ?_
                    exact ⟨by rw [← HE.out] <;> rfl, HF.2⟩
                  | cons c rs2 =>
                    have hpos : 0 < rc.size := by rw [HRL.out.2]; simp
                    have hpi : decide ((rc.size : Int) ≤ 0) = false := decide_eq_false (by omega)
                    have hpn : ¬ rc.size = 0 := by omega
                    have hx : rc[0]'hpos = c := by
                      have h := Lib.data_getElem? rc 0 hpos
                      rw [hrcd.out, List.getElem?_cons_zero] at h
                      exact (Option.some.inj h).symm
                    have hb0 : wr.cell? ⟨w.heap.size + 1, 0, none⟩ = some (.int .i64 ((m2 + 0 : Nat) : Int)) := (blk_cell HT.out.ta 0).trans rfl
                    have hb1 : wr.cell? ⟨w.heap.size + 1, 1, none⟩ = some (.string (mkB data2)) := (blk_cell HT.out.ta 1).trans rfl
                    have hb2 : wr.cell? ⟨w.heap.size + 1, 2, none⟩ = some (.bool false) := (blk_cell HT.out.ta 2).trans rfl
                    have hb3 : wr.cell? ⟨w.heap.size + 1, 3, none⟩ = some (.int .i64 0) := (blk_cell HT.out.ta 3).trans rfl
                    have hg0 := blk_frozen HT.out.ta 0
                    have hg1 := blk_frozen HT.out.ta 1
                    have hg2 := blk_frozen HT.out.ta 2
                    have hg3 := blk_frozen HT.out.ta 3
                    have ha0 : wr.cell? ⟨w.heap.size, 0, none⟩ = some (.int .i64 0) := (blk_cell HT.out.ra 0).trans rfl
                    have ha1 : wr.cell? ⟨w.heap.size, 1, none⟩ = some (.string ⟨#[]⟩) := (blk_cell HT.out.ra 1).trans rfl
                    have ha2 : wr.cell? ⟨w.heap.size, 2, none⟩ = some (.bool false) := (blk_cell HT.out.ra 2).trans rfl
                    have ha3 : wr.cell? ⟨w.heap.size, 3, none⟩ = some (.int .i64 0) := (blk_cell HT.out.ra 3).trans rfl
                    have hf0 := blk_frozen HT.out.ra 0
                    have hf1 := blk_frozen HT.out.ra 1
                    have hf2 := blk_frozen HT.out.ra 2
                    have hf3 := blk_frozen HT.out.ra 3
                    by_cases hc : c = 13
                    · have e8 : ((c.toNat : Int) == 13) = true := by rw [hc]; rfl
                      have e9 : ((c.toNat : Int) != 13) = false := by rw [hc]; rfl
                      have e12 : ((c.toNat : Int) != (((⟨#[13, 10]⟩ : ByteArray)[0]'(by decide)).toNat : Int)) = false := e9
                      go_upto_region 27 with fail
                      go_upto_region 27 with fail
                      go_region
                      have HT6 := Aside0.mk ((HT.out.setN ((m2 : Int) + 1)).drew)
                      clear hb0 hb1 hb2 hb3 hg0 hg1 hg2 hg3 ha0 ha1 ha2 ha3 hf0 hf1 hf2 hf3
                      generalize (wr.setCell ⟨w.heap.size + 1, 0, none⟩ (.int .i64 ((m2 : Int) + 1))).drew = w7 at HT6 ⊢
                      rw [show (m2 : Int) + 1 = ((m2 + 1 : Nat) : Int) by omega] at HT6
                      have HP2 : Aside0 (1 ≤ (c :: rs2).length ∧ (c :: rs2).take 1 = ([13, 10] : List UInt8).take 1) := ⟨⟨by simp, by rw [hc]; rfl⟩⟩
                      go_wp2_with fail
                      all_goals (exact ⟨⟨1, by first | rfl | go_num, by omega, HT6, HP2⟩, by simp [intOf]⟩)
                    · have e8 : ((c.toNat : Int) == 13) = false := beq_eq_false_iff_ne.2 (fun e => hc (UInt8.toNat_inj.1 (Int.ofNat.inj e)))
                      have e9 : ((c.toNat : Int) != 13) = true := by rw [bne, e8]; rfl
                      have e12 : ((c.toNat : Int) != (((⟨#[13, 10]⟩ : ByteArray)[0]'(by decide)).toNat : Int)) = true := e9
                      have e10 : ¬ (c.toNat : Int) = 13 := beq_eq_false_iff_ne.1 e8
                      have e11 : ¬ c.toNat = 13 := fun e => e10 (by rw [e]; rfl)
                      have HE : Aside0 ((m2 + 1, data2, false, (200 : Int)) = r) := ⟨by have h := H'.out; rw [endsF_bad1 c rs2 hc] at h; exact Option.some.inj h⟩
                      go_upto_region 27 with fail
                      rw [show (m2 : Int) + 1 = ((m2 + 1 : Nat) : Int) by omega]
                      go_region
                      go_wp2_with fail
                      (try simp only [Exit.inBlock, Exit.then])
                      have HF := fin_put ((HT.out.setN ((m2 + 1 : Nat) : Int)).to.set 3 (.int .i64 200)) ((m2 + 1 : Nat) : Int) (mkB data2) false 200
                      refine bodyPost_ret (results_cell_row rfl _ _ w.heap.size 38 (TkV ((m2 + 1 : Nat) : Int) (mkB data2) false 200) (0, 0) _ rfl (blk_drew HF.1) Tryd.underlying38 rfl (by kernel_rfl)) rfl ?_
                      exact ⟨by rw [← HE.out], below_drew HF.2⟩
                · obtain ⟨m3, hm3⟩ : ∃ m3, m2 + 1 = m3 := ⟨_, rfl⟩
                  rw [hm3] at HT
                  cases rs with
                  | nil => exact absurd HP.out.1 (by simp)
                  | cons c rs1 =>
                    have hc : c = 13 := by have h := HP.out.2; simpa using h
                    subst hc
                    cases rs1 with
                    | nil =>
                      have HE : Aside0 ((m3, data2, false, (0 : Int)) = r) := ⟨by rw [← hm3]; exact Option.some.inj H'.out⟩
                      have e7 : rc.size = 1 := HRL.out.2
                      clear H'
                      have hb0 : wr.cell? ⟨w.heap.size + 1, 0, none⟩ = some (.int .i64 (m3 : Int)) := (blk_cell HT.out.ta 0).trans rfl
                      have hb1 : wr.cell? ⟨w.heap.size + 1, 1, none⟩ = some (.string (mkB data2)) := (blk_cell HT.out.ta 1).trans rfl
                      have hb2 : wr.cell? ⟨w.heap.size + 1, 2, none⟩ = some (.bool false) := (blk_cell HT.out.ta 2).trans rfl
                      have hb3 : wr.cell? ⟨w.heap.size + 1, 3, none⟩ = some (.int .i64 0) := (blk_cell HT.out.ta 3).trans rfl
                      have hg0 := blk_frozen HT.out.ta 0
                      have hg1 := blk_frozen HT.out.ta 1
                      have hg2 := blk_frozen HT.out.ta 2
                      have hg3 := blk_frozen HT.out.ta 3
                      have ha0 : wr.cell? ⟨w.heap.size, 0, none⟩ = some (.int .i64 0) := (blk_cell HT.out.ra 0).trans rfl
                      have ha1 : wr.cell? ⟨w.heap.size, 1, none⟩ = some (.string ⟨#[]⟩) := (blk_cell HT.out.ra 1).trans rfl
                      have ha2 : wr.cell? ⟨w.heap.size, 2, none⟩ = some (.bool false) := (blk_cell HT.out.ra 2).trans rfl
                      have ha3 : wr.cell? ⟨w.heap.size, 3, none⟩ = some (.int .i64 0) := (blk_cell HT.out.ra 3).trans rfl
                      have hf0 := blk_frozen HT.out.ra 0
                      have hf1 := blk_frozen HT.out.ra 1
                      have hf2 := blk_frozen HT.out.ra 2
                      have hf3 := blk_frozen HT.out.ra 3
                      go_wp2_with fail
                      (try simp only [Exit.inBlock, Exit.then])
                      have HF := fin_put HT.out.to m3 (mkB data2) false 0
                      refine bodyPost_ret (results_cell_row rfl _ _ w.heap.size 38 (TkV m3 (mkB data2) false 0) (0, 0) _ rfl HF.1 Tryd.underlying38 rfl (by kernel_rfl)) rfl ?_
                      exact ⟨by rw [← HE.out] <;> rfl, HF.2⟩
                    | cons d rs2 =>
                      have hpos : 1 < rc.size := by rw [HRL.out.2]; simp
                      have hpi : decide ((rc.size : Int) ≤ 1) = false := decide_eq_false (by omega)
                      have hpn : ¬ rc.size ≤ 1 := by omega
                      have hx : rc[1]'hpos = d := by
                        have h := Lib.data_getElem? rc 1 hpos
                        rw [hrcd.out, List.getElem?_cons_succ, List.getElem?_cons_zero] at h
                        exact (Option.some.inj h).symm
                      have hm3b : (m3 : Int) ≤ 40001 := by omega
                      have hb0 : wr.cell? ⟨w.heap.size + 1, 0, none⟩ = some (.int .i64 (m3 : Int)) := (blk_cell HT.out.ta 0).trans rfl
                      have hb1 : wr.cell? ⟨w.heap.size + 1, 1, none⟩ = some (.string (mkB data2)) := (blk_cell HT.out.ta 1).trans rfl
                      have hb2 : wr.cell? ⟨w.heap.size + 1, 2, none⟩ = some (.bool false) := (blk_cell HT.out.ta 2).trans rfl
                      have hb3 : wr.cell? ⟨w.heap.size + 1, 3, none⟩ = some (.int .i64 0) := (blk_cell HT.out.ta 3).trans rfl
                      have hg0 := blk_frozen HT.out.ta 0
                      have hg1 := blk_frozen HT.out.ta 1
                      have hg2 := blk_frozen HT.out.ta 2
                      have hg3 := blk_frozen HT.out.ta 3
                      have ha0 : wr.cell? ⟨w.heap.size, 0, none⟩ = some (.int .i64 0) := (blk_cell HT.out.ra 0).trans rfl
                      have ha1 : wr.cell? ⟨w.heap.size, 1, none⟩ = some (.string ⟨#[]⟩) := (blk_cell HT.out.ra 1).trans rfl
                      have ha2 : wr.cell? ⟨w.heap.size, 2, none⟩ = some (.bool false) := (blk_cell HT.out.ra 2).trans rfl
                      have ha3 : wr.cell? ⟨w.heap.size, 3, none⟩ = some (.int .i64 0) := (blk_cell HT.out.ra 3).trans rfl
                      have hf0 := blk_frozen HT.out.ra 0
                      have hf1 := blk_frozen HT.out.ra 1
                      have hf2 := blk_frozen HT.out.ra 2
                      have hf3 := blk_frozen HT.out.ra 3
                      by_cases hd : d = 10
                      · have e8 : ((d.toNat : Int) == 10) = true := by rw [hd]; rfl
                        have e9 : ((d.toNat : Int) != 10) = false := by rw [hd]; rfl
                        have e12 : ((d.toNat : Int) != (((⟨#[13, 10]⟩ : ByteArray)[1]'(by decide)).toNat : Int)) = false := e9
                        go_upto_region 27 with fail
                        go_region
                        have HT6 := Aside0.mk ((HT.out.setN ((m3 : Int) + 1)).drew)
                        clear hb0 hb1 hb2 hb3 hg0 hg1 hg2 hg3 ha0 ha1 ha2 ha3 hf0 hf1 hf2 hf3
                        generalize (wr.setCell ⟨w.heap.size + 1, 0, none⟩ (.int .i64 ((m3 : Int) + 1))).drew = w7 at HT6 ⊢
                        rw [show (m3 : Int) + 1 = ((m2 + 2 : Nat) : Int) by omega] at HT6
                        have HP2 : Aside0 (2 ≤ (13 :: d :: rs2).length ∧ (13 :: d :: rs2).take 2 = ([13, 10] : List UInt8).take 2) := ⟨⟨by simp, by rw [hd]; rfl⟩⟩
                        go_wp2_with fail
                        all_goals (exact ⟨⟨2, by first | rfl | go_num, by omega, HT6, HP2⟩, by simp [intOf]⟩)
                      · have e8 : ((d.toNat : Int) == 10) = false := beq_eq_false_iff_ne.2 (fun e => hd (UInt8.toNat_inj.1 (Int.ofNat.inj e)))
                        have e9 : ((d.toNat : Int) != 10) = true := by rw [bne, e8]; rfl
                        have e12 : ((d.toNat : Int) != (((⟨#[13, 10]⟩ : ByteArray)[1]'(by decide)).toNat : Int)) = true := e9
                        have e10 : ¬ (d.toNat : Int) = 10 := beq_eq_false_iff_ne.1 e8
                        have e11 : ¬ d.toNat = 10 := fun e => e10 (by rw [e]; rfl)
                        have HE : Aside0 ((m3 + 1, data2, false, (200 : Int)) = r) := ⟨by have h := H'.out; rw [endsF_bad2 d rs2 hd] at h; rw [← hm3]; exact Option.some.inj h⟩
                        go_upto_region 27 with fail
                        rw [show (m3 : Int) + 1 = ((m3 + 1 : Nat) : Int) by omega]
                        go_region
                        go_wp2_with fail
                        (try simp only [Exit.inBlock, Exit.then])
                        have HF := fin_put ((HT.out.setN ((m3 + 1 : Nat) : Int)).to.set 3 (.int .i64 200)) ((m3 + 1 : Nat) : Int) (mkB data2) false 200
                        refine bodyPost_ret (results_cell_row rfl _ _ w.heap.size 38 (TkV ((m3 + 1 : Nat) : Int) (mkB data2) false 200) (0, 0) _ rfl (blk_drew HF.1) Tryd.underlying38 rfl (by kernel_rfl)) rfl ?_
                        exact ⟨by rw [← HE.out], below_drew HF.2⟩
                · have HE : Aside0 (runS Z s g (m2 + 2) (sum + kk) data2 = some r) := ⟨by
                    have h := H'.out
                    cases rs with
                    | nil => exact absurd HP.out.1 (by simp)
                    | cons c rs1 => cases rs1 with
                      | nil => exact absurd HP.out.1 (by simp)
                      | cons d rs2 =>
                        have hcd : c = 13 ∧ d = 10 := by have h := HP.out.2; simpa using h
                        obtain ⟨rfl, rfl⟩ := hcd
                        exact h⟩
                  have hm22 : m2 + 2 ≤ b.size := by
                    have h1 := HP.out.1
                    have h2 := HRL.out.1
                    omega
                  have hsk : sum + kk ≤ 16777216 := by have := of_decide_eq_false e3; omega
                  clear H'
                  go_wp2_with fail
                  go_roundg g
                  case measure => omega
                  case rel => exact ⟨m2 + 2, sum + kk, data2, by first | rfl | simp, HE, HT, hm22, hsk, by omega⟩
end Go.Proofs.YtllcfifeaacmiaaDoor.Pr
