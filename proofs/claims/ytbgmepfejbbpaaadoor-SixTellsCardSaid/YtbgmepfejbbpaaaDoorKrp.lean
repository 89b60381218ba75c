import Derived.Test.YtbgmepfejbbpaaaDoorKpie
import Derived.Test.YtbgmepfejbbpaaaDoorGscan
import Derived.Test.YtbgmepfejbbpaaaDoorSixd
namespace Go.Proofs.YtbgmepfejbbpaaaDoor.Pr
open Go.RowKit Go.Proofs.YtbgmepfejbbpaaaDoorW.PrintWords Go.Proofs.YtbgmepfejbbpaaaDoorW.PrintLast Go.Proofs.YtbgmepfejbbpaaaDoorW.PrintMore
set_option linter.unusedVariables false
set_option linter.unusedSimpArgs false

/-! ### The reference's Parse -/
/-- Its two arrays. -/
structure FW (w W : World) (h : Nat → Nat) : Prop where
  r0 : R8 W w.heap.size 0 fun _ => 0
  ar : R8 W (w.heap.size + 1) 0 h
  lt : w.heap.size + 1 < W.heap.size
  bel : Below w.heap.size w W
theorem FW.keep {w W W1 : World} {h : Nat → Nat} (c : FW w W h) (hb : Below W.heap.size W W1) : FW w W1 h :=
  have hlt := c.lt
  ⟨c.r0.keep hb (by omega), c.ar.keep hb hlt, Nat.lt_of_lt_of_le hlt hb.size, below_step c.bel hb⟩
theorem FW.set {w W : World} {h : Nat → Nat} (c : FW w W h) (i : Nat) (hi : i < 8) (v : Nat) : FW w (W.setCell ⟨w.heap.size + 1, i, none⟩ (.int .u16 (v : Int))) (upd h i v) := by
  refine ⟨⟨fun j hj => ?_, fun j hj => by rw [World.frozen?_setCell]; exact c.r0.fr j hj⟩, ⟨fun j hj => ?_, fun j hj => by rw [World.frozen?_setCell]; exact c.ar.fr j hj⟩, by simpa using c.lt, c.bel.setCell (by simp only; omega) _⟩
  · rw [World.cell?_setCell_other _ _ _ _ (by intro e; have := congrArg Addr.block e; simp only at this; omega)]; exact c.r0.at_ j hj
  · have := c.ar.at_ j hj
    rw [Nat.zero_add] at this ⊢
    unfold upd
    split
    · next e => subst e; rw [set_same this]
    · rw [set_other (by omega)]; exact this
theorem FW.start (w : World) : FW w ((w.alloc (.cells #[.int .u16 0, .int .u16 0, .int .u16 0, .int .u16 0, .int .u16 0, .int .u16 0, .int .u16 0, .int .u16 0] 23)).alloc (.cells #[.int .u16 0, .int .u16 0, .int .u16 0, .int .u16 0, .int .u16 0, .int .u16 0, .int .u16 0, .int .u16 0] 23)) fun _ => 0 := by
  have e : w.heap.size + 1 = (w.alloc (.cells #[.int .u16 0, .int .u16 0, .int .u16 0, .int .u16 0, .int .u16 0, .int .u16 0, .int .u16 0, .int .u16 0] 23)).heap.size := by simp
  refine ⟨⟨fun i hi => ?_, fun i hi => ?_⟩, ⟨fun i hi => ?_, fun i hi => ?_⟩, by simp, ((Below.refl _ w).alloc (Nat.le_refl _) _).alloc (by simp) _⟩
  · rw [World.cell?_alloc_lt _ _ _ (by simp), World.cell?_alloc_new]
    rcases (by omega : i = 0 ∨ i = 1 ∨ i = 2 ∨ i = 3 ∨ i = 4 ∨ i = 5 ∨ i = 6 ∨ i = 7) with rfl | rfl | rfl | rfl | rfl | rfl | rfl | rfl <;> rfl
  · rw [World.frozen?_alloc_old _ _ _ (by simp), World.frozen?_alloc_new]
  · rw [e, World.cell?_alloc_new]
    rcases (by omega : i = 0 ∨ i = 1 ∨ i = 2 ∨ i = 3 ∨ i = 4 ∨ i = 5 ∨ i = 6 ∨ i = 7) with rfl | rfl | rfl | rfl | rfl | rfl | rfl | rfl <;> rfl
  · rw [e, World.frozen?_alloc_new]
/-- A row of pieces, made behind the arrays. -/
def RowA (B : Nat) (W : World) (A : Option Addr) (l : List Nat) : Prop := 0 < l.length → ∃ g, A = some ⟨g, 0, none⟩ ∧ B ≤ g ∧ g < W.heap.size ∧ ∀ (i : Nat) (hi : i < l.length), W.cell? ⟨g, i, none⟩ = some (.int .u16 (l[i] : Int))
theorem RowA.keep {B : Nat} {W W1 : World} {A : Option Addr} {l : List Nat} (h : RowA B W A l) (hb : Below W.heap.size W W1) : RowA B W1 A l := fun h0 => by
  obtain ⟨g, e, h1, h2, h3⟩ := h h0
  exact ⟨g, e, h1, Nat.lt_of_lt_of_le h2 hb.size, fun i hi => by rw [← h3 i hi]; unfold World.cell?; rw [hb.block _ h2]⟩
theorem RowA.set {B : Nat} {W : World} {A : Option Addr} {l : List Nat} (h : RowA B W A l) (k i : Nat) (hk : k < B) (v : Value) : RowA B (W.setCell ⟨k, i, none⟩ v) A l := fun h0 => by
  obtain ⟨g, e, h1, h2, h3⟩ := h h0
  exact ⟨g, e, h1, by simpa using h2, fun i hi => by rw [World.cell?_setCell_other _ _ _ _ (by intro e; cases e; omega)]; exact h3 i hi⟩
theorem RowA.low {B B' : Nat} {W : World} {A : Option Addr} {l : List Nat} (h : RowA B W A l) (hb : B' ≤ B) : RowA B' W A l := fun h0 => by
  obtain ⟨g, e, h1, h2, h3⟩ := h h0
  exact ⟨g, e, Nat.le_trans hb h1, h2, h3⟩
theorem row_of {w : World} {base : Nat} {v : Value} {l : List Nat} (h : Kd.R (Kd.int .u16) 22 w base (fun _ => True) v (ints l)) : ∃ A c, v = .slice A l.length c ∧ RowA base w A l := by
  obtain ⟨A, c, rfl, hc, hC⟩ := Kd.R_reads h
  rw [ints_len] at hc hC
  refine ⟨A, c, by rw [ints_len], fun h0 => ?_⟩
  have ho := Kd.own_of_R h
  rcases ho.2 with ⟨_, e⟩ | ⟨g, cap, cur, e, hb, hg, _⟩
  · rw [ints_len] at e
    omega
  · injection e with e1 e2 e3
    subst e1
    refine ⟨g, rfl, hb, (Array.getElem?_eq_some_iff.1 hg).1, fun i hi => ?_⟩
    obtain ⟨ad, e, hx⟩ := Kd.at_int hC (i : Int) (by omega) (by omega)
    cases e
    rw [Int.toNat_natCast, addr_add, Nat.zero_add, rd_ints l i hi] at hx
    exact hx
def oL (o : Option (List Nat)) : List Nat := match o with | none => [] | some l => l
theorem piecall (s : List UInt8) (last : Bool) (hs : s.length ≤ 2147483648) (W : World) : Calls Tryd.prog 15 #[.string (mkB s), .bool last] W fun e w' => ∃ A c, e = .returned (.tuple #[.slice A (oL (piF s last)).length c, .bool (piF s last).isSome]) ∧ RowA W.heap.size w' A (oL (piF s last)) ∧ Below W.heap.size W w' := by
  refine (pie_any s last W hs).mono ?_
  rintro e w' ⟨hb, v0, rfl, hr⟩
  cases h : piF s last with
  | none =>
    rw [h] at hr
    obtain ⟨A, c, rfl, hR⟩ := row_of (l := []) hr
    exact ⟨A, c, rfl, hR, hb⟩
  | some l =>
    rw [h] at hr
    obtain ⟨A, c, rfl, hR⟩ := row_of (l := l) hr
    exact ⟨A, c, rfl, hR, hb⟩
theorem sl_take (s : List UInt8) (k : Nat) (hk : k ≤ s.length) (w : World) : (Instr.slice 9 (.string (mkB s)) none (some (.int .i64 (k : Int))) none).run Tryd.prog w = .ok (.string (mkB (s.take k))) w := by
  rw [run_slice_string_h w _ _ Tryd.underlying9 .i64 (k : Int) (by omega) (by rw [mkB_size]; omega), Int.toNat_natCast, ext_mkB]
  simp
theorem lay_step (h : Nat → Nat) (o : Nat) (l : List Nat) (i : Nat) (hi : i < l.length) : upd (lay h o (l.take i)) (o + i) l[i] = lay h o (l.take (i + 1)) := by
  funext j
  unfold upd lay
  rw [List.length_take, List.length_take, Nat.min_eq_left (by omega), Nat.min_eq_left (by omega)]
  by_cases hj : j = o + i
  · subst hj
    rw [if_pos rfl, if_pos (by omega), show o + i - o = i by omega, List.getD_eq_getElem?_getD, List.getElem?_take, if_pos (by omega), List.getElem?_eq_getElem hi]
    rfl
  · rw [if_neg hj]
    by_cases hc : o ≤ j ∧ j < o + i
    · rw [if_pos hc, if_pos (by omega), List.getD_eq_getElem?_getD, List.getD_eq_getElem?_getD, List.getElem?_take, List.getElem?_take, if_pos (by omega), if_pos (by omega)]
    · rw [if_neg hc, if_neg (by omega)]
theorem lay_nil (h : Nat → Nat) (o : Nat) : lay h o [] = h := by
  funext j
  unfold lay
  rw [if_neg (by simp)]
theorem lay_eight (l : List Nat) (hl : l.length = 8) : cs8 (lay (fun _ => 0) 0 l) = cs8 (pad8 l) := cs8_congr fun i hi => by
  unfold lay pad8
  rw [if_pos ⟨Nat.zero_le _, by omega⟩, Nat.sub_zero]
theorem lay_gap (x y : List Nat) (h : x.length + y.length ≤ 8) : cs8 (lay (lay (fun _ => 0) 0 x) (8 - y.length) y) = cs8 (pad8 (x ++ List.replicate (8 - (x.length + y.length)) 0 ++ y)) := cs8_congr fun i hi => by
  unfold lay pad8
  rw [List.getD_eq_getElem?_getD, List.getD_eq_getElem?_getD, List.getD_eq_getElem?_getD, List.append_assoc, List.getElem?_append]
  by_cases h1 : i < x.length
  · rw [if_neg (by omega), if_pos (by omega), if_pos h1, Nat.sub_zero]
  · rw [if_neg h1, List.getElem?_append, List.length_replicate]
    by_cases h2 : i - x.length < 8 - (x.length + y.length)
    · rw [if_neg (by omega), if_neg (by omega), if_pos h2, List.getElem?_replicate, if_pos h2]; rfl
    · rw [if_pos (by omega), if_neg h2]
      congr 2
      omega
theorem piL_len : ∀ (l : List (List UInt8)) (last : Bool) (t : List Nat), piL l last = some t → t.length ≤ l.length + 1
  | [], _, t, h => by cases h; simp
  | p :: l, last, t, h => by
    unfold piL at h
    split at h
    · split at h
      · next d hd => have := rdotF_two hd; cases h; simp; omega
      · split at h
        · cases h
        · cases h; simp
    · split at h
      · cases h
      · split at h
        · cases h
        · next t2 ht2 =>
          have := piL_len l last t2 ht2
          cases h; simp; omega
theorem piF_len (s : List UInt8) (last : Bool) (t : List Nat) (h : piF s last = some t) : t.length ≤ s.length + 2 := by
  unfold piF at h
  split at h
  · cases h; simp
  · have := piL_len _ _ _ h
    have := pcs_length_le 58 s
    omega
def RpQ (o : Option (List Nat)) (e : Ending) : Prop := match o with | none => e = .returned (.tuple #[.agg (cs8 fun _ => 0).toArray, .bool false]) | some a => e = .returned (.tuple #[.agg (cs8 (pad8 a)).toArray, .bool true])
set_option maxRecDepth 8000 in
set_option maxHeartbeats 8000000 in
theorem rp_any (s : List UInt8) (w : World) (hs : s.length ≤ 2147483648) :
    Calls Tryd.prog 9 #[.string (mkB s)] w fun e w' => Below w.heap.size w w' ∧ RpQ (refA s) e := by
  have HF := Aside0.mk (FW.start w)
  go_enter Tryd.func9, Tryd.ntmps9
  go_upto_block 0 with (fail)
  generalize (w.alloc (.cells #[.int .u16 0, .int .u16 0, .int .u16 0, .int .u16 0, .int .u16 0, .int .u16 0, .int .u16 0, .int .u16 0] 23)).alloc (.cells #[.int .u16 0, .int .u16 0, .int .u16 0, .int .u16 0, .int .u16 0, .int .u16 0, .int .u16 0, .int .u16 0] 23) = W at HF ⊢
  have hsz := mkB_size s
  go_wp2_with fail
  go_loop [5, 6] (fun v5 v6 => ∃ (c : Int) (i : Nat), v5 = .int .i64 c ∧ v6 = .int .i64 (i : Int) ∧ i ≤ s.length ∧ -1 ≤ c ∧ c ≤ 2147483648 ∧ Aside0 (ScanP s c i)) (fun _ v6 => s.length - (intOf v6).toNat)
  case atStart => exact ⟨-1, 0, rfl, rfl, Nat.zero_le _, by omega, by omega, ⟨ScanP.start s⟩⟩
  case round =>
    obtain ⟨c, i, rfl, rfl, hi8, hc1, hc2, HS⟩ := hrel
    by_cases hi : i + 1 < s.length
    · have k1 : decide ((i : Int) + 1 < ((mkB s).size : Int)) = true := decide_eq_true (by omega)
      have k2 : decide (i + 1 < (mkB s).size) = true := decide_eq_true (by omega)
      have x1 := idx_mkB s i (by omega)
      have x2 : ∀ w, (Instr.index 9 (.string (mkB s)) (.int .i64 ((i : Int) + 1))).run Tryd.prog w = .ok (.int .u8 (s[i + 1].toNat : Int)) w := fun w => by
        rw [show (i : Int) + 1 = ((i + 1 : Nat) : Int) by omega]
        exact idx_mkB s (i + 1) hi w
      have hD := D2_at hi
      generalize s[i] = b0 at x1 hD
      generalize s[i + 1] = b1 at x2 hD
      by_cases h0 : b0 = 58
      · have c0 : ((b0.toNat : Int) == 58) = true := by rw [h0]; rfl
        by_cases h1 : b1 = 58
        · have c1 : ((b1.toNat : Int) == 58) = true := by rw [h1]; rfl
          have hd := hD.2 ⟨h0, h1⟩
          by_cases hcn : 0 ≤ c
          · have d1 : decide (0 ≤ c) = true := decide_eq_true hcn
            have HN := Aside0.mk (HS.out.two hcn hd)
            clear hd hD h0 h1
            go_wp2_with (first | (with_reducible refine wpList_load_mid rfl 23 _ rfl (w.heap.size + 1) 0 rfl (cs8 fun _ => 0) _ HF.out.ar.range Tryd.underlying23 rfl (info8c _) ?_) | (with_reducible refine wpList_store_mid rfl 23 _ _ rfl w.heap.size 0 (cs8 fun _ => 0).toArray rfl rfl (th_8 HF.out.r0 _) (info8a _) (one8 _) ?_))
            refine bodyPost_ret (v := .tuple #[.agg (cs8 fun _ => 0).toArray, .bool false]) (results_ct (g := w.heap.size) (fn := Tryd.f9) (p := 2) (u := 3) rfl _ _ (cs8 fun _ => 0) _ (by simp [Act.put]) (HF.out.r0.store _) Tryd.underlying23 rfl (info8c _) (by simp [Act.put])) rfl ⟨below_cells (Nat.le_refl _) _ _ HF.out.bel, by rw [HN.out]; rfl⟩
          · have d1 : decide (0 ≤ c) = false := decide_eq_false hcn
            have HS2 := Aside0.mk (HS.out.yes (by omega) hd)
            clear hd hD h0 h1
            go_wp2_with fail
            exact ⟨⟨(i : Int), i + 1, rfl, by go_num, by omega, by omega, by omega, HS2⟩, by simp [intOf]; omega⟩
        · have c1 : ((b1.toNat : Int) == 58) = false := beq_eq_false_iff_ne.2 fun e => h1 (UInt8.toNat_inj.1 (by show b1.toNat = 58; omega))
          have HS2 := Aside0.mk (HS.out.no fun e => h1 (hD.1 e).2)
          clear hD h0 h1
          go_wp2_with fail
          exact ⟨⟨c, i + 1, rfl, by go_num, by omega, by omega, by omega, HS2⟩, by simp [intOf]; omega⟩
      · have c0 : ((b0.toNat : Int) == 58) = false := beq_eq_false_iff_ne.2 fun e => h0 (UInt8.toNat_inj.1 (by show b0.toNat = 58; omega))
        have HS2 := Aside0.mk (HS.out.no fun e => h0 (hD.1 e).1)
        clear hD h0
        go_wp2_with fail
        exact ⟨⟨c, i + 1, rfl, by go_num, by omega, by omega, by omega, HS2⟩, by simp [intOf]; omega⟩
    · have k1 : decide ((i : Int) + 1 < ((mkB s).size : Int)) = false := decide_eq_false (by omega)
      have k2 : decide (i + 1 < (mkB s).size) = false := decide_eq_false (by omega)
      rcases HS.out.fin (by omega) with ⟨rfl, hd⟩ | ⟨k, rfl, hk, hd⟩
      · have HC := Aside0.mk (fun W => piecall s true hs W)
        have hRA : refA s = match piF s true with | none => none | some l => if l.length = 8 then some l else none := by unfold refA; rw [hd]; rfl
        clear hd HS
        cases hp : piF s true with
        | none =>
          rw [hp] at HC hRA
          have HR := Aside0.mk hRA
          clear hRA hp
          simp only [oL, Option.isSome] at HC
          go_wp2_with (first | (go_at_call 15; with_reducible refine (HC.out _).mono ?_; rintro e w2 ⟨A, cp, rfl, hrow, hb2⟩; replace HF := Aside0.mk (HF.out.keep hb2); clear hb2; replace hrow := Aside0.mk hrow) | (with_reducible refine wpList_load_mid rfl 23 _ rfl (w.heap.size + 1) 0 rfl (cs8 fun _ => 0) _ HF.out.ar.range Tryd.underlying23 rfl (info8c _) ?_) | (with_reducible refine wpList_store_mid rfl 23 _ _ rfl w.heap.size 0 (cs8 fun _ => 0).toArray rfl rfl (th_8 HF.out.r0 _) (info8a _) (one8 _) ?_))
          refine bodyPost_ret (v := .tuple #[.agg (cs8 fun _ => 0).toArray, .bool false]) (results_ct (g := w.heap.size) (fn := Tryd.f9) (p := 2) (u := 3) rfl _ _ (cs8 fun _ => 0) _ (by simp [Act.put]) (HF.out.r0.store _) Tryd.underlying23 rfl (info8c _) (by simp [Act.put])) rfl ⟨below_cells (Nat.le_refl _) _ _ HF.out.bel, by rw [HR.out]; rfl⟩
        | some l =>
          rw [hp] at HC hRA
          simp only [oL, Option.isSome] at HC
          clear hp
          by_cases h8 : l.length = 8
          · have e8 : ((l.length : Int) == 8) = true := by rw [h8]; rfl
            have e8' : ((l.length : Int) = 8) := by omega
            simp only at hRA
            rw [if_pos h8] at hRA
            have HR := Aside0.mk hRA
            clear hRA
            have HF0 : Aside0 (w.heap.size + 2 ≤ W.heap.size) := ⟨HF.out.lt⟩
            go_upto_block 2 with ((go_at_call 15; with_reducible refine (HC.out _).mono ?_; rintro e w2 ⟨A, cp, rfl, hrow, hb2⟩; replace HF := Aside0.mk (HF.out.keep hb2); replace hrow := Aside0.mk (hrow.low (show w.heap.size + 2 ≤ _ from HF0.out)); clear hb2))
            have hF1 : Aside0 (FW w w2 (lay (fun _ => 0) 0 (l.take 0))) := ⟨by rw [List.take_zero, lay_nil]; exact HF.out⟩
            clear HF HC e8 e8' HF0
            go_wp2_with fail
            go_loopw [9] (fun v9 wx => ∃ i : Nat, v9 = .int .i64 (i : Int) ∧ i ≤ 8 ∧ Aside0 (FW w wx (lay (fun _ => 0) 0 (l.take i))) ∧ Aside0 (RowA (w.heap.size + 2) wx A l)) (fun v9 _ => 8 - (intOf v9).toNat)
            case atStart => exact ⟨0, rfl, by omega, hF1, hrow⟩
            case round =>
              clear hF1 hrow
              obtain ⟨i, rfl, hi8, HF, hrow⟩ := hrel
              by_cases hi : i < 8
              · have hib : decide ((i : Int) < 8) = true := decide_eq_true (by omega)
                have hib2 : decide (i < 8) = true := decide_eq_true hi
                have hrow2 := Aside0.mk (hrow.out.set (w.heap.size + 1) i (by omega) (.int .u16 (l[i] : Int)))
                obtain ⟨g, rfl, hg1, hg2, hcs⟩ := hrow.out (by omega)
                have hc := hcs i (by omega)
                have hst := lay_step (fun _ => 0) 0 l i (by omega)
                rw [Nat.zero_add] at hst
                have hF2 := HF.out.set i hi l[i]
                rw [hst] at hF2
                replace hF2 := Aside0.mk hF2
                have ha := HF.out.ar.at_ i hi
                have hf := HF.out.ar.fr i hi
                rw [Nat.zero_add] at ha hf
                have hlt := HF.out.lt
                clear hcs hst HF hrow
                generalize l[i] = x at hc hF2 hrow2
                go_wp2_with fail
                exact ⟨⟨i + 1, by go_num, by omega, hF2, hrow2⟩, by simp [intOf]; omega⟩
              · obtain rfl : i = 8 := by omega
                have hib : decide (((8 : Nat) : Int) < 8) = false := by decide
                have HrA := HF.out.ar.range
                rw [List.take_of_length_le (by omega), lay_eight l h8] at HrA
                replace HrA := Aside0.mk HrA
                go_wp2_with (first | (with_reducible refine wpList_load_mid rfl 23 _ rfl (w.heap.size + 1) 0 rfl (cs8 (pad8 l)) _ HrA.out Tryd.underlying23 rfl (info8c _) ?_) | (with_reducible refine wpList_store_mid rfl 23 _ _ rfl w.heap.size 0 (cs8 (pad8 l)).toArray rfl rfl (th_8 HF.out.r0 _) (info8a _) (one8 _) ?_))
                refine bodyPost_ret (v := .tuple #[.agg (cs8 (pad8 l)).toArray, .bool true]) (results_ct (g := w.heap.size) (fn := Tryd.f9) (p := 2) (u := 3) rfl _ _ (cs8 (pad8 l)) _ (by simp [Act.put]) (HF.out.r0.store _) Tryd.underlying23 rfl (info8c _) (by simp [Act.put])) rfl ⟨below_cells (Nat.le_refl _) _ _ HF.out.bel, by rw [HR.out]; rfl⟩
          · have e8 : ((l.length : Int) == 8) = false := beq_eq_false_iff_ne.2 (by omega)
            have e8' : ¬ ((l.length : Int) = 8) := by omega
            simp only at hRA
            rw [if_neg h8] at hRA
            have HR := Aside0.mk hRA
            clear hRA
            go_wp2_with (first | (go_at_call 15; with_reducible refine (HC.out _).mono ?_; rintro e w2 ⟨A, cp, rfl, hrow, hb2⟩; replace HF := Aside0.mk (HF.out.keep hb2); clear hb2; replace hrow := Aside0.mk hrow) | (with_reducible refine wpList_load_mid rfl 23 _ rfl (w.heap.size + 1) 0 rfl (cs8 fun _ => 0) _ HF.out.ar.range Tryd.underlying23 rfl (info8c _) ?_) | (with_reducible refine wpList_store_mid rfl 23 _ _ rfl w.heap.size 0 (cs8 fun _ => 0).toArray rfl rfl (th_8 HF.out.r0 _) (info8a _) (one8 _) ?_))
            refine bodyPost_ret (v := .tuple #[.agg (cs8 fun _ => 0).toArray, .bool false]) (results_ct (g := w.heap.size) (fn := Tryd.f9) (p := 2) (u := 3) rfl _ _ (cs8 fun _ => 0) _ (by simp [Act.put]) (HF.out.r0.store _) Tryd.underlying23 rfl (info8c _) (by simp [Act.put])) rfl ⟨below_cells (Nat.le_refl _) _ _ HF.out.bel, by rw [HR.out]; rfl⟩
      · have HF0 : Aside0 (w.heap.size + 2 ≤ W.heap.size) := ⟨HF.out.lt⟩
        have s1 := sl_take s k (by omega)
        have s2 : ∀ w, (Instr.slice 9 (.string (mkB s)) (some (.int .i64 ((k : Int) + 2))) none none).run Tryd.prog w = .ok (.string (mkB (s.drop (k + 2)))) w := fun w => by
          rw [show (k : Int) + 2 = ((k + 2 : Nat) : Int) by omega]
          exact sl_mkB s (k + 2) hk w
        have kn : decide ((k : Int) < 0) = false := decide_eq_false (by omega)
        have hb1 := piF_len (s.take k) false
        have hb2 := piF_len (s.drop (k + 2)) true
        have hRA : refA s = (match piF (s.take k) false with | none => none | some x => (match piF (s.drop (k + 2)) true with | none => none | some y => if 7 < x.length + y.length then none else some (x ++ List.replicate (8 - (x.length + y.length)) 0 ++ y))) := by unfold refA; rw [hd]; rfl
        have l1 : (s.take k).length ≤ 2147483648 := by rw [List.length_take]; omega
        have l2 : (s.drop (k + 2)).length ≤ 2147483648 := by rw [List.length_drop]; omega
        have HC1 := Aside0.mk (fun W => piecall (s.take k) false l1 W)
        have HC2 := Aside0.mk (fun W => piecall (s.drop (k + 2)) true l2 W)
        clear hd HS
        generalize s.take k = u at s1 hb1 hRA l1 HC1
        generalize s.drop (k + 2) = v at s2 hb2 hRA l2 HC2
        cases hp : piF u false with
        | none =>
          rw [hp] at HC1 hRA
          have HR := Aside0.mk hRA
          clear hRA hp hb1 hb2
          simp only [oL, Option.isSome] at HC1
          generalize hq : piF v true = q at HC2
          clear hq
          generalize (oL q).length = nq at HC2
          generalize q.isSome = bq at HC2
          go_wp2_with (first | (go_at_call 15; with_reducible refine (HC1.out _).mono ?_; rintro e w2 ⟨A1, cp1, rfl, hrow1, hb2⟩; replace HF := Aside0.mk (HF.out.keep hb2); have HF3 : Aside0 (w.heap.size + 2 ≤ w2.heap.size) := ⟨Nat.le_trans HF0.out hb2.size⟩; replace hrow1 := Aside0.mk (hrow1.low (show w.heap.size + 2 ≤ _ from HF0.out)); clear hb2 HC1) | (go_at_call 15; with_reducible refine (HC2.out _).mono ?_; rintro e w3 ⟨A2, cp2, rfl, hrow2, hb3⟩; replace HF := Aside0.mk (HF.out.keep hb3); replace hrow1 := Aside0.mk (hrow1.out.keep hb3); replace hrow2 := Aside0.mk (hrow2.low (show w.heap.size + 2 ≤ _ from HF3.out)); clear hb3 HC2) | (with_reducible refine wpList_load_mid rfl 23 _ rfl (w.heap.size + 1) 0 rfl (cs8 fun _ => 0) _ HF.out.ar.range Tryd.underlying23 rfl (info8c _) ?_) | (with_reducible refine wpList_store_mid rfl 23 _ _ rfl w.heap.size 0 (cs8 fun _ => 0).toArray rfl rfl (th_8 HF.out.r0 _) (info8a _) (one8 _) ?_))
          refine bodyPost_ret (v := .tuple #[.agg (cs8 fun _ => 0).toArray, .bool false]) (results_ct (g := w.heap.size) (fn := Tryd.f9) (p := 2) (u := 3) rfl _ _ (cs8 fun _ => 0) _ (by simp [Act.put]) (HF.out.r0.store _) Tryd.underlying23 rfl (info8c _) (by simp [Act.put])) rfl ⟨below_cells (Nat.le_refl _) _ _ HF.out.bel, by rw [HR.out]; rfl⟩
        | some x =>
          rw [hp] at HC1 hRA
          simp only [oL, Option.isSome] at HC1
          replace hb1 := hb1 x hp
          clear hp
          cases hp : piF v true with
          | none =>
            rw [hp] at HC2 hRA
            have HR := Aside0.mk hRA
            clear hRA hp hb2
            simp only [oL, Option.isSome] at HC2
            go_wp2_with (first | (go_at_call 15; with_reducible refine (HC1.out _).mono ?_; rintro e w2 ⟨A1, cp1, rfl, hrow1, hb2⟩; replace HF := Aside0.mk (HF.out.keep hb2); have HF3 : Aside0 (w.heap.size + 2 ≤ w2.heap.size) := ⟨Nat.le_trans HF0.out hb2.size⟩; replace hrow1 := Aside0.mk (hrow1.low (show w.heap.size + 2 ≤ _ from HF0.out)); clear hb2 HC1) | (go_at_call 15; with_reducible refine (HC2.out _).mono ?_; rintro e w3 ⟨A2, cp2, rfl, hrow2, hb3⟩; replace HF := Aside0.mk (HF.out.keep hb3); replace hrow1 := Aside0.mk (hrow1.out.keep hb3); replace hrow2 := Aside0.mk (hrow2.low (show w.heap.size + 2 ≤ _ from HF3.out)); clear hb3 HC2) | (with_reducible refine wpList_load_mid rfl 23 _ rfl (w.heap.size + 1) 0 rfl (cs8 fun _ => 0) _ HF.out.ar.range Tryd.underlying23 rfl (info8c _) ?_) | (with_reducible refine wpList_store_mid rfl 23 _ _ rfl w.heap.size 0 (cs8 fun _ => 0).toArray rfl rfl (th_8 HF.out.r0 _) (info8a _) (one8 _) ?_))
            refine bodyPost_ret (v := .tuple #[.agg (cs8 fun _ => 0).toArray, .bool false]) (results_ct (g := w.heap.size) (fn := Tryd.f9) (p := 2) (u := 3) rfl _ _ (cs8 fun _ => 0) _ (by simp [Act.put]) (HF.out.r0.store _) Tryd.underlying23 rfl (info8c _) (by simp [Act.put])) rfl ⟨below_cells (Nat.le_refl _) _ _ HF.out.bel, by rw [HR.out]; rfl⟩
          | some y =>
            rw [hp] at HC2 hRA
            simp only [oL, Option.isSome] at HC2
            replace hb2 := hb2 y hp
            clear hp
            simp only at hRA
            have hbx : x.length ≤ 2147483650 := by omega
            have hby : y.length ≤ 2147483650 := by omega
            clear hb1 hb2
            by_cases h7 : 7 < x.length + y.length
            · rw [if_pos h7] at hRA
              have HR := Aside0.mk hRA
              have m1 : decide ((7 : Int) < (x.length : Int) + (y.length : Int)) = true := decide_eq_true (by omega)
              have m2 : decide (7 < x.length + y.length) = true := decide_eq_true h7
              clear hRA h7
              go_wp2_with (first | (go_at_call 15; with_reducible refine (HC1.out _).mono ?_; rintro e w2 ⟨A1, cp1, rfl, hrow1, hb2⟩; replace HF := Aside0.mk (HF.out.keep hb2); have HF3 : Aside0 (w.heap.size + 2 ≤ w2.heap.size) := ⟨Nat.le_trans HF0.out hb2.size⟩; replace hrow1 := Aside0.mk (hrow1.low (show w.heap.size + 2 ≤ _ from HF0.out)); clear hb2 HC1) | (go_at_call 15; with_reducible refine (HC2.out _).mono ?_; rintro e w3 ⟨A2, cp2, rfl, hrow2, hb3⟩; replace HF := Aside0.mk (HF.out.keep hb3); replace hrow1 := Aside0.mk (hrow1.out.keep hb3); replace hrow2 := Aside0.mk (hrow2.low (show w.heap.size + 2 ≤ _ from HF3.out)); clear hb3 HC2) | (with_reducible refine wpList_load_mid rfl 23 _ rfl (w.heap.size + 1) 0 rfl (cs8 fun _ => 0) _ HF.out.ar.range Tryd.underlying23 rfl (info8c _) ?_) | (with_reducible refine wpList_store_mid rfl 23 _ _ rfl w.heap.size 0 (cs8 fun _ => 0).toArray rfl rfl (th_8 HF.out.r0 _) (info8a _) (one8 _) ?_))
              refine bodyPost_ret (v := .tuple #[.agg (cs8 fun _ => 0).toArray, .bool false]) (results_ct (g := w.heap.size) (fn := Tryd.f9) (p := 2) (u := 3) rfl _ _ (cs8 fun _ => 0) _ (by simp [Act.put]) (HF.out.r0.store _) Tryd.underlying23 rfl (info8c _) (by simp [Act.put])) rfl ⟨below_cells (Nat.le_refl _) _ _ HF.out.bel, by rw [HR.out]; rfl⟩
            · rw [if_neg h7] at hRA
              have HR := Aside0.mk hRA
              have m1 : decide ((7 : Int) < (x.length : Int) + (y.length : Int)) = false := decide_eq_false (by omega)
              have m2 : decide (7 < x.length + y.length) = false := decide_eq_false h7
              have hsum : x.length + y.length ≤ 7 := by omega
              clear hRA h7 hbx hby
              go_upto_block 4 with (first | (go_at_call 15; with_reducible refine (HC1.out _).mono ?_; rintro e w2 ⟨A1, cp1, rfl, hrow1, hb2⟩; replace HF := Aside0.mk (HF.out.keep hb2); have HF3 : Aside0 (w.heap.size + 2 ≤ w2.heap.size) := ⟨Nat.le_trans HF0.out hb2.size⟩; replace hrow1 := Aside0.mk (hrow1.low (show w.heap.size + 2 ≤ _ from HF0.out)); clear hb2 HC1) | (go_at_call 15; with_reducible refine (HC2.out _).mono ?_; rintro e w3 ⟨A2, cp2, rfl, hrow2, hb3⟩; replace HF := Aside0.mk (HF.out.keep hb3); replace hrow1 := Aside0.mk (hrow1.out.keep hb3); replace hrow2 := Aside0.mk (hrow2.low (show w.heap.size + 2 ≤ _ from HF3.out)); clear hb3 HC2))
              have hF1 : Aside0 (FW w w3 (lay (fun _ => 0) 0 (x.take 0))) := ⟨by rw [List.take_zero, lay_nil]; exact HF.out⟩
              clear HF HF0 HF3 s1 s2 l1 l2 m1 m2
              go_wp2_with fail
              go_loopw [14] (fun v14 wx => ∃ i : Nat, v14 = .int .i64 (i : Int) ∧ i ≤ x.length ∧ Aside0 (FW w wx (lay (fun _ => 0) 0 (x.take i))) ∧ Aside0 (RowA (w.heap.size + 2) wx A1 x) ∧ Aside0 (RowA (w.heap.size + 2) wx A2 y)) (fun v14 _ => x.length - (intOf v14).toNat)
              case atStart => exact ⟨0, rfl, by omega, hF1, hrow1, hrow2⟩
              case round =>
                clear hF1 hrow1 hrow2
                obtain ⟨i, rfl, hi8, HF, hrow1, hrow2⟩ := hrel
                by_cases hi : i < x.length
                · have hib : decide ((i : Int) < (x.length : Int)) = true := decide_eq_true (by omega)
                  have hib2 : decide (i < x.length) = true := decide_eq_true hi
                  have hrow12 := Aside0.mk (hrow1.out.set (w.heap.size + 1) i (by omega) (.int .u16 (x[i] : Int)))
                  have hrow22 := Aside0.mk (hrow2.out.set (w.heap.size + 1) i (by omega) (.int .u16 (x[i] : Int)))
                  obtain ⟨g, rfl, hg1, hg2, hcs⟩ := hrow1.out (by omega)
                  have hc := hcs i hi
                  have hst := lay_step (fun _ => 0) 0 x i hi
                  rw [Nat.zero_add] at hst
                  have hF2 := HF.out.set i (by omega) x[i]
                  rw [hst] at hF2
                  replace hF2 := Aside0.mk hF2
                  have ha := HF.out.ar.at_ i (by omega)
                  have hf := HF.out.ar.fr i (by omega)
                  rw [Nat.zero_add] at ha hf
                  have hlt := HF.out.lt
                  clear hcs hst HF hrow1 hrow2
                  generalize x[i] = z at hc hF2 hrow12 hrow22
                  go_wp2_with fail
                  exact ⟨⟨i + 1, by go_num, by omega, hF2, hrow12, hrow22⟩, by simp [intOf]; omega⟩
                · obtain rfl : i = x.length := by omega
                  have hib : decide ((x.length : Int) < (x.length : Int)) = false := decide_eq_false (by omega)
                  go_upto_block 6 with (fail)
                  have hF1 : Aside0 (FW w wr (lay (lay (fun _ => 0) 0 x) (8 - y.length) (y.take 0))) := ⟨by rw [List.take_zero, lay_nil]; have := HF.out; rwa [List.take_length] at this⟩
                  clear HF hib hrow1
                  go_wp2_with fail
                  go_loopw [15] (fun v15 wx => ∃ i : Nat, v15 = .int .i64 (i : Int) ∧ i ≤ y.length ∧ Aside0 (FW w wx (lay (lay (fun _ => 0) 0 x) (8 - y.length) (y.take i))) ∧ Aside0 (RowA (w.heap.size + 2) wx A2 y)) (fun v15 _ => y.length - (intOf v15).toNat)
                  case atStart => exact ⟨0, rfl, by omega, hF1, hrow2⟩
                  case round =>
                    clear hF1 hrow2
                    obtain ⟨i, rfl, hi8, HF, hrow⟩ := hrel
                    by_cases hi : i < y.length
                    · have hib : decide ((i : Int) < (y.length : Int)) = true := decide_eq_true (by omega)
                      have hib2 : decide (i < y.length) = true := decide_eq_true hi
                      have hrow2 := Aside0.mk (hrow.out.set (w.heap.size + 1) (8 - y.length + i) (by omega) (.int .u16 (y[i] : Int)))
                      obtain ⟨g, rfl, hg1, hg2, hcs⟩ := hrow.out (by omega)
                      have hc := hcs i hi
                      have hst := lay_step (lay (fun _ => 0) 0 x) (8 - y.length) y i hi
                      have hF2 := HF.out.set (8 - y.length + i) (by omega) y[i]
                      rw [hst] at hF2
                      replace hF2 := Aside0.mk hF2
                      have ha := HF.out.ar.at_ (8 - y.length + i) (by omega)
                      have hf := HF.out.ar.fr (8 - y.length + i) (by omega)
                      rw [Nat.zero_add] at ha hf
                      have hlt := HF.out.lt
                      clear hcs hst HF hrow
                      generalize y[i] = z at hc hF2 hrow2
                      have hix : (8 - (y.length : Int) + (i : Int)).toNat = 8 - y.length + i := by omega
                      go_wp2_with fail
                      exact ⟨⟨i + 1, by go_num, by omega, hF2, hrow2⟩, by simp [intOf]; omega⟩
                    · obtain rfl : i = y.length := by omega
                      have hib : decide ((y.length : Int) < (y.length : Int)) = false := decide_eq_false (by omega)
                      have HrA := HF.out.ar.range
                      rw [List.take_length, lay_gap x y (by omega)] at HrA
                      replace HrA := Aside0.mk HrA
                      have HR2 := HR.out
                      generalize x ++ List.replicate (8 - (x.length + y.length)) 0 ++ y = L at HrA HR2
                      replace HR2 := Aside0.mk HR2
                      clear HR
                      go_wp2_with (first | (with_reducible refine wpList_load_mid rfl 23 _ rfl (w.heap.size + 1) 0 rfl (cs8 (pad8 L)) _ HrA.out Tryd.underlying23 rfl (info8c _) ?_) | (with_reducible refine wpList_store_mid rfl 23 _ _ rfl w.heap.size 0 (cs8 (pad8 L)).toArray rfl rfl (th_8 HF.out.r0 _) (info8a _) (one8 _) ?_))
                      refine bodyPost_ret (v := .tuple #[.agg (cs8 (pad8 L)).toArray, .bool true]) (results_ct (g := w.heap.size) (fn := Tryd.f9) (p := 2) (u := 3) rfl _ _ (cs8 (pad8 L)) _ (by simp [Act.put]) (HF.out.r0.store _) Tryd.underlying23 rfl (info8c _) (by simp [Act.put])) rfl ⟨below_cells (Nat.le_refl _) _ _ HF.out.bel, by rw [HR2.out]; rfl⟩
end Go.Proofs.YtbgmepfejbbpaaaDoor.Pr
