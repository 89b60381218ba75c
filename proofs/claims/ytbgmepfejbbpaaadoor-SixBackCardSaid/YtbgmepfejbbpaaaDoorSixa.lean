import Derived.Test.YtbgmepfejbbpaaaDoorAny
import Derived.Test.YtbgmepfejbbpaaaDoorSpl
import Derived.Test.YtbgmepfejbbpaaaDoorFmt
namespace Go.Proofs.YtbgmepfejbbpaaaDoor.Pr
open Go.RowKit Go.Proofs.YtbgmepfejbbpaaaDoorW.PrintWords Go.Proofs.YtbgmepfejbbpaaaDoorW.PrintLast Go.Proofs.YtbgmepfejbbpaaaDoorW.PrintMore
set_option linter.unusedVariables false
set_option linter.unusedSimpArgs false

/-! ### A reader in its block -/
structure StF (g : Nat) (W : World) (s : List UInt8) (f : Nat → Nat) (n : Nat) (gap : Int) : Prop where
  c0 : W.cell? ⟨g, 0, none⟩ = some (.string (mkB s))
  cp : ∀ i, i < 8 → W.cell? ⟨g, 1 + i, none⟩ = some (.int .u16 (f i : Int))
  cn : W.cell? ⟨g, 9, none⟩ = some (.int .i64 (n : Int))
  cg : W.cell? ⟨g, 10, none⟩ = some (.int .i64 gap)
  fr : ∀ i, W.frozen? ⟨g, i, none⟩ = false
  sz : g < W.heap.size
abbrev St (g : Nat) (W : World) (s : List UInt8) (acc : List Nat) (gap : Int) : Prop := StF g W s (fun i => acc.getD i 0) acc.length gap
theorem StF.keep {g : Nat} {W W1 : World} {s : List UInt8} {f : Nat → Nat} {n : Nat} {gap : Int} (h : StF g W s f n gap) (hb : Below W.heap.size W W1) : StF g W1 s f n gap := by
  have hc : ∀ i, W1.cell? ⟨g, i, none⟩ = W.cell? ⟨g, i, none⟩ := fun i => by unfold World.cell?; rw [hb.block _ h.sz]
  have hf : ∀ i, W1.frozen? ⟨g, i, none⟩ = W.frozen? ⟨g, i, none⟩ := fun i => by unfold World.frozen?; rw [hb.block _ h.sz]
  exact ⟨by rw [hc]; exact h.c0, fun i hi => by rw [hc]; exact h.cp i hi, by rw [hc]; exact h.cn, by rw [hc]; exact h.cg, fun i => by rw [hf]; exact h.fr i, Nat.lt_of_lt_of_le h.sz hb.size⟩
theorem set_same {W : World} {g i : Nat} {u v : Value} (h : W.cell? ⟨g, i, none⟩ = some u) : (W.setCell ⟨g, i, none⟩ v).cell? ⟨g, i, none⟩ = some v := World.cell?_setCell_same W _ _ h
theorem set_other {W : World} {g i j : Nat} {v : Value} (h : i ≠ j) : (W.setCell ⟨g, i, none⟩ v).cell? ⟨g, j, none⟩ = W.cell? ⟨g, j, none⟩ := World.cell?_setCell_other W _ _ _ (by intro e; exact h (by cases e; rfl))
theorem StF.setS {g : Nat} {W : World} {s : List UInt8} {f : Nat → Nat} {n : Nat} {gap : Int} (h : StF g W s f n gap) (s' : List UInt8) : StF g (W.setCell ⟨g, 0, none⟩ (.string (mkB s'))) s' f n gap :=
  ⟨set_same h.c0, fun i hi => by rw [set_other (by omega)]; exact h.cp i hi, by rw [set_other (by omega)]; exact h.cn, by rw [set_other (by omega)]; exact h.cg, fun i => by rw [World.frozen?_setCell]; exact h.fr i, by simpa using h.sz⟩
theorem StF.setG {g : Nat} {W : World} {s : List UInt8} {f : Nat → Nat} {n : Nat} {gap : Int} (h : StF g W s f n gap) (gap' : Int) : StF g (W.setCell ⟨g, 10, none⟩ (.int .i64 gap')) s f n gap' :=
  ⟨by rw [set_other (by omega)]; exact h.c0, fun i hi => by rw [set_other (by omega)]; exact h.cp i hi, by rw [set_other (by omega)]; exact h.cn, set_same h.cg, fun i => by rw [World.frozen?_setCell]; exact h.fr i, by simpa using h.sz⟩
theorem getD_append_last (acc : List Nat) (v i : Nat) : (acc ++ [v]).getD i 0 = if i = acc.length then v else acc.getD i 0 := by
  rw [List.getD_eq_getElem?_getD, List.getD_eq_getElem?_getD, List.getElem?_append]
  split
  · rw [if_neg (by omega)]
  · split
    · next h => subst h; simp
    · rw [List.getElem?_eq_none (by simp; omega), List.getElem?_eq_none (by omega)]
theorem St.push {g : Nat} {W : World} {s : List UInt8} {acc : List Nat} {gap : Int} (h : St g W s acc gap) (hl : acc.length < 8) (v : Nat) : St g ((W.setCell ⟨g, 1 + acc.length, none⟩ (.int .u16 (v : Int))).setCell ⟨g, 9, none⟩ (.int .i64 ((acc.length : Int) + 1))) s (acc ++ [v]) gap := by
  have hn : (W.setCell ⟨g, 1 + acc.length, none⟩ (.int .u16 (v : Int))).cell? ⟨g, 9, none⟩ = some (.int .i64 (acc.length : Int)) := by rw [set_other (by omega)]; exact h.cn
  refine ⟨by rw [set_other (by omega), set_other (by omega)]; exact h.c0, fun i hi => ?_, by rw [set_same hn]; simp, by rw [set_other (by omega), set_other (by omega)]; exact h.cg, fun i => by rw [World.frozen?_setCell, World.frozen?_setCell]; exact h.fr i, by simpa using h.sz⟩
  rw [set_other (by omega)]
  simp only [getD_append_last]
  split
  · next e => subst e; rw [set_same (h.cp _ hi)]
  · rw [set_other (by omega)]; exact h.cp i hi
theorem StF.drew {g : Nat} {W : World} {s : List UInt8} {f : Nat → Nat} {n : Nat} {gap : Int} (h : StF g W s f n gap) : StF g W.drew s f n gap := ⟨h.c0, h.cp, h.cn, h.cg, h.fr, h.sz⟩
theorem extract_mkB (s : List UInt8) (k : Nat) : (mkB s).extract k (mkB s).size = mkB (s.drop k) := by
  rw [← mkB_data ((mkB s).extract k (mkB s).size)]
  congr 1
  rw [ByteArray.data_extract, Array.toList_extract, data_mkB, mkB_size]
  simp only [List.extract_eq_take_drop]
  exact List.take_of_length_le (by simp)
theorem sl_mkB (s : List UInt8) (k : Nat) (hk : k ≤ s.length) (w : World) : (Instr.slice 9 (.string (mkB s)) (some (.int .i64 (k : Int))) none none).run Tryd.prog w = .ok (.string (mkB (s.drop k))) w := by
  rw [run_slice_string_l w _ _ Tryd.underlying9 .i64 (k : Int) (by omega) (by rw [mkB_size]; omega), Int.toNat_natCast, extract_mkB]
theorem below_set {g : Nat} {w W : World} (h : Below g w W) (i : Nat) (v : Value) : Below g w (W.setCell ⟨g, i, none⟩ v) := Below.setCell (p := ⟨g, i, none⟩) h (Nat.le_refl g) v
/-! ### piece -/
def hexi (c : UInt8) : Int := if 48 ≤ c.toNat ∧ c.toNat ≤ 57 then (c.toNat : Int) - 48 else if 97 ≤ c.toNat ∧ c.toNat ≤ 102 then (c.toNat : Int) - 87 else -1
theorem hexi_all : ((List.range 256).all fun n => decide (Lib.indexByte hexS (Int.ofNat n).toNat.toUInt8 = hexi n.toUInt8)) = true := by decide +kernel
theorem hexi_eq (c : UInt8) : Lib.indexByte hexS (c.toNat : Int).toNat.toUInt8 = hexi c := by
  have h := of_decide_eq_true (List.all_eq_true.1 hexi_all c.toNat (List.mem_range.2 (UInt8.toNat_lt c)))
  have e : c.toNat.toUInt8 = c := by simp
  rw [e] at h
  exact h
theorem hexi_bd (c : UInt8) : -1 ≤ hexi c ∧ hexi c ≤ 15 := by unfold hexi; split <;> (try split) <;> omega
theorem idx_calls (c : UInt8) (w : World) : Calls Tryd.prog 36 #[.string ⟨#[48, 49, 50, 51, 52, 53, 54, 55, 56, 57, 97, 98, 99, 100, 101, 102]⟩, .int .u8 (c.toNat : Int)] w fun e w' => e = .returned (.int .i64 (hexi c)) ∧ w = w' := by
  refine (Tryd.strings_IndexByte ⟨#[48, 49, 50, 51, 52, 53, 54, 55, 56, 57, 97, 98, 99, 100, 101, 102]⟩ (c.toNat : Int) w).mono fun e w' ⟨h1, h2⟩ => ⟨?_, h2.symm⟩
  rw [h1, ← hexi_eq c]; rfl
/-- A digit by 16. -/
def hexv (c : UInt8) : Option Nat := if 65 ≤ c.toNat ∧ c.toNat ≤ 70 then some (c.toNat - 55) else if hexi c < 0 then none else some (hexi c).toNat
def pcL : Nat → List UInt8 → Nat → Nat × List UInt8
  | 0, l, v => (v, l)
  | _ + 1, [], v => (v, [])
  | k + 1, c :: l, v => match hexv c with | none => (v, c :: l) | some d => pcL k l (v * 16 + d)
def pieceF (s : List UInt8) (acc : List Nat) : Option (List UInt8 × List Nat) := if (pcL 4 s 0).2.length = s.length ∨ acc.length = 8 then none else some ((pcL 4 s 0).2, acc ++ [(pcL 4 s 0).1])
theorem pcL_drop (s : List UInt8) (i v : Nat) (hi : i < s.length) (h4 : i < 4) : pcL (4 - i) (s.drop i) v = match hexv s[i] with | none => (v, s.drop i) | some d => pcL (4 - (i + 1)) (s.drop (i + 1)) (v * 16 + d) := by
  rw [List.drop_eq_getElem_cons hi, show 4 - i = (4 - (i + 1)) + 1 by omega]
  rfl
theorem shor (a d : Nat) (ha : a < 4096) (hd : d < 16) : bits .or .u16 (IntKind.u16.wrap ((a : Int) * 16)) (d : Int) = ((a * 16 + d : Nat) : Int) := by
  have hw : IntKind.u16.wrap ((a : Int) * 16) = ((a * 16 : Nat) : Int) := by rw [IntWalk.u16_in _ (by omega)]; omega
  have hb8 : IntKind.u16.bits = 16 := rfl
  rw [hw]
  simp only [bits, BitVec.ofInt_natCast, BitVec.toNat_or, BitVec.toNat_ofNat, hb8, Nat.mod_eq_of_lt (show a * 16 < 2 ^ 16 by omega), Nat.mod_eq_of_lt (show d < 2 ^ 16 by omega)]
  rw [show a * 16 ||| d = a * 16 + d by rw [show a * 16 = 2 ^ 4 * a by omega, Nat.two_pow_add_eq_or_of_lt (show d < 2 ^ 4 by omega)], IntWalk.u16_in _ (by omega)]
theorem pow16 {k : Nat} (h : k < 4) {a : Nat} (ha : a < 16 ^ k) : a < 4096 := Nat.lt_of_lt_of_le ha (Nat.pow_le_pow_right (by decide) (show k ≤ 3 by omega))
theorem pow16s {k a d : Nat} (ha : a < 16 ^ k) (hd : d < 16) : a * 16 + d < 16 ^ (k + 1) := by rw [Nat.pow_succ]; omega
theorem idx_mkB (s : List UInt8) (k : Nat) (hk : k < s.length) (w : World) : (Instr.index 9 (.string (mkB s)) (.int .i64 (k : Int))).run Tryd.prog w = .ok (.int .u8 (s[k].toNat : Int)) w := by
  have hz : k < (mkB s).size := by rw [mkB_size]; exact hk
  have hi : (0 : Int) ≤ (k : Int) ∧ (k : Int) < ((mkB s).size : Int) := by omega
  rw [run_index_string w _ _ _ _ Tryd.underlying9, dif_pos hi]
  have hx3 : (mkB s)[k]'hz = s[k] := by
    have := Lib.data_getElem? (mkB s) k hz
    rw [data_mkB, List.getElem?_eq_getElem hk] at this
    exact (Option.some.inj this).symm
  exact congrArg (fun c : UInt8 => Result.ok (Value.int .u8 (c.toNat : Int)) w) hx3
def PieceQ (g : Nat) (gap : Int) (o : Option (List UInt8 × List Nat)) (e : Ending) (w' : World) : Prop := match o with | none => e = .returned (.bool false) | some (s', acc') => e = .returned (.bool true) ∧ St g w' s' acc' gap
theorem piece_ways {s : List UInt8} {acc : List Nat} {k a : Nat} (h : (a, s.drop k) = pcL 4 s 0) (hk : k ≤ s.length) (ha : acc.length ≤ 8) :
    (k = 0 ∧ pieceF s acc = none) ∨ (((k : Int) == 0) = false ∧ ((acc.length : Int) == 8) = true ∧ pieceF s acc = none) ∨ (((k : Int) == 0) = false ∧ ((acc.length : Int) == 8) = false ∧ acc.length < 8 ∧ pieceF s acc = some (s.drop k, acc ++ [a])) := by
  unfold pieceF
  rw [← h]
  simp only [List.length_drop]
  by_cases h0 : k = 0
  · exact .inl ⟨h0, if_pos (.inl (by omega))⟩
  · have hk0 : ((k : Int) == 0) = false := beq_eq_false_iff_ne.2 (by omega)
    by_cases h8 : acc.length = 8
    · exact .inr (.inl ⟨hk0, by rw [h8]; rfl, if_pos (.inr h8)⟩)
    · exact .inr (.inr ⟨hk0, beq_eq_false_iff_ne.2 (by omega), by omega, if_neg (by omega)⟩)
set_option maxRecDepth 8000 in
set_option maxHeartbeats 1000000 in
theorem piece_any (g : Nat) (w : World) (s : List UInt8) (acc : List Nat) (gap : Int) (h : St g w s acc gap) (hs : s.length ≤ 4294967296) (ha : acc.length ≤ 8) :
    Calls Tryd.prog 22 #[.pointer (some ⟨g, 0, none⟩)] w fun e w' => Below g w w' ∧ PieceQ g gap (pieceF s acc) e w' := by
  have h0 := h.c0
  have hn := h.cn
  have H := Aside0.mk h
  have hz : (mkB s).size ≤ 4294967296 := by rw [mkB_size]; exact hs
  go_enter Tryd.func22, Tryd.ntmps22
  go_upto_block 0 with (fail)
  go_cut [3, 4] (fun v i wx => ∃ (k a : Nat), k ≤ s.length ∧ k ≤ 4 ∧ v = .int .u16 (a : Int) ∧ i = .int .i64 (k : Int) ∧ Hid ((a, s.drop k) = pcL 4 s 0) ∧ wx = w)
  case first =>
    go_wp2_with fail
    go_loop [3, 4] (fun v i => ∃ (k a : Nat), k ≤ s.length ∧ k ≤ 4 ∧ a < 16 ^ k ∧ v = .int .u16 (a : Int) ∧ i = .int .i64 (k : Int) ∧ Hid (pcL (4 - k) (s.drop k) a = pcL 4 s 0)) (fun _ i => 4 - (intOf i).toNat)
    case atStart => exact ⟨0, 0, Nat.zero_le _, Nat.zero_le _, by decide, rfl, rfl, Lib.hid rfl⟩
    case round =>
      obtain ⟨k, a, hk, hk4, ha, rfl, rfl, HR⟩ := hrel
      clear hn
      by_cases hlt : k < s.length ∧ k < 4
      · obtain ⟨hlt1, hlt2⟩ := hlt
        have hst := pcL_drop s k a hlt1 hlt2
        rw [HR.out] at hst
        have hix : ∀ w, (Instr.index 9 (.string (mkB s)) (.int .i64 (k : Int))).run Tryd.prog w = .ok (.int .u8 (s[k].toNat : Int)) w := idx_mkB s k hlt1
        generalize s[k] = c at hst hix
        have hc0 : (c.toNat : Int) < 256 := by have := UInt8.toNat_lt c; omega
        have hb1 : decide ((k : Int) < ((mkB s).size : Int)) = true := by rw [mkB_size]; exact decide_eq_true (by omega)
        have hb2 : decide ((k : Int) < 4) = true := decide_eq_true (by omega)
        by_cases hA : 65 ≤ c.toNat ∧ c.toNat ≤ 70
        · have hd : hexv c = some (c.toNat - 55) := by unfold hexv; rw [if_pos hA]
          rw [hd] at hst
          have HS := Aside0.mk hst
          have h1 : decide ((65 : Int) ≤ (c.toNat : Int)) = true := by simp; omega
          have h2 : decide ((c.toNat : Int) ≤ 70) = true := by simp; omega
          obtain ⟨hA1, hA2⟩ := hA
          clear hst hd
          have hx := hexi_bd c
          have hso := shor a (c.toNat - 55) (pow16 hlt2 ha) (by omega)
          rw [show ((c.toNat - 55 : Nat) : Int) = (c.toNat : Int) - 65 + 10 by omega] at hso
          have HP := Aside0.mk (pow16s (d := c.toNat - 55) ha (by omega))
          go_wp2_with (go_at_call 36; refine (idx_calls c _).mono ?_; rintro e w' ⟨rfl, rfl⟩)
          refine ⟨⟨k + 1, a * 16 + (c.toNat - 55), by omega, by omega, HP.out, rfl, rfl, Lib.hid HS.out.symm⟩, by simp [intOf]; omega⟩
        · have hA' : (decide ((65 : Int) ≤ (c.toNat : Int)) = false) ∨ (decide ((65 : Int) ≤ (c.toNat : Int)) = true ∧ decide ((c.toNat : Int) ≤ 70) = false) := by
            simp; omega
          have hd : hexv c = if hexi c < 0 then none else some (hexi c).toNat := by unfold hexv; rw [if_neg hA]
          have HI : ∀ w, Calls Tryd.prog 36 #[.string ⟨#[48, 49, 50, 51, 52, 53, 54, 55, 56, 57, 97, 98, 99, 100, 101, 102]⟩, .int .u8 (c.toNat : Int)] w fun e w' => e = .returned (.int .i64 (hexi c)) ∧ w = w' := fun w => idx_calls c w
          have hx := hexi_bd c
          generalize hexi c = d at hd hx HI
          obtain ⟨hx1, hx2⟩ := hx
          replace HI := Lib.hid HI
          by_cases hn0 : d < 0
          · rw [hd, if_pos hn0] at hst
            have HE := Aside0.mk hst.symm
            clear hst hd hA
            rcases hA' with h1 | ⟨h1, h2⟩
            all_goals
              go_wp2_with (go_at_call 36; refine (HI.out _).mono ?_; rintro e w' ⟨rfl, rfl⟩)
              go_meet
              exact ⟨k, a, hk, hk4, rfl, rfl, Lib.hid HE.out, rfl⟩
          · rw [hd, if_neg hn0] at hst
            obtain ⟨d, rfl⟩ := Int.eq_ofNat_of_zero_le (show 0 ≤ d by omega)
            have HS := Aside0.mk hst
            have hso := shor a d (pow16 hlt2 ha) (by omega)
            have HP := Aside0.mk (pow16s (d := d) ha (by omega))
            have hdz : decide ((d : Int) < 0) = false := decide_eq_false (by omega)
            clear hst hd hA hn0
            rcases hA' with h1 | ⟨h1, h2⟩
            all_goals
              go_wp2_with (go_at_call 36; refine (HI.out _).mono ?_; rintro e w' ⟨rfl, rfl⟩)
              refine ⟨⟨k + 1, a * 16 + d, by omega, by omega, HP.out, rfl, rfl, Lib.hid HS.out.symm⟩, by simp [intOf]; omega⟩
      · have HE : Aside0 ((a, s.drop k) = pcL 4 s 0) := ⟨by
          rw [← HR.out]
          by_cases h4 : k = 4
          · subst h4; rfl
          · rw [List.drop_eq_nil_of_le (by omega)]
            obtain ⟨m, hm⟩ : ∃ m, 4 - k = m + 1 := ⟨3 - k, by omega⟩
            rw [hm]; rfl⟩
        have hb : (decide ((k : Int) < ((mkB s).size : Int)) = false ∧ decide (k < (mkB s).size) = false) ∨ (decide ((k : Int) < ((mkB s).size : Int)) = true ∧ decide (k < (mkB s).size) = true ∧ decide ((k : Int) < 4) = false ∧ decide (k < 4) = false) := by
          rw [mkB_size]; simp; omega
        rcases hb with ⟨h1, h1'⟩ | ⟨h1, h1', h2, h2'⟩
        all_goals
          go_wp2_with fail
          go_meet
          exact ⟨k, a, hk, hk4, rfl, rfl, Lib.hid HE.out, rfl⟩
  case rest =>
    obtain ⟨k, a, hk, hk4, rfl, rfl, HE, rfl⟩ := hcut
    rcases piece_ways HE.out hk ha with ⟨rfl, hP⟩ | ⟨hk0, ha8, hP⟩ | ⟨hk0, ha8, hal, hP⟩
    · have HP := Aside0.mk hP
      clear hP
      go_wp2_with fail
      go_ret
      exact ⟨Below.refl _ _, by rw [HP.out]; rfl⟩
    · have HP := Aside0.mk hP
      clear hP
      go_wp2_with fail
      go_ret
      exact ⟨Below.refl _ _, by rw [HP.out]; rfl⟩
    · have HP := Aside0.mk hP
      clear hP
      obtain ⟨x0, hx0⟩ : ∃ x0, wc.cell? ⟨g, 1 + acc.length, none⟩ = some x0 := ⟨_, h.cp _ hal⟩
      have hf0 := h.fr (1 + acc.length)
      have hf9 := h.fr 9
      have hf00 := h.fr 0
      have hsl := sl_mkB s k hk
      have H2 := Aside0.mk ((St.push h hal a).setS (s.drop k)).drew
      have hB : Below g wc (((wc.setCell ⟨g, 1 + acc.length, none⟩ (.int .u16 (a : Int))).setCell ⟨g, 9, none⟩ (.int .i64 ((acc.length : Int) + 1))).setCell ⟨g, 0, none⟩ (.string (mkB (s.drop k)))).drew :=
        below_drew (below_set (below_set (below_set (Below.refl _ _) _ _) _ _) _ _)
      replace hB := Aside0.mk hB
      go_wp2_with (go_region)
      go_ret
      exact ⟨hB.out, by rw [HP.out]; exact ⟨rfl, H2.out⟩⟩
end Go.Proofs.YtbgmepfejbbpaaaDoor.Pr
