import Derived.Test.YtbgmepfejbbpaaaDoorSixb
namespace Go.Proofs.YtbgmepfejbbpaaaDoor.Pr
open Go.RowKit Go.Proofs.YtbgmepfejbbpaaaDoorW.PrintWords Go.Proofs.YtbgmepfejbbpaaaDoorW.PrintLast Go.Proofs.YtbgmepfejbbpaaaDoorW.PrintMore
set_option linter.unusedVariables false
set_option linter.unusedSimpArgs false

/-! ### all -/
def dotFirst (s : List UInt8) : Bool := decide (0 ≤ Lib.indexAny s [58, 46]) && (s.getD (Lib.indexAny s [58, 46]).toNat 0 == 46)
def loopF : Nat → List UInt8 → List Nat → Int → Option (List Nat × Int)
  | 0, _, _, _ => none
  | k + 1, s, acc, gap =>
    if dotFirst s = true then (match dotF s acc with | none => none | some a => some (a, gap))
    else match pieceF s acc with
      | none => none
      | some (s1, acc1) =>
        if s1 = [] then some (acc1, gap)
        else if Lib.hasPrefix s1 [58, 58] = true then (if 0 ≤ gap then none else if s1.drop 2 = [] then some (acc1, (acc1.length : Int)) else loopF k (s1.drop 2) acc1 (acc1.length : Int))
        else if Lib.hasPrefix s1 [58] = true then loopF k (s1.drop 1) acc1 gap else none
theorem loopF_succ (k : Nat) (s : List UInt8) (acc : List Nat) (gap : Int) : loopF (k + 1) s acc gap = if dotFirst s = true then (match dotF s acc with | none => none | some a => some (a, gap))
    else match pieceF s acc with
      | none => none
      | some (s1, acc1) =>
        if s1 = [] then some (acc1, gap)
        else if Lib.hasPrefix s1 [58, 58] = true then (if 0 ≤ gap then none else if s1.drop 2 = [] then some (acc1, (acc1.length : Int)) else loopF k (s1.drop 2) acc1 (acc1.length : Int))
        else if Lib.hasPrefix s1 [58] = true then loopF k (s1.drop 1) acc1 gap else none := rfl
def allF (s : List UInt8) : Option (List Nat × Int) :=
  if Lib.hasPrefix s [58, 58] = true then (if s.drop 2 = [] then some ([], 0) else loopF (s.length + 1) (s.drop 2) [] 0) else loopF (s.length + 1) s [] (-1)
def AllQ (g : Nat) (o : Option (List Nat × Int)) (e : Ending) (w' : World) : Prop := match o with | none => e = .returned (.bool false) | some (acc, gap) => e = .returned (.bool true) ∧ acc.length ≤ 8 ∧ ∃ s', St g w' s' acc gap
theorem indexAny_lt (cs : List UInt8) : ∀ s : List UInt8, Lib.indexAny s cs = -1 ∨ ∃ i : Nat, i < s.length ∧ Lib.indexAny s cs = (i : Int)
  | [] => .inl rfl
  | b :: l => by
    rw [Lib.indexAny]
    split
    · exact .inr ⟨0, by simp, rfl⟩
    · rcases indexAny_lt cs l with h | ⟨i, hi, h⟩
      · rw [h]; exact .inl rfl
      · rw [h]
        refine .inr ⟨i + 1, by simp; omega, ?_⟩
        rw [if_neg (by rw [beq_iff_eq]; omega)]
        rfl
theorem cut_two (s : List UInt8) (w : World) : Calls Tryd.prog 19 #[.string (mkB s), .string ⟨#[58, 58]⟩] w fun e w' => e = .returned (.tuple #[.string (mkB (Lib.trimPrefix s [58, 58])), .bool (Lib.hasPrefix s [58, 58])]) ∧ w' = w :=
  (Tryd.strings_CutPrefix (mkB s) ⟨#[58, 58]⟩ w).mono fun e w' ⟨h1, h2⟩ => ⟨by rw [h1, data_mkB]; rfl, h2⟩
theorem cut_one (s : List UInt8) (w : World) : Calls Tryd.prog 19 #[.string (mkB s), .string ⟨#[58]⟩] w fun e w' => e = .returned (.tuple #[.string (mkB (Lib.trimPrefix s [58])), .bool (Lib.hasPrefix s [58])]) ∧ w' = w :=
  (Tryd.strings_CutPrefix (mkB s) ⟨#[58]⟩ w).mono fun e w' ⟨h1, h2⟩ => ⟨by rw [h1, data_mkB]; rfl, h2⟩
theorem trim_yes {s p : List UInt8} (h : Lib.hasPrefix s p = true) : Lib.trimPrefix s p = s.drop p.length := by unfold Lib.trimPrefix; rw [if_pos h]
theorem trim_no {s p : List UInt8} (h : Lib.hasPrefix s p = false) : Lib.trimPrefix s p = s := by unfold Lib.trimPrefix; rw [if_neg (by rw [h]; decide)]
theorem mkB_empty (s : List UInt8) : (mkB s).toList.isEmpty = decide (s = []) := by
  rw [ByteArray.toList_eq, data_mkB]
  cases s <;> rfl
theorem pcL_len : ∀ (k : Nat) (s : List UInt8) (v : Nat), (pcL k s v).2.length ≤ s.length
  | 0, s, v => Nat.le_refl _
  | k + 1, [], v => Nat.le_refl _
  | k + 1, c :: l, v => by
    unfold pcL
    split
    · exact Nat.le_refl _
    · exact Nat.le_trans (pcL_len k l _) (Nat.le_succ _)
theorem pieceF_some {s s1 : List UInt8} {acc acc1 : List Nat} (h : pieceF s acc = some (s1, acc1)) (ha : acc.length ≤ 8) : s1.length < s.length ∧ acc1.length ≤ 8 := by
  unfold pieceF at h
  split at h
  · cases h
  · next hc =>
    have e := Option.some.inj h
    obtain ⟨rfl, rfl⟩ := Prod.mk.inj e
    have := pcL_len 4 s 0
    simp; omega
theorem dotF_some {s : List UInt8} {acc acc1 : List Nat} (h : dotF s acc = some acc1) : acc1.length ≤ 8 := by
  unfold dotF at h
  split at h
  · next hc =>
    split at h
    · cases h
    · have e := Option.some.inj h
      subst e
      simp; omega
  · cases h
set_option maxRecDepth 8000 in
set_option maxHeartbeats 8000000 in
theorem all_any (g : Nat) (w : World) (s : List UInt8) (h : St g w s [] (-1)) (hs : s.length ≤ 2147483648) :
    Calls Tryd.prog 14 #[.pointer (some ⟨g, 0, none⟩)] w fun e w' => Below g w w' ∧ AllQ g (allF s) e w' := by
  have h0 := h.c0
  have hf0 := h.fr 0
  have hf10 := h.fr 10
  have hcg := h.cg
  have hsz : (mkB s).size ≤ 2147483648 := by rw [mkB_size]; exact hs
  by_cases hw : Lib.hasPrefix s [58, 58] = true ∧ s.drop 2 = []
  · obtain ⟨hp, he⟩ := hw
    have HC := Aside0.mk (fun W => cut_two s W)
    rw [hp, trim_yes hp] at HC
    simp only [List.length_cons, List.length_nil] at HC
    have HR : Aside0 (allF s = some ([], 0)) := ⟨by unfold allF; rw [if_pos hp, if_pos he]⟩
    have hem : (mkB (s.drop 2)).toList.isEmpty = true := by rw [mkB_empty]; exact decide_eq_true he
    have H2 := Aside0.mk ((h.setG 0).setS (s.drop 2))
    have hB : Aside0 (Below g w ((w.setCell ⟨g, 10, none⟩ (.int .i64 0)).setCell ⟨g, 0, none⟩ (.string (mkB (s.drop 2))))) := ⟨below_set (below_set (Below.refl _ _) _ _) _ _⟩
    clear h hp he
    go_enter Tryd.func14, Tryd.ntmps14
    go_wp2_with (go_at_call 19; refine (HC.out _).mono ?_; rintro e w1 ⟨rfl, hw⟩; rw [hw])
    go_ret
    exact ⟨hB.out, by rw [HR.out]; exact ⟨rfl, by simp, _, H2.out⟩⟩
  · have HW : (∃ s2, Aside0 (∀ W, Calls Tryd.prog 19 #[.string (mkB s), .string ⟨#[58, 58]⟩] W fun e w' => e = .returned (.tuple #[.string (mkB s2), .bool true]) ∧ w' = W) ∧ (mkB s2).toList.isEmpty = false ∧ Aside0 (loopF (s.length + 1) s2 [] 0 = allF s) ∧ s2.length ≤ s.length) ∨ (Aside0 (∀ W, Calls Tryd.prog 19 #[.string (mkB s), .string ⟨#[58, 58]⟩] W fun e w' => e = .returned (.tuple #[.string (mkB s), .bool false]) ∧ w' = W) ∧ Aside0 (loopF (s.length + 1) s [] (-1) = allF s)) := by
      have HC := fun W => cut_two s W
      cases hp : Lib.hasPrefix s [58, 58] with
      | true =>
        rw [hp, trim_yes hp] at HC
        have he : ¬ s.drop 2 = [] := fun e => hw ⟨hp, e⟩
        exact .inl ⟨s.drop 2, ⟨HC⟩, by rw [mkB_empty]; exact decide_eq_false he, ⟨by unfold allF; rw [if_pos hp, if_neg he]⟩, by simp⟩
      | false =>
        rw [hp, trim_no hp] at HC
        exact .inr ⟨⟨HC⟩, ⟨by unfold allF; rw [if_neg (by rw [hp]; decide)]⟩⟩
    generalize allF s = R at HW ⊢
    have HL : ∀ (W : World) (s2 : List UInt8) (gap : Int), St g W s2 [] gap → Below g w W → s2.length ≤ s.length → True := fun _ _ _ _ _ _ => trivial
    clear hw HL
    rcases HW with ⟨s2, HC, hem, HR, hl2⟩ | ⟨HC, HR⟩
    · have H2 := Aside0.mk ((h.setG 0).setS s2)
      have hB : Aside0 (Below g w ((w.setCell ⟨g, 10, none⟩ (.int .i64 0)).setCell ⟨g, 0, none⟩ (.string (mkB s2)))) := ⟨below_set (below_set (Below.refl _ _) _ _) _ _⟩
      clear h
      go_enter Tryd.func14, Tryd.ntmps14
      go_wp2_with (go_at_call 19; refine (HC.out _).mono ?_; rintro e w1 ⟨rfl, hw⟩; rw [hw])
      clear h0 hcg hf0 hf10 hem
      go_loopg [5] s.length (fun kq v5 w' => ∃ (s2 : List UInt8) (acc : List Nat) (gap : Int), Aside0 (St g w' s2 acc gap) ∧ Aside0 (Below g w w') ∧ s2.length ≤ kq ∧ s2.length ≤ 2147483648 ∧ acc.length ≤ 8 ∧ Aside0 (loopF (kq + 1) s2 acc gap = R))
      case atStart => exact ⟨_, [], _, H2, hB, hl2, Nat.le_trans hl2 hs, Nat.zero_le _, HR⟩
      case round =>
        clear H2 hB HR HC hl2 hs hsz
        obtain ⟨s2, acc, gap, H, HB, hk, hs2, ha, HR⟩ := hrel
        have d0 := H.out.c0
        have hdz := mkB_size s2
        have HI := Aside0.mk (fun W => strings_IndexAny.any (mkB s2) W (by rw [mkB_size]; omega))
        rw [data_mkB] at HI
        cases hdf : dotFirst s2 with
        | true =>
          have hdf2 := hdf
          unfold dotFirst at hdf2
          simp only [Bool.and_eq_true, decide_eq_true_eq, beq_iff_eq] at hdf2
          obtain ⟨hd1, hd2⟩ := hdf2
          rcases indexAny_lt [58, 46] s2 with hi | ⟨i, hi, hie⟩
          · rw [hi] at hd1; exact absurd hd1 (by decide)
          · rw [hie] at HI hd2
            rw [Int.toNat_natCast, List.getD_eq_getElem?_getD, List.getElem?_eq_getElem hi] at hd2
            have hix : ∀ w, (Instr.index 9 (.string (mkB s2)) (.int .i64 (i : Int))).run Tryd.prog w = .ok (.int .u8 46) w := fun w => by
              rw [idx_mkB s2 i hi w]
              have : s2[i] = 46 := hd2
              rw [this]; rfl
            have HS : Aside0 (R = match dotF s2 acc with | none => none | some a => some (a, gap)) := ⟨by rw [← HR.out, loopF_succ, if_pos hdf]⟩
            have HD : Aside0 (∀ W, St g W s2 acc gap → Calls Tryd.prog 21 #[.pointer (some ⟨g, 0, none⟩)] W fun e w' => Below g W w' ∧ ∃ b, e = .returned (.bool b) ∧ AllQ g R (.returned (.bool b)) w') := ⟨fun W hW => (dotted_any g W s2 acc gap hW hs2 ha).mono fun e w' ⟨h1, h2⟩ => by
              refine ⟨h1, ?_⟩
              rw [HS.out]
              cases hq : dotF s2 acc with
              | none =>
                rw [hq] at h2
                exact ⟨false, h2, rfl⟩
              | some a =>
                rw [hq] at h2
                exact ⟨true, h2.1, rfl, dotF_some hq, _, h2.2⟩⟩
            clear hdf hd1 hd2 HR hie hdz
            go_wp2_with (first | (go_at_call 20; refine (HI.out _).mono ?_; rintro e w1 ⟨rfl, hb1⟩; replace HB := Aside0.mk (below_then HB.out (Nat.le_of_lt H.out.sz) hb1); replace H := Aside0.mk (H.out.keep hb1); have d1 := H.out.c0) | (go_at_call 21; refine (HD.out _ H.out).mono ?_; rintro e w2 ⟨hb2, b, rfl, hq⟩))
            go_ret
            exact ⟨HB.out.trans hb2, hq⟩
        | false =>
          have HA : (Aside0 (∀ W, Calls Tryd.prog 20 #[.string (mkB s2), .string ⟨#[58, 46]⟩] W fun e w' => e = .returned (.int .i64 (-1)) ∧ Below W.heap.size W w')) ∨ (∃ (i : Nat) (c : UInt8), Aside0 (∀ W, Calls Tryd.prog 20 #[.string (mkB s2), .string ⟨#[58, 46]⟩] W fun e w' => e = .returned (.int .i64 (i : Int)) ∧ Below W.heap.size W w') ∧ (∀ w, (Instr.index 9 (.string (mkB s2)) (.int .i64 (i : Int))).run Tryd.prog w = .ok (.int .u8 (c.toNat : Int)) w) ∧ ((c.toNat : Int) == 46) = false) := by
            rcases indexAny_lt [58, 46] s2 with hi | ⟨i, hi, hie⟩
            · rw [hi] at HI; exact .inl HI
            · rw [hie] at HI
              refine .inr ⟨i, s2[i], HI, idx_mkB s2 i hi, beq_eq_false_iff_ne.2 fun e => ?_⟩
              have hc : s2[i] = 46 := UInt8.toNat_inj.1 (by show s2[i].toNat = 46; omega)
              have : dotFirst s2 = true := by
                unfold dotFirst
                rw [hie, Int.toNat_natCast, List.getD_eq_getElem?_getD, List.getElem?_eq_getElem hi]
                simp [hc]
              rw [this] at hdf
              cases hdf
          have HP : Aside0 (∀ W, St g W s2 acc gap → Calls Tryd.prog 22 #[.pointer (some ⟨g, 0, none⟩)] W fun e w' => Below g W w' ∧ PieceQ g gap (pieceF s2 acc) e w') := ⟨fun W hW => piece_any g W s2 acc gap hW (by omega) ha⟩
          have HS : Aside0 (R = match pieceF s2 acc with
              | none => none
              | some (s1, acc1) =>
                if s1 = [] then some (acc1, gap)
                else if Lib.hasPrefix s1 [58, 58] = true then (if 0 ≤ gap then none else if s1.drop 2 = [] then some (acc1, (acc1.length : Int)) else loopF gk (s1.drop 2) acc1 (acc1.length : Int))
                else if Lib.hasPrefix s1 [58] = true then loopF gk (s1.drop 1) acc1 gap else none) := ⟨by rw [← HR.out, loopF_succ, if_neg (by rw [hdf]; decide)]⟩
          clear HI HR hdf
          cases hpf : pieceF s2 acc with
          | none =>
            rw [hpf] at HP HS
            have HN : Aside0 (R = none) := ⟨HS.out⟩
            clear HS hpf
            rcases HA with HA | ⟨i, c, HA, hix, hc⟩
            all_goals
              go_wp2_with (first | (go_at_call 20; refine (HA.out _).mono ?_; rintro e w1 ⟨rfl, hb1⟩; replace HB := Aside0.mk (below_then HB.out (Nat.le_of_lt H.out.sz) hb1); replace H := Aside0.mk (H.out.keep hb1); have d1 := H.out.c0) | (go_at_call 22; refine (HP.out _ H.out).mono ?_; rintro e w2 ⟨hb2, rfl⟩))
              go_ret
              exact ⟨HB.out.trans hb2, by rw [HN.out]; rfl⟩
          | some pr =>
            obtain ⟨s1, acc1⟩ := pr
            rw [hpf] at HP HS
            obtain ⟨hl1, ha1⟩ := pieceF_some hpf ha
            clear hpf
            obtain ⟨gk, rfl⟩ : ∃ gk', gk = gk' + 1 := ⟨gk - 1, by omega⟩
            simp only at HS
            have HP2 : Aside0 (∀ W, St g W s2 acc gap → Calls Tryd.prog 22 #[.pointer (some ⟨g, 0, none⟩)] W fun e w' => Below g W w' ∧ e = .returned (.bool true) ∧ St g w' s1 acc1 gap) := ⟨fun W hW => (HP.out W hW).mono fun e w' ⟨h1, h2⟩ => ⟨h1, h2.1, h2.2⟩⟩
            have HT2 := Aside0.mk (fun W => cut_two s1 W)
            have HT1 := Aside0.mk (fun W => cut_one s1 W)
            clear HP
            by_cases he : s1 = []
            · have HN : Aside0 (R = some (acc1, gap)) := ⟨by rw [HS.out, if_pos he]⟩
              have hem : (mkB s1).toList.isEmpty = true := by rw [mkB_empty]; exact decide_eq_true he
              clear HS he
              rcases HA with HA | ⟨i, c, HA, hix, hc⟩
              all_goals
                go_wp2_with (first | (go_at_call 20; refine (HA.out _).mono ?_; rintro e w1 ⟨rfl, hb1⟩; replace HB := Aside0.mk (below_then HB.out (Nat.le_of_lt H.out.sz) hb1); replace H := Aside0.mk (H.out.keep hb1); have d1 := H.out.c0) | (go_at_call 22; refine (HP2.out _ H.out).mono ?_; rintro e w2 ⟨hb2, rfl, hq⟩; have e0 := hq.c0; have e9 := hq.cn; have e10 := hq.cg; have k0 := hq.fr 0; have k10 := hq.fr 10; replace hq := Aside0.mk hq; replace hb2 := Aside0.mk hb2) | (go_at_call 19; with_reducible refine (HT2.out _).mono ?_; rintro e w3 ⟨rfl, hw3⟩; rw [hw3]) | (go_at_call 19; with_reducible refine (HT1.out _).mono ?_; rintro e w4 ⟨rfl, hw4⟩; rw [hw4]))
                go_ret
                exact ⟨HB.out.trans hb2.out, by rw [HN.out]; exact ⟨rfl, ha1, _, hq.out⟩⟩
            · have hem : (mkB s1).toList.isEmpty = false := by rw [mkB_empty]; exact decide_eq_false he
              rw [if_neg he] at HS
              clear he
              cases hp2 : Lib.hasPrefix s1 [58, 58] with
              | true =>
                rw [hp2, trim_yes hp2] at HT2
                rw [hp2, if_pos rfl] at HS
                simp only [List.length_cons, List.length_nil] at HT2
                clear hp2
                by_cases hg : 0 ≤ gap
                · have hg1 : decide (0 ≤ gap) = true := decide_eq_true hg
                  rw [if_pos hg] at HS
                  rcases HA with HA | ⟨i, c, HA, hix, hc⟩
                  all_goals
                    go_wp2_with (first | (go_at_call 20; refine (HA.out _).mono ?_; rintro e w1 ⟨rfl, hb1⟩; replace HB := Aside0.mk (below_then HB.out (Nat.le_of_lt H.out.sz) hb1); replace H := Aside0.mk (H.out.keep hb1); have d1 := H.out.c0) | (go_at_call 22; refine (HP2.out _ H.out).mono ?_; rintro e w2 ⟨hb2, rfl, hq⟩; have e0 := hq.c0; have e9 := hq.cn; have e10 := hq.cg; have k0 := hq.fr 0; have k10 := hq.fr 10; replace hq := Aside0.mk hq; replace hb2 := Aside0.mk hb2) | (go_at_call 19; with_reducible refine (HT2.out _).mono ?_; rintro e w3 ⟨rfl, hw3⟩; rw [hw3]) | (go_at_call 19; with_reducible refine (HT1.out _).mono ?_; rintro e w4 ⟨rfl, hw4⟩; rw [hw4]))
                    go_ret
                    exact ⟨HB.out.trans hb2.out, by rw [HS.out]; rfl⟩
                · have hg1 : decide (0 ≤ gap) = false := decide_eq_false hg
                  rw [if_neg hg] at HS
                  have hl3 : (s1.drop 2).length ≤ s1.length := by simp
                  generalize s1.drop 2 = s3 at HT2 HS hl3
                  by_cases he3 : s3 = []
                  · have hem3 : (mkB s3).toList.isEmpty = true := by rw [mkB_empty]; exact decide_eq_true he3
                    rw [if_pos he3] at HS
                    clear he3
                    rcases HA with HA | ⟨i, c, HA, hix, hc⟩
                    all_goals
                      go_wp2_with (first | (go_at_call 20; refine (HA.out _).mono ?_; rintro e w1 ⟨rfl, hb1⟩; replace HB := Aside0.mk (below_then HB.out (Nat.le_of_lt H.out.sz) hb1); replace H := Aside0.mk (H.out.keep hb1); have d1 := H.out.c0) | (go_at_call 22; refine (HP2.out _ H.out).mono ?_; rintro e w2 ⟨hb2, rfl, hq⟩; have e0 := hq.c0; have e9 := hq.cn; have e10 := hq.cg; have k0 := hq.fr 0; have k10 := hq.fr 10; replace hq := Aside0.mk hq; replace hb2 := Aside0.mk hb2) | (go_at_call 19; with_reducible refine (HT2.out _).mono ?_; rintro e w3 ⟨rfl, hw3⟩; rw [hw3]) | (go_at_call 19; with_reducible refine (HT1.out _).mono ?_; rintro e w4 ⟨rfl, hw4⟩; rw [hw4]))
                      go_ret
                      exact ⟨below_set (below_set (HB.out.trans hb2.out) _ _) _ _, by rw [HS.out]; exact ⟨rfl, ha1, _, (hq.out.setG _).setS _⟩⟩
                  · have hem3 : (mkB s3).toList.isEmpty = false := by rw [mkB_empty]; exact decide_eq_false he3
                    rw [if_neg he3] at HS
                    clear he3
                    rcases HA with HA | ⟨i, c, HA, hix, hc⟩
                    all_goals
                      go_wp2_with (first | (go_at_call 20; refine (HA.out _).mono ?_; rintro e w1 ⟨rfl, hb1⟩; replace HB := Aside0.mk (below_then HB.out (Nat.le_of_lt H.out.sz) hb1); replace H := Aside0.mk (H.out.keep hb1); have d1 := H.out.c0) | (go_at_call 22; refine (HP2.out _ H.out).mono ?_; rintro e w2 ⟨hb2, rfl, hq⟩; have e0 := hq.c0; have e9 := hq.cn; have e10 := hq.cg; have k0 := hq.fr 0; have k10 := hq.fr 10; replace hq := Aside0.mk hq; replace hb2 := Aside0.mk hb2) | (go_at_call 19; with_reducible refine (HT2.out _).mono ?_; rintro e w3 ⟨rfl, hw3⟩; rw [hw3]) | (go_at_call 19; with_reducible refine (HT1.out _).mono ?_; rintro e w4 ⟨rfl, hw4⟩; rw [hw4]))
                      go_roundg gk
                      case measure => omega
                      case rel => exact ⟨s3, acc1, _, ⟨(hq.out.setG _).setS _⟩, ⟨below_set (below_set (HB.out.trans hb2.out) _ _) _ _⟩, by omega, by omega, ha1, ⟨HS.out.symm⟩⟩
              | false =>
                rw [hp2, trim_no hp2] at HT2
                rw [hp2, if_neg (by decide)] at HS
                clear hp2
                cases hp1 : Lib.hasPrefix s1 [58] with
                | true =>
                  rw [hp1, trim_yes hp1] at HT1
                  rw [hp1, if_pos rfl] at HS
                  simp only [List.length_cons, List.length_nil] at HT1
                  clear hp1
                  have hl3 : (s1.drop 1).length ≤ s1.length := by simp
                  generalize s1.drop 1 = s3 at HT1 HS hl3
                  rcases HA with HA | ⟨i, c, HA, hix, hc⟩
                  all_goals
                    go_wp2_with (first | (go_at_call 20; refine (HA.out _).mono ?_; rintro e w1 ⟨rfl, hb1⟩; replace HB := Aside0.mk (below_then HB.out (Nat.le_of_lt H.out.sz) hb1); replace H := Aside0.mk (H.out.keep hb1); have d1 := H.out.c0) | (go_at_call 22; refine (HP2.out _ H.out).mono ?_; rintro e w2 ⟨hb2, rfl, hq⟩; have e0 := hq.c0; have e9 := hq.cn; have e10 := hq.cg; have k0 := hq.fr 0; have k10 := hq.fr 10; replace hq := Aside0.mk hq; replace hb2 := Aside0.mk hb2) | (go_at_call 19; with_reducible refine (HT2.out _).mono ?_; rintro e w3 ⟨rfl, hw3⟩; rw [hw3]) | (go_at_call 19; with_reducible refine (HT1.out _).mono ?_; rintro e w4 ⟨rfl, hw4⟩; rw [hw4]))
                    go_roundg gk
                    case measure => omega
                    case rel => exact ⟨s3, acc1, _, ⟨hq.out.setS _⟩, ⟨below_set (HB.out.trans hb2.out) _ _⟩, by omega, by omega, ha1, ⟨HS.out.symm⟩⟩
                | false =>
                  rw [hp1, trim_no hp1] at HT1
                  rw [hp1, if_neg (by decide)] at HS
                  clear hp1
                  rcases HA with HA | ⟨i, c, HA, hix, hc⟩
                  all_goals
                    go_wp2_with (first | (go_at_call 20; refine (HA.out _).mono ?_; rintro e w1 ⟨rfl, hb1⟩; replace HB := Aside0.mk (below_then HB.out (Nat.le_of_lt H.out.sz) hb1); replace H := Aside0.mk (H.out.keep hb1); have d1 := H.out.c0) | (go_at_call 22; refine (HP2.out _ H.out).mono ?_; rintro e w2 ⟨hb2, rfl, hq⟩; have e0 := hq.c0; have e9 := hq.cn; have e10 := hq.cg; have k0 := hq.fr 0; have k10 := hq.fr 10; replace hq := Aside0.mk hq; replace hb2 := Aside0.mk hb2) | (go_at_call 19; with_reducible refine (HT2.out _).mono ?_; rintro e w3 ⟨rfl, hw3⟩; rw [hw3]) | (go_at_call 19; with_reducible refine (HT1.out _).mono ?_; rintro e w4 ⟨rfl, hw4⟩; rw [hw4]))
                    go_ret
                    exact ⟨HB.out.trans hb2.out, by rw [HS.out]; rfl⟩
    · have H2 := Aside0.mk h
      have hB : Aside0 (Below g w w) := ⟨Below.refl _ _⟩
      clear h
      go_enter Tryd.func14, Tryd.ntmps14
      go_wp2_with (go_at_call 19; refine (HC.out _).mono ?_; rintro e w1 ⟨rfl, hw⟩; rw [hw])
      clear h0 hcg hf0 hf10
      go_loopg [5] s.length (fun kq v5 w' => ∃ (s2 : List UInt8) (acc : List Nat) (gap : Int), Aside0 (St g w' s2 acc gap) ∧ Aside0 (Below g w w') ∧ s2.length ≤ kq ∧ s2.length ≤ 2147483648 ∧ acc.length ≤ 8 ∧ Aside0 (loopF (kq + 1) s2 acc gap = R))
      case atStart => exact ⟨_, [], _, H2, hB, Nat.le_refl _, hs, Nat.zero_le _, HR⟩
      case round =>
        clear H2 hB HR HC hs hsz
        obtain ⟨s2, acc, gap, H, HB, hk, hs2, ha, HR⟩ := hrel
        have d0 := H.out.c0
        have hdz := mkB_size s2
        have HI := Aside0.mk (fun W => strings_IndexAny.any (mkB s2) W (by rw [mkB_size]; omega))
        rw [data_mkB] at HI
        cases hdf : dotFirst s2 with
        | true =>
          have hdf2 := hdf
          unfold dotFirst at hdf2
          simp only [Bool.and_eq_true, decide_eq_true_eq, beq_iff_eq] at hdf2
          obtain ⟨hd1, hd2⟩ := hdf2
          rcases indexAny_lt [58, 46] s2 with hi | ⟨i, hi, hie⟩
          · rw [hi] at hd1; exact absurd hd1 (by decide)
          · rw [hie] at HI hd2
            rw [Int.toNat_natCast, List.getD_eq_getElem?_getD, List.getElem?_eq_getElem hi] at hd2
            have hix : ∀ w, (Instr.index 9 (.string (mkB s2)) (.int .i64 (i : Int))).run Tryd.prog w = .ok (.int .u8 46) w := fun w => by
              rw [idx_mkB s2 i hi w]
              have : s2[i] = 46 := hd2
              rw [this]; rfl
            have HS : Aside0 (R = match dotF s2 acc with | none => none | some a => some (a, gap)) := ⟨by rw [← HR.out, loopF_succ, if_pos hdf]⟩
            have HD : Aside0 (∀ W, St g W s2 acc gap → Calls Tryd.prog 21 #[.pointer (some ⟨g, 0, none⟩)] W fun e w' => Below g W w' ∧ ∃ b, e = .returned (.bool b) ∧ AllQ g R (.returned (.bool b)) w') := ⟨fun W hW => (dotted_any g W s2 acc gap hW hs2 ha).mono fun e w' ⟨h1, h2⟩ => by
              refine ⟨h1, ?_⟩
              rw [HS.out]
              cases hq : dotF s2 acc with
              | none =>
                rw [hq] at h2
                exact ⟨false, h2, rfl⟩
              | some a =>
                rw [hq] at h2
                exact ⟨true, h2.1, rfl, dotF_some hq, _, h2.2⟩⟩
            clear hdf hd1 hd2 HR hie hdz
            go_wp2_with (first | (go_at_call 20; refine (HI.out _).mono ?_; rintro e w1 ⟨rfl, hb1⟩; replace HB := Aside0.mk (below_then HB.out (Nat.le_of_lt H.out.sz) hb1); replace H := Aside0.mk (H.out.keep hb1); have d1 := H.out.c0) | (go_at_call 21; refine (HD.out _ H.out).mono ?_; rintro e w2 ⟨hb2, b, rfl, hq⟩))
            go_ret
            exact ⟨HB.out.trans hb2, hq⟩
        | false =>
          have HA : (Aside0 (∀ W, Calls Tryd.prog 20 #[.string (mkB s2), .string ⟨#[58, 46]⟩] W fun e w' => e = .returned (.int .i64 (-1)) ∧ Below W.heap.size W w')) ∨ (∃ (i : Nat) (c : UInt8), Aside0 (∀ W, Calls Tryd.prog 20 #[.string (mkB s2), .string ⟨#[58, 46]⟩] W fun e w' => e = .returned (.int .i64 (i : Int)) ∧ Below W.heap.size W w') ∧ (∀ w, (Instr.index 9 (.string (mkB s2)) (.int .i64 (i : Int))).run Tryd.prog w = .ok (.int .u8 (c.toNat : Int)) w) ∧ ((c.toNat : Int) == 46) = false) := by
            rcases indexAny_lt [58, 46] s2 with hi | ⟨i, hi, hie⟩
            · rw [hi] at HI; exact .inl HI
            · rw [hie] at HI
              refine .inr ⟨i, s2[i], HI, idx_mkB s2 i hi, beq_eq_false_iff_ne.2 fun e => ?_⟩
              have hc : s2[i] = 46 := UInt8.toNat_inj.1 (by show s2[i].toNat = 46; omega)
              have : dotFirst s2 = true := by
                unfold dotFirst
                rw [hie, Int.toNat_natCast, List.getD_eq_getElem?_getD, List.getElem?_eq_getElem hi]
                simp [hc]
              rw [this] at hdf
              cases hdf
          have HP : Aside0 (∀ W, St g W s2 acc gap → Calls Tryd.prog 22 #[.pointer (some ⟨g, 0, none⟩)] W fun e w' => Below g W w' ∧ PieceQ g gap (pieceF s2 acc) e w') := ⟨fun W hW => piece_any g W s2 acc gap hW (by omega) ha⟩
          have HS : Aside0 (R = match pieceF s2 acc with
              | none => none
              | some (s1, acc1) =>
                if s1 = [] then some (acc1, gap)
                else if Lib.hasPrefix s1 [58, 58] = true then (if 0 ≤ gap then none else if s1.drop 2 = [] then some (acc1, (acc1.length : Int)) else loopF gk (s1.drop 2) acc1 (acc1.length : Int))
                else if Lib.hasPrefix s1 [58] = true then loopF gk (s1.drop 1) acc1 gap else none) := ⟨by rw [← HR.out, loopF_succ, if_neg (by rw [hdf]; decide)]⟩
          clear HI HR hdf
          cases hpf : pieceF s2 acc with
          | none =>
            rw [hpf] at HP HS
            have HN : Aside0 (R = none) := ⟨HS.out⟩
            clear HS hpf
            rcases HA with HA | ⟨i, c, HA, hix, hc⟩
            all_goals
              go_wp2_with (first | (go_at_call 20; refine (HA.out _).mono ?_; rintro e w1 ⟨rfl, hb1⟩; replace HB := Aside0.mk (below_then HB.out (Nat.le_of_lt H.out.sz) hb1); replace H := Aside0.mk (H.out.keep hb1); have d1 := H.out.c0) | (go_at_call 22; refine (HP.out _ H.out).mono ?_; rintro e w2 ⟨hb2, rfl⟩))
              go_ret
              exact ⟨HB.out.trans hb2, by rw [HN.out]; rfl⟩
          | some pr =>
            obtain ⟨s1, acc1⟩ := pr
            rw [hpf] at HP HS
            obtain ⟨hl1, ha1⟩ := pieceF_some hpf ha
            clear hpf
            obtain ⟨gk, rfl⟩ : ∃ gk', gk = gk' + 1 := ⟨gk - 1, by omega⟩
            simp only at HS
            have HP2 : Aside0 (∀ W, St g W s2 acc gap → Calls Tryd.prog 22 #[.pointer (some ⟨g, 0, none⟩)] W fun e w' => Below g W w' ∧ e = .returned (.bool true) ∧ St g w' s1 acc1 gap) := ⟨fun W hW => (HP.out W hW).mono fun e w' ⟨h1, h2⟩ => ⟨h1, h2.1, h2.2⟩⟩
            have HT2 := Aside0.mk (fun W => cut_two s1 W)
            have HT1 := Aside0.mk (fun W => cut_one s1 W)
            clear HP
            by_cases he : s1 = []
            · have HN : Aside0 (R = some (acc1, gap)) := ⟨by rw [HS.out, if_pos he]⟩
              have hem : (mkB s1).toList.isEmpty = true := by rw [mkB_empty]; exact decide_eq_true he
              clear HS he
              rcases HA with HA | ⟨i, c, HA, hix, hc⟩
              all_goals
                go_wp2_with (first | (go_at_call 20; refine (HA.out _).mono ?_; rintro e w1 ⟨rfl, hb1⟩; replace HB := Aside0.mk (below_then HB.out (Nat.le_of_lt H.out.sz) hb1); replace H := Aside0.mk (H.out.keep hb1); have d1 := H.out.c0) | (go_at_call 22; refine (HP2.out _ H.out).mono ?_; rintro e w2 ⟨hb2, rfl, hq⟩; have e0 := hq.c0; have e9 := hq.cn; have e10 := hq.cg; have k0 := hq.fr 0; have k10 := hq.fr 10; replace hq := Aside0.mk hq; replace hb2 := Aside0.mk hb2) | (go_at_call 19; with_reducible refine (HT2.out _).mono ?_; rintro e w3 ⟨rfl, hw3⟩; rw [hw3]) | (go_at_call 19; with_reducible refine (HT1.out _).mono ?_; rintro e w4 ⟨rfl, hw4⟩; rw [hw4]))
                go_ret
                exact ⟨HB.out.trans hb2.out, by rw [HN.out]; exact ⟨rfl, ha1, _, hq.out⟩⟩
            · have hem : (mkB s1).toList.isEmpty = false := by rw [mkB_empty]; exact decide_eq_false he
              rw [if_neg he] at HS
              clear he
              cases hp2 : Lib.hasPrefix s1 [58, 58] with
              | true =>
                rw [hp2, trim_yes hp2] at HT2
                rw [hp2, if_pos rfl] at HS
                simp only [List.length_cons, List.length_nil] at HT2
                clear hp2
                by_cases hg : 0 ≤ gap
                · have hg1 : decide (0 ≤ gap) = true := decide_eq_true hg
                  rw [if_pos hg] at HS
                  rcases HA with HA | ⟨i, c, HA, hix, hc⟩
                  all_goals
                    go_wp2_with (first | (go_at_call 20; refine (HA.out _).mono ?_; rintro e w1 ⟨rfl, hb1⟩; replace HB := Aside0.mk (below_then HB.out (Nat.le_of_lt H.out.sz) hb1); replace H := Aside0.mk (H.out.keep hb1); have d1 := H.out.c0) | (go_at_call 22; refine (HP2.out _ H.out).mono ?_; rintro e w2 ⟨hb2, rfl, hq⟩; have e0 := hq.c0; have e9 := hq.cn; have e10 := hq.cg; have k0 := hq.fr 0; have k10 := hq.fr 10; replace hq := Aside0.mk hq; replace hb2 := Aside0.mk hb2) | (go_at_call 19; with_reducible refine (HT2.out _).mono ?_; rintro e w3 ⟨rfl, hw3⟩; rw [hw3]) | (go_at_call 19; with_reducible refine (HT1.out _).mono ?_; rintro e w4 ⟨rfl, hw4⟩; rw [hw4]))
                    go_ret
                    exact ⟨HB.out.trans hb2.out, by rw [HS.out]; rfl⟩
                · have hg1 : decide (0 ≤ gap) = false := decide_eq_false hg
                  rw [if_neg hg] at HS
                  have hl3 : (s1.drop 2).length ≤ s1.length := by simp
                  generalize s1.drop 2 = s3 at HT2 HS hl3
                  by_cases he3 : s3 = []
                  · have hem3 : (mkB s3).toList.isEmpty = true := by rw [mkB_empty]; exact decide_eq_true he3
                    rw [if_pos he3] at HS
                    clear he3
                    rcases HA with HA | ⟨i, c, HA, hix, hc⟩
                    all_goals
                      go_wp2_with (first | (go_at_call 20; refine (HA.out _).mono ?_; rintro e w1 ⟨rfl, hb1⟩; replace HB := Aside0.mk (below_then HB.out (Nat.le_of_lt H.out.sz) hb1); replace H := Aside0.mk (H.out.keep hb1); have d1 := H.out.c0) | (go_at_call 22; refine (HP2.out _ H.out).mono ?_; rintro e w2 ⟨hb2, rfl, hq⟩; have e0 := hq.c0; have e9 := hq.cn; have e10 := hq.cg; have k0 := hq.fr 0; have k10 := hq.fr 10; replace hq := Aside0.mk hq; replace hb2 := Aside0.mk hb2) | (go_at_call 19; with_reducible refine (HT2.out _).mono ?_; rintro e w3 ⟨rfl, hw3⟩; rw [hw3]) | (go_at_call 19; with_reducible refine (HT1.out _).mono ?_; rintro e w4 ⟨rfl, hw4⟩; rw [hw4]))
                      go_ret
                      exact ⟨below_set (below_set (HB.out.trans hb2.out) _ _) _ _, by rw [HS.out]; exact ⟨rfl, ha1, _, (hq.out.setG _).setS _⟩⟩
                  · have hem3 : (mkB s3).toList.isEmpty = false := by rw [mkB_empty]; exact decide_eq_false he3
                    rw [if_neg he3] at HS
                    clear he3
                    rcases HA with HA | ⟨i, c, HA, hix, hc⟩
                    all_goals
                      go_wp2_with (first | (go_at_call 20; refine (HA.out _).mono ?_; rintro e w1 ⟨rfl, hb1⟩; replace HB := Aside0.mk (below_then HB.out (Nat.le_of_lt H.out.sz) hb1); replace H := Aside0.mk (H.out.keep hb1); have d1 := H.out.c0) | (go_at_call 22; refine (HP2.out _ H.out).mono ?_; rintro e w2 ⟨hb2, rfl, hq⟩; have e0 := hq.c0; have e9 := hq.cn; have e10 := hq.cg; have k0 := hq.fr 0; have k10 := hq.fr 10; replace hq := Aside0.mk hq; replace hb2 := Aside0.mk hb2) | (go_at_call 19; with_reducible refine (HT2.out _).mono ?_; rintro e w3 ⟨rfl, hw3⟩; rw [hw3]) | (go_at_call 19; with_reducible refine (HT1.out _).mono ?_; rintro e w4 ⟨rfl, hw4⟩; rw [hw4]))
                      go_roundg gk
                      case measure => omega
                      case rel => exact ⟨s3, acc1, _, ⟨(hq.out.setG _).setS _⟩, ⟨below_set (below_set (HB.out.trans hb2.out) _ _) _ _⟩, by omega, by omega, ha1, ⟨HS.out.symm⟩⟩
              | false =>
                rw [hp2, trim_no hp2] at HT2
                rw [hp2, if_neg (by decide)] at HS
                clear hp2
                cases hp1 : Lib.hasPrefix s1 [58] with
                | true =>
                  rw [hp1, trim_yes hp1] at HT1
                  rw [hp1, if_pos rfl] at HS
                  simp only [List.length_cons, List.length_nil] at HT1
                  clear hp1
                  have hl3 : (s1.drop 1).length ≤ s1.length := by simp
                  generalize s1.drop 1 = s3 at HT1 HS hl3
                  rcases HA with HA | ⟨i, c, HA, hix, hc⟩
                  all_goals
                    go_wp2_with (first | (go_at_call 20; refine (HA.out _).mono ?_; rintro e w1 ⟨rfl, hb1⟩; replace HB := Aside0.mk (below_then HB.out (Nat.le_of_lt H.out.sz) hb1); replace H := Aside0.mk (H.out.keep hb1); have d1 := H.out.c0) | (go_at_call 22; refine (HP2.out _ H.out).mono ?_; rintro e w2 ⟨hb2, rfl, hq⟩; have e0 := hq.c0; have e9 := hq.cn; have e10 := hq.cg; have k0 := hq.fr 0; have k10 := hq.fr 10; replace hq := Aside0.mk hq; replace hb2 := Aside0.mk hb2) | (go_at_call 19; with_reducible refine (HT2.out _).mono ?_; rintro e w3 ⟨rfl, hw3⟩; rw [hw3]) | (go_at_call 19; with_reducible refine (HT1.out _).mono ?_; rintro e w4 ⟨rfl, hw4⟩; rw [hw4]))
                    go_roundg gk
                    case measure => omega
                    case rel => exact ⟨s3, acc1, _, ⟨hq.out.setS _⟩, ⟨below_set (HB.out.trans hb2.out) _ _⟩, by omega, by omega, ha1, ⟨HS.out.symm⟩⟩
                | false =>
                  rw [hp1, trim_no hp1] at HT1
                  rw [hp1, if_neg (by decide)] at HS
                  clear hp1
                  rcases HA with HA | ⟨i, c, HA, hix, hc⟩
                  all_goals
                    go_wp2_with (first | (go_at_call 20; refine (HA.out _).mono ?_; rintro e w1 ⟨rfl, hb1⟩; replace HB := Aside0.mk (below_then HB.out (Nat.le_of_lt H.out.sz) hb1); replace H := Aside0.mk (H.out.keep hb1); have d1 := H.out.c0) | (go_at_call 22; refine (HP2.out _ H.out).mono ?_; rintro e w2 ⟨hb2, rfl, hq⟩; have e0 := hq.c0; have e9 := hq.cn; have e10 := hq.cg; have k0 := hq.fr 0; have k10 := hq.fr 10; replace hq := Aside0.mk hq; replace hb2 := Aside0.mk hb2) | (go_at_call 19; with_reducible refine (HT2.out _).mono ?_; rintro e w3 ⟨rfl, hw3⟩; rw [hw3]) | (go_at_call 19; with_reducible refine (HT1.out _).mono ?_; rintro e w4 ⟨rfl, hw4⟩; rw [hw4]))
                    go_ret
                    exact ⟨HB.out.trans hb2.out, by rw [HS.out]; rfl⟩
end Go.Proofs.YtbgmepfejbbpaaaDoor.Pr
