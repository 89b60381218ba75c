import Derived.Test.YtikhoooiklkbiaaDoorMkb
import Derived.WalkMore
namespace Go.Proofs.YtikhoooiklkbiaaDoor.Pr
open Go.RowKit Go.Proofs.YtikhoooiklkbiaaDoorW.PrintWords Go.Proofs.YtikhoooiklkbiaaDoorW.PrintLast Go.Proofs.YtikhoooiklkbiaaDoorW.PrintMore
set_option linter.unusedVariables false
set_option linter.unusedSimpArgs false

/-! ### Texts by bytes; a number out of a text -/
theorem idx_mkB (s : List UInt8) (k : Nat) (hk : k < s.length) (w : World) : (Instr.index 9 (.string (mkB s)) (.int .i64 (k : Int))).run Tryd.prog w = .ok (.int .u8 (s[k].toNat : Int)) w := by
  have hz : k < (mkB s).size := by rw [mkB_size]; exact hk
  have hi : (0 : Int) ≤ (k : Int) ∧ (k : Int) < ((mkB s).size : Int) := by omega
  rw [run_index_string w _ _ _ _ Tryd.underlying9, dif_pos hi]
  have hx3 : (mkB s)[k]'hz = s[k] := by
    simp [mkB]
    rfl
  exact congrArg (fun c : UInt8 => Result.ok (Value.int .u8 (c.toNat : Int)) w) hx3
theorem set_same {W : World} {g i : Nat} {u v : Value} (h : W.cell? ⟨g, i, none⟩ = some u) : (W.setCell ⟨g, i, none⟩ v).cell? ⟨g, i, none⟩ = some v := World.cell?_setCell_same W _ _ h
theorem set_other {W : World} {g i j : Nat} {v : Value} (h : i ≠ j) : (W.setCell ⟨g, i, none⟩ v).cell? ⟨g, j, none⟩ = W.cell? ⟨g, j, none⟩ := World.cell?_setCell_other W _ _ _ (by intro e; exact h (by cases e; rfl))
/-- A reader in its block. -/
structure Rdr (g : Nat) (W : World) (s : List UInt8) (n : Nat) : Prop where
  c0 : W.cell? ⟨g, 0, none⟩ = some (.string (mkB s))
  c1 : W.cell? ⟨g, 1, none⟩ = some (.int .i64 (n : Int))
  fr : ∀ i, W.frozen? ⟨g, i, none⟩ = false
  sz : g < W.heap.size
theorem Rdr.drewN {g : Nat} {W : World} {s : List UInt8} {n : Nat} (h : Rdr g W s n) (q : Nat) : Rdr g (W.drewN q) s n := ⟨h.c0, h.c1, h.fr, h.sz⟩
theorem Rdr.setN {g : Nat} {W : World} {s : List UInt8} {n : Nat} (h : Rdr g W s n) (m : Nat) : Rdr g (W.setCell ⟨g, 1, none⟩ (.int .i64 (m : Int))) s m :=
  ⟨by rw [set_other (by omega)]; exact h.c0, set_same h.c1, fun i => by rw [World.frozen?_setCell]; exact h.fr i, by simpa using h.sz⟩
/-- One block is written, and no other made or written. -/
structure Own1 (g : Nat) (w w' : World) : Prop where
  bel : Below g w w'
  size : w'.heap.size = w.heap.size
  far : ∀ k, k ≠ g → w'.heap[k]? = w.heap[k]?
theorem Own1.drewN (g : Nat) (w : World) (q : Nat) : Own1 g w (w.drewN q) := ⟨pw_below_drewN (Below.refl _ _) _, rfl, fun _ _ => rfl⟩
theorem Own1.set (g : Nat) (w : World) (q c : Nat) (v : Value) : Own1 g w ((w.drewN q).setCell ⟨g, c, none⟩ v) :=
  ⟨Below.setCell (p := ⟨g, c, none⟩) (pw_below_drewN (Below.refl _ _) _) (Nat.le_refl _) _, by simp, fun k hk => Below.heap_setCell (w.drewN q) ⟨g, c, none⟩ _ k hk⟩
def hexl (c : UInt8) : Option Nat := if 48 ≤ c.toNat ∧ c.toNat ≤ 57 then some (c.toNat - 48) else if 97 ≤ c.toNat ∧ c.toNat ≤ 102 then some (c.toNat - 87) else none
def numK : Nat → List UInt8 → Nat → Nat → Nat × Nat
  | 0, _, v, j => (v, j)
  | _ + 1, [], v, j => (v, j)
  | r + 1, c :: l, v, j => if j = 1 ∧ v = 0 then (v, j) else match hexl c with | none => (v, j) | some d => numK r l (v * 16 + d) (j + 1)
def numF (s : List UInt8) (at_ : Nat) : Nat × Nat := numK 6 (s.drop at_) 0 0
theorem numK_drop (s : List UInt8) (k r v j : Nat) (hk : k < s.length) : numK (r + 1) (s.drop k) v j = if j = 1 ∧ v = 0 then (v, j) else match hexl s[k] with | none => (v, j) | some d => numK r (s.drop (k + 1)) (v * 16 + d) (j + 1) := by
  rw [List.drop_eq_getElem_cons hk]; rfl
theorem sho32 (a d : Nat) (ha : a < 1048576) (hd : d < 16) : bits .or .i32 (wrap32 ((a : Int) * 16)) (d : Int) = ((a * 16 + d : Nat) : Int) := by
  have hw : wrap32 ((a : Int) * 16) = ((a * 16 : Nat) : Int) := by rw [IntWalk.wrap32_in _ (by omega)]; omega
  have hb8 : IntKind.i32.bits = 32 := rfl
  rw [hw]
  simp only [bits, BitVec.ofInt_natCast, BitVec.toNat_or, BitVec.toNat_ofNat, hb8, Nat.mod_eq_of_lt (show a * 16 < 2 ^ 32 by omega), Nat.mod_eq_of_lt (show d < 2 ^ 32 by omega)]
  rw [show a * 16 ||| d = a * 16 + d by rw [show a * 16 = 2 ^ 4 * a by omega, Nat.two_pow_add_eq_or_of_lt (show d < 2 ^ 4 by omega)], IntWalk.i32_in _ (by omega)]
theorem pow16 {k : Nat} (h : k < 6) {a : Nat} (ha : a < 16 ^ k) : a < 1048576 := Nat.lt_of_lt_of_le ha (Nat.pow_le_pow_right (by decide) (show k ≤ 5 by omega))
theorem pow16s {k a d : Nat} (ha : a < 16 ^ k) (hd : d < 16) : a * 16 + d < 16 ^ (k + 1) := by rw [Nat.pow_succ]; omega
def NumQ (g : Nat) (s : List UInt8) (at_ : Nat) (least : Int) (e : Ending) (w' : World) : Prop :=
  if (numF s at_).2 = 0 ∨ 1114111 < (numF s at_).1 ∨ ((numF s at_).1 : Int) < least then e = .returned (.tuple #[.int .i32 0, .bool false]) ∧ Rdr g w' s at_
  else e = .returned (.tuple #[.int .i32 ((numF s at_).1 : Int), .bool true]) ∧ Rdr g w' s (at_ + (numF s at_).2)
set_option maxRecDepth 8000 in
set_option maxHeartbeats 2000000 in
theorem num_any (g : Nat) (w : World) (s : List UInt8) (at_ : Nat) (least : Int) (h : Rdr g w s at_) (hs : s.length ≤ 1000000) (ha : at_ ≤ s.length) :
    Calls Tryd.prog 31 #[.pointer (some ⟨g, 0, none⟩), .int .i32 least] w fun e w' => Own1 g w w' ∧ NumQ g s at_ least e w' := by
  have h0 := h.c0
  have h1 := h.c1
  have H := Aside0.mk h
  have hz := mkB_size s
  clear h
  go_enter Tryd.func31, Tryd.ntmps31
  go_wp2_with fail
  go_step3
  go_wp2_with (go_region)
  go_step3
  go_upto_block 0 with (go_region)
  go_cut [6, 7] (fun v6 v7 wx => ∃ (v j i q : Nat), v6 = .int .i32 (v : Int) ∧ v7 = .int .i64 (i : Int) ∧ Aside0 (i = at_ + j) ∧ j ≤ 6 ∧ i ≤ s.length ∧ Hid (numF s at_ = (v, j)) ∧ wx = w.drewN q)
  case first =>
    go_wp2_with fail
    go_loopw [6, 7] (fun v6 v7 wx => ∃ (v j i q : Nat), v6 = .int .i32 (v : Int) ∧ v7 = .int .i64 (i : Int) ∧ Aside0 (i = at_ + j) ∧ j ≤ 6 ∧ i ≤ s.length ∧ v < 16 ^ j ∧ Aside0 (j = 1 → ∃ h : at_ < s.length, hexl s[at_] = some v) ∧ Hid (numK (6 - j) (s.drop i) v j = numF s at_) ∧ wx = w.drewN q) (fun _ v7 _ => s.length - (intOf v7).toNat)
    case atStart => exact ⟨0, 0, at_, 1, rfl, rfl, ⟨rfl⟩, by omega, ha, by decide, ⟨fun h => absurd h (by decide)⟩, Lib.hid rfl, rfl⟩
    case round =>
      obtain ⟨v, j, i, q, rfl, rfl, HI, hj6, hil, hv, HJ, HR, rfl⟩ := hrel
      by_cases hi : i < s.length
      · have k1 : decide ((i : Int) < ((mkB s).size : Int)) = true := decide_eq_true (by omega)
        have k2 : decide (i < (mkB s).size) = true := decide_eq_true (by omega)
        by_cases hj : j = 6
        · have HE : Aside0 (numF s at_ = (v, j)) := ⟨by rw [← HR.out, hj]; rfl⟩
          have b1 : decide ((i : Int) < (at_ : Int) + 6) = false := decide_eq_false (by have := HI.out; omega)
          have b2 : decide (i < at_ + 6) = false := decide_eq_false (by have := HI.out; omega)
          clear hj
          go_wp2_with (go_region)
          go_meet
          exact ⟨v, j, i, _, rfl, rfl, HI, by omega, by omega, Lib.hid HE.out, rfl⟩
        · have b1 : decide ((i : Int) < (at_ : Int) + 6) = true := decide_eq_true (by have := HI.out; omega)
          have b2 : decide (i < at_ + 6) = true := decide_eq_true (by have := HI.out; omega)
          have hst := numK_drop s i (6 - (j + 1)) v j hi
          rw [show 6 - (j + 1) + 1 = 6 - j by omega, HR.out] at hst
          have hj6 : j < 6 := by omega
          have hil : i < s.length := hi
          clear hj
          by_cases hj1 : j = 1
          · obtain ⟨hat, hxv⟩ := HJ.out hj1
            have x0 := idx_mkB s at_ hat
            have e1 : ((i : Int) == (at_ : Int) + 1) = true := beq_iff_eq.2 (by have := HI.out; omega)
            generalize s[at_] = c1 at hxv x0
            by_cases hv0 : v = 0
            · rw [if_pos ⟨hj1, hv0⟩] at hst
              have HE := Aside0.mk hst
              have e2 : ((c1.toNat : Int) == 48) = true := by
                unfold hexl at hxv
                split at hxv
                · cases hxv; rw [beq_iff_eq]; omega
                · split at hxv
                  · cases hxv; omega
                  · cases hxv
              clear hst hxv hv0 hj1
              go_wp2_with (go_region)
              go_meet
              exact ⟨v, j, i, _, rfl, rfl, HI, by omega, by omega, Lib.hid HE.out, rfl⟩
            · rw [if_neg (fun e => hv0 e.2)] at hst
              have e2 : ((c1.toNat : Int) == 48) = false := by
                rw [beq_eq_false_iff_ne]
                intro e
                unfold hexl at hxv
                rw [if_pos (by omega)] at hxv
                cases hxv
                omega
              clear hxv hv0 hj1
              have hlt : i < s.length := hil
              have x1 := idx_mkB s i hlt
              have HJN : j + 1 = 1 → ∃ h : at_ < s.length, hexl s[at_] = hexl s[i] := fun e => by
                have hia : i = at_ := by have := HI.out; omega
                subst hia
                exact ⟨hlt, rfl⟩
              have HV0 : j + 1 = 1 → v = 0 := fun e => by
                have : j = 0 := by omega
                subst this
                simpa using hv
              generalize s[i] = c at hst x1 HJN
              have hc0 : c.toNat < 256 := UInt8.toNat_lt c
              by_cases hd1 : 48 ≤ c.toNat ∧ c.toNat ≤ 57
              · have hd : hexl c = some (c.toNat - 48) := by unfold hexl; rw [if_pos hd1]
                obtain ⟨hd2, hd3⟩ := hd1
                have y1 : decide ((48 : Int) ≤ (c.toNat : Int)) = true := decide_eq_true (by omega)
                have y2 : decide ((c.toNat : Int) ≤ 57) = true := decide_eq_true (by omega)
                have hHX := hd
                rw [hd] at hst
                simp only at hst
                generalize hde : c.toNat - 48 = d at hst hHX
                have hd16 : d < 16 := by omega
                have HS := Aside0.mk hst.symm
                have hdI : (d : Int) = (c.toNat : Int) - 48 := by omega
                have hso := Aside0.mk (sho32 v d (pow16 hj6 hv) hd16)
                rw [hdI] at hso
                clear hdI
                have HP := Aside0.mk (pow16s (d := d) hv hd16)
                have HJ2 : Aside0 (j + 1 = 1 → ∃ h : at_ < s.length, hexl s[at_] = some (v * 16 + d)) := ⟨fun e => by
                  obtain ⟨h1, h2⟩ := HJN e
                  refine ⟨h1, by rw [h2, hHX, HV0 e]; simp⟩⟩
                have hdi : (((v * 16 + d : Nat)) : Int) = ((v * 16 + d : Nat) : Int) := rfl
                clear hst hHX HJN HV0 hd
                go_wp2_with (go_region)
                exact ⟨⟨v * 16 + d, j + 1, i + 1, _, congrArg (Value.int .i32) hso.out, by go_num, ⟨by have := HI.out; omega⟩, by omega, by omega, HP.out, HJ2, Lib.hid HS.out, rfl⟩, by simp [intOf]; omega⟩
              · by_cases hd4 : 97 ≤ c.toNat ∧ c.toNat ≤ 102
                · have hd : hexl c = some (c.toNat - 87) := by unfold hexl; rw [if_neg hd1, if_pos hd4]
                  obtain ⟨hd2, hd3⟩ := hd4
                  have y1 : decide ((48 : Int) ≤ (c.toNat : Int)) = true := decide_eq_true (by omega)
                  have y2 : decide ((c.toNat : Int) ≤ 57) = false := decide_eq_false (by omega)
                  have y3 : decide ((97 : Int) ≤ (c.toNat : Int)) = true := decide_eq_true (by omega)
                  have y4 : decide ((c.toNat : Int) ≤ 102) = true := decide_eq_true (by omega)
                  clear hd1
                  have hHX := hd
                  rw [hd] at hst
                  simp only at hst
                  generalize hde : c.toNat - 87 = d at hst hHX
                  have hd16 : d < 16 := by omega
                  have HS := Aside0.mk hst.symm
                  have hdI : (d : Int) = (c.toNat : Int) - 97 + 10 := by omega
                  have hso := Aside0.mk (sho32 v d (pow16 hj6 hv) hd16)
                  rw [hdI] at hso
                  clear hdI
                  have HP := Aside0.mk (pow16s (d := d) hv hd16)
                  have HJ2 : Aside0 (j + 1 = 1 → ∃ h : at_ < s.length, hexl s[at_] = some (v * 16 + d)) := ⟨fun e => by
                    obtain ⟨h1, h2⟩ := HJN e
                    refine ⟨h1, by rw [h2, hHX, HV0 e]; simp⟩⟩
                  have hdi : (((v * 16 + d : Nat)) : Int) = ((v * 16 + d : Nat) : Int) := rfl
                  clear hst hHX HJN HV0 hd
                  go_wp2_with (go_region)
                  exact ⟨⟨v * 16 + d, j + 1, i + 1, _, congrArg (Value.int .i32) hso.out, by go_num, ⟨by have := HI.out; omega⟩, by omega, by omega, HP.out, HJ2, Lib.hid HS.out, rfl⟩, by simp [intOf]; omega⟩
                · have hd : hexl c = none := by unfold hexl; rw [if_neg hd1, if_neg hd4]
                  rw [hd] at hst
                  simp only at hst
                  have HE := Aside0.mk hst
                  have hways : (decide ((48 : Int) ≤ (c.toNat : Int)) = false ∧ decide ((97 : Int) ≤ (c.toNat : Int)) = false) ∨ (decide ((48 : Int) ≤ (c.toNat : Int)) = true ∧ decide ((c.toNat : Int) ≤ 57) = false ∧ decide ((97 : Int) ≤ (c.toNat : Int)) = false) ∨ (decide ((48 : Int) ≤ (c.toNat : Int)) = true ∧ decide ((c.toNat : Int) ≤ 57) = false ∧ decide ((97 : Int) ≤ (c.toNat : Int)) = true ∧ decide ((c.toNat : Int) ≤ 102) = false) := by simp; omega
                  clear hd hd1 hd4 HJN HV0
                  rcases hways with ⟨y1, y2⟩ | ⟨y1, y2, y3⟩ | ⟨y1, y2, y3, y4⟩
                  all_goals
                    clear hst
                    go_wp2_with (go_region)
                    go_meet
                    exact ⟨v, j, i, _, rfl, rfl, HI, by omega, by omega, Lib.hid HE.out, rfl⟩
          · have e1 : ((i : Int) == (at_ : Int) + 1) = false := beq_eq_false_iff_ne.2 (by have := HI.out; omega)
            rw [if_neg (fun e => hj1 e.1)] at hst
            clear hj1
            have hlt : i < s.length := hil
            have x1 := idx_mkB s i hlt
            have HJN : j + 1 = 1 → ∃ h : at_ < s.length, hexl s[at_] = hexl s[i] := fun e => by
              have hia : i = at_ := by have := HI.out; omega
              subst hia
              exact ⟨hlt, rfl⟩
            have HV0 : j + 1 = 1 → v = 0 := fun e => by
              have : j = 0 := by omega
              subst this
              simpa using hv
            generalize s[i] = c at hst x1 HJN
            have hc0 : c.toNat < 256 := UInt8.toNat_lt c
            by_cases hd1 : 48 ≤ c.toNat ∧ c.toNat ≤ 57
            · have hd : hexl c = some (c.toNat - 48) := by unfold hexl; rw [if_pos hd1]
              obtain ⟨hd2, hd3⟩ := hd1
              have y1 : decide ((48 : Int) ≤ (c.toNat : Int)) = true := decide_eq_true (by omega)
              have y2 : decide ((c.toNat : Int) ≤ 57) = true := decide_eq_true (by omega)
              have hHX := hd
              rw [hd] at hst
              simp only at hst
              generalize hde : c.toNat - 48 = d at hst hHX
              have hd16 : d < 16 := by omega
              have HS := Aside0.mk hst.symm
              have hdI : (d : Int) = (c.toNat : Int) - 48 := by omega
              have hso := Aside0.mk (sho32 v d (pow16 hj6 hv) hd16)
              rw [hdI] at hso
              clear hdI
              have HP := Aside0.mk (pow16s (d := d) hv hd16)
              have HJ2 : Aside0 (j + 1 = 1 → ∃ h : at_ < s.length, hexl s[at_] = some (v * 16 + d)) := ⟨fun e => by
                obtain ⟨h1, h2⟩ := HJN e
                refine ⟨h1, by rw [h2, hHX, HV0 e]; simp⟩⟩
              have hdi : (((v * 16 + d : Nat)) : Int) = ((v * 16 + d : Nat) : Int) := rfl
              clear hst hHX HJN HV0 hd
              go_wp2_with (go_region)
              exact ⟨⟨v * 16 + d, j + 1, i + 1, _, congrArg (Value.int .i32) hso.out, by go_num, ⟨by have := HI.out; omega⟩, by omega, by omega, HP.out, HJ2, Lib.hid HS.out, rfl⟩, by simp [intOf]; omega⟩
            · by_cases hd4 : 97 ≤ c.toNat ∧ c.toNat ≤ 102
              · have hd : hexl c = some (c.toNat - 87) := by unfold hexl; rw [if_neg hd1, if_pos hd4]
                obtain ⟨hd2, hd3⟩ := hd4
                have y1 : decide ((48 : Int) ≤ (c.toNat : Int)) = true := decide_eq_true (by omega)
                have y2 : decide ((c.toNat : Int) ≤ 57) = false := decide_eq_false (by omega)
                have y3 : decide ((97 : Int) ≤ (c.toNat : Int)) = true := decide_eq_true (by omega)
                have y4 : decide ((c.toNat : Int) ≤ 102) = true := decide_eq_true (by omega)
                clear hd1
                have hHX := hd
                rw [hd] at hst
                simp only at hst
                generalize hde : c.toNat - 87 = d at hst hHX
                have hd16 : d < 16 := by omega
                have HS := Aside0.mk hst.symm
                have hdI : (d : Int) = (c.toNat : Int) - 97 + 10 := by omega
                have hso := Aside0.mk (sho32 v d (pow16 hj6 hv) hd16)
                rw [hdI] at hso
                clear hdI
                have HP := Aside0.mk (pow16s (d := d) hv hd16)
                have HJ2 : Aside0 (j + 1 = 1 → ∃ h : at_ < s.length, hexl s[at_] = some (v * 16 + d)) := ⟨fun e => by
                  obtain ⟨h1, h2⟩ := HJN e
                  refine ⟨h1, by rw [h2, hHX, HV0 e]; simp⟩⟩
                have hdi : (((v * 16 + d : Nat)) : Int) = ((v * 16 + d : Nat) : Int) := rfl
                clear hst hHX HJN HV0 hd
                go_wp2_with (go_region)
                exact ⟨⟨v * 16 + d, j + 1, i + 1, _, congrArg (Value.int .i32) hso.out, by go_num, ⟨by have := HI.out; omega⟩, by omega, by omega, HP.out, HJ2, Lib.hid HS.out, rfl⟩, by simp [intOf]; omega⟩
              · have hd : hexl c = none := by unfold hexl; rw [if_neg hd1, if_neg hd4]
                rw [hd] at hst
                simp only at hst
                have HE := Aside0.mk hst
                have hways : (decide ((48 : Int) ≤ (c.toNat : Int)) = false ∧ decide ((97 : Int) ≤ (c.toNat : Int)) = false) ∨ (decide ((48 : Int) ≤ (c.toNat : Int)) = true ∧ decide ((c.toNat : Int) ≤ 57) = false ∧ decide ((97 : Int) ≤ (c.toNat : Int)) = false) ∨ (decide ((48 : Int) ≤ (c.toNat : Int)) = true ∧ decide ((c.toNat : Int) ≤ 57) = false ∧ decide ((97 : Int) ≤ (c.toNat : Int)) = true ∧ decide ((c.toNat : Int) ≤ 102) = false) := by simp; omega
                clear hd hd1 hd4 HJN HV0
                rcases hways with ⟨y1, y2⟩ | ⟨y1, y2, y3⟩ | ⟨y1, y2, y3, y4⟩
                all_goals
                  clear hst
                  go_wp2_with (go_region)
                  go_meet
                  exact ⟨v, j, i, _, rfl, rfl, HI, by omega, by omega, Lib.hid HE.out, rfl⟩
      · have hie : i = s.length := by omega
        have HE : Aside0 (numF s at_ = (v, j)) := ⟨by
          rw [← HR.out, List.drop_eq_nil_of_le (by omega)]
          by_cases h6 : 6 - j = 0
          · rw [h6]; rfl
          · obtain ⟨r, hr⟩ : ∃ r, 6 - j = r + 1 := ⟨6 - j - 1, by omega⟩
            rw [hr]; rfl⟩
        have k1 : decide ((i : Int) < ((mkB s).size : Int)) = false := decide_eq_false (by omega)
        have k2 : decide (i < (mkB s).size) = false := decide_eq_false (by omega)
        clear hie
        go_wp2_with (go_region)
        go_meet
        exact ⟨v, j, i, _, rfl, rfl, HI, by omega, by omega, Lib.hid HE.out, rfl⟩
  case rest =>
    obtain ⟨v, j, i, q, rfl, rfl, HI, hj6, hil, HE, rfl⟩ := hcut
    have HQ : ∀ e w', NumQ g s at_ least e w' ↔ (if j = 0 ∨ 1114111 < v ∨ (v : Int) < least then e = .returned (.tuple #[.int .i32 0, .bool false]) ∧ Rdr g w' s at_ else e = .returned (.tuple #[.int .i32 (v : Int), .bool true]) ∧ Rdr g w' s (at_ + j)) := fun e w' => by
      unfold NumQ
      rw [HE.out]
    replace HQ := Aside0.mk HQ
    have hf1 := H.out.fr 1
    by_cases hj0 : j = 0
    · have e1 : ((i : Int) == (at_ : Int)) = true := beq_iff_eq.2 (by have := HI.out; omega)
      go_wp2_with (go_region)
      simp only [Exit.noGoto_ret]
      go_wp2_with fail
      go_ret2
      exact ⟨Own1.drewN _ _ _, (HQ.out _ _).2 (by rw [if_pos (.inl hj0)]; exact ⟨rfl, H.out.drewN _⟩)⟩
    · have e1 : ((i : Int) == (at_ : Int)) = false := beq_eq_false_iff_ne.2 (by have := HI.out; omega)
      by_cases hm : 1114111 < v
      · have e2 : decide ((1114111 : Int) < (v : Int)) = true := decide_eq_true (by omega)
        have e2' : decide (1114111 < v) = true := decide_eq_true hm
        go_wp2_with (go_region)
        simp only [Exit.noGoto_ret]
        go_wp2_with fail
        go_ret2
        exact ⟨Own1.drewN _ _ _, (HQ.out _ _).2 (by rw [if_pos (.inr (.inl hm))]; exact ⟨rfl, H.out.drewN _⟩)⟩
      · have e2 : decide ((1114111 : Int) < (v : Int)) = false := decide_eq_false (by omega)
        have e2' : decide (1114111 < v) = false := decide_eq_false hm
        by_cases hl : (v : Int) < least
        · have e3 : decide ((v : Int) < least) = true := decide_eq_true hl
          go_wp2_with (go_region)
          simp only [Exit.noGoto_ret]
          go_wp2_with fail
          go_ret2
          exact ⟨Own1.drewN _ _ _, (HQ.out _ _).2 (by rw [if_pos (.inr (.inr hl))]; exact ⟨rfl, H.out.drewN _⟩)⟩
        · have e3 : decide ((v : Int) < least) = false := decide_eq_false hl
          have HC : Aside0 (¬ (j = 0 ∨ 1114111 < v ∨ (v : Int) < least)) := ⟨by omega⟩
          have HN : Aside0 (Rdr g ((w.drewN q).setCell ⟨g, 1, none⟩ (.int .i64 (i : Int))) s i ∧ Own1 g w ((w.drewN q).setCell ⟨g, 1, none⟩ (.int .i64 (i : Int)))) := ⟨(H.out.drewN q).setN i, Own1.set g w q 1 _⟩
          clear hj0 hm hl
          go_wp2_with (go_region)
          simp only [Exit.noGoto_ret]
          go_wp2_with fail
          go_ret2
          exact ⟨HN.out.2, (HQ.out _ _).2 (by rw [if_neg HC.out]; exact ⟨rfl, by rw [← HI.out]; exact HN.out.1⟩)⟩
end Go.Proofs.YtikhoooiklkbiaaDoor.Pr
