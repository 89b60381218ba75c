import Derived.Test.YtbgmepfejbbpaaaDoorSixb
import Derived.Test.YtbgmepfejbbpaaaDoorGspl
namespace Go.Proofs.YtbgmepfejbbpaaaDoor.Pr
open Go.RowKit Go.Proofs.YtbgmepfejbbpaaaDoorW.PrintWords Go.Proofs.YtbgmepfejbbpaaaDoorW.PrintLast Go.Proofs.YtbgmepfejbbpaaaDoorW.PrintMore
set_option linter.unusedVariables false
set_option linter.unusedSimpArgs false

/-! ### The reference's dotted -/
def octs : List (List UInt8) → Option (List Nat)
  | [] => some []
  | p :: l => match octF p with | none => none | some v => (match octs l with | none => none | some vs => some (v :: vs))
def two4 : List Nat → List Nat
  | [a, b, c, d] => [(a * 256 % 65536 + b) % 65536, (c * 256 % 65536 + d) % 65536]
  | _ => []
def rdotF (s : List UInt8) : Option (List Nat) := if (pcs 46 s).length = 4 then (match octs (pcs 46 s) with | none => none | some vs => some (two4 vs)) else none
structure RW (w W : World) (b o a : Nat) (l : List (List UInt8)) (f : Nat → Nat) : Prop where
  ls : ∀ (i : Nat) p, l[i]? = some p → W.cell? ⟨b, o + i, none⟩ = some (.string (mkB p))
  ar : ∀ i, i < 4 → W.cell? ⟨a, i, none⟩ = some (.int .u16 (f i : Int))
  fr : ∀ i, i < 4 → W.frozen? ⟨a, i, none⟩ = false
  ne : b < a
  ge : w.heap.size ≤ a
  lt : a < W.heap.size
  bel : Below w.heap.size w W
theorem upd_same (f : Nat → Nat) (i : Nat) : upd f i (f i) = f := by
  funext j
  unfold upd
  split
  · next h => rw [h]
  · rfl
theorem upd_upd (f : Nat → Nat) (i u v : Nat) : upd (upd f i u) i v = upd f i v := by
  funext j
  unfold upd
  split <;> rfl
theorem RW.set {w W : World} {b o a : Nat} {l : List (List UInt8)} {f : Nat → Nat} (h : RW w W b o a l f) (k : Nat) (hk : k < 4) (v : Nat) : RW w (W.setCell ⟨a, k, none⟩ (.int .u16 (v : Int))) b o a l (upd f k v) := by
  have hne := h.ne
  refine ⟨fun i p hp => ?_, fun i hi => ?_, fun i hi => by rw [World.frozen?_setCell]; exact h.fr i hi, h.ne, h.ge, by simpa using h.lt, h.bel.setCell h.ge _⟩
  · rw [World.cell?_setCell_other _ _ _ _ (by intro e; cases e; omega)]; exact h.ls i p hp
  · unfold upd
    split
    · next e => subst e; rw [set_same (h.ar _ hi)]
    · rw [set_other (by omega)]; exact h.ar i hi
theorem refsplit (s : List UInt8) (c : UInt8) (w : World) (hs : s.length ≤ 2147483648) : Calls Tryd.prog 23 #[.string (mkB s), .int .u8 (c.toNat : Int)] w fun e w' => ∃ b o k, e = .returned (.slice (some ⟨b, o, none⟩) (pcs c s).length k) ∧ (pcs c s).length ≤ k ∧ b < w'.heap.size ∧ (∀ (i : Nat) p, (pcs c s)[i]? = some p → w'.cell? ⟨b, o + i, none⟩ = some (.string (mkB p))) ∧ Below w.heap.size w w' := by
  refine (portcullisref11_split.calls (s.length + 2) (mkB s) (c.toNat : Int) _ w (split_is s c _ hs (Nat.le_refl _))).mono ?_
  rintro e w' ⟨v, rfl, hr, hb⟩
  obtain ⟨b, o, k, rfl, h1, h2, h3⟩ := row_cells hr (List.length_pos_iff.2 (pcs_ne c s))
  exact ⟨b, o, k, rfl, h1, h2, h3, hb⟩
def RdR (o : Option (List Nat)) : List Int × Bool := match o with | none => ([], false) | some l => (l.map fun n : Nat => (n : Int), true)
def RdQ (o : Option (List Nat)) (w w' : World) (e : Ending) : Prop := ∃ v0 : Value, e = .returned (.tuple #[v0, .bool (RdR o).2]) ∧ Kd.R (Kd.int .u16) 22 w' w.heap.size (fun _ => True) v0 (RdR o).1
theorem RdQ.none_ (w w' : World) : RdQ none w w' (.returned (.tuple #[.slice none 0 0, .bool false])) := ⟨_, rfl, Kd.R_nil _ _ _ _ _⟩
theorem wr16 (x y : Nat) : IntKind.u16.wrap (IntKind.u16.wrap ((x : Int) * 256) + (y : Int)) = (((x * 256 % 65536 + y) % 65536 : Nat) : Int) := by
  show (((x : Int) * 256) % 65536 + (y : Int)) % 65536 = _
  omega
theorem RdQ.some_ (w w1 : World) (hsz : w.heap.size ≤ w1.heap.size) (x y : Int) (l : List Nat) (hl : l.map (fun n : Nat => (n : Int)) = [x, y]) : RdQ (some l) w (w1.alloc (.cells #[.int .u16 x, .int .u16 y] 22)) (.returned (.tuple #[.slice (some ⟨w1.heap.size, 0, none⟩) 2 2, .bool true])) := by
  refine ⟨_, rfl, ?_⟩
  show Kd.R (Kd.int .u16) 22 _ _ _ _ (l.map fun n : Nat => (n : Int))
  rw [hl]
  refine Kd.R_of_own ⟨by simp [encs], .inr ⟨w1.heap.size, 2, #[.int .u16 x, .int .u16 y], by simp, hsz, ?_, by simp, by simp [maxLen], by simp, ?_⟩⟩ (fun _ _ => trivial)
  · show (w1.heap.push _)[w1.heap.size]? = _
    simp
  · simp [encs]
set_option maxRecDepth 8000 in
set_option maxHeartbeats 8000000 in
theorem rdot_any (s : List UInt8) (w : World) (hs : s.length ≤ 2147483648) :
    Calls Tryd.prog 24 #[.string (mkB s)] w fun e w' => Below w.heap.size w w' ∧ RdQ (rdotF s) w w' e := by
  have HC := Aside0.mk (refsplit s 46 w hs)
  by_cases hl : (pcs 46 s).length = 4
  · have HD : Aside0 (rdotF s = match octs (pcs 46 s) with | none => none | some vs => some (two4 vs)) := ⟨by unfold rdotF; rw [if_pos hl]⟩
    have hpa := Aside0.mk (pcs_part 46 s)
    generalize pcs 46 s = l at HC hl HD hpa
    rw [hl] at HC
    go_enter Tryd.func24, Tryd.ntmps24
    go_upto_block 0 with (first | (go_at_call 23; refine HC.out.mono ?_; rintro e w1 ⟨b, o, ck, rfl, hck, hlt, hls, hb⟩; replace hls := Aside0.mk hls))
    have hW : ∃ W a, W = w1.alloc (.cells #[.int .u16 0, .int .u16 0, .int .u16 0, .int .u16 0] 75) ∧ a = w1.heap.size ∧ Aside0 (RW w W b o a l fun _ => 0) := by
      refine ⟨_, _, rfl, rfl, ⟨⟨fun i p hp => ?_, fun i hi => ?_, fun i hi => by rw [World.frozen?_alloc_new], hlt, hb.size, by simp, hb.alloc hb.size _⟩⟩⟩
      · rw [World.cell?_alloc_lt _ _ _ hlt]; exact hls.out i p hp
      · rw [World.cell?_alloc_new]
        rcases (by omega : i = 0 ∨ i = 1 ∨ i = 2 ∨ i = 3) with rfl | rfl | rfl | rfl <;> rfl
    obtain ⟨W, a, hWe, hae, hW⟩ := hW
    clear HC hls hb hlt
    rw [← hWe, ← hae]
    clear hWe hae
    go_wp2_with fail
    go_loopg [6] 4 (fun kq v6 w' => ∃ (i : Nat) (f : Nat → Nat) (vs : List Nat), v6 = .int .i64 (i : Int) ∧ i ≤ 4 ∧ 4 ≤ i + kq ∧ Aside0 (RW w w' b o a l f) ∧ Aside0 (vs.length = i ∧ (∀ j, j < i → f j = vs.getD j 0) ∧ (∀ j, i ≤ j → f j = 0)) ∧ Aside0 (octs l = match octs (l.drop i) with | none => none | some t => some (vs ++ t)))
    case atStart => exact ⟨0, _, [], rfl, by omega, by omega, hW, ⟨rfl, fun j h => absurd h (by omega), fun _ _ => rfl⟩, ⟨by rw [List.drop_zero]; cases octs l <;> rfl⟩⟩
    case round =>
      clear hW
      obtain ⟨i, f, vs, rfl, hi4, hik, hD, HV, HO⟩ := hrel
      by_cases hi : i < 4
      · cases gk with
        | zero => exact absurd hi (by omega)
        | succ kq =>
        obtain ⟨p, hp⟩ : ∃ p, l[i]? = some p := ⟨_, List.getElem?_eq_getElem (by omega)⟩
        have hcell := hD.out.ls i p hp
        have hpl : p.length ≤ 2147483648 := Nat.le_trans (hpa.out p (List.mem_of_getElem? hp)) hs
        have hpz : (mkB p).size ≤ 2147483648 := by rw [mkB_size]; exact hpl
        have HO2 : Aside0 (octs (l.drop i) = match octF p with | none => none | some v => (match octs (l.drop (i + 1)) with | none => none | some vs => some (v :: vs))) := ⟨by
          obtain ⟨hlt, hp2⟩ := List.getElem?_eq_some_iff.1 hp
          rw [List.drop_eq_getElem_cons hlt, hp2]
          rfl⟩
        have hnone : octF p = none → Aside0 (rdotF s = none) := fun e => ⟨by rw [HD.out, HO.out, HO2.out, e]⟩
        have HPi := Aside0.mk hp
        clear hp
        have hib : decide ((i : Int) < 4) = true := decide_eq_true (by omega)
        have hib2 : decide (i < 4) = true := decide_eq_true (by omega)
        have hHW : (Aside0 (rdotF s = none) ∧ decide (((mkB p).size : Int) < 1) = true ∧ decide ((mkB p).size < 1) = true) ∨ (Aside0 (rdotF s = none) ∧ (decide (((mkB p).size : Int) < 1) = false ∧ decide ((mkB p).size < 1) = false) ∧ (decide ((3 : Int) < ((mkB p).size : Int)) = true ∧ decide (3 < (mkB p).size) = true)) ∨
            ((decide (((mkB p).size : Int) < 1) = false ∧ decide ((mkB p).size < 1) = false) ∧ (decide ((3 : Int) < ((mkB p).size : Int)) = false ∧ decide (3 < (mkB p).size) = false) ∧ ∃ d : UInt8, (∀ w, (Instr.index 9 (.string (mkB p)) (.int .i64 0)).run Tryd.prog w = .ok (.int .u8 (d.toNat : Int)) w) ∧
              ((Aside0 (rdotF s = none) ∧ decide ((1 : Int) < ((mkB p).size : Int)) = true ∧ decide (1 < (mkB p).size) = true ∧ ((d.toNat : Int) == 48) = true) ∨ (p ≠ [] ∧ p.length ≤ 3 ∧ ¬ octBad p ∧ (decide ((1 : Int) < ((mkB p).size : Int)) = false ∧ decide (1 < (mkB p).size) = false ∨ (decide ((1 : Int) < ((mkB p).size : Int)) = true ∧ decide (1 < (mkB p).size) = true ∧ ((d.toNat : Int) == 48) = false))))) := by
          rw [mkB_size]
          by_cases hp0 : p = []
          · subst hp0
            exact .inl ⟨hnone rfl, rfl, rfl⟩
          · have hp1 : 1 ≤ p.length := List.length_pos_iff.2 hp0
            by_cases hp3 : 3 < p.length
            · exact .inr (.inl ⟨hnone (by unfold octF; rw [if_pos (.inr (.inl hp3))]), ⟨decide_eq_false (by omega), decide_eq_false (by omega)⟩, decide_eq_true (by omega), decide_eq_true (by omega)⟩)
            · refine .inr (.inr ⟨⟨decide_eq_false (by omega), decide_eq_false (by omega)⟩, ⟨decide_eq_false (by omega), decide_eq_false (by omega)⟩, p[0], fun w => idx_mkB p 0 (by omega) w, ?_⟩)
              have hhd : p.headD 0 = p[0] := by
                cases p with
                | nil => exact absurd rfl hp0
                | cons a t => rfl
              by_cases hb : octBad p
              · refine .inl ⟨hnone (by unfold octF; rw [if_pos (.inr hb)]), ?_⟩
                rcases hb with hb | ⟨hb1, hb2⟩
                · exact absurd hb hp3
                · rw [hhd] at hb2
                  rw [hb2]
                  exact ⟨decide_eq_true (by omega), decide_eq_true hb1, rfl⟩
              · refine .inr ⟨hp0, by omega, hb, ?_⟩
                by_cases h1 : 1 < p.length
                · refine .inr ⟨decide_eq_true (by omega), decide_eq_true h1, beq_eq_false_iff_ne.2 fun e => hb (.inr ⟨h1, ?_⟩)⟩
                  rw [hhd]
                  exact UInt8.toNat_inj.1 (by show p[0].toNat = 48; omega)
                · exact .inl ⟨decide_eq_false (by omega), decide_eq_false h1⟩
        rcases hHW with ⟨HN, b1, b2⟩ | ⟨HN, ⟨b1, b2⟩, b3, b4⟩ | ⟨⟨b1, b2⟩, ⟨b3, b4⟩, d, hx0, ⟨HN, b5, b6, b7⟩ | ⟨hpe, hp3, hob, hway⟩⟩
        · go_wp2_with fail
          go_ret2
          exact ⟨hD.out.bel, by rw [HN.out]; exact RdQ.none_ _ _⟩
        · go_wp2_with fail
          go_ret2
          exact ⟨hD.out.bel, by rw [HN.out]; exact RdQ.none_ _ _⟩
        · go_wp2_with fail
          go_ret2
          exact ⟨hD.out.bel, by rw [HN.out]; exact RdQ.none_ _ _⟩
        · have hfi : f i = 0 := HV.out.2.2 i (Nat.le_refl _)
          have hD2 : Aside0 (RW w wr b o a l (upd f i 0)) := ⟨by rw [← hfi, upd_same]; exact hD.out⟩
          clear hfi hD
          have HB := Aside0.mk (And.intro hpe hob)
          clear hpe hob
          rcases hway with ⟨b5, b6⟩ | ⟨b5, b6, b7⟩
          all_goals
            go_upto_block 2 with (fail)
            clear b1 b2 b3 b4 b5 b6 hx0 hcell
            try clear b7
            go_wp2_with fail
            go_loopw [7] (fun v7 wi => ∃ k v : Nat, k ≤ p.length ∧ v7 = .int .i64 (k : Int) ∧ v < 10 ^ k ∧ Aside0 (RW w wi b o a l (upd f i v)) ∧ Hid (decV (p.drop k) v = decV p 0)) (fun v7 _ => p.length - (intOf v7).toNat)
            case atStart => exact ⟨0, 0, Nat.zero_le _, rfl, by decide, hD2, Lib.hid rfl⟩
            case round =>
              clear hD2
              obtain ⟨k, v, hk, rfl, hv, hD, HK⟩ := hrel
              have hcell := hD.out.ls i p HPi.out
              have harr := hD.out.ar i hi
              have hfr := hD.out.fr i hi
              have hui : upd f i v i = v := by unfold upd; rw [if_pos rfl]
              rw [hui] at harr
              clear hui
              have hlt4 := hD.out.lt
              by_cases hlt : k < p.length
              · have hst := decV_drop p k v hlt
                rw [HK.out] at hst
                have hix : ∀ w, (Instr.index 9 (.string (mkB p)) (.int .i64 (k : Int))).run Tryd.prog w = .ok (.int .u8 (p[k].toNat : Int)) w := idx_mkB p k hlt
                generalize p[k] = c at hst hix
                have hc0 : (c.toNat : Int) < 256 := by have := UInt8.toNat_lt c; omega
                have k1 : decide ((k : Int) < ((mkB p).size : Int)) = true := by rw [mkB_size]; exact decide_eq_true (by omega)
                have k2 : decide (k < (mkB p).size) = true := by rw [mkB_size]; exact decide_eq_true (by omega)
                by_cases hdg : 48 ≤ c.toNat ∧ c.toNat ≤ 57
                · have b1 : decide ((c.toNat : Int) < 48) = false := decide_eq_false (by omega)
                  have b2 : decide (c.toNat < 48) = false := decide_eq_false (by omega)
                  have b3 : decide ((57 : Int) < (c.toNat : Int)) = false := decide_eq_false (by omega)
                  have b4 : decide (57 < c.toNat) = false := decide_eq_false (by omega)
                  rw [if_pos hdg] at hst
                  obtain ⟨hdg1, hdg2⟩ := hdg
                  have HS := Lib.hid hst.symm
                  have hv99 : v ≤ 99 := by have := Nat.pow_le_pow_right (n := 10) (by decide) (show k ≤ 2 by omega); omega
                  have HV2 : Aside0 (10 * v + (c.toNat - 48) < 10 ^ (k + 1)) := ⟨by rw [Nat.pow_succ]; omega⟩
                  have hD3 := hD.out.set i hi (10 * v + (c.toNat - 48))
                  rw [upd_upd, show (((10 * v + (c.toNat - 48) : Nat)) : Int) = (v : Int) * 10 + ((c.toNat : Int) - 48) by omega] at hD3
                  replace hD3 := Aside0.mk hD3
                  clear hst hD
                  go_wp2_with fail
                  refine ⟨⟨k + 1, 10 * v + (c.toNat - 48), by omega, rfl, HV2.out, hD3, HS⟩, by simp [intOf]; omega⟩
                · rw [if_neg hdg] at hst
                  have HN := hnone (by unfold octF; rw [hst]; split <;> rfl)
                  have hz : (decide ((c.toNat : Int) < 48) = true ∧ decide (c.toNat < 48) = true) ∨ (decide ((c.toNat : Int) < 48) = false ∧ decide (c.toNat < 48) = false ∧ decide ((57 : Int) < (c.toNat : Int)) = true ∧ decide (57 < c.toNat) = true) := by
                    simp; omega
                  clear hst hdg
                  rcases hz with ⟨b1, b2⟩ | ⟨b1, b2, b3, b4⟩
                  all_goals
                    go_wp2_with fail
                    go_ret2
                    exact ⟨hD.out.bel, by rw [HN.out]; exact RdQ.none_ _ _⟩
              · obtain rfl : k = p.length := by omega
                have hdv : decV p 0 = some v := by rw [← HK.out, List.drop_length]; rfl
                have ho : octF p = if 255 < v then none else some v := by
                  unfold octF
                  rw [if_neg (fun e => e.elim HB.out.1 HB.out.2), hdv]
                have k1 : decide ((p.length : Int) < ((mkB p).size : Int)) = false := by rw [mkB_size]; simp
                have k2 : decide (p.length < (mkB p).size) = false := by rw [mkB_size]; simp
                clear hdv
                by_cases h255 : 255 < v
                · rw [if_pos h255] at ho
                  have HN := hnone ho
                  have m1 : decide ((255 : Int) < (v : Int)) = true := decide_eq_true (by omega)
                  have m2 : decide (255 < v) = true := decide_eq_true h255
                  clear ho
                  go_wp2_with fail
                  go_ret2
                  exact ⟨hD.out.bel, by rw [HN.out]; exact RdQ.none_ _ _⟩
                · rw [if_neg h255] at ho
                  have m1 : decide ((255 : Int) < (v : Int)) = false := decide_eq_false (by omega)
                  have m2 : decide (255 < v) = false := decide_eq_false h255
                  have HO3 : Aside0 (octs l = match octs (l.drop (i + 1)) with | none => none | some t => some ((vs ++ [v]) ++ t)) := ⟨by
                    rw [HO.out, HO2.out, ho]
                    cases octs (l.drop (i + 1)) with
                    | none => rfl
                    | some t => simp⟩
                  clear ho
                  go_wp2_with fail
                  go_roundg kq
                  case measure => omega
                  case rel =>
                    refine ⟨i + 1, _, vs ++ [v], rfl, by omega, by omega, hD, ⟨by simp [HV.out.1], fun j hj => ?_, fun j hj => ?_⟩, HO3⟩
                    · rw [getD_append_last, HV.out.1]
                      unfold upd
                      split
                      · rfl
                      · exact HV.out.2.1 j (by omega)
                    · unfold upd
                      rw [if_neg (by omega)]
                      exact HV.out.2.2 j (by omega)
      · obtain rfl : i = 4 := by omega
        have HOv : octs l = some vs := by
          rw [HO.out, List.drop_of_length_le (by omega)]
          simp [octs]
        have HR : Aside0 (rdotF s = some (two4 vs)) := ⟨by rw [HD.out, HOv]⟩
        have a0 := hD.out.ar 0 (by decide)
        have a1 := hD.out.ar 1 (by decide)
        have a2 := hD.out.ar 2 (by decide)
        have a3 := hD.out.ar 3 (by decide)
        have e0 := HV.out.2.1 0 (by decide)
        have e1 := HV.out.2.1 1 (by decide)
        have e2 := HV.out.2.1 2 (by decide)
        have e3 := HV.out.2.1 3 (by decide)
        have h4 := HV.out.1
        clear HV HO HD hi HOv
        obtain ⟨x0, x1, x2, x3, rfl⟩ : ∃ x0 x1 x2 x3, vs = [x0, x1, x2, x3] := by
          match vs, h4 with
          | [x0, x1, x2, x3], _ => exact ⟨x0, x1, x2, x3, rfl⟩
        have e0' : f 0 = x0 := e0
        have e1' : f 1 = x1 := e1
        have e2' : f 2 = x2 := e2
        have e3' : f 3 = x3 := e3
        rw [e0'] at a0
        rw [e1'] at a1
        rw [e2'] at a2
        rw [e3'] at a3
        clear e0 e1 e2 e3 e0' e1' e2' e3' h4
        have hz := hD.out.bel.size
        go_wp2_with fail
        go_ret2
        refine ⟨hD.out.bel.alloc hz _, ?_⟩
        rw [HR.out]
        refine RdQ.some_ w wr hz _ _ _ ?_
        rw [wr16, wr16]
        rfl
  · have HD : Aside0 (rdotF s = none) := ⟨by unfold rdotF; rw [if_neg hl]⟩
    have h1 : (((pcs 46 s).length : Int) == 4) = false := beq_eq_false_iff_ne.2 (by omega)
    have h2 : ¬ (((pcs 46 s).length : Int) = 4) := by omega
    generalize pcs 46 s = l at HC hl h1 h2
    go_enter Tryd.func24, Tryd.ntmps24
    go_wp2_with (first | (go_at_call 23; refine HC.out.mono ?_; rintro e w1 ⟨b, o, ck, rfl, hck, hlt, hls, hb⟩; replace hls := Aside0.mk hls))
    go_ret2
    exact ⟨hb, by rw [HD.out]; exact RdQ.none_ _ _⟩
def portcullisref11_dotted.f (a0 : ByteArray) : Option (List Int × Bool) := if a0.size ≤ 2147483648 then some (RdR (rdotF a0.data.toList)) else none
theorem portcullisref11_dotted.calls (a0 : ByteArray) (r1 : List Int) (r2 : Bool) (w : World) (h : portcullisref11_dotted.f a0 = some (r1, r2)) :
    Calls Tryd.prog 24 #[.string a0] w fun e w' => ∃ v0_ : Value, e = .returned (.tuple #[v0_, .bool r2]) ∧ Kd.R (Kd.int .u16) 22 w' w.heap.size (fun _ => True) v0_ r1 ∧ Below w.heap.size w w' := by
  unfold portcullisref11_dotted.f at h
  split at h
  · next hs =>
    have e := Option.some.inj h
    have := rdot_any a0.data.toList w (by rw [data_length]; exact hs)
    rw [mkB_data] at this
    refine this.mono ?_
    rintro e' w' ⟨hb, v0, he, hr⟩
    rw [e] at he hr
    exact ⟨v0, he, hr, hb⟩
  · cases h
end Go.Proofs.YtbgmepfejbbpaaaDoor.Pr
