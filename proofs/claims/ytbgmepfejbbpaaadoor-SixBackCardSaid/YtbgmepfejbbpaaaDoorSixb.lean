import Derived.Test.YtbgmepfejbbpaaaDoorSixa
namespace Go.Proofs.YtbgmepfejbbpaaaDoor.Pr
open Go.RowKit Go.Proofs.YtbgmepfejbbpaaaDoorW.PrintWords Go.Proofs.YtbgmepfejbbpaaaDoorW.PrintLast Go.Proofs.YtbgmepfejbbpaaaDoorW.PrintMore
set_option linter.unusedVariables false
set_option linter.unusedSimpArgs false

/-! ### dotted -/
def decV : List UInt8 → Nat → Option Nat
  | [], v => some v
  | c :: l, v => if 48 ≤ c.toNat ∧ c.toNat ≤ 57 then decV l (10 * v + (c.toNat - 48)) else none
def octBad (p : List UInt8) : Prop := 3 < p.length ∨ (1 < p.length ∧ p.headD 0 = 48)
instance (p : List UInt8) : Decidable (octBad p) := by unfold octBad; infer_instance
def octF (p : List UInt8) : Option Nat := if p = [] ∨ octBad p then none else match decV p 0 with | none => none | some v => if 255 < v then none else some v
def upd (f : Nat → Nat) (k v : Nat) : Nat → Nat := fun i => if i = k then v else f i
def dotK (n : Nat) : Nat → List (List UInt8) → (Nat → Nat) → Option (Nat → Nat)
  | _, [], f => some f
  | i, p :: l, f => match octF p with | none => none | some v => dotK n (i + 1) l (upd f (n + i / 2) ((f (n + i / 2) * 256 + v) % 65536))
def dotF (s : List UInt8) (acc : List Nat) : Option (List Nat) :=
  if (pcs 46 s).length = 4 ∧ acc.length ≤ 6 then (match dotK acc.length 0 (pcs 46 s) (fun i => acc.getD i 0) with | none => none | some f => some (acc ++ [f acc.length, f (acc.length + 1)])) else none
def DotQ (g : Nat) (gap : Int) (o : Option (List Nat)) (e : Ending) (w' : World) : Prop := match o with | none => e = .returned (.bool false) | some acc' => e = .returned (.bool true) ∧ St g w' [] acc' gap
theorem StF.setP {g : Nat} {W : World} {s : List UInt8} {f : Nat → Nat} {n : Nat} {gap : Int} (h : StF g W s f n gap) (k : Nat) (hk : k < 8) (v : Nat) : StF g (W.setCell ⟨g, 1 + k, none⟩ (.int .u16 (v : Int))) s (upd f k v) n gap := by
  refine ⟨by rw [set_other (by omega)]; exact h.c0, fun i hi => ?_, by rw [set_other (by omega)]; exact h.cn, by rw [set_other (by omega)]; exact h.cg, fun i => by rw [World.frozen?_setCell]; exact h.fr i, by simpa using h.sz⟩
  unfold upd
  split
  · next e => subst e; rw [set_same (h.cp _ hi)]
  · rw [set_other (by omega)]; exact h.cp i hi
theorem StF.setN {g : Nat} {W : World} {s : List UInt8} {f : Nat → Nat} {n : Nat} {gap : Int} (h : StF g W s f n gap) (m : Nat) : StF g (W.setCell ⟨g, 9, none⟩ (.int .i64 (m : Int))) s f m gap :=
  ⟨by rw [set_other (by omega)]; exact h.c0, fun i hi => by rw [set_other (by omega)]; exact h.cp i hi, set_same h.cn, by rw [set_other (by omega)]; exact h.cg, fun i => by rw [World.frozen?_setCell]; exact h.fr i, by simpa using h.sz⟩
theorem StF.congr {g : Nat} {W : World} {s : List UInt8} {f f' : Nat → Nat} {n n' : Nat} {gap : Int} (h : StF g W s f n gap) (hf : ∀ i, i < 8 → f i = f' i) (hn : n = n') : StF g W s f' n' gap := by
  subst hn
  exact ⟨h.c0, fun i hi => by rw [← hf i hi]; exact h.cp i hi, h.cn, h.cg, h.fr, h.sz⟩
/-- The reader, and the parts in their block. -/
structure DW (g b : Nat) (w W : World) (s : List UInt8) (f : Nat → Nat) (n : Nat) (gap : Int) (l : List (List UInt8)) : Prop where
  st : StF g W s f n gap
  ls : ∀ (i : Nat) p, l[i]? = some p → W.cell? ⟨b, i, none⟩ = some (.string (mkB p))
  ne : g < b
  lt : b < W.heap.size
  bel : Below g w W
theorem DW.keep {g b : Nat} {w W W1 : World} {s : List UInt8} {f : Nat → Nat} {n : Nat} {gap : Int} {l : List (List UInt8)} (h : DW g b w W s f n gap l) (hb : Below W.heap.size W W1) : DW g b w W1 s f n gap l :=
  ⟨h.st.keep hb, fun i p hp => by
    have : W1.cell? ⟨b, i, none⟩ = W.cell? ⟨b, i, none⟩ := by unfold World.cell?; rw [hb.block _ h.lt]
    rw [this]; exact h.ls i p hp, h.ne, Nat.lt_of_lt_of_le h.lt hb.size, below_then h.bel (Nat.le_of_lt h.st.sz) hb⟩
theorem set_far {W : World} {g b i j : Nat} {v : Value} (h : g < b) : (W.setCell ⟨g, i, none⟩ v).cell? ⟨b, j, none⟩ = W.cell? ⟨b, j, none⟩ := World.cell?_setCell_other W _ _ _ (by intro e; cases e; omega)
theorem DW.setP {g b : Nat} {w W : World} {s : List UInt8} {f : Nat → Nat} {n : Nat} {gap : Int} {l : List (List UInt8)} (h : DW g b w W s f n gap l) (k : Nat) (hk : k < 8) (v : Nat) : DW g b w (W.setCell ⟨g, 1 + k, none⟩ (.int .u16 (v : Int))) s (upd f k v) n gap l :=
  ⟨h.st.setP k hk v, fun i p hp => by rw [set_far h.ne]; exact h.ls i p hp, h.ne, by simpa using h.lt, below_set h.bel _ _⟩
theorem DW.drew {g b : Nat} {w W : World} {s : List UInt8} {f : Nat → Nat} {n : Nat} {gap : Int} {l : List (List UInt8)} (h : DW g b w W s f n gap l) : DW g b w W.drew s f n gap l := ⟨h.st.drew, h.ls, h.ne, h.lt, below_drew h.bel⟩
theorem shl8 (x v : Nat) (hv : v < 256) : bits .or .u16 (IntKind.u16.wrap ((x : Int) * 256)) (v : Int) = (((x * 256 + v) % 65536 : Nat) : Int) := by
  have hw : IntKind.u16.wrap ((x : Int) * 256) = ((x * 256 % 65536 : Nat) : Int) := by
    show ((x : Int) * 256) % 65536 = _
    omega
  have hb8 : IntKind.u16.bits = 16 := rfl
  rw [hw]
  simp only [bits, BitVec.ofInt_natCast, BitVec.toNat_or, BitVec.toNat_ofNat, hb8, Nat.mod_eq_of_lt (show x * 256 % 65536 < 2 ^ 16 by omega), Nat.mod_eq_of_lt (show v < 2 ^ 16 by omega)]
  rw [show x * 256 % 65536 ||| v = x * 256 % 65536 + v by rw [show x * 256 % 65536 = 2 ^ 8 * (x % 256) by omega, Nat.two_pow_add_eq_or_of_lt (show v < 2 ^ 8 by omega)], IntWalk.u16_in _ (by omega)]
  omega
theorem bytes_below (w : World) (s : ByteArray) : Below w.heap.size w (Lib.bytesWorld w 5 s) :=
  ⟨rfl, rfl, rfl, by have := Lib.bytesWorld_size w 5 s; omega, fun i hi => Lib.bytesWorld_at_old w 5 s i hi⟩
theorem pcs_part (c : UInt8) : ∀ l, ∀ p ∈ pcs c l, p.length ≤ l.length
  | [], p, hp => by simp [pcs] at hp; subst hp; simp
  | b :: l, p, hp => by
    unfold pcs at hp
    split at hp
    · rcases List.mem_cons.1 hp with rfl | hp
      · simp
      · have := pcs_part c l p hp; simp; omega
    · rcases List.mem_cons.1 hp with rfl | hp
      · cases hq : pcs c l with
        | nil => simp
        | cons q t =>
          have := pcs_part c l q (by rw [hq]; simp)
          simp; omega
      · have := pcs_part c l p (List.mem_of_mem_tail hp); simp; omega
theorem decV_drop (p : List UInt8) (k v : Nat) (hk : k < p.length) : decV (p.drop k) v = if 48 ≤ p[k].toNat ∧ p[k].toNat ≤ 57 then decV (p.drop (k + 1)) (10 * v + (p[k].toNat - 48)) else none := by
  rw [List.drop_eq_getElem_cons hk]; rfl
set_option maxRecDepth 8000 in
set_option maxHeartbeats 1000000 in
theorem dotted_any (g : Nat) (w : World) (s : List UInt8) (acc : List Nat) (gap : Int) (h : St g w s acc gap) (hs : s.length ≤ 2147483648) (ha : acc.length ≤ 8) :
    Calls Tryd.prog 21 #[.pointer (some ⟨g, 0, none⟩)] w fun e w' => Below g w w' ∧ DotQ g gap (dotF s acc) e w' := by
  have h0 := h.c0
  have hn := h.cn
  have H := Aside0.mk h
  have hsz : (mkB s).size ≤ 2147483648 := by rw [mkB_size]; exact hs
  have hl := pcs_length_le 46 s
  have HC : Aside0 (Calls Tryd.prog 35 #[.string (mkB s), .string ⟨#[46]⟩] w fun e w' => e = .returned (.slice (some ⟨w.heap.size, 0, none⟩) (pcs 46 s).length (pcs 46 s).length) ∧ DW g w.heap.size w w' s (fun i => acc.getD i 0) acc.length gap (pcs 46 s)) := ⟨(split_any (mkB s) 46 w (by omega)).mono (by
    rw [data_mkB]
    rintro e w' ⟨rfl, rfl⟩
    refine ⟨rfl, h.keep (below_alloc (Below.refl _ _) _), fun i p hp => ?_, h.sz, by simp, (Below.refl g w).alloc (Nat.le_of_lt h.sz) _⟩
    rw [World.cell?_alloc_new]
    simp [hp])⟩
  by_cases hc : (pcs 46 s).length = 4 ∧ acc.length ≤ 6
  · have HD : Aside0 (dotF s acc = match dotK acc.length 0 (pcs 46 s) (fun i => acc.getD i 0) with | none => none | some f => some (acc ++ [f acc.length, f (acc.length + 1)])) := ⟨by unfold dotF; rw [if_pos hc]⟩
    have hpa := Aside0.mk (pcs_part 46 s)
    generalize pcs 46 s = l at HC hl hc HD hpa
    obtain ⟨hl4, hn6⟩ := hc
    have hn6' : decide (6 < acc.length) = false := decide_eq_false (by omega)
    have hn6'' : decide ((6 : Int) < (acc.length : Int)) = false := decide_eq_false (by omega)
    have hl4' : ((l.length : Int) == 4) = true := by rw [hl4]; rfl
    have hl4'' : ((l.length : Int) = 4) := by omega
    go_enter Tryd.func21, Tryd.ntmps21
    go_wp2_with (go_at_call 35; refine HC.out.mono ?_; rintro e w1 ⟨rfl, hD⟩; have d9 := hD.st.cn; replace hD := Aside0.mk hD)
    clear d9 HC
    generalize HR : dotK acc.length 0 l (fun i => acc.getD i 0) = R at HD
    replace HR := Aside0.mk HR
    go_loopg [26] 4 (fun kq v26 w' => ∃ (i : Nat) (f : Nat → Nat), v26 = .int .i64 (i : Int) ∧ i ≤ 4 ∧ 4 ≤ i + kq ∧ Aside0 (DW g w.heap.size w w' s f acc.length gap l) ∧ Aside0 (dotK acc.length i (l.drop i) f = R) ∧ Aside0 (∀ j, j ≠ acc.length → j ≠ acc.length + 1 → f j = acc.getD j 0))
    case atStart => exact ⟨0, _, rfl, by omega, by omega, hD, HR, ⟨fun _ _ _ => rfl⟩⟩
    case round =>
      clear hD HR
      obtain ⟨i, f, rfl, hi4, hik, hD, HR, HF⟩ := hrel
      by_cases hi : i < 4
      · cases gk with
        | zero => exact absurd hi (by omega)
        | succ kq =>
        obtain ⟨p, hp⟩ : ∃ p, l[i]? = some p := ⟨_, List.getElem?_eq_getElem (by omega)⟩
        have hcell := hD.out.ls i p hp
        have hpl : p.length ≤ 2147483648 := Nat.le_trans (hpa.out p (List.mem_of_getElem? hp)) hs
        have hpz : (mkB p).size ≤ 2147483648 := by rw [mkB_size]; exact hpl
        have HS : Aside0 (R = match octF p with | none => none | some v => dotK acc.length (i + 1) (l.drop (i + 1)) (upd f (acc.length + i / 2) ((f (acc.length + i / 2) * 256 + v) % 65536))) := ⟨by
          rw [← HR.out]
          obtain ⟨hlt, hp2⟩ := List.getElem?_eq_some_iff.1 hp
          rw [List.drop_eq_getElem_cons hlt, hp2]
          rfl⟩
        have hcs := fun (W : World) => Lib.run_convert_string_bytes (P := Tryd.prog) W 9 49 5 (mkB p) Tryd.underlying9 Tryd.underlying49 Tryd.underlying5
        clear hp HR
        have hD2 := Aside0.mk (hD.out.keep (bytes_below wr (mkB p)))
        have HQ : Aside0 (∀ j (hj : j < p.length), (Lib.bytesWorld wr 5 (mkB p)).cell? ⟨wr.heap.size, j, none⟩ = some (.int .u8 (p[j].toNat : Int))) := ⟨fun j hj => by
          rw [Lib.bytesWorld_cell wr 5 (mkB p) j (by rw [mkB_size]; exact hj), data_mkB]
          simp [List.getD, hj]⟩
        clear hD
        have hib : decide ((i : Int) < 4) = true := decide_eq_true (by omega)
        have hib2 : decide (i < 4) = true := decide_eq_true (by omega)
        go_upto_block 2 with (fail)
        generalize Lib.bytesWorld wr 5 (mkB p) = wq at hD2 HQ ⊢
        clear hcell hcs
        go_cut [6] (fun v6 wx => ∃ v : Nat, v6 = .int .i64 (v : Int) ∧ v ≤ 999 ∧ Hid (decV p 0 = some v ∧ (p = [] ∨ ¬ octBad p)) ∧ wx = wq)
        case first =>
          go_wp2_with fail
          go_loop [6, 34] (fun v6 v34 => ∃ k v : Nat, k ≤ p.length ∧ v < 10 ^ k ∧ v34 = .int .i64 (k : Int) ∧ v6 = .int .i64 (v : Int) ∧ Hid (decV (p.drop k) v = decV p 0) ∧ Hid (k = 0 ∨ ¬ octBad p)) (fun _ v34 => p.length - (intOf v34).toNat)
          case atStart => exact ⟨0, 0, Nat.zero_le _, by decide, rfl, rfl, Lib.hid rfl, Lib.hid (.inl rfl)⟩
          case round =>
            obtain ⟨k, v, hk, hv, rfl, rfl, HV, HK⟩ := hrel
            have hvb : k ≤ 3 → v ≤ 999 := fun h3 => by have := Nat.pow_le_pow_right (n := 10) (by decide) h3; omega
            have hk3 : k ≤ 3 ∨ 3 < k := by omega
            by_cases hlt : k < p.length
            · have hcell := HQ.out k hlt
              have hst := decV_drop p k v hlt
              rw [HV.out] at hst
              generalize hcc : p[k] = c at hst hcell
              clear hcc
              have hc0 : (c.toNat : Int) < 256 := by have := UInt8.toNat_lt c; omega
              have hpne : p ≠ [] := fun e => by rw [e] at hlt; simp at hlt
              have hk1 : decide ((k : Int) < ((mkB p).size : Int)) = true := by rw [mkB_size]; exact decide_eq_true (by omega)
              have hk2 : decide (k < (mkB p).size) = true := by rw [mkB_size]; exact decide_eq_true hlt
              have hnone : octF p = none → Aside0 (dotF s acc = none) := fun e => ⟨by rw [HD.out, HS.out, e]⟩
              by_cases hdg : 48 ≤ c.toNat ∧ c.toNat ≤ 57
              · have b1 : decide ((c.toNat : Int) < 48) = false := decide_eq_false (by omega)
                have b2 : decide (c.toNat < 48) = false := decide_eq_false (by omega)
                have b3 : decide ((57 : Int) < (c.toNat : Int)) = false := decide_eq_false (by omega)
                have b4 : decide (57 < c.toNat) = false := decide_eq_false (by omega)
                rw [if_pos hdg] at hst
                obtain ⟨hdg1, hdg2⟩ := hdg
                by_cases h3 : 3 < p.length
                · have HN := hnone (by unfold octF; rw [if_pos (.inr (.inl h3))])
                  have l1 : decide ((3 : Int) < ((mkB p).size : Int)) = true := by rw [mkB_size]; exact decide_eq_true (by omega)
                  have l2 : decide (3 < (mkB p).size) = true := by rw [mkB_size]; exact decide_eq_true (by omega)
                  clear hst hnone hvb hk3 hpne
                  go_wp2_with fail
                  go_ret
                  exact ⟨hD2.out.bel, by rw [HN.out]; rfl⟩
                · have l1 : decide ((3 : Int) < ((mkB p).size : Int)) = false := by rw [mkB_size]; exact decide_eq_false (by omega)
                  have l2 : decide (3 < (mkB p).size) = false := by rw [mkB_size]; exact decide_eq_false (by omega)
                  have hx0 : ∀ w, (Instr.index 9 (.string (mkB p)) (.int .i64 0)).run Tryd.prog w = .ok (.int .u8 (p[0].toNat : Int)) w := fun w => idx_mkB p 0 (by omega) w
                  have hhd : p.headD 0 = p[0] := by
                    cases p with
                    | nil => exact absurd rfl hpne
                    | cons a t => rfl
                  generalize p[0] = d at hx0 hhd
                  have hgo : (¬ octBad p) → decide ((1 : Int) < ((mkB p).size : Int)) = false ∨ (decide ((1 : Int) < ((mkB p).size : Int)) = true ∧ ((d.toNat : Int) == 48) = false) := fun hb => by
                    rw [mkB_size]
                    by_cases h1 : 1 < p.length
                    · refine .inr ⟨decide_eq_true (by omega), beq_eq_false_iff_ne.2 fun e => hb (.inr ⟨h1, ?_⟩)⟩
                      rw [hhd]
                      exact UInt8.toNat_inj.1 (by show d.toNat = 48; omega)
                    · exact .inl (decide_eq_false (by omega))
                  by_cases hb : octBad p
                  · have HN := hnone (by unfold octF; rw [if_pos (.inr hb)])
                    have m1 : decide ((1 : Int) < ((mkB p).size : Int)) = true ∧ decide (1 < (mkB p).size) = true ∧ ((d.toNat : Int) == 48) = true := by
                      rw [mkB_size]
                      rcases hb with hb | ⟨hb1, hb2⟩
                      · exact absurd hb h3
                      · rw [hhd] at hb2
                        rw [hb2]
                        exact ⟨decide_eq_true (by omega), decide_eq_true hb1, rfl⟩
                    obtain ⟨m1, m2, m3⟩ := m1
                    clear hst hnone hvb hk3 hpne hgo hhd hb
                    go_wp2_with fail
                    go_ret
                    exact ⟨hD2.out.bel, by rw [HN.out]; rfl⟩
                  · have HB := Lib.hid (show k + 1 = 0 ∨ ¬ octBad p from .inr hb)
                    have HV2 := Lib.hid hst.symm
                    have hv3 : v ≤ 999 := hvb (by omega)
                    have hv10 : Aside0 (10 * v + (c.toNat - 48) < 10 ^ (k + 1)) := ⟨by rw [Nat.pow_succ]; omega⟩
                    rcases hgo hb with m1 | ⟨m1, m2⟩
                    all_goals
                      clear hst hnone hvb hk3 hpne hgo hhd hb
                      go_wp2_with fail
                      refine ⟨⟨k + 1, 10 * v + (c.toNat - 48), by omega, hv10.out, rfl, ?_, HV2, HB⟩, by simp [intOf]; omega⟩
                      rw [show (((10 * v + (c.toNat - 48) : Nat)) : Int) = 10 * (v : Int) + ((c.toNat : Int) - 48) by omega]
              · rw [if_neg hdg] at hst
                have HN := hnone (by unfold octF; rw [hst]; split <;> rfl)
                have hz : (decide ((c.toNat : Int) < 48) = true ∧ decide (c.toNat < 48) = true) ∨ (decide ((c.toNat : Int) < 48) = false ∧ decide (c.toNat < 48) = false ∧ decide ((57 : Int) < (c.toNat : Int)) = true ∧ decide (57 < c.toNat) = true) := by
                  simp; omega
                clear hst hnone hvb hk3 hpne hdg
                rcases hz with ⟨b1, b2⟩ | ⟨b1, b2, b3, b4⟩
                all_goals
                  go_wp2_with fail
                  go_ret
                  exact ⟨hD2.out.bel, by rw [HN.out]; rfl⟩
            · obtain rfl : k = p.length := by omega
              have HX : Aside0 (decV p 0 = some v ∧ (p = [] ∨ ¬ octBad p)) := ⟨by
                rw [← HV.out, List.drop_length]
                refine ⟨rfl, ?_⟩
                rcases HK.out with h | h
                · exact .inl (List.length_eq_zero_iff.1 h)
                · exact .inr h⟩
              have hv9 : v ≤ 999 := hvb (by
                rcases HX.out.2 with h | h
                · rw [h]; simp
                · unfold octBad at h; omega)
              have hz1 : decide ((p.length : Int) < ((mkB p).size : Int)) = false := by rw [mkB_size]; simp
              have hz2 : decide (p.length < (mkB p).size) = false := by rw [mkB_size]; simp
              clear hvb hk3
              go_wp2_with fail
              go_meet
              exact ⟨v, rfl, hv9, Lib.hid HX.out, rfl⟩
        case rest =>
          obtain ⟨v, rfl, hv9, HV, rfl⟩ := hcut
          have HT : (Aside0 (dotF s acc = none) ∧ ((mkB p).toList.isEmpty = true ∨ ((mkB p).toList.isEmpty = false ∧ decide ((255 : Int) < (v : Int)) = true ∧ decide (255 < v) = true))) ∨ (v ≤ 255 ∧ Aside0 (R = dotK acc.length (i + 1) (l.drop (i + 1)) (upd f (acc.length + i / 2) ((f (acc.length + i / 2) * 256 + v) % 65536))) ∧ (mkB p).toList.isEmpty = false ∧ decide ((255 : Int) < (v : Int)) = false ∧ decide (255 < v) = false) := by
            rw [ByteArray.toList_eq, data_mkB]
            by_cases hpe : p = []
            · subst hpe
              exact .inl ⟨⟨by rw [HD.out, HS.out]; rfl⟩, .inl rfl⟩
            · have hie : p.isEmpty = false := by cases p with
                | nil => exact absurd rfl hpe
                | cons a t => rfl
              have hob : ¬ octBad p := HV.out.2.resolve_left hpe
              have ho : octF p = if 255 < v then none else some v := by
                unfold octF
                rw [if_neg (fun e => e.elim hpe hob), HV.out.1]
              by_cases h255 : 255 < v
              · rw [if_pos h255] at ho
                exact .inl ⟨⟨by rw [HD.out, HS.out, ho]⟩, .inr ⟨hie, decide_eq_true (by omega), decide_eq_true h255⟩⟩
              · rw [if_neg h255] at ho
                exact .inr ⟨by omega, ⟨by rw [HS.out, ho]⟩, hie, decide_eq_false (by omega), decide_eq_false h255⟩
          clear HQ HV HS hpz
          rcases HT with ⟨HN, hz | ⟨hz1, hz2, hz3⟩⟩ | ⟨hv255, HR2, hz1, hz2, hz3⟩
          · go_wp2_with fail
            go_ret
            exact ⟨hD2.out.bel, by rw [HN.out]; rfl⟩
          · go_wp2_with fail
            go_ret
            exact ⟨hD2.out.bel, by rw [HN.out]; rfl⟩
          · have d9 := hD2.out.st.cn
            have hso := shl8 (f (acc.length + i / 2)) v (by omega)
            have hx := hD2.out.st.cp (acc.length + i / 2) (by omega)
            have hf := hD2.out.st.fr (1 + (acc.length + i / 2))
            have hD3 := Aside0.mk (hD2.out.setP (acc.length + i / 2) (by omega) ((f (acc.length + i / 2) * 256 + v) % 65536))
            rcases (by omega : i = 0 ∨ i = 1 ∨ i = 2 ∨ i = 3) with rfl | rfl | rfl | rfl
            · simp only [show (0 : Nat) / 2 = 0 from rfl, Nat.add_zero] at hso hx hf hD3 HR2
              clear hi4 hi hib hib2
              have hD4 := Aside0.mk hD3.out.drew
              clear hD3 hD2
              simp only [Int.natCast_emod, Int.natCast_add, Int.natCast_mul, Int.cast_ofNat_Int] at hD4
              go_wp2_with (go_region)
              go_roundg kq
              case measure => omega
              case rel => exact ⟨1, _, rfl, by omega, by omega, hD4, ⟨HR2.out.symm⟩, ⟨fun j h1 h2 => by unfold upd; rw [if_neg (by omega)]; exact HF.out j h1 h2⟩⟩
            · simp only [show (1 : Nat) / 2 = 0 from rfl, Nat.add_zero] at hso hx hf hD3 HR2
              clear hi4 hi hib hib2
              have hD4 := Aside0.mk hD3.out.drew
              clear hD3 hD2
              simp only [Int.natCast_emod, Int.natCast_add, Int.natCast_mul, Int.cast_ofNat_Int] at hD4
              go_wp2_with (go_region)
              go_roundg kq
              case measure => omega
              case rel => exact ⟨2, _, rfl, by omega, by omega, hD4, ⟨HR2.out.symm⟩, ⟨fun j h1 h2 => by unfold upd; rw [if_neg (by omega)]; exact HF.out j h1 h2⟩⟩
            · simp only [show (2 : Nat) / 2 = 1 from rfl, Nat.add_zero] at hso hx hf hD3 HR2
              clear hi4 hi hib hib2
              have hD4 := Aside0.mk hD3.out.drew
              clear hD3 hD2
              simp only [Int.natCast_emod, Int.natCast_add, Int.natCast_mul, Int.cast_ofNat_Int] at hD4
              go_wp2_with (go_region)
              go_roundg kq
              case measure => omega
              case rel => exact ⟨3, _, rfl, by omega, by omega, hD4, ⟨HR2.out.symm⟩, ⟨fun j h1 h2 => by unfold upd; rw [if_neg (by omega)]; exact HF.out j h1 h2⟩⟩
            · simp only [show (3 : Nat) / 2 = 1 from rfl, Nat.add_zero] at hso hx hf hD3 HR2
              clear hi4 hi hib hib2
              have hD4 := Aside0.mk hD3.out.drew
              clear hD3 hD2
              simp only [Int.natCast_emod, Int.natCast_add, Int.natCast_mul, Int.cast_ofNat_Int] at hD4
              go_wp2_with (go_region)
              go_roundg kq
              case measure => omega
              case rel => exact ⟨4, _, rfl, by omega, by omega, hD4, ⟨HR2.out.symm⟩, ⟨fun j h1 h2 => by unfold upd; rw [if_neg (by omega)]; exact HF.out j h1 h2⟩⟩
      · obtain rfl : i = 4 := by omega
        have HR2 : R = some f := by
          rw [← HR.out, List.drop_of_length_le (by omega)]
          rfl
        have HD2 : Aside0 (dotF s acc = some (acc ++ [f acc.length, f (acc.length + 1)])) := ⟨by rw [HD.out, HR2]⟩
        have d9 := hD.out.st.cn
        have d0 := hD.out.st.c0
        have f9 := hD.out.st.fr 9
        have f0 := hD.out.st.fr 0
        have H2 : Aside0 (St g ((wr.setCell ⟨g, 9, none⟩ (.int .i64 ((acc.length : Int) + 2))).setCell ⟨g, 0, none⟩ (.string ⟨#[]⟩)) [] (acc ++ [f acc.length, f (acc.length + 1)]) gap) := ⟨by
          refine ((hD.out.st.setN (acc.length + 2)).setS []).congr (fun j hj => ?_) (by simp)
          rw [List.getD_eq_getElem?_getD, List.getElem?_append]
          split
          · next h => rw [HF.out j (by omega) (by omega), List.getD_eq_getElem?_getD]
          · by_cases e : j = acc.length
            · subst e; simp
            · by_cases e2 : j = acc.length + 1
              · subst e2; simp
              · rw [HF.out j e e2, List.getD_eq_getElem?_getD, List.getElem?_eq_none (by omega), List.getElem?_eq_none (by simp; omega)]⟩
        have hB : Aside0 (Below g w ((wr.setCell ⟨g, 9, none⟩ (.int .i64 ((acc.length : Int) + 2))).setCell ⟨g, 0, none⟩ (.string ⟨#[]⟩))) := ⟨below_set (below_set hD.out.bel _ _) _ _⟩
        clear HR HR2 hD
        go_wp2_with (go_region)
        go_ret
        exact ⟨hB.out, by rw [HD2.out]; exact ⟨rfl, H2.out⟩⟩
  · have HD : Aside0 (dotF s acc = none) := ⟨by unfold dotF; rw [if_neg hc]⟩
    have hz : ((((pcs 46 s).length : Int) == 4) = false ∧ ¬ (((pcs 46 s).length : Int) = 4)) ∨ ((((pcs 46 s).length : Int) == 4) = true ∧ (((pcs 46 s).length : Int) = 4) ∧ decide ((6 : Int) < (acc.length : Int)) = true ∧ decide (6 < acc.length) = true) := by
      by_cases h4 : (pcs 46 s).length = 4
      · exact .inr ⟨by rw [h4]; rfl, by omega, decide_eq_true (by omega), decide_eq_true (by omega)⟩
      · exact .inl ⟨beq_eq_false_iff_ne.2 (by omega), by omega⟩
    generalize pcs 46 s = l at HC hl hc hz
    rcases hz with ⟨h1, h1'⟩ | ⟨h1, h1', h2, h3⟩
    all_goals
      go_enter Tryd.func21, Tryd.ntmps21
      go_wp2_with (go_at_call 35; refine HC.out.mono ?_; rintro e w1 ⟨rfl, hD⟩; have d9 := hD.st.cn; replace hD := Aside0.mk hD)
      go_ret
      exact ⟨hD.out.bel, by rw [HD.out]; rfl⟩
end Go.Proofs.YtbgmepfejbbpaaaDoor.Pr
