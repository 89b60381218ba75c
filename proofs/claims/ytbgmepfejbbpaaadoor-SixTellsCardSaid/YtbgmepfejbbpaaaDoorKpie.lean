import Derived.Test.YtbgmepfejbbpaaaDoorGpce
import Derived.Test.YtbgmepfejbbpaaaDoorSixc
namespace Go.Proofs.YtbgmepfejbbpaaaDoor.Pr
open Go.RowKit Go.Proofs.YtbgmepfejbbpaaaDoorW.PrintWords Go.Proofs.YtbgmepfejbbpaaaDoorW.PrintLast Go.Proofs.YtbgmepfejbbpaaaDoorW.PrintMore
set_option linter.unusedVariables false
set_option linter.unusedSimpArgs false

/-! ### The reference's pieces -/
/-- The split's row and the row that is built. -/
structure PiW (w W : World) (b o : Nat) (l : List (List UInt8)) (v : Value) (acc : List Nat) : Prop where
  ls : ∀ (i : Nat) p, l[i]? = some p → W.cell? ⟨b, o + i, none⟩ = some (.string (mkB p))
  rw : Kd.R (Kd.int .u16) 22 W w.heap.size (fun k => b < k) v (ints acc)
  lt : b < W.heap.size
  bel : Below w.heap.size w W
theorem PiW.keep {w W W1 : World} {b o : Nat} {l : List (List UInt8)} {v : Value} {acc : List Nat} (h : PiW w W b o l v acc) (hb : Below W.heap.size W W1) : PiW w W1 b o l v acc :=
  ⟨fun i p hp => by rw [← h.ls i p hp]; unfold World.cell?; rw [hb.block _ h.lt], Kd.R_below h.rw hb, Nat.lt_of_lt_of_le h.lt hb.size, below_step h.bel hb⟩
theorem PiW.drew {w W : World} {b o : Nat} {l : List (List UInt8)} {v : Value} {acc : List Nat} (h : PiW w W b o l v acc) : PiW w W.drew b o l v acc := ⟨h.ls, Kd.R_drew h.rw, h.lt, below_drew h.bel⟩
theorem PiW.grown {w W W1 : World} {b o : Nat} {l : List (List UInt8)} {v v1 : Value} {acc acc1 : List Nat} (h : PiW w W b o l v acc) (hg : W.grownBy W1 v.ownBlock) (hr : Kd.R (Kd.int .u16) 22 W1 w.heap.size (fun k => b < k) v1 (ints acc1)) (hb : Below w.heap.size w W1) : PiW w W1 b o l v1 acc1 := by
  have hne : some b ≠ v.ownBlock := fun e => by have := h.rw.1 b e.symm; omega
  refine ⟨fun i p hp => ?_, hr, ?_, hb⟩
  · rw [← h.ls i p hp]; unfold World.cell?; rw [hg.block b h.lt hne]
  · have e := hg.block b h.lt hne
    have hlt := h.lt
    rw [Array.getElem?_eq_getElem hlt] at e
    exact (Array.getElem?_eq_some_iff.1 e).1
theorem infoU : (Tryd.prog.info? 22).map (fun i => (i.zero, i.size, i.bytes)) = some (some (.int .u16 0), 1, 2) := by kernel_rfl
theorem ints_append (a b : List Nat) : ints a ++ ints b = ints (a ++ b) := by simp [ints]
theorem rdcall (p : List UInt8) (hp : p.length ≤ 2147483648) (w : World) : Calls Tryd.prog 24 #[.string (mkB p)] w fun e w' => ∃ A c, e = .returned (.tuple #[.slice A (RdR (rdotF p)).1.length c, .bool (RdR (rdotF p)).2]) ∧ Kd.C (Kd.int .u16) w' A (RdR (rdotF p)).1.length (RdR (rdotF p)).1 ∧ Below w.heap.size w w' := by
  refine (rdot_any p w hp).mono ?_
  rintro e w' ⟨hb, v0, rfl, hr⟩
  obtain ⟨A, c, rfl, hc, hC⟩ := Kd.R_reads hr
  exact ⟨A, c, rfl, hC, hb⟩
theorem pccall (p : List UInt8) (w : World) : Calls Tryd.prog 25 #[.string (mkB p)] w fun e w' => e = .returned (.tuple #[.int .u16 (pieceR (pcF p)).1, .bool (pieceR (pcF p)).2]) ∧ Drawn0 w w' :=
  portcullisref11_piece.calls 10 (mkB p) _ _ w (piece_is p 10 (Nat.le_refl _))
/-- What is left to be put together. -/
def putO (acc : List Nat) (o : Option (List Nat)) : Option (List Nat) := match o with | none => none | some t => some (acc ++ t)
set_option maxRecDepth 8000 in
set_option maxHeartbeats 4000000 in
theorem pie_any (s : List UInt8) (last : Bool) (w : World) (hs : s.length ≤ 2147483648) :
    Calls Tryd.prog 15 #[.string (mkB s), .bool last] w fun e w' => Below w.heap.size w w' ∧ RdQ (piF s last) w w' e := by
  by_cases he : s = []
  · subst he
    have HR : Aside0 (piF [] last = some []) := ⟨by unfold piF; rw [if_pos rfl]⟩
    have hem : (mkB []).toList.isEmpty = true := by rw [mkB_empty]; rfl
    go_enter Tryd.func15, Tryd.ntmps15
    go_wp2_with fail
    go_ret2
    refine ⟨Below.refl _ _, ?_⟩
    rw [HR.out]
    exact ⟨_, rfl, Kd.R_nil _ _ _ _ _⟩
  · have hem : (mkB s).toList.isEmpty = false := by rw [mkB_empty]; exact decide_eq_false he
    have HP : Aside0 (piF s last = piL (pcs 58 s) last) := ⟨by unfold piF; rw [if_neg he]⟩
    have HC := Aside0.mk (refsplit s 58 w hs)
    have hpa := Aside0.mk (pcs_part 58 s)
    have hll := pcs_length_le 58 s
    generalize pcs 58 s = l at HC HP hpa hll
    go_enter Tryd.func15, Tryd.ntmps15
    go_wp2_with (first | (go_at_call 23; refine HC.out.mono ?_; rintro e w1 ⟨b, o, ck, rfl, hck, hlt, hls, hb⟩; replace hls := Aside0.mk hls))
    have hD0 : Aside0 (PiW w w1 b o l (.slice none 0 0) []) := ⟨⟨hls.out, Kd.R_nil _ _ _ _ _, hlt, hb⟩⟩
    clear HC hls hb hlt hem
    go_loopw [7, 8] (fun v7 v8 wi => ∃ (i : Nat) (acc : List Nat), v8 = .int .i64 (i : Int) ∧ i ≤ l.length ∧ Aside0 (PiW w wi b o l v7 acc) ∧ Aside0 (acc.length ≤ i + 1 ∧ (i < l.length → acc.length ≤ i)) ∧ Aside0 (piL l last = putO acc (piL (l.drop i) last))) (fun v7 v8 _ => l.length - (intOf v8).toNat)
    case atStart => exact ⟨0, [], rfl, Nat.zero_le _, hD0, ⟨by simp, fun _ => by simp⟩, ⟨by rw [List.drop_zero]; unfold putO; cases piL l last <;> rfl⟩⟩
    case round =>
      clear hD0
      obtain ⟨i, acc, rfl, hil, hD, HA, HO⟩ := hrel
      by_cases hi : i < l.length
      · obtain ⟨p, hp⟩ : ∃ p, l[i]? = some p := ⟨_, List.getElem?_eq_getElem hi⟩
        have hcell := hD.out.ls i p hp
        have hpl : p.length ≤ 2147483648 := Nat.le_trans (hpa.out p (List.mem_of_getElem? hp)) hs
        have hdr : l.drop i = p :: l.drop (i + 1) := by
          obtain ⟨hlt, hp2⟩ := List.getElem?_eq_some_iff.1 hp
          rw [List.drop_eq_getElem_cons hlt, hp2]
        have hsl : l.length ≤ 2147483649 := by omega
        have hib : decide ((i : Int) < (l.length : Int)) = true := decide_eq_true (by omega)
        have hib2 : decide (i < l.length) = true := decide_eq_true hi
        have HPC := Aside0.mk (pccall p)
        have HDC := Aside0.mk (rdcall p hpl)
        have HPi := Aside0.mk hp
        clear hp
        cases last with
        | false =>
          have HO2 : Aside0 (piL (l.drop i) false = match pcF p with | none => none | some v => (match piL (l.drop (i + 1)) false with | none => none | some t => some (v :: t))) := ⟨by
            rw [hdr]
            conv => lhs; unfold piL
            rw [if_neg (by simp)]
            rfl⟩
          clear hdr HDC
          cases hpc : pcF p with
          | none =>
            rw [hpc] at HPC
            simp only [pieceR] at HPC
            have HN : Aside0 (piF s false = none) := ⟨by rw [HP.out, HO.out, HO2.out, hpc]; rfl⟩
            clear hpc
            go_wp2_with (first | (go_at_call 25; with_reducible refine (HPC.out _).mono ?_; rintro e w2 ⟨rfl, hdr⟩; replace hD := Aside0.mk (hD.out.keep hdr.below); clear hdr))
            go_ret2
            exact ⟨hD.out.bel, by rw [HN.out]; exact RdQ.none_ _ _⟩
          | some a =>
            rw [hpc] at HPC
            simp only [pieceR] at HPC
            have HO3 : Aside0 (piL l false = putO (acc ++ [a]) (piL (l.drop (i + 1)) false)) := ⟨by
              rw [HO.out, HO2.out, hpc]
              cases piL (l.drop (i + 1)) false with
              | none => rfl
              | some t => simp [putO]⟩
            clear hpc
            go_wp2_with (first | (go_at_call 25; with_reducible refine (HPC.out _).mono ?_; rintro e w2 ⟨rfl, hdr⟩; replace hD := Aside0.mk (hD.out.keep hdr.below); clear hdr) | ((with_reducible refine gate_builtin (b := .append) (xs := #[.tmp 53, .tmp 55]) rfl ?_); at_builtin; refine Kd.R_append (Kd.int .u16) (w0 := w) w.heap.size rfl (.tmp 53) (.tmp 55) 37 22 (.int .u16 0) 2 rfl Tryd.underlying37 infoU rfl (by decide) (by omega) u7 (ints acc) (a : Int) [.int .u16 (a : Int)] (fun k => b < k) (fun _ => False) rfl rfl ?aP (fun _ hk => hk.elim) ?aF ?aO ?aB ?aS ?aL ?_; (case aP => exact rfl); (case aB => exact hD.out.bel); (case aF => exact (fun k hk => Nat.lt_of_lt_of_le hD.out.lt hk)); (case aO => exact hD.out.rw); (case aS => exact hD.out.bel.size); (case aL => have := HA.out.1; rw [ints_len]; omega); intro v1 w9 ho hb9 hg9 hat9; replace ho : Kd.R (Kd.int .u16) 22 w9 w.heap.size (fun k => b < k) v1 (ints (acc ++ [a])) := (by rw [← ints_append]; exact ho); have hD2 := Aside0.mk (hD.out.grown hg9 ho hb9); clear ho hb9 hg9 hat9 hD))
            exact ⟨⟨i + 1, acc ++ [a], by go_num, by omega, hD2, ⟨by have := HA.out.2 hi; simp; omega, fun h => by have := HA.out.2 hi; simp; omega⟩, HO3⟩, by simp [intOf]; omega⟩
        | true =>
          by_cases hl1 : i + 1 = l.length
          · have k1 : ((i : Int) == (l.length : Int) - 1) = true := by rw [beq_iff_eq]; omega
            have hd0 : l.drop (i + 1) = [] := List.drop_eq_nil_of_le (by omega)
            cases hrd : rdotF p with
            | some ds =>
              have h2 := rdotF_two hrd
              rw [hrd] at HDC
              simp only [RdR] at HDC
              have HO3 : Aside0 (piL l true = putO (acc ++ ds) (piL (l.drop (i + 1)) true)) := ⟨by
                rw [HO.out, hdr, hd0]
                unfold piL
                rw [if_pos ⟨rfl, rfl⟩, hrd]
                simp [putO, piL]⟩
              have HDC2 : Aside0 (∀ w, Calls Tryd.prog 24 #[.string (mkB p)] w fun e w' => ∃ A c, e = .returned (.tuple #[.slice A (ints ds).length c, .bool true]) ∧ Kd.C (Kd.int .u16) w' A (ints ds).length (ints ds) ∧ Below w.heap.size w w') := HDC
              clear hrd hdr hd0 HPC HDC
              have HDC := HDC2
              clear HDC2
              go_wp2_with (first | (go_at_call 24; with_reducible refine (HDC.out _).mono ?_; rintro e w2 ⟨A, c, rfl, hC, hb2⟩; replace hD := Aside0.mk (hD.out.keep hb2); clear hb2; replace hC := Aside0.mk hC; have hc2 := hD.out.ls i p HPi.out) | ((with_reducible refine gate_builtin (b := .append) (xs := #[.tmp 40, .tmp 41]) rfl ?_); at_builtin; refine Kd.R_append_row (Value.int .u16) (0 : Int) (h1 := fun _ => rfl) (w0 := w) w.heap.size rfl (.tmp 40) (.tmp 41) 37 22 (.int .u16 0) 2 rfl Tryd.underlying37 infoU rfl (by decide) u7 (ints acc) (ints ds) A _ c (fun k => b < k) rfl rfl ?aF ?aO ?aR ?aB ?aS ?aL ?_; (case aB => exact hD.out.bel); (case aF => exact (fun k hk => Nat.lt_of_lt_of_le hD.out.lt hk)); (case aO => exact hD.out.rw); (case aR => exact hC.out); (case aS => exact hD.out.bel.size); (case aL => have := HA.out.1; rw [ints_len, ints_len]; omega); intro v1 w9 ho hb9 hg9 hat9; replace ho : Kd.R (Kd.int .u16) 22 w9 w.heap.size (fun k => b < k) v1 (ints (acc ++ ds)) := (by rw [← ints_append]; exact ho); have hD2 := Aside0.mk (hD.out.grown hg9 ho hb9); clear ho hb9 hg9 hat9 hD))
              exact ⟨⟨i + 1, acc ++ ds, by go_num, by omega, hD2, ⟨by have := HA.out.2 hi; simp; omega, fun h => by omega⟩, HO3⟩, by simp [intOf]; omega⟩
            | none =>
              rw [hrd] at HDC
              simp only [RdR] at HDC
              have HO2 : Aside0 (piL (l.drop i) true = match pcF p with | none => none | some v => (match piL (l.drop (i + 1)) true with | none => none | some t => some (v :: t))) := ⟨by
                rw [hdr, hd0]
                unfold piL
                rw [if_pos ⟨rfl, rfl⟩, hrd]
                cases pcF p <;> rfl⟩
              clear hrd hdr hd0
              cases hpc : pcF p with
              | none =>
                rw [hpc] at HPC
                simp only [pieceR] at HPC
                have HN : Aside0 (piF s true = none) := ⟨by rw [HP.out, HO.out, HO2.out, hpc]; rfl⟩
                clear hpc
                go_wp2_with (first | (go_at_call 24; with_reducible refine (HDC.out _).mono ?_; rintro e w2 ⟨A, c, rfl, hC, hb2⟩; replace hD := Aside0.mk (hD.out.keep hb2); clear hb2; replace hC := Aside0.mk hC; have hc2 := hD.out.ls i p HPi.out) | (go_at_call 25; with_reducible refine (HPC.out _).mono ?_; rintro e w2 ⟨rfl, hdr⟩; replace hD := Aside0.mk (hD.out.keep hdr.below); clear hdr))
                go_ret2
                exact ⟨hD.out.bel, by rw [HN.out]; exact RdQ.none_ _ _⟩
              | some a =>
                rw [hpc] at HPC
                simp only [pieceR] at HPC
                have HO3 : Aside0 (piL l true = putO (acc ++ [a]) (piL (l.drop (i + 1)) true)) := ⟨by
                  rw [HO.out, HO2.out, hpc]
                  cases piL (l.drop (i + 1)) true with
                  | none => rfl
                  | some t => simp [putO]⟩
                clear hpc
                go_wp2_with (first | (go_at_call 24; with_reducible refine (HDC.out _).mono ?_; rintro e w2 ⟨A, c, rfl, hC, hb2⟩; replace hD := Aside0.mk (hD.out.keep hb2); clear hb2; replace hC := Aside0.mk hC; have hc2 := hD.out.ls i p HPi.out) | (go_at_call 25; with_reducible refine (HPC.out _).mono ?_; rintro e w2 ⟨rfl, hdr⟩; replace hD := Aside0.mk (hD.out.keep hdr.below); clear hdr) | ((with_reducible refine gate_builtin (b := .append) (xs := #[.tmp 53, .tmp 55]) rfl ?_); at_builtin; refine Kd.R_append (Kd.int .u16) (w0 := w) w.heap.size rfl (.tmp 53) (.tmp 55) 37 22 (.int .u16 0) 2 rfl Tryd.underlying37 infoU rfl (by decide) (by omega) u7 (ints acc) (a : Int) [.int .u16 (a : Int)] (fun k => b < k) (fun _ => False) rfl rfl ?aP (fun _ hk => hk.elim) ?aF ?aO ?aB ?aS ?aL ?_; (case aP => exact rfl); (case aB => exact hD.out.bel); (case aF => exact (fun k hk => Nat.lt_of_lt_of_le hD.out.lt hk)); (case aO => exact hD.out.rw); (case aS => exact hD.out.bel.size); (case aL => have := HA.out.1; rw [ints_len]; omega); intro v1 w9 ho hb9 hg9 hat9; replace ho : Kd.R (Kd.int .u16) 22 w9 w.heap.size (fun k => b < k) v1 (ints (acc ++ [a])) := (by rw [← ints_append]; exact ho); have hD2 := Aside0.mk (hD.out.grown hg9 ho hb9); clear ho hb9 hg9 hat9 hD))
                exact ⟨⟨i + 1, acc ++ [a], by go_num, by omega, hD2, ⟨by have := HA.out.2 hi; simp; omega, fun h => by have := HA.out.2 hi; simp; omega⟩, HO3⟩, by simp [intOf]; omega⟩
          · have k1 : ((i : Int) == (l.length : Int) - 1) = false := beq_eq_false_iff_ne.2 (by omega)
            have hd0 : l.drop (i + 1) ≠ [] := fun e => by have := congrArg List.length e; simp at this; omega
            have HO2 : Aside0 (piL (l.drop i) true = match pcF p with | none => none | some v => (match piL (l.drop (i + 1)) true with | none => none | some t => some (v :: t))) := ⟨by
              rw [hdr, piL_cons _ _ _ hd0]
              rfl⟩
            clear hdr hd0 HDC
            cases hpc : pcF p with
            | none =>
              rw [hpc] at HPC
              simp only [pieceR] at HPC
              have HN : Aside0 (piF s true = none) := ⟨by rw [HP.out, HO.out, HO2.out, hpc]; rfl⟩
              clear hpc
              go_wp2_with (first | (go_at_call 25; with_reducible refine (HPC.out _).mono ?_; rintro e w2 ⟨rfl, hdr⟩; replace hD := Aside0.mk (hD.out.keep hdr.below); clear hdr))
              go_ret2
              exact ⟨hD.out.bel, by rw [HN.out]; exact RdQ.none_ _ _⟩
            | some a =>
              rw [hpc] at HPC
              simp only [pieceR] at HPC
              have HO3 : Aside0 (piL l true = putO (acc ++ [a]) (piL (l.drop (i + 1)) true)) := ⟨by
                rw [HO.out, HO2.out, hpc]
                cases piL (l.drop (i + 1)) true with
                | none => rfl
                | some t => simp [putO]⟩
              clear hpc
              go_wp2_with (first | (go_at_call 25; with_reducible refine (HPC.out _).mono ?_; rintro e w2 ⟨rfl, hdr⟩; replace hD := Aside0.mk (hD.out.keep hdr.below); clear hdr) | ((with_reducible refine gate_builtin (b := .append) (xs := #[.tmp 53, .tmp 55]) rfl ?_); at_builtin; refine Kd.R_append (Kd.int .u16) (w0 := w) w.heap.size rfl (.tmp 53) (.tmp 55) 37 22 (.int .u16 0) 2 rfl Tryd.underlying37 infoU rfl (by decide) (by omega) u7 (ints acc) (a : Int) [.int .u16 (a : Int)] (fun k => b < k) (fun _ => False) rfl rfl ?aP (fun _ hk => hk.elim) ?aF ?aO ?aB ?aS ?aL ?_; (case aP => exact rfl); (case aB => exact hD.out.bel); (case aF => exact (fun k hk => Nat.lt_of_lt_of_le hD.out.lt hk)); (case aO => exact hD.out.rw); (case aS => exact hD.out.bel.size); (case aL => have := HA.out.1; rw [ints_len]; omega); intro v1 w9 ho hb9 hg9 hat9; replace ho : Kd.R (Kd.int .u16) 22 w9 w.heap.size (fun k => b < k) v1 (ints (acc ++ [a])) := (by rw [← ints_append]; exact ho); have hD2 := Aside0.mk (hD.out.grown hg9 ho hb9); clear ho hb9 hg9 hat9 hD))
              exact ⟨⟨i + 1, acc ++ [a], by go_num, by omega, hD2, ⟨by have := HA.out.2 hi; simp; omega, fun h => by have := HA.out.2 hi; simp; omega⟩, HO3⟩, by simp [intOf]; omega⟩
      · obtain rfl : i = l.length := by omega
        have HR : Aside0 (piF s last = some acc) := ⟨by rw [HP.out, HO.out, List.drop_length]; simp [piL, putO]⟩
        have hib : decide ((l.length : Int) < (l.length : Int)) = false := decide_eq_false (by omega)
        go_wp2_with fail
        go_ret2
        refine ⟨hD.out.bel, ?_⟩
        rw [HR.out]
        exact ⟨_, rfl, Kd.R_mono hD.out.rw fun _ _ => trivial⟩
end Go.Proofs.YtbgmepfejbbpaaaDoor.Pr
