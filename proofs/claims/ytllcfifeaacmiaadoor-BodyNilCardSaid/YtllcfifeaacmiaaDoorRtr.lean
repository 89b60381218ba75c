import Derived.Test.YtllcfifeaacmiaaDoorRz
namespace Go.Proofs.YtllcfifeaacmiaaDoor.Pr
open Go.RowKit Go.Proofs.YtllcfifeaacmiaaDoorW.PrintWords Go.Proofs.YtllcfifeaacmiaaDoorW.PrintLast Go.Proofs.YtllcfifeaacmiaaDoorW.PrintMore
set_option linter.unusedVariables false
set_option linter.unusedSimpArgs false

/-! ### trailer -/
theorem strOf_ints (t : List UInt8) : strOfNums (ints t) = mkB t := by
  unfold strOfNums mkB ints
  rw [List.map_map]
  have e2 : t.map ((fun n : Int => UInt8.ofNat n.toNat) ∘ fun c : UInt8 => (c.toNat : Int)) = t := by
    conv => rhs; rw [← List.map_id t]
    refine List.map_congr_left fun c _ => ?_
    simp
  rw [e2]
theorem RdC.kept_t {F : Nat → Prop} {B g : Nat} {W w1 : World} {R : Rm} {vs vt vd v1 : Value} {cl : List Nat} (h : RdC F B g W R vs vt vd cl) (c : UInt8)
    (ho : Kd.R (Kd.int .u8) 5 w1 B (fun k => F k ∧ k ≠ g ∧ k ∉ cl ∧ some k ≠ vd.ownBlock) v1 (ints R.text ++ [(c.toNat : Int)])) (hg : W.grownBy w1 vt.ownBlock) (hb : Below B W w1) :
    w1.heap[g]? = some (.cells (cellsR R vs vt vd) 47 (0, 0)) ∧ RdC F B g (w1.setCell ⟨g, 6, none⟩ v1) { R with text := R.text ++ [c] } vs v1 vd cl := by
  have hgne : some g ≠ vt.ownBlock := fun e => (h.t.1 g e.symm).2.1 rfl
  have hblk := blk_grown h.blk hg hgne
  have hdn : ∀ k, vd.ownBlock = some k → some k ≠ vt.ownBlock := fun k hk e => (h.d.1 k hk).2.2.2 e
  have hd : Kd.R (Kd.int .u8) 5 w1 B (fun k => F k ∧ k ≠ g ∧ k ∉ cl ∧ some k ≠ v1.ownBlock) vd (ints R.data) :=
    Kd.R_mono (Kd.R_grown (Kd.R_tight rfl h.d) hg (fun k hk => hdn k hk.symm)) (fun k hk => ⟨(h.d.1 k hk.symm).1, (h.d.1 k hk.symm).2.1, (h.d.1 k hk.symm).2.2.1, fun e => (ho.1 k e.symm).2.2.2 hk⟩)
  refine ⟨hblk, blk_put hblk 6 v1 rfl, h.gf, h.bg, fun k hk => ⟨(h.clf k hk).1, (h.clf k hk).2.1, ?_⟩, ?_, Kd.R_far hd (fun k hk => hk.2.1) v1⟩
  · have := (h.clf k hk).2.2
    have := hb.size
    simp
    omega
  · show Kd.R (Kd.int .u8) 5 _ B _ v1 (ints (R.text ++ [c]))
    rw [ints_append]
    exact Kd.R_far (Kd.R_mono ho (fun k hk => ⟨hk.1, hk.2.1, hk.2.2.1⟩)) (fun k hk => hk.2.1) v1
theorem own_len (A : Option Addr) (n m c c' : Nat) : (Value.slice A n c).ownBlock = (Value.slice A m c').ownBlock := by cases A <;> rfl
theorem RdC.emptied_t {F : Nat → Prop} {B g : Nat} {W : World} {R : Rm} {vs vd : Value} {A : Option Addr} {n c : Nat} {vt : Value} {cl : List Nat} (h : RdC F B g W R vs vt vd cl) (hv : vt = .slice A n c) :
    RdC F B g (W.setCell ⟨g, 6, none⟩ (.slice A 0 c)) { R with text := [] } vs (.slice A 0 c) vd cl := by
  subst hv
  refine ⟨blk_put h.blk 6 _ rfl, h.gf, h.bg, fun k hk => ⟨(h.clf k hk).1, (h.clf k hk).2.1, by simpa using (h.clf k hk).2.2⟩, ?_, ?_⟩
  · have := Kd.R_take (m := 0) h.t (Nat.zero_le _)
    exact Kd.R_far this (fun k hk => hk.2.1) _
  · refine Kd.R_far (Kd.R_mono h.d (fun k hk => ⟨hk.1, hk.2.1, hk.2.2.1, ?_⟩)) (fun k hk => hk.2.1) _
    rw [own_len A 0 n c c]
    exact hk.2.2.2
theorem RdC.emptied_d {F : Nat → Prop} {B g : Nat} {W : World} {R : Rm} {vs vt : Value} {A : Option Addr} {n c : Nat} {vd : Value} {cl : List Nat} (h : RdC F B g W R vs vt vd cl) (hv : vd = .slice A n c) :
    RdC F B g (W.setCell ⟨g, 7, none⟩ (.slice A 0 c)) { R with data := [] } vs vt (.slice A 0 c) cl := by
  subst hv
  refine ⟨blk_put h.blk 7 _ rfl, h.gf, h.bg, fun k hk => ⟨(h.clf k hk).1, (h.clf k hk).2.1, by simpa using (h.clf k hk).2.2⟩, ?_, ?_⟩
  · exact Kd.R_far h.t (fun k hk => hk.2.1) _
  · have := Kd.R_take (m := 0) h.d (Nat.zero_le _)
    exact Kd.R_far this (fun k hk => hk.2.1) _
def txtR (R : Rm) (c : UInt8) : Rm := { R with text := R.text ++ [c] }
def endR (R : Rm) : Rm := { R with text := [], fields := wrap64 (R.fields + 1) }
def stepT (R : Rm) (c : UInt8) : Stt × Int × Rm :=
  if (c.toNat : Int) ≠ 10 then (if 4097 < (R.text ++ [c]).length then (.none, 195, txtR R c) else (.trailer, 0, txtR R c))
  else if (R.text ++ [c]).length < 2 then (.none, 200, txtR R c)
  else if idxL 13 (R.text ++ [c]) 0 ≠ ((R.text ++ [c]).length : Int) - 2 then (.none, 200, txtR R c)
  else if (R.text ++ [c]).length = 2 then (.none, 0, txtR R c)
  else if 4096 < ((R.text ++ [c]).length : Int) - 2 then (.none, 195, txtR R c)
  else if 64 ≤ R.fields then (.none, 195, txtR R c)
  else if fieldOk ((R.text ++ [c]).take ((R.text ++ [c]).length - 2)) = false then (.none, 200, txtR R c)
  else (.trailer, 0, endR R)
set_option maxHeartbeats 2000000 in
theorem trailer_any (F : Nat → Prop) (B g : Nat) (W : World) (R : Rm) (vs vt vd : Value) (cl : List Nat) (c : UInt8) (h : RdC F B g W R vs vt vd cl) (hl : R.text.length ≤ 1000000) :
    Calls Tryd.prog 35 #[.pointer (some ⟨g, 0, none⟩), .int .u8 (c.toNat : Int)] W (StepP F B g W vs (stepT R c).1 (stepT R c).2.1 (stepT R c).2.2) := by
  have hlt := h.lt
  have hF : RdC (Fnew F W) B g W R vs vt vd cl := h.grow (fun k hk => .inl hk)
  have hc6 : W.cell? ⟨g, 6, none⟩ = some vt := h.cell 6
  have H := Aside0.mk hF
  have H0 := Aside0.mk h
  have HL := Aside0.mk hl
  have hO : Aside0 (Kd.R (Kd.int .u8) 5 W B (fun k => Fnew F W k ∧ k ≠ g ∧ k ∉ cl ∧ some k ≠ vd.ownBlock) vt (ints R.text)) := ⟨Kd.R_mono (Kd.R_tight rfl hF.t) (fun k hk => ⟨(hF.t.1 k hk.symm).1, (hF.t.1 k hk.symm).2.1, (hF.t.1 k hk.symm).2.2, fun e => (hF.d.1 k e.symm).2.2.2 hk⟩)⟩
  obtain ⟨At, ct, rfl⟩ := Kd.R_slice h.t
  have hfresh : ∀ k, W.heap.size ≤ k → (Fnew F W k ∧ k ≠ g ∧ k ∉ cl ∧ some k ≠ vd.ownBlock) := fun k hk => ⟨.inr hk, by omega, fun e => by have := (h.clf k e).2.2; omega, fun e => by have := own_lt' h.d e.symm; omega⟩
  replace hfresh := Aside0.mk hfresh
  obtain ⟨st, hst⟩ : ∃ st, stepT R c = st := ⟨_, rfl⟩
  rw [hst]
  replace hst := Aside0.mk hst
  clear h hF hl
  go_enter Tryd.func35, Tryd.ntmps35
  go_upto_region 2 with ((with_reducible refine gate_builtin (b := .append) (xs := #[.tmp 13, .tmp 15]) rfl ?_); at_builtin; refine Kd.R_append (Kd.int .u8) (w0 := W) B rfl (.tmp 13) (.tmp 15) 45 5 (.int .u8 0) 1 rfl Tryd.underlying45 info_u8 rfl (by decide) (by omega) (.slice At (ints R.text).length ct) (ints R.text) (c.toNat : Int) [.int .u8 (c.toNat : Int)] (fun k => Fnew F W k ∧ k ≠ g ∧ k ∉ cl ∧ some k ≠ vd.ownBlock) (fun _ => False) rfl rfl rfl (fun _ hk => hk.elim) hfresh.out hO.out (Below.refl _ _) (by have := H.out.bg; omega) (by rw [ints_length]; have := HL.out; omega) ?_; intro v1 w1 ho hbb hg hat; obtain ⟨A1, c1, rfl⟩ := Kd.R_slice ho; obtain ⟨n1, hn1⟩ : ∃ n1, (ints R.text ++ [(c.toNat : Int)]).length = n1 := ⟨_, rfl⟩; rw [hn1] at ho ⊢; have hk12 := H.out.kept_t c ho hg hbb; obtain ⟨hk1, hk2⟩ := hk12; have HW := Aside0.mk (KW.grown (KW.refl F W) hg hbb (fun k hk => .inl (H0.out.t.1 k hk).1)); have hf6 := blk_frozen hk1 6; have hcc : w1.cell? ⟨g, 6, none⟩ = some (.slice At (ints R.text).length ct) := blk_cell hk1 6; clear hg hat ho hk1 hbb; replace hk2 := Aside0.mk hk2; replace hn1 := Aside0.mk hn1)
  replace HW := Aside0.mk (HW.out.set g 6 (.slice A1 n1 c1) H0.out.gf)
  have HT : Aside0 (n1 = (R.text ++ [c]).length) := ⟨by rw [← hn1.out, List.length_append, List.length_append, ints_length]; rfl⟩
  have HI : Aside0 (ints R.text ++ [(c.toNat : Int)] = ints (R.text ++ [c])) := ⟨by rw [ints_append]; rfl⟩
  have hnb : (n1 : Int) ≤ 1000001 := by have := HT.out; rw [List.length_append, List.length_singleton] at this; have := HL.out; omega
  clear hcc hf6 hc6 hn1 hO hfresh
  generalize w1.setCell ⟨g, 6, none⟩ (.slice A1 n1 c1) = W2 at hk2 HW ⊢
  have hc6 : W2.cell? ⟨g, 6, none⟩ = some (.slice A1 n1 c1) := hk2.out.cell 6
  have hf6 := hk2.out.fr 6
  have HX := hst.out
  unfold stepT at HX
  rw [← HT.out] at HX
  clear hst
  by_cases h1 : (c.toNat : Int) = 10
  · have e1 : ((c.toNat : Int) != 10) = false := by rw [h1]; rfl
    rw [if_neg (fun e => e h1)] at HX
    clear h1
    by_cases h2 : n1 < 2
    · have e2 : decide ((n1 : Int) < 2) = true := decide_eq_true (by omega)
      rw [if_pos h2] at HX
      clear h2
      replace HX := Aside0.mk HX
      go_wp2_with fail
      go_ret2
      unfold StepP
      rw [← HX.out]
      exact ⟨_, _, _, _, rfl, ⟨rfl, rfl⟩, hk2.out.nocl, HW.out⟩
    · have e2 : decide ((n1 : Int) < 2) = false := decide_eq_false (by omega)
      rw [if_neg h2] at HX
      have hw2 : IntKind.i64.wrap ((n1 : Int) - 2) = (n1 : Int) - 2 := by rw [i64_w, IntWalk.wrap64_in _ (by omega)]
      have hn2 : 0 ≤ (n1 : Int) - 2 := by omega
      have HC : Aside0 (Calls Tryd.prog 47 #[.slice A1 n1 c1, .int .u8 13] W2 fun e W' => e = .returned (.int .i64 (idxL 13 (R.text ++ [c]) 0)) ∧ W' = W2) := ⟨by
        obtain ⟨A', c', e', hle, hC⟩ := Kd.R_reads hk2.out.t
        have hlen : (ints (R.text ++ [c])).length = n1 := by rw [ints_length, ← HT.out]
        have e'' : Value.slice A1 n1 c1 = .slice A' (ints (R.text ++ [c])).length c' := e'
        rw [e'']
        exact index_any (R.text ++ [c]) 13 A' c' W2 hC (by rw [← HT.out]; omega)⟩
      clear h2
      obtain ⟨ix, hix⟩ : ∃ ix, idxL 13 (R.text ++ [c]) 0 = ix := ⟨_, rfl⟩
      rw [hix] at HC HX
      clear hix
      by_cases h3 : ix = (n1 : Int) - 2
      · subst h3
        rw [if_neg (fun e => e rfl)] at HX
        by_cases h4 : n1 = 2
        · have e4 : ((n1 : Int) == 2) = true := beq_iff_eq.2 (by omega)
          rw [if_pos h4] at HX
          clear h4
          replace HX := Aside0.mk HX
          go_wp2_with (go_at_call 47; (with_reducible refine HC.out.mono ?_); rintro e w3 ⟨rfl, rfl⟩)
          go_ret2
          unfold StepP
          rw [← HX.out]
          exact ⟨_, _, _, _, rfl, ⟨rfl, rfl⟩, hk2.out.nocl, HW.out⟩
        · have e4 : ((n1 : Int) == 2) = false := beq_eq_false_iff_ne.2 (by omega)
          rw [if_neg h4] at HX
          clear h4
          by_cases h5 : 4096 < (n1 : Int) - 2
          · have e5 : decide (4096 < (n1 : Int) - 2) = true := decide_eq_true h5
            rw [if_pos h5] at HX
            clear h5
            replace HX := Aside0.mk HX
            go_wp2_with (go_at_call 47; (with_reducible refine HC.out.mono ?_); rintro e w3 ⟨rfl, rfl⟩)
            go_ret2
            unfold StepP
            rw [← HX.out]
            exact ⟨_, _, _, _, rfl, ⟨rfl, rfl⟩, hk2.out.nocl, HW.out⟩
          · have e5 : decide (4096 < (n1 : Int) - 2) = false := decide_eq_false h5
            rw [if_neg h5] at HX
            have hc5 : W2.cell? ⟨g, 5, none⟩ = some (.int .i64 R.fields) := hk2.out.cell 5
            have hf5 := hk2.out.fr 5
            by_cases h6 : 64 ≤ R.fields
            · have e6 : decide (64 ≤ R.fields) = true := decide_eq_true h6
              rw [if_pos h6] at HX
              clear h6 h5
              replace HX := Aside0.mk HX
              go_wp2_with (go_at_call 47; (with_reducible refine HC.out.mono ?_); rintro e w3 ⟨rfl, rfl⟩)
              go_ret2
              unfold StepP
              rw [← HX.out]
              exact ⟨_, _, _, _, rfl, ⟨rfl, rfl⟩, hk2.out.nocl, HW.out⟩
            · have e6 : decide (64 ≤ R.fields) = false := decide_eq_false h6
              rw [if_neg h6] at HX
              clear h6 h5
              go_upto_region 13 with (go_at_call 47; (with_reducible refine HC.out.mono ?_); rintro e w3 ⟨rfl, rfl⟩)
              obtain ⟨m, hm⟩ : ∃ m, n1 = m + 2 := ⟨n1 - 2, by omega⟩
              have hm2 : (n1 : Int) - 2 = (m : Int) := by omega
              have hTl : (R.text ++ [c]).length = m + 2 := by rw [← HT.out, hm]
              have hmt : (R.text ++ [c]).length - 2 = m := by omega
              obtain ⟨hcap, hcv⟩ : m + 2 ≤ c1 ∧ ∀ w', Below w3.heap.size w3 w' → ∀ q, (convert 45 9 (.slice A1 m q)).run Tryd.prog w' = .ok (.string (mkB ((R.text ++ [c]).take m))) w' := by
                obtain ⟨A', c', e', hle, hC⟩ := Kd.R_reads hk2.out.t
                have hlen : (ints (R.text ++ [c])).length = m + 2 := by rw [ints_length, hTl]
                have e'' : Value.slice A1 n1 c1 = .slice A' (ints (R.text ++ [c])).length c' := e'
                injection e'' with q1 q2 q3
                subst q1 q3
                refine ⟨by rw [← hlen]; exact hle, fun w' hb q => ?_⟩
                have hC2 := Kd.C_take (m := m) (Kd.C_below hC hb) (by rw [hlen]; omega)
                have hl2 : ((ints (R.text ++ [c])).take m).length = m := by rw [List.length_take, hlen]; omega
                rw [hl2] at hC2
                have hs := Kd.C_string (P := Tryd.prog) (c := q) (src := 45) (dst := 9) (e := 5) Tryd.underlying45 Tryd.underlying5 Tryd.underlying9 hC2
                have e2 : (ints (R.text ++ [c])).take m = ints ((R.text ++ [c]).take m) := by unfold ints; rw [List.map_take]
                rw [e2, strOf_ints] at hs
                exact hs
              rw [show n1 - 2 = m by omega] at HX
              have HFd := Aside0.mk (fun W' => field_any (mkB ((R.text ++ [c]).take m)) (by rw [mkB_size, List.length_take]; omega) W')
              rw [data_mkB] at HFd
              obtain ⟨tk, htk⟩ : ∃ tk, mkB ((R.text ++ [c]).take m) = tk := ⟨_, rfl⟩
              simp only [htk] at hcv HFd
              obtain ⟨ok, hok⟩ : ∃ ok, fieldOk ((R.text ++ [c]).take m) = ok := ⟨_, rfl⟩
              simp only [hok] at HFd HX
              have hcv0 := hcv w3 (Below.refl _ _) c1
              have hcap' : (m : Int) ≤ (c1 : Int) := by omega
              have hw2' : IntKind.i64.wrap ((n1 : Int) - 2) = (m : Int) := hw2.trans hm2
              replace HX := Aside0.mk HX
              clear hcv hw2 hcap hTl hmt hm hn2 htk hok hm2
              go_upto_region 14 with (go_at_call 48; (with_reducible refine (HFd.out _).mono ?_); rintro e w5 ⟨⟨a5, b5, rfl⟩, hb5⟩)
              have HB6 : Below w3.heap.size w3 (w5.alloc (.cells #[.string a5, .string b5] 59)) := below_alloc hb5 _
              have hk6 := Aside0.mk (hk2.out.low HB6)
              have HW6 := Aside0.mk (HW.out.trans (KW.of_below HB6))
              clear hb5 HB6 hk2 HW hc6 hf6 hc5 hf5 HC HFd hcv0
              generalize w5.alloc (.cells #[.string a5, .string b5] 59) = W6 at hk6 HW6 ⊢
              cases ok with
              | false =>
                have HX := HX.out
                rw [if_pos rfl] at HX
                replace HX := Aside0.mk HX
                go_wp2_with fail
                go_ret2
                unfold StepP
                rw [← HX.out]
                exact ⟨_, _, _, _, rfl, ⟨rfl, rfl⟩, hk6.out.nocl, HW6.out⟩
              | true =>
                have HX := HX.out
                rw [if_neg (by decide)] at HX
                replace HX := Aside0.mk HX
                have hc5 : W6.cell? ⟨g, 5, none⟩ = some (.int .i64 R.fields) := hk6.out.cell 5
                have hf5 := hk6.out.fr 5
                obtain ⟨f1, hf1⟩ : ∃ f1, wrap64 (R.fields + 1) = f1 := ⟨_, rfl⟩
                have hw5 : IntKind.i64.wrap (R.fields + 1) = f1 := (i64_w _).trans hf1
                have HZ : Aside0 (endR R = { R with text := [], fields := f1 }) := ⟨by unfold endR; rw [hf1]⟩
                clear hf1
                go_upto_region 17 with fail
                have hk7 := Aside0.mk (RdC.put (R' := { R with text := R.text ++ [c], fields := f1 }) hk6.out 5 (.int .i64 f1) rfl rfl rfl)
                have HW7 := Aside0.mk (HW6.out.set g 5 (.int .i64 f1) H0.out.gf)
                clear hk6 HW6 hc5 hf5
                generalize W6.setCell ⟨g, 5, none⟩ (.int .i64 f1) = W7 at hk7 HW7 ⊢
                have hc6 : W7.cell? ⟨g, 6, none⟩ = some (.slice A1 n1 c1) := hk7.out.cell 6
                have hf6 := hk7.out.fr 6
                have hk8 := Aside0.mk (hk7.out.emptied_t rfl)
                have HW8 := Aside0.mk (HW7.out.set g 6 (.slice A1 0 c1) H0.out.gf)
                go_wp2_with fail
                go_ret2
                unfold StepP
                rw [← HX.out, HZ.out]
                exact ⟨_, _, _, _, rfl, ⟨rfl, rfl⟩, hk8.out.nocl, HW8.out⟩
      · have e3 : (ix != (n1 : Int) - 2) = true := bne_iff_ne.2 h3
        rw [if_pos h3] at HX
        clear h3
        replace HX := Aside0.mk HX
        go_wp2_with (go_at_call 47; (with_reducible refine HC.out.mono ?_); rintro e w3 ⟨rfl, rfl⟩)
        go_ret2
        unfold StepP
        rw [← HX.out]
        exact ⟨_, _, _, _, rfl, ⟨rfl, rfl⟩, hk2.out.nocl, HW.out⟩
  · have e1 : ((c.toNat : Int) != 10) = true := bne_iff_ne.2 h1
    rw [if_pos h1] at HX
    clear h1
    by_cases h2 : 4097 < n1
    · have e2 : decide (4097 < (n1 : Int)) = true := decide_eq_true (by omega)
      rw [if_pos h2] at HX
      clear h2
      replace HX := Aside0.mk HX
      go_wp2_with fail
      go_ret2
      unfold StepP
      rw [← HX.out]
      exact ⟨_, _, _, _, rfl, ⟨rfl, rfl⟩, hk2.out.nocl, HW.out⟩
    · have e2 : decide (4097 < (n1 : Int)) = false := decide_eq_false (by omega)
      rw [if_neg h2] at HX
      clear h2
      replace HX := Aside0.mk HX
      go_wp2_with fail
      go_ret2
      unfold StepP
      rw [← HX.out]
      exact ⟨_, _, _, _, rfl, ⟨rfl, rfl⟩, hk2.out.nocl, HW.out⟩
end Go.Proofs.YtllcfifeaacmiaaDoor.Pr
