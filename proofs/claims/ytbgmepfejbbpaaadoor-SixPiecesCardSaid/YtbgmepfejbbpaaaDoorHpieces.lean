import Derived.Test.YtbgmepfejbbpaaaDoorHcom
import Derived.Test.YtbgmepfejbbpaaaDoorGhex
import Derived.Test.YtbgmepfejbbpaaaDoorGpcs
namespace Go.Proofs.YtbgmepfejbbpaaaDoor.Pr
open Go.RowKit Go.Proofs.YtbgmepfejbbpaaaDoorW.PrintWords Go.Proofs.YtbgmepfejbbpaaaDoorW.PrintLast Go.Proofs.YtbgmepfejbbpaaaDoorW.PrintMore
set_option linter.unusedVariables false
set_option linter.unusedSimpArgs false

/-! ### SixPieces -/
/-- The row that comes in. -/
def RowP (w : World) (A : Option Addr) (l : List Nat) : Prop := 0 < l.length → ∃ b o, A = some ⟨b, o, none⟩ ∧ b < w.heap.size ∧ ∀ (i : Nat) (hi : i < l.length), w.cell? ⟨b, o + i, none⟩ = some (.int .u16 (l[i] : Int))
theorem RowP.keep {w w1 : World} {A : Option Addr} {l : List Nat} (h : RowP w A l) (hb : Below w.heap.size w w1) : RowP w1 A l := fun h0 => by
  obtain ⟨b, o, e, h1, h2⟩ := h h0
  exact ⟨b, o, e, Nat.lt_of_lt_of_le h1 hb.size, fun i hi => cell_keep (h2 i hi) hb⟩
theorem rowP_of {w : World} {A : Option Addr} {n c : Nat} {zs : List Int} (h : (A = none ∧ n = 0 ∧ c = 0 ∧ zs = []) ∨ ∃ x, A = some x ∧ n ≤ c ∧ c ≤ maxLen ∧ zs.length = c ∧ (∀ i, i < zs.length → w.cell? (x.add i) = some (.int .u16 (zs.getD i 0))) ∧ ∀ n ∈ zs, (Lit.int .u16 n).wf = true) : ∃ L : List Nat, L.length = n ∧ (∀ x ∈ L, x < 65536) ∧ RowP w A L := by
  rcases h with ⟨rfl, rfl, rfl, rfl⟩ | ⟨x, rfl, h1, h2, h3, h4, h5⟩
  · exact ⟨[], rfl, by simp, fun h => absurd h (by simp)⟩
  · have hz : ∀ y ∈ zs, 0 ≤ y ∧ y < 65536 := by
      intro y hy
      have h := h5 y hy
      simp [Lit.wf, IntKind.min, IntKind.max, IntKind.signed, IntKind.bits] at h
      omega
    have hl : ((zs.take n).map Int.toNat).length = n := by rw [List.length_map, List.length_take]; omega
    refine ⟨(zs.take n).map Int.toNat, hl, fun y hy => ?_, fun h0 => ?_⟩
    · obtain ⟨z, hz1, rfl⟩ := List.mem_map.1 hy
      have := hz z (List.mem_of_mem_take hz1)
      omega
    · rw [hl] at h0
      have hx0 := h4 0 (by omega)
      obtain ⟨hs, hlt⟩ := cell_spot hx0
      have hxa : x.add 0 = x := by unfold Addr.add; simp
      rw [hxa] at hs hlt
      refine ⟨x.block, x.off, by rw [← hs], hlt, fun i hi => ?_⟩
      rw [hl] at hi
      have hc := h4 i (by omega)
      rw [hs, addr_add] at hc
      rw [hc]
      have hzi := hz zs[i] (List.getElem_mem _)
      congr 2
      rw [List.getD_eq_getElem?_getD, List.getElem?_eq_getElem (by omega)]
      simp only [Option.getD_some, List.getElem_map, List.getElem_take]
      omega
set_option maxRecDepth 8000 in
set_option maxHeartbeats 1500000 in
theorem pieces_go (A : Option Addr) (cap : Nat) (L : List Nat) (p : Nat) (hp : p < 256) (has : Bool) (hl : L.length * 2 ≤ 140737488351232) (h16 : ∀ n ∈ L, n < 65536) (w : World) (hR : RowP w A L) (hG : WG w) :
    Calls Tryd.prog 6 #[.slice A L.length cap, .int .u8 (p : Int), .bool has] w fun e w' => e = .returned (.bool true) ∧ Below w.heap.size w w' := by
  have HG := Aside0.mk hG
  have HB := Aside0.mk (Below.refl w.heap.size w)
  clear hG
  by_cases h20 : 20 < L.length
  · have k1 : decide ((20 : Int) < (L.length : Int)) = true := decide_eq_true (by omega)
    have k2 : decide (20 < L.length) = true := decide_eq_true h20
    clear hR h20
    go_enter Tryd.func6, Tryd.ntmps6
    go_wp2_with ((go_at_call 7; with_reducible refine (works_any _ (HG.out.keep HB.out)).mono ?_; rintro e w5 ⟨rfl, hb5⟩; replace HB := Aside0.mk (below_step HB.out hb5); clear hb5))
    go_ret
    exact ⟨rfl, HB.out⟩
  · have k1 : decide ((20 : Int) < (L.length : Int)) = false := decide_eq_false (by omega)
    have k2 : decide (20 < L.length) = false := decide_eq_false h20
    have hW : ∀ x ∈ L, Wrt (hexW false false) x := fun x hx => hexW_wrt false false x (h16 x hx)
    have hlen4 : ∀ x, x < 65536 → (hexW false false x).length ≤ 4 := fun x hx => (hex_is false false x hx).2.le
    have HLen := Aside0.mk (fun g i => ptK_len (W := hexW false false) (L := L) g has (fun x hx => hlen4 x (h16 x hx)) (hlen4 0 (by decide)) i)
    have HW := Aside0.mk hW
    have HR := Aside0.mk hR
    have H16 := Aside0.mk h16
    clear hW hlen4 hR h16
    have hgl : p % (L.length + 1) ≤ L.length := by have := Nat.mod_lt p (show L.length + 1 > 0 by omega); omega
    have hmod : ((p : Int) % ((L.length : Int) + 1)) = ((p % (L.length + 1) : Nat) : Int) := by rw [Int.natCast_emod, Int.natCast_add]; rfl
    have htm : Int.tmod (p : Int) ((L.length : Int) + 1) = ((p % (L.length + 1) : Nat) : Int) := by rw [Int.tmod_eq_emod_of_nonneg (by omega)]; exact hmod
    have hnz : ((L.length : Int) + 1 == 0) = false := beq_eq_false_iff_ne.2 (by omega)
    have hnz2 : ¬ ((L.length : Int) + 1 = 0) := by omega
    generalize p % (L.length + 1) = g at hgl hmod htm
    have hn20 : L.length ≤ 20 := by omega
    clear h20 hl
    go_enter Tryd.func6, Tryd.ntmps6
    go_upto_block 0 with (fail)
    clear k1 k2 hmod htm hnz hnz2
    go_cut [8] (fun v8 wx => v8 = .string (mkB (ptK (hexW false false) L g has L.length)) ∧ Hid (Below w.heap.size w wx))
    case first =>
      go_wp2_with fail
      go_loopw [8, 9] (fun v8 v9 wx => ∃ i : Nat, v9 = .int .i64 (i : Int) ∧ i ≤ L.length ∧ v8 = .string (mkB (ptK (hexW false false) L g has i)) ∧ Aside0 (Below w.heap.size w wx)) (fun _ v9 _ => L.length - (intOf v9).toNat)
      case atStart => exact ⟨0, rfl, by omega, rfl, HB⟩
      case round =>
        clear HB
        obtain ⟨i, rfl, hin, rfl, HB⟩ := hrel
        by_cases hi : i < L.length
        · have hib : decide ((i : Int) < (L.length : Int)) = true := decide_eq_true (by omega)
          have hib2 : decide (i < L.length) = true := decide_eq_true hi
          obtain ⟨b, o, rfl, hbl, hcs⟩ := (HR.out.keep HB.out) (by omega)
          have hc := hcs i hi
          have hgd : L.getD i 0 = L[i] := by simp [List.getD, hi]
          have hst : ptK (hexW false false) L g has (i + 1) = (if has = true ∧ i = g then ptK (hexW false false) L g has i ++ [58, 58] else if 0 < i then ptK (hexW false false) L g has i ++ [58] else ptK (hexW false false) L g has i) ++ hexW false false (L.getD i 0) := rfl
          rw [hgd] at hst
          have hz0 := HLen.out g i
          have hx16 : L[i] < 65536 := H16.out _ (List.getElem_mem _)
          have HH := Aside0.mk (fun W => hexcall false false L[i] hx16 W)
          have hx4 := (hex_is false false L[i] hx16).2.le
          clear hcs hgd
          generalize L[i] = x at hc hst hx16 HH hx4
          generalize ptK (hexW false false) L g has i = t at hst hz0
          have hz1 : (9223372036854775807 < (mkB t).size + 1) = False := eq_false (by rw [mkB_size]; omega)
          have hz2 : (9223372036854775807 < (mkB t).size + 2) = False := eq_false (by rw [mkB_size]; omega)
          have hz3 : (9223372036854775807 < (mkB t).size + 1 + (mkB (hexW false false x)).size) = False := eq_false (by rw [mkB_size, mkB_size]; omega)
          have hz4 : (9223372036854775807 < (mkB t).size + 2 + (mkB (hexW false false x)).size) = False := eq_false (by rw [mkB_size, mkB_size]; omega)
          have hz5 : (9223372036854775807 < (mkB t).size + (mkB (hexW false false x)).size) = False := eq_false (by rw [mkB_size, mkB_size]; omega)
          clear hz0 hx4
          cases has with
          | true =>
            by_cases hig : i = g
            · have e1 : ((i : Int) == (g : Int)) = true := by rw [beq_iff_eq]; omega
              rw [if_pos ⟨rfl, hig⟩] at hst
              replace hst := Aside0.mk hst
              clear hig
              go_wp2_with (first | (go_at_call 13; with_reducible refine (HH.out _).mono ?_; rintro e w2 ⟨rfl, hb2⟩; replace HB := Aside0.mk (below_step HB.out hb2); clear hb2))
              exact ⟨⟨i + 1, by go_num, by omega, by rw [hst.out, show (⟨#[58, 58]⟩ : ByteArray) = mkB [58, 58] from rfl, mkB_append, mkB_append], HB⟩, by simp [intOf]; omega⟩
            · have e1 : ((i : Int) == (g : Int)) = false := beq_eq_false_iff_ne.2 (by omega)
              rw [if_neg (fun e => hig e.2)] at hst
              clear hig
              by_cases h0 : 0 < i
              · rw [if_pos h0] at hst
                have g1 : decide ((0 : Int) < (i : Int)) = true := decide_eq_true (by omega)
                have g2 : decide (0 < i) = true := decide_eq_true h0
                replace hst := Aside0.mk hst
                clear h0
                go_wp2_with (first | (go_at_call 13; with_reducible refine (HH.out _).mono ?_; rintro e w2 ⟨rfl, hb2⟩; replace HB := Aside0.mk (below_step HB.out hb2); clear hb2))
                exact ⟨⟨i + 1, by go_num, by omega, by rw [hst.out, show (⟨#[58]⟩ : ByteArray) = mkB [58] from rfl, mkB_append, mkB_append], HB⟩, by simp [intOf]; omega⟩
              · rw [if_neg h0] at hst
                have g1 : decide ((0 : Int) < (i : Int)) = false := decide_eq_false (by omega)
                have g2 : decide (0 < i) = false := decide_eq_false h0
                replace hst := Aside0.mk hst
                clear h0
                go_wp2_with (first | (go_at_call 13; with_reducible refine (HH.out _).mono ?_; rintro e w2 ⟨rfl, hb2⟩; replace HB := Aside0.mk (below_step HB.out hb2); clear hb2))
                exact ⟨⟨i + 1, by go_num, by omega, by rw [hst.out, mkB_append], HB⟩, by simp [intOf]; omega⟩
          | false =>
            rw [if_neg (by simp)] at hst
            by_cases h0 : 0 < i
            · rw [if_pos h0] at hst
              have g1 : decide ((0 : Int) < (i : Int)) = true := decide_eq_true (by omega)
              have g2 : decide (0 < i) = true := decide_eq_true h0
              replace hst := Aside0.mk hst
              clear h0
              go_wp2_with (first | (go_at_call 13; with_reducible refine (HH.out _).mono ?_; rintro e w2 ⟨rfl, hb2⟩; replace HB := Aside0.mk (below_step HB.out hb2); clear hb2))
              exact ⟨⟨i + 1, by go_num, by omega, by rw [hst.out, show (⟨#[58]⟩ : ByteArray) = mkB [58] from rfl, mkB_append, mkB_append], HB⟩, by simp [intOf]; omega⟩
            · rw [if_neg h0] at hst
              have g1 : decide ((0 : Int) < (i : Int)) = false := decide_eq_false (by omega)
              have g2 : decide (0 < i) = false := decide_eq_false h0
              replace hst := Aside0.mk hst
              clear h0
              go_wp2_with (first | (go_at_call 13; with_reducible refine (HH.out _).mono ?_; rintro e w2 ⟨rfl, hb2⟩; replace HB := Aside0.mk (below_step HB.out hb2); clear hb2))
              exact ⟨⟨i + 1, by go_num, by omega, by rw [hst.out, mkB_append], HB⟩, by simp [intOf]; omega⟩
        · obtain rfl : i = L.length := by omega
          have hib : decide ((L.length : Int) < (L.length : Int)) = false := decide_eq_false (by omega)
          have hib2 : decide (L.length < L.length) = false := decide_eq_false (by omega)
          go_wp2_with fail
          go_meet
          exact ⟨rfl, Lib.hid HB.out⟩
    case rest =>
      obtain ⟨rfl, HB2⟩ := hcut
      replace HB := Aside0.mk HB2.out
      clear HB2
      have hz0 := HLen.out g L.length
      have hF : ptF (hexW false false) L g has = if has = true ∧ g = L.length then ptK (hexW false false) L g has L.length ++ [58, 58] else ptK (hexW false false) L g has L.length := rfl
      generalize ptK (hexW false false) L g has L.length = t at hF hz0 ⊢
      have hz2 : (9223372036854775807 < (mkB t).size + 2) = False := eq_false (by rw [mkB_size]; omega)
      have hTl : (ptF (hexW false false) L g has).length ≤ 2147483648 := by
        rw [hF]
        split
        · simp only [List.length_append, List.length_cons, List.length_nil]; omega
        · omega
      have HP := Aside0.mk (fun W => parse_any (ptF (hexW false false) L g has) W hTl)
      have hno := pieces_no (L := L) g HW.out
      have hyes := pieces_yes (L := L) g hgl HW.out
      clear hTl HLen HW hz0
      cases has with
      | false =>
        rw [if_neg (by simp)] at hF
        clear hyes
        generalize ptF (hexW false false) L g false = T at HP hF hno
        subst hF
        by_cases h8 : L.length = 8
        · rw [if_pos h8] at hno
          have HS := Aside0.mk hno
          have HQ : Aside0 (∀ i, i < L.length → pad8 L i = L.getD i 0) := ⟨fun i _ => rfl⟩
          clear hno
          obtain ⟨R, hR⟩ : ∃ R, R = L := ⟨_, rfl⟩
          rw [show some L = some R by rw [hR]] at HS
          replace HQ : Aside0 (∀ i, i < L.length → pad8 R i = L.getD i 0) := ⟨by rw [hR]; exact HQ.out⟩
          clear hR
          rw [HS.out] at HP
          replace HP : Aside0 (∀ W, Calls Tryd.prog 8 #[.string (mkB T)] W fun e w' => e = .returned (.tuple #[.agg (cs8 (pad8 R)).toArray, .int .i64 0]) ∧ Below W.heap.size W w') := ⟨fun W => (HP.out W).mono fun e w' h => ⟨h.2, h.1⟩⟩
          clear hz2
          go_upto_region 16 with (first | (go_at_call 8; with_reducible refine (HP.out _).mono ?_; rintro e w1 ⟨rfl, hb1⟩) | (with_reducible refine wpList_store_mid rfl 23 _ _ rfl _ 0 (cs8 (pad8 R)).toArray rfl rfl (th_8 (R8.fresh _) _) (info8a _) (one8 _) ?_))
          obtain ⟨W1, b1, e1, e2, hr1, hB1, hlt1⟩ := fresh_stored w1 (pad8 R)
          replace HB := Aside0.mk (below_step (below_step HB.out hb1) hB1)
          rw [e1, e2]
          clear e1 e2 hb1 hB1 HP HS
          have HR1 := Aside0.mk hr1
          have HR2 := Aside0.mk (HR.out.keep HB.out)
          clear hr1 HR
          have n1 : ((L.length : Int) == 8) = true := beq_iff_eq.2 (by omega)
          have n2 : ((L.length : Int) != 8) = false := bne_eq_false_iff_eq.2 (by omega)
          go_upto_block 2 with (fail)
          clear n1 n2
          go_wp2_with fail
          go_loopw [12] (fun v12 wx => ∃ (i q : Nat), v12 = .int .i64 (i : Int) ∧ i ≤ L.length ∧ wx = W1.drewN q) (fun v12 _ => L.length - (intOf v12).toNat)
          case atStart => exact ⟨0, 0, rfl, by omega, rfl⟩
          case round =>
            obtain ⟨i, q, rfl, hin, rfl⟩ := hrel
            by_cases hi : i < L.length
            · have hib : decide ((i : Int) < (L.length : Int)) = true := decide_eq_true (by omega)
              have hib2 : decide (i < L.length) = true := decide_eq_true hi
              obtain ⟨b, o, rfl, hbl, hcs⟩ := HR2.out (by omega)
              have hc := hcs i hi
              have hgd : L.getD i 0 = L[i] := by simp [List.getD, hi]
              have hx := HQ.out i hi
              have ha := HR1.out.at_ i (by omega)
              rw [Nat.zero_add, hx, hgd] at ha
              clear hcs hgd hx
              generalize L[i] = x at hc ha
              have hne : ((x : Int) != (x : Int)) = false := bne_eq_false_iff_eq.2 rfl
              go_wp2_with fail
              go_quiet (fail)
              go_wp2_with fail
              exact ⟨⟨i + 1, _, by go_num, by omega, rfl⟩, by simp [intOf]; omega⟩
            · obtain rfl : i = L.length := by omega
              have hib : decide ((L.length : Int) < (L.length : Int)) = false := decide_eq_false (by omega)
              have hib2 : decide (L.length < L.length) = false := decide_eq_false (by omega)
              have HBq := Aside0.mk (pw_below_drewN HB.out q)
              go_wp2_with (go_at_call 7; with_reducible refine (works_any _ (HG.out.keep HBq.out)).mono ?_; rintro e w5 ⟨rfl, hb5⟩; replace HBq := Aside0.mk (below_step HBq.out hb5); clear hb5)
              go_ret
              exact ⟨rfl, HBq.out⟩
        · rw [if_neg h8] at hno
          have HS := Aside0.mk hno
          clear hno
          rw [HS.out] at HP
          replace HP : Aside0 (∀ W, Calls Tryd.prog 8 #[.string (mkB T)] W fun e w' => e = .returned (.tuple #[.agg (cs8 fun _ => 0).toArray, .int .i64 8]) ∧ Below W.heap.size W w') := ⟨fun W => (HP.out W).mono fun e w' h => ⟨h.2, h.1⟩⟩
          clear hz2
          go_upto_region 16 with (first | (go_at_call 8; with_reducible refine (HP.out _).mono ?_; rintro e w1 ⟨rfl, hb1⟩) | (with_reducible refine wpList_store_mid rfl 23 _ _ rfl _ 0 (cs8 fun _ => 0).toArray rfl rfl (th_8 (R8.fresh _) _) (info8a _) (one8 _) ?_))
          obtain ⟨W1, b1, e1, e2, hr1, hB1, hlt1⟩ := fresh_stored w1 (fun _ => 0)
          replace HB := Aside0.mk (below_step (below_step HB.out hb1) hB1)
          rw [e1, e2]
          clear e1 e2 hb1 hB1 HP HS HR
          have HR1 := Aside0.mk hr1
          clear hr1
          have hEq : ∀ w, (binOp .eql 23 (.agg (cs8 fun _ => 0).toArray) (.agg #[.int .u16 0, .int .u16 0, .int .u16 0, .int .u16 0, .int .u16 0, .int .u16 0, .int .u16 0, .int .u16 0])).run Tryd.prog w = .ok (.bool true) w := fun w => eql8 (fun _ => 0) w
          have n1 : ((L.length : Int) == 8) = false := beq_eq_false_iff_ne.2 (by omega)
          have n2 : ((L.length : Int) != 8) = true := bne_iff_ne.2 (by omega)
          have n3 : ¬ ((L.length : Int) = 8) := by omega
          clear h8
          go_wp2_with (first | (with_reducible refine wpList_load_g ?hw 23 _ rfl b1 0 rfl (cs8 fun _ => 0) _ HR1.out.range Tryd.underlying23 rfl (info8c _) ?_; (case hw => with_unfolding_all rfl)) | (go_at_call 7; with_reducible refine (works_any _ (HG.out.keep HB.out)).mono ?_; rintro e w5 ⟨rfl, hb5⟩; replace HB := Aside0.mk (below_step HB.out hb5); clear hb5))
          go_ret
          exact ⟨rfl, HB.out⟩
      | true =>
        clear hno
        generalize hTT : ptF (hexW false false) L g true = T at HP hF hyes
        clear hTT
        by_cases hgn : g = L.length
        · rw [if_pos ⟨rfl, hgn⟩] at hF
          have g1 : ((g : Int) == (L.length : Int)) = true := by rw [beq_iff_eq]; omega
          have hTB : (mkB t) ++ ⟨#[58, 58]⟩ = mkB T := by rw [hF, show (⟨#[58, 58]⟩ : ByteArray) = mkB [58, 58] from rfl, mkB_append]
          clear hF hgn
          by_cases h7 : 7 < L.length
          · rw [if_pos h7] at hyes
            have HS := Aside0.mk hyes
            clear hyes
            rw [HS.out] at HP
            replace HP : Aside0 (∀ W, Calls Tryd.prog 8 #[.string (mkB T)] W fun e w' => e = .returned (.tuple #[.agg (cs8 fun _ => 0).toArray, .int .i64 8]) ∧ Below W.heap.size W w') := ⟨fun W => (HP.out W).mono fun e w' h => ⟨h.2, h.1⟩⟩
            have HTB := hTB
            go_upto_region 16 with (first | (go_at_call 8; with_reducible refine (HP.out _).mono ?_; rintro e w1 ⟨rfl, hb1⟩) | (with_reducible refine wpList_store_mid rfl 23 _ _ rfl _ 0 (cs8 fun _ => 0).toArray rfl rfl (th_8 (R8.fresh _) _) (info8a _) (one8 _) ?_))
            obtain ⟨W1, b1, e1, e2, hr1, hB1, hlt1⟩ := fresh_stored w1 (fun _ => 0)
            replace HB := Aside0.mk (below_step (below_step HB.out hb1) hB1)
            rw [e1, e2]
            clear e1 e2 hb1 hB1 HP HS HR
            have HR1 := Aside0.mk hr1
            clear hr1
            have hEq : ∀ w, (binOp .eql 23 (.agg (cs8 fun _ => 0).toArray) (.agg #[.int .u16 0, .int .u16 0, .int .u16 0, .int .u16 0, .int .u16 0, .int .u16 0, .int .u16 0, .int .u16 0])).run Tryd.prog w = .ok (.bool true) w := fun w => eql8 (fun _ => 0) w
            have n1 : decide ((7 : Int) < (L.length : Int)) = true := decide_eq_true (by omega)
            have n2 : decide (7 < L.length) = true := decide_eq_true h7
            clear h7
            go_wp2_with (first | (with_reducible refine wpList_load_g ?hw 23 _ rfl b1 0 rfl (cs8 fun _ => 0) _ HR1.out.range Tryd.underlying23 rfl (info8c _) ?_; (case hw => with_unfolding_all rfl)) | (go_at_call 7; with_reducible refine (works_any _ (HG.out.keep HB.out)).mono ?_; rintro e w5 ⟨rfl, hb5⟩; replace HB := Aside0.mk (below_step HB.out hb5); clear hb5))
            go_ret
            exact ⟨rfl, HB.out⟩
          · rw [if_neg h7] at hyes
            have HS := Aside0.mk hyes
            have HQ : Aside0 (∀ i, i < L.length → pad8 (gapL L g) (if g ≤ i then 8 - L.length + i else i) = L.getD i 0) := ⟨fun i hi => gapL_at L g i hgl (by omega) hi⟩
            clear hyes
            generalize gapL L g = R at HS HQ
            rw [HS.out] at HP
            replace HP : Aside0 (∀ W, Calls Tryd.prog 8 #[.string (mkB T)] W fun e w' => e = .returned (.tuple #[.agg (cs8 (pad8 R)).toArray, .int .i64 0]) ∧ Below W.heap.size W w') := ⟨fun W => (HP.out W).mono fun e w' h => ⟨h.2, h.1⟩⟩
            have HTB := hTB
            go_upto_region 16 with (first | (go_at_call 8; with_reducible refine (HP.out _).mono ?_; rintro e w1 ⟨rfl, hb1⟩) | (with_reducible refine wpList_store_mid rfl 23 _ _ rfl _ 0 (cs8 (pad8 R)).toArray rfl rfl (th_8 (R8.fresh _) _) (info8a _) (one8 _) ?_))
            obtain ⟨W1, b1, e1, e2, hr1, hB1, hlt1⟩ := fresh_stored w1 (pad8 R)
            replace HB := Aside0.mk (below_step (below_step HB.out hb1) hB1)
            rw [e1, e2]
            clear e1 e2 hb1 hB1 HP HS
            have HR1 := Aside0.mk hr1
            have HR2 := Aside0.mk (HR.out.keep HB.out)
            clear hr1 HR
            have n1 : decide ((7 : Int) < (L.length : Int)) = false := decide_eq_false (by omega)
            have n2 : decide (7 < L.length) = false := decide_eq_false h7
            have h7' : L.length ≤ 7 := by omega
            go_upto_block 2 with (fail)
            clear n1 n2
            go_wp2_with fail
            go_loopw [12] (fun v12 wx => ∃ (i q : Nat), v12 = .int .i64 (i : Int) ∧ i ≤ L.length ∧ wx = W1.drewN q) (fun v12 _ => L.length - (intOf v12).toNat)
            case atStart => exact ⟨0, 0, rfl, by omega, rfl⟩
            case round =>
              obtain ⟨i, q, rfl, hin, rfl⟩ := hrel
              by_cases hi : i < L.length
              · have hib : decide ((i : Int) < (L.length : Int)) = true := decide_eq_true (by omega)
                have hib2 : decide (i < L.length) = true := decide_eq_true hi
                obtain ⟨b, o, rfl, hbl, hcs⟩ := HR2.out (by omega)
                have hc := hcs i hi
                have hgd : L.getD i 0 = L[i] := by simp [List.getD, hi]
                have hx := HQ.out i hi
                by_cases hgi : g ≤ i
                · rw [if_pos hgi] at hx
                  have f1 : decide ((g : Int) ≤ (i : Int)) = true := decide_eq_true (by omega)
                  have f2 : decide (g ≤ i) = true := decide_eq_true hgi
                  have ha := HR1.out.at_ (8 - L.length + i) (by omega)
                  have hix : (8 - (L.length : Int) + (i : Int)).toNat = 8 - L.length + i := by omega
                  rw [Nat.zero_add, hx, hgd] at ha
                  clear hgi
                  clear hcs hgd hx
                  generalize L[i] = x at hc ha
                  have hne : ((x : Int) != (x : Int)) = false := bne_eq_false_iff_eq.2 rfl
                  go_wp2_with fail
                  go_quiet (fail)
                  go_wp2_with fail
                  exact ⟨⟨i + 1, _, by go_num, by omega, rfl⟩, by simp [intOf]; omega⟩
                · rw [if_neg hgi] at hx
                  have f1 : decide ((g : Int) ≤ (i : Int)) = false := decide_eq_false (by omega)
                  have f2 : decide (g ≤ i) = false := decide_eq_false hgi
                  have ha := HR1.out.at_ i (by omega)
                  rw [Nat.zero_add, hx, hgd] at ha
                  clear hgi
                  clear hcs hgd hx
                  generalize L[i] = x at hc ha
                  have hne : ((x : Int) != (x : Int)) = false := bne_eq_false_iff_eq.2 rfl
                  go_wp2_with fail
                  go_quiet (fail)
                  go_wp2_with fail
                  exact ⟨⟨i + 1, _, by go_num, by omega, rfl⟩, by simp [intOf]; omega⟩
              · obtain rfl : i = L.length := by omega
                have hib : decide ((L.length : Int) < (L.length : Int)) = false := decide_eq_false (by omega)
                have hib2 : decide (L.length < L.length) = false := decide_eq_false (by omega)
                have HBq := Aside0.mk (pw_below_drewN HB.out q)
                go_wp2_with (go_at_call 7; with_reducible refine (works_any _ (HG.out.keep HBq.out)).mono ?_; rintro e w5 ⟨rfl, hb5⟩; replace HBq := Aside0.mk (below_step HBq.out hb5); clear hb5)
                go_ret
                exact ⟨rfl, HBq.out⟩
        · rw [if_neg (fun e => hgn e.2)] at hF
          have g1 : ((g : Int) == (L.length : Int)) = false := beq_eq_false_iff_ne.2 (by omega)
          subst hF
          clear hgn hz2
          by_cases h7 : 7 < L.length
          · rw [if_pos h7] at hyes
            have HS := Aside0.mk hyes
            clear hyes
            rw [HS.out] at HP
            replace HP : Aside0 (∀ W, Calls Tryd.prog 8 #[.string (mkB T)] W fun e w' => e = .returned (.tuple #[.agg (cs8 fun _ => 0).toArray, .int .i64 8]) ∧ Below W.heap.size W w') := ⟨fun W => (HP.out W).mono fun e w' h => ⟨h.2, h.1⟩⟩
            skip
            go_upto_region 16 with (first | (go_at_call 8; with_reducible refine (HP.out _).mono ?_; rintro e w1 ⟨rfl, hb1⟩) | (with_reducible refine wpList_store_mid rfl 23 _ _ rfl _ 0 (cs8 fun _ => 0).toArray rfl rfl (th_8 (R8.fresh _) _) (info8a _) (one8 _) ?_))
            obtain ⟨W1, b1, e1, e2, hr1, hB1, hlt1⟩ := fresh_stored w1 (fun _ => 0)
            replace HB := Aside0.mk (below_step (below_step HB.out hb1) hB1)
            rw [e1, e2]
            clear e1 e2 hb1 hB1 HP HS HR
            have HR1 := Aside0.mk hr1
            clear hr1
            have hEq : ∀ w, (binOp .eql 23 (.agg (cs8 fun _ => 0).toArray) (.agg #[.int .u16 0, .int .u16 0, .int .u16 0, .int .u16 0, .int .u16 0, .int .u16 0, .int .u16 0, .int .u16 0])).run Tryd.prog w = .ok (.bool true) w := fun w => eql8 (fun _ => 0) w
            have n1 : decide ((7 : Int) < (L.length : Int)) = true := decide_eq_true (by omega)
            have n2 : decide (7 < L.length) = true := decide_eq_true h7
            clear h7
            go_wp2_with (first | (with_reducible refine wpList_load_g ?hw 23 _ rfl b1 0 rfl (cs8 fun _ => 0) _ HR1.out.range Tryd.underlying23 rfl (info8c _) ?_; (case hw => with_unfolding_all rfl)) | (go_at_call 7; with_reducible refine (works_any _ (HG.out.keep HB.out)).mono ?_; rintro e w5 ⟨rfl, hb5⟩; replace HB := Aside0.mk (below_step HB.out hb5); clear hb5))
            go_ret
            exact ⟨rfl, HB.out⟩
          · rw [if_neg h7] at hyes
            have HS := Aside0.mk hyes
            have HQ : Aside0 (∀ i, i < L.length → pad8 (gapL L g) (if g ≤ i then 8 - L.length + i else i) = L.getD i 0) := ⟨fun i hi => gapL_at L g i hgl (by omega) hi⟩
            clear hyes
            generalize gapL L g = R at HS HQ
            rw [HS.out] at HP
            replace HP : Aside0 (∀ W, Calls Tryd.prog 8 #[.string (mkB T)] W fun e w' => e = .returned (.tuple #[.agg (cs8 (pad8 R)).toArray, .int .i64 0]) ∧ Below W.heap.size W w') := ⟨fun W => (HP.out W).mono fun e w' h => ⟨h.2, h.1⟩⟩
            skip
            go_upto_region 16 with (first | (go_at_call 8; with_reducible refine (HP.out _).mono ?_; rintro e w1 ⟨rfl, hb1⟩) | (with_reducible refine wpList_store_mid rfl 23 _ _ rfl _ 0 (cs8 (pad8 R)).toArray rfl rfl (th_8 (R8.fresh _) _) (info8a _) (one8 _) ?_))
            obtain ⟨W1, b1, e1, e2, hr1, hB1, hlt1⟩ := fresh_stored w1 (pad8 R)
            replace HB := Aside0.mk (below_step (below_step HB.out hb1) hB1)
            rw [e1, e2]
            clear e1 e2 hb1 hB1 HP HS
            have HR1 := Aside0.mk hr1
            have HR2 := Aside0.mk (HR.out.keep HB.out)
            clear hr1 HR
            have n1 : decide ((7 : Int) < (L.length : Int)) = false := decide_eq_false (by omega)
            have n2 : decide (7 < L.length) = false := decide_eq_false h7
            have h7' : L.length ≤ 7 := by omega
            go_upto_block 2 with (fail)
            clear n1 n2
            go_wp2_with fail
            go_loopw [12] (fun v12 wx => ∃ (i q : Nat), v12 = .int .i64 (i : Int) ∧ i ≤ L.length ∧ wx = W1.drewN q) (fun v12 _ => L.length - (intOf v12).toNat)
            case atStart => exact ⟨0, 0, rfl, by omega, rfl⟩
            case round =>
              obtain ⟨i, q, rfl, hin, rfl⟩ := hrel
              by_cases hi : i < L.length
              · have hib : decide ((i : Int) < (L.length : Int)) = true := decide_eq_true (by omega)
                have hib2 : decide (i < L.length) = true := decide_eq_true hi
                obtain ⟨b, o, rfl, hbl, hcs⟩ := HR2.out (by omega)
                have hc := hcs i hi
                have hgd : L.getD i 0 = L[i] := by simp [List.getD, hi]
                have hx := HQ.out i hi
                by_cases hgi : g ≤ i
                · rw [if_pos hgi] at hx
                  have f1 : decide ((g : Int) ≤ (i : Int)) = true := decide_eq_true (by omega)
                  have f2 : decide (g ≤ i) = true := decide_eq_true hgi
                  have ha := HR1.out.at_ (8 - L.length + i) (by omega)
                  have hix : (8 - (L.length : Int) + (i : Int)).toNat = 8 - L.length + i := by omega
                  rw [Nat.zero_add, hx, hgd] at ha
                  clear hgi
                  clear hcs hgd hx
                  generalize L[i] = x at hc ha
                  have hne : ((x : Int) != (x : Int)) = false := bne_eq_false_iff_eq.2 rfl
                  go_wp2_with fail
                  go_quiet (fail)
                  go_wp2_with fail
                  exact ⟨⟨i + 1, _, by go_num, by omega, rfl⟩, by simp [intOf]; omega⟩
                · rw [if_neg hgi] at hx
                  have f1 : decide ((g : Int) ≤ (i : Int)) = false := decide_eq_false (by omega)
                  have f2 : decide (g ≤ i) = false := decide_eq_false hgi
                  have ha := HR1.out.at_ i (by omega)
                  rw [Nat.zero_add, hx, hgd] at ha
                  clear hgi
                  clear hcs hgd hx
                  generalize L[i] = x at hc ha
                  have hne : ((x : Int) != (x : Int)) = false := bne_eq_false_iff_eq.2 rfl
                  go_wp2_with fail
                  go_quiet (fail)
                  go_wp2_with fail
                  exact ⟨⟨i + 1, _, by go_num, by omega, rfl⟩, by simp [intOf]; omega⟩
              · obtain rfl : i = L.length := by omega
                have hib : decide ((L.length : Int) < (L.length : Int)) = false := decide_eq_false (by omega)
                have hib2 : decide (L.length < L.length) = false := decide_eq_false (by omega)
                have HBq := Aside0.mk (pw_below_drewN HB.out q)
                go_wp2_with (go_at_call 7; with_reducible refine (works_any _ (HG.out.keep HBq.out)).mono ?_; rintro e w5 ⟨rfl, hb5⟩; replace HBq := Aside0.mk (below_step HBq.out hb5); clear hb5)
                go_ret
                exact ⟨rfl, HBq.out⟩
theorem portcullislaw11_SixPieces.walk (_P : True) (a0 : Option Addr) (len0 cap0 : Nat) (z0 : List Int) (a1 : Int) (a2 : Bool) (w : World) (w0 : (a0 = none ∧ len0 = 0 ∧ cap0 = 0 ∧ z0 = []) ∨ ∃ x, a0 = some x ∧ len0 ≤ cap0 ∧ cap0 ≤ maxLen ∧ z0.length = cap0 ∧ (∀ i, i < z0.length → w.cell? (x.add i) = some (.int .u16 (z0.getD i 0))) ∧ ∀ n ∈ z0, (Lit.int .u16 n).wf = true) (y0 : len0 * 2 ≤ 140737488351232) (w1 : (Lit.int .u8 a1).wf = true) (hG : WG w) :
    Calls Tryd.prog 6 #[.slice a0 len0 cap0, .int .u8 a1, .bool a2] w fun e w' => e = .returned (.bool true) ∧ Below w.heap.size w w' := by
  obtain ⟨h2, h3⟩ : 0 ≤ a1 ∧ a1 < 256 := by
    simp [Lit.wf, IntKind.min, IntKind.max, IntKind.signed, IntKind.bits] at w1
    omega
  obtain ⟨L, rfl, h16, hR⟩ := rowP_of w0
  obtain ⟨p, rfl⟩ := Int.eq_ofNat_of_zero_le h2
  exact pieces_go a0 cap0 L p (by omega) a2 y0 h16 w hR hG
end Go.Proofs.YtbgmepfejbbpaaaDoor.Pr
