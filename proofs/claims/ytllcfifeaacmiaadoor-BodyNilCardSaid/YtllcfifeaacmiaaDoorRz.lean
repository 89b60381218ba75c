import Derived.Test.YtllcfifeaacmiaaDoorRy
namespace Go.Proofs.YtllcfifeaacmiaaDoor.Pr
open Go.RowKit Go.Proofs.YtllcfifeaacmiaaDoorW.PrintWords Go.Proofs.YtllcfifeaacmiaaDoorW.PrintLast Go.Proofs.YtllcfifeaacmiaaDoorW.PrintMore
set_option linter.unusedVariables false
set_option linter.unusedSimpArgs false

/-! ### head.Field -/
def badB (b : UInt8) : Bool := decide ((((b.toNat : Int) < 32) ∧ (b.toNat : Int) ≠ 9) ∨ (b.toNat : Int) = 127)
def fieldOk (t : List UInt8) : Bool := (Lib.cut t [58]).2.2 && tokL (Lib.cut t [58]).1 && (Lib.cut t [58]).2.1.all (fun b => !badB b)
def FieldP (w : World) (ok : Bool) (e : Ending) (w' : World) : Prop := (∃ a b : ByteArray, e = .returned (.tuple #[.agg #[.string a, .string b], .bool ok])) ∧ Below w.heap.size w w'
theorem cut_le (s : ByteArray) : (⟨(Lib.cut s.data.toList [58]).1.toArray⟩ : ByteArray).size ≤ s.size ∧ (⟨(Lib.cut s.data.toList [58]).2.1.toArray⟩ : ByteArray).size ≤ s.size := by
  unfold Lib.cut
  split
  · exact ⟨by show (List.take _ _).length ≤ s.data.size; rw [List.length_take]; simp; omega, by show (List.drop _ _).length ≤ s.data.size; rw [List.length_drop]; simp⟩
  · exact ⟨by show s.data.toList.length ≤ s.data.size; simp, Nat.zero_le _⟩
theorem field_end (tmps : Array Value) (W : World) (g : Nat) (a b : ByteArray) (ok : Bool) (hg : W.heap[g]? = some (.cells #[.string a, .string b] 59 (0, 0))) (h2 : tmps.getD 2 undef = .pointer (some ⟨g, 0, none⟩)) (h3 : tmps.getD 3 undef = .bool ok) :
    (results Tryd.f48 tmps).run Tryd.prog W = .ok (.tuple #[.agg #[.string a, .string b], .bool ok]) W := by
  have hu : Tryd.prog.underlying 59 = some (.struct (match Tryd.prog.underlying 59 with | some (.struct x) => x | _ => default)) := by kernel_rfl
  have hi : (Tryd.prog.info? 59).map (·.size) = some 2 := by kernel_rfl
  have hr : Tryd.f48.results = #[.cell 2 59, .tmp 3] := rfl
  have h2' : tmps[2]?.getD undef = .pointer (some ⟨g, 0, none⟩) := by simpa using h2
  have h3' : tmps[3]?.getD undef = .bool ok := by simpa using h3
  simp [results, hr, h2', h3', asAddr, run_loadVar_row W g _ 59 _ (0, 0) _ hg hu rfl hi]
set_option maxHeartbeats 2000000 in
theorem field_any (s : ByteArray) (hs : s.size ≤ 1000000000) (w : World) : Calls Tryd.prog 48 #[.string s] w (FieldP w (fieldOk s.data.toList)) := by
  have HC := Aside0.mk (fun W => cut_any s hs W)
  have hle := cut_le s
  unfold cutV at HC
  unfold fieldOk FieldP
  obtain ⟨a, ha⟩ : ∃ a, (⟨(Lib.cut s.data.toList [58]).1.toArray⟩ : ByteArray) = a := ⟨_, rfl⟩
  obtain ⟨b, hb⟩ : ∃ b, (⟨(Lib.cut s.data.toList [58]).2.1.toArray⟩ : ByteArray) = b := ⟨_, rfl⟩
  have ha' : (Lib.cut s.data.toList [58]).1 = a.data.toList := by rw [← ha]
  have hb' : (Lib.cut s.data.toList [58]).2.1 = b.data.toList := by rw [← hb]
  rw [ha, hb] at HC hle
  rw [ha', hb']
  generalize (Lib.cut s.data.toList [58]).2.2 = o at HC ⊢
  clear ha hb ha' hb'
  have hla : a.size ≤ 1000000000 := by omega
  have hlb : b.size ≤ 1000000000 := by omega
  have HT := Aside0.mk (fun W => token_any a hla W)
  have HX : Aside0 (tokL a.data.toList = tokL a.data.toList) := ⟨rfl⟩
  cases o with
  | false =>
    go_enter Tryd.func48, Tryd.ntmps48
    go_wp2_with (go_at_call 52; (with_reducible refine (HC.out _).mono ?_); rintro e w1 ⟨rfl, hb⟩; have hk1 := blk_below (Go.Deep.blk_alloc_new w _) hb; have hb1 : Below w.heap.size w w1 := below_then (below_alloc (Below.refl _ _) _) (by simp) hb; have hc0 := blk_cell hk1 0; have hc1 := blk_cell hk1 1; have hf0 := blk_frozen hk1 0; have hf1 := blk_frozen hk1 1)
    refine bodyPost_ret (v := .tuple #[.agg #[.string ⟨#[]⟩, .string ⟨#[]⟩], .bool false]) (field_end _ _ w.heap.size _ _ _ (blk_put (blk_put hk1 0 _ rfl) 1 _ rfl) rfl rfl) rfl ⟨⟨_, _, rfl⟩, (hb1.setCell (Nat.le_refl _) _).setCell (Nat.le_refl _) _⟩
  | true =>
    obtain ⟨tk, htk⟩ : ∃ tk, tokL a.data.toList = tk := ⟨_, rfl⟩
    rw [htk] at HT ⊢
    cases tk with
    | false =>
      clear htk
      go_enter Tryd.func48, Tryd.ntmps48
      go_wp2_with (first | (go_at_call 52; (with_reducible refine (HC.out _).mono ?_); rintro e w1 ⟨rfl, hb⟩; have hk1 := blk_below (Go.Deep.blk_alloc_new w _) hb; have hb1 : Below w.heap.size w w1 := below_then (below_alloc (Below.refl _ _) _) (by simp) hb; have hc0 := blk_cell hk1 0; have hc1 := blk_cell hk1 1; have hf0 := blk_frozen hk1 0; have hf1 := blk_frozen hk1 1) | (go_at_call 53; (with_reducible refine (HT.out _).mono ?_); rintro e w2 ⟨rfl, hbb⟩; have hk2 := blk_below hk1 hbb; have hb2 := below_step hb1 hbb; clear hc0 hc1 hf0 hf1; have hc0 := blk_cell hk2 0; have hc1 := blk_cell hk2 1; have hf0 := blk_frozen hk2 0; have hf1 := blk_frozen hk2 1))
      refine bodyPost_ret (v := .tuple #[.agg #[.string ⟨#[]⟩, .string ⟨#[]⟩], .bool false]) (field_end _ _ w.heap.size _ _ _ (blk_put (blk_put hk2 0 _ rfl) 1 _ rfl) rfl rfl) rfl ⟨⟨_, _, rfl⟩, (hb2.setCell (Nat.le_refl _) _).setCell (Nat.le_refl _) _⟩
    | true =>
      have HL := Aside0.mk (fun W => lower_any a hla htk W)
      clear htk
      rw [Bool.true_and, Bool.true_and]
      go_enter Tryd.func48, Tryd.ntmps48
      go_wp2_with (first | (go_at_call 52; (with_reducible refine (HC.out _).mono ?_); rintro e w1 ⟨rfl, hb⟩; have hk1 := blk_below (Go.Deep.blk_alloc_new w _) hb; have hb1 : Below w.heap.size w w1 := below_then (below_alloc (Below.refl _ _) _) (by simp) hb; have hc0 := blk_cell hk1 0; have hc1 := blk_cell hk1 1; have hf0 := blk_frozen hk1 0; have hf1 := blk_frozen hk1 1) | (go_at_call 53; (with_reducible refine (HT.out _).mono ?_); rintro e w2 ⟨rfl, hbb⟩; have hk2 := blk_below hk1 hbb; have hb2 := below_step hb1 hbb; clear hc0 hc1 hf0 hf1; have hc0 := blk_cell hk2 0; have hc1 := blk_cell hk2 1; have hf0 := blk_frozen hk2 0; have hf1 := blk_frozen hk2 1))
      clear HT HC HX hc0 hc1 hf0 hf1 hk1 hb1 hb hbb
      have HK := Aside0.mk hk2
      have HB := Aside0.mk hb2
      clear hk2 hb2
      go_loopw [25] (fun v25 wi => wi = w2 ∧ ∃ i : Nat, v25 = .int .i64 (i : Int) ∧ i ≤ b.size ∧ Aside0 ((b.data.toList.take i).all (fun b => !badB b) = true)) (fun v25 _ => b.size - (intOf v25).toNat)
      case atStart => exact ⟨rfl, 0, rfl, Nat.zero_le _, ⟨rfl⟩⟩
      case round =>
        obtain ⟨rfl, i, rfl, hi, HI⟩ := hrel
        by_cases hlt : i < b.size
        · obtain ⟨x, hx⟩ : ∃ x : UInt8, b[i]'hlt = x := ⟨_, rfl⟩
          have hxl : b.data.toList[i]? = some x := by rw [← hx]; exact Lib.data_getElem? b i hlt
          have hwr : IntKind.i64.wrap ((i : Int) + 1) = (i : Int) + 1 := by rw [i64_w, IntWalk.wrap64_in _ (by omega)]
          cases hk : badB x with
          | true =>
            have HE : Aside0 (b.data.toList.all (fun b => !badB b) = false) := ⟨by
              rw [List.all_eq_false]
              exact ⟨x, List.mem_of_getElem? hxl, by rw [hk]; decide⟩⟩
            have hc0 := blk_cell HK.out 0
            have hc1 := blk_cell HK.out 1
            have hf0 := blk_frozen HK.out 0
            have hf1 := blk_frozen HK.out 1
            have hq := of_decide_eq_true hk
            clear HI hxl hk
            by_cases h127 : (x.toNat : Int) = 127
            · have e1 : ((x.toNat : Int) == 127) = true := beq_iff_eq.2 h127
              have e2 : decide ((x.toNat : Int) < 32) = false := decide_eq_false (by omega)
              clear hq h127
              go_wp2_with fail
              refine bodyPost_ret (v := .tuple #[.agg #[.string ⟨#[]⟩, .string ⟨#[]⟩], .bool false]) (field_end _ _ w.heap.size _ _ _ (blk_put (blk_put HK.out 0 _ rfl) 1 _ rfl) rfl rfl) rfl ⟨⟨_, _, by rw [HE.out]⟩, (HB.out.setCell (Nat.le_refl _) _).setCell (Nat.le_refl _) _⟩
            · have h32 : (x.toNat : Int) < 32 ∧ (x.toNat : Int) ≠ 9 := hq.resolve_right h127
              have e2 : decide ((x.toNat : Int) < 32) = true := decide_eq_true h32.1
              have e3 : ((x.toNat : Int) == 9) = false := beq_eq_false_iff_ne.2 h32.2
              have e4 : ((x.toNat : Int) != 9) = true := bne_iff_ne.2 h32.2
              clear hq h127 h32
              go_wp2_with fail
              refine bodyPost_ret (v := .tuple #[.agg #[.string ⟨#[]⟩, .string ⟨#[]⟩], .bool false]) (field_end _ _ w.heap.size _ _ _ (blk_put (blk_put HK.out 0 _ rfl) 1 _ rfl) rfl rfl) rfl ⟨⟨_, _, by rw [HE.out]⟩, (HB.out.setCell (Nat.le_refl _) _).setCell (Nat.le_refl _) _⟩
          | false =>
            have HE : Aside0 ((b.data.toList.take (i + 1)).all (fun b => !badB b) = true) := ⟨by
              rw [List.take_add_one, hxl, List.all_append, HI.out]
              simp only [Option.toList, List.all_cons, List.all_nil, hk]
              rfl⟩
            have hq := of_decide_eq_false hk
            have e1 : ((x.toNat : Int) == 127) = false := beq_eq_false_iff_ne.2 (fun e => hq (.inr e))
            clear HI hxl hk
            by_cases h32 : (x.toNat : Int) < 32
            · have e2 : decide ((x.toNat : Int) < 32) = true := decide_eq_true h32
              have e3 : ((x.toNat : Int) == 9) = true := beq_iff_eq.2 (by omega)
              have e4 : ((x.toNat : Int) != 9) = false := by rw [bne, e3]; rfl
              clear hq h32
              go_wp2_with fail
              exact ⟨⟨by trivial, i + 1, by go_num, by omega, HE⟩, by simp [intOf]; omega⟩
            · have e2 : decide ((x.toNat : Int) < 32) = false := decide_eq_false h32
              clear hq h32
              go_wp2_with fail
              exact ⟨⟨by trivial, i + 1, by go_num, by omega, HE⟩, by simp [intOf]; omega⟩
        · have HE : Aside0 (b.data.toList.all (fun b => !badB b) = true) := ⟨by
            have h := HI.out
            rwa [List.take_of_length_le (by rw [← Lib.size_eq]; omega)] at h⟩
          clear HI
          have HTr := Aside0.mk (fun W => trim_any b hlb W)
          go_wp2_with (first | (go_at_call 54; (with_reducible refine (HL.out _).mono ?_); rintro e w3 ⟨⟨r3, rfl⟩, hb3⟩; have hk3 := Aside0.mk (blk_below HK.out hb3); have hb3' := Aside0.mk (below_step HB.out hb3)) | (go_at_call 55; (with_reducible refine (HTr.out _).mono ?_); rintro e w4 ⟨⟨r4, rfl⟩, hb4⟩; have hk4 := blk_below hk3.out hb4; have hb4' := below_step hb3'.out hb4; have hc0 := blk_cell hk4 0; have hc1 := blk_cell hk4 1; have hf0 := blk_frozen hk4 0; have hf1 := blk_frozen hk4 1))
          refine bodyPost_ret (v := .tuple #[.agg #[.string r3, .string r4], .bool true]) (field_end _ _ w.heap.size _ _ _ (blk_put (blk_put hk4 0 _ rfl) 1 _ rfl) rfl rfl) rfl ⟨⟨_, _, by rw [HE.out]⟩, (hb4'.setCell (Nat.le_refl _) _).setCell (Nat.le_refl _) _⟩
end Go.Proofs.YtllcfifeaacmiaaDoor.Pr
