import Derived.Test.YtllcfifeaacmiaaDoorMkb
namespace Go.Proofs.YtllcfifeaacmiaaDoor.Pr
open Go.RowKit Go.Proofs.YtllcfifeaacmiaaDoorW.PrintWords Go.Proofs.YtllcfifeaacmiaaDoorW.PrintLast Go.Proofs.YtllcfifeaacmiaaDoorW.PrintMore
set_option linter.unusedVariables false
set_option linter.unusedSimpArgs false

/-! ### portcullisref19.Small -/
def low8 (c : UInt8) : UInt8 := if 65 ≤ c.toNat ∧ c.toNat ≤ 90 then c + 32 else c
structure Sm (w W : World) (t : List UInt8) : Prop where
  at_ : ∀ (i : Nat) (hi : i < t.length), W.cell? ⟨w.heap.size, i, none⟩ = some (.int .u8 (t[i].toNat : Int))
  fr : ∀ (i : Nat), i < t.length → W.frozen? ⟨w.heap.size, i, none⟩ = false
  bel : Below w.heap.size w W
theorem Sm.put {w W : World} {t : List UInt8} (h : Sm w W t) (k : Nat) (hk : k < t.length) (c : UInt8) : Sm w (W.setCell ⟨w.heap.size, k, none⟩ (.int .u8 (c.toNat : Int))) (t.set k c) := by
  refine ⟨fun i hi => ?_, fun i hi => ?_, h.bel.setCell (by simp) _⟩
  · rw [List.length_set] at hi
    by_cases hik : i = k
    · subst hik
      rw [World.cell?_setCell_same' _ _ _ (by rw [h.at_ i hk]; rfl)]
      simp
    · rw [World.cell?_setCell_other _ _ _ _ (by intro e; exact hik (by cases e; rfl)), h.at_ i hi]
      simp [List.getElem_set_ne (Ne.symm hik)]
  · rw [List.length_set] at hi
    rw [World.frozen?_setCell]; exact h.fr i hi
theorem Sm.conv {w W : World} {t : List UInt8} (h : Sm w W t) (n c : Nat) (hn : n = t.length) : (convert 45 9 (.slice (some ⟨w.heap.size, 0, none⟩) n c)).run Tryd.prog W = .ok (.string (mkB t)) W := by
  subst hn
  have := run_convert_bytes_arg (P := Tryd.prog) W 45 5 Tryd.underlying45 Tryd.underlying5 w.heap.size 0 t.length c (t.map fun c : UInt8 => (c.toNat : Int)) (by simp) (fun i hi => by
    have := h.at_ i hi
    rw [Nat.zero_add, this]
    simp [List.getD_eq_getElem?_getD, List.getElem?_eq_getElem hi]) 9 Tryd.underlying9
  refine this.trans ?_
  have e : strOfNums (t.map fun c : UInt8 => (c.toNat : Int)) = mkB t := by
    unfold strOfNums mkB
    rw [List.map_map]
    have e2 : t.map ((fun n : Int => UInt8.ofNat n.toNat) ∘ fun c : UInt8 => (c.toNat : Int)) = t := by
      conv => rhs; rw [← List.map_id t]
      exact List.map_congr_left fun c _ => by simp
    rw [e2]
  rw [e]
theorem Sm.start (w : World) (s : ByteArray) : Sm w (Lib.bytesWorld w 5 s) s.data.toList := by
  refine ⟨fun i hi => ?_, fun i hi => ?_, ⟨rfl, rfl, rfl, by have := Lib.bytesWorld_size w 5 s; omega, fun i hi => Lib.bytesWorld_at_old w 5 s i hi⟩⟩
  · rw [Lib.bytesWorld_cell w 5 s i (by rw [← data_length]; exact hi)]
    simp [List.getD_eq_getElem?_getD, List.getElem?_eq_getElem hi]
  · have hs : i < (Lib.bytesCells w 5 s).size := by
      have : s.data.size = s.data.toList.length := by simp
      unfold Lib.bytesCells
      simp
      simp at hi
      omega
    unfold World.frozen?
    rw [Lib.bytesWorld_at_new]
    simp
    omega
def smL (t : List UInt8) (i : Nat) : List UInt8 := (t.take i).map low8 ++ t.drop i
theorem smL_length (t : List UInt8) (i : Nat) : (smL t i).length = t.length := by unfold smL; simp; omega
theorem smL_at (t : List UInt8) (i : Nat) (hi : i < t.length) (h' : i < (smL t i).length) : (smL t i)[i] = t[i] := by
  have h : (smL t i)[i]? = t[i]? := by
    unfold smL
    rw [List.getElem?_append_right (by simp; omega)]
    have : i - ((t.take i).map low8).length = 0 := by simp; omega
    rw [this, List.getElem?_drop]
    rfl
  rw [List.getElem?_eq_getElem hi, List.getElem?_eq_getElem h'] at h
  exact Option.some.inj h
theorem smL_set (t : List UInt8) (i : Nat) (hi : i < t.length) : (smL t i).set i (low8 t[i]) = smL t (i + 1) := by
  unfold smL
  rw [List.set_append_right _ _ (by simp; omega)]
  have hl : ((t.take i).map low8).length = i := by simp; omega
  rw [hl, Nat.sub_self, List.drop_eq_getElem_cons hi, List.set_cons_zero, List.take_add_one, List.getElem?_eq_getElem hi, List.map_append, List.append_assoc]
  rfl
theorem smL_keep (t : List UInt8) (i : Nat) (hi : i < t.length) (h : low8 t[i] = t[i]) : smL t i = smL t (i + 1) := by
  have := smL_at t i hi (by rw [smL_length]; exact hi)
  rw [← smL_set t i hi, h, ← this]
  exact (List.set_getElem_self _).symm
set_option maxHeartbeats 1000000 in
theorem small_any (s : ByteArray) (hs : s.size ≤ 1000000000) (w : World) : Calls Tryd.prog 40 #[.string s] w fun e w' => e = .returned (.string (mkB (s.data.toList.map low8))) ∧ Below w.heap.size w w' := by
  have kb := Lib.run_convert_string_bytes (P := Tryd.prog) w 9 45 5 s Tryd.underlying9 Tryd.underlying45 Tryd.underlying5
  have HS : Aside0 (Sm w (Lib.bytesWorld w 5 s) (smL s.data.toList 0)) := ⟨Sm.start w s⟩
  have hsz : s.size = s.data.toList.length := (data_length s).symm
  obtain ⟨t, ht⟩ : ∃ t, s.data.toList = t := ⟨_, rfl⟩
  rw [ht] at HS hsz ⊢
  clear ht
  obtain ⟨n, hn⟩ : ∃ n, s.size = n := ⟨_, rfl⟩
  rw [hn] at kb hsz hs
  generalize grownCap w n 0 5 = cap at kb
  clear hn
  replace hsz := Aside0.mk hsz
  go_enter Tryd.func40, Tryd.ntmps40
  go_wp2_with (simp only [kb])
  generalize Lib.bytesWorld w 5 s = W1 at HS ⊢
  clear kb
  go_loopw [4] (fun v4 wi => ∃ i : Nat, v4 = .int .i64 (i : Int) ∧ i ≤ n ∧ Aside0 (Sm w wi (smL t i))) (fun v4 _ => n - (intOf v4).toNat)
  case atStart => exact ⟨0, rfl, Nat.zero_le _, HS⟩
  case round =>
    clear HS
    obtain ⟨i, rfl, hi, H⟩ := hrel
    by_cases hlt : i < n
    · have hlt' : i < t.length := by rw [← hsz.out]; exact hlt
      obtain ⟨x, hx⟩ : ∃ x : UInt8, t[i] = x := ⟨_, rfl⟩
      have hc : wr.cell? ⟨w.heap.size, i, none⟩ = some (.int .u8 (x.toNat : Int)) := by
        rw [H.out.at_ i (by rw [smL_length]; exact hlt'), smL_at t i hlt', hx]
      have hf := H.out.fr i (by rw [smL_length]; exact hlt')
      have hwr : IntKind.i64.wrap ((i : Int) + 1) = (i : Int) + 1 := by rw [i64_w, IntWalk.wrap64_in _ (by omega)]
      by_cases hb : 65 ≤ x.toNat ∧ x.toNat ≤ 90
      · have HN : Aside0 (Sm w (wr.setCell ⟨w.heap.size, i, none⟩ (.int .u8 ((x.toNat : Int) + 32))) (smL t (i + 1))) := ⟨by
          have := H.out.put i (by rw [smL_length]; exact hlt') (low8 t[i])
          rw [smL_set t i hlt', hx] at this
          have e : (low8 x).toNat = x.toNat + 32 := by
            unfold low8
            rw [if_pos hb, UInt8.toNat_add]
            have : (32 : UInt8).toNat = 32 := rfl
            omega
          rw [e] at this
          exact this⟩
        have e1 : decide ((65 : Int) ≤ (x.toNat : Int)) = true := decide_eq_true (by omega)
        have e2 : decide ((x.toNat : Int) ≤ 90) = true := decide_eq_true (by omega)
        have hw8 : IntKind.u8.wrap ((x.toNat : Int) + 32) = (x.toNat : Int) + 32 := by
          show ((x.toNat : Int) + 32) % 256 = _
          omega
        clear hb hx hlt'
        go_wp2_with fail
        exact ⟨⟨i + 1, by go_num, by omega, HN⟩, by simp [intOf]; omega⟩
      · have HN : Aside0 (Sm w wr (smL t (i + 1))) := ⟨by
          rw [← smL_keep t i hlt' (by rw [hx]; unfold low8; rw [if_neg hb])]
          exact H.out⟩
        by_cases h1 : 65 ≤ x.toNat
        · have e1 : decide ((65 : Int) ≤ (x.toNat : Int)) = true := decide_eq_true (by omega)
          have e2 : decide ((x.toNat : Int) ≤ 90) = false := decide_eq_false (by omega)
          clear hb hx hlt' h1
          go_wp2_with fail
          exact ⟨⟨i + 1, by go_num, by omega, HN⟩, by simp [intOf]; omega⟩
        · have e1 : decide ((65 : Int) ≤ (x.toNat : Int)) = false := decide_eq_false (by omega)
          clear hb hx hlt' h1
          go_wp2_with fail
          exact ⟨⟨i + 1, by go_num, by omega, HN⟩, by simp [intOf]; omega⟩
    · have hcv := H.out.conv n cap (by rw [smL_length]; exact hsz.out)
      have HE : Aside0 (smL t i = t.map low8) := ⟨by
        unfold smL
        have : t.length ≤ i := by rw [← hsz.out]; omega
        rw [List.take_of_length_le this, List.drop_eq_nil_of_le this, List.append_nil]⟩
      rw [HE.out] at hcv
      have HB := Aside0.mk H.out.bel
      clear H HE
      go_wp2_with fail
      go_ret
      exact ⟨rfl, HB.out⟩
def portcullisref19_Small.f (a0 : ByteArray) : Option ByteArray := if a0.size ≤ 1000000000 then some (mkB (a0.data.toList.map low8)) else none
theorem portcullisref19_Small.calls (a0 : ByteArray) (r : ByteArray) (w : World) (h : portcullisref19_Small.f a0 = some r) :
    Calls Tryd.prog 40 #[.string a0] w fun e w' => e = .returned (.string r) ∧ Below w.heap.size w w' := by
  unfold portcullisref19_Small.f at h
  split at h
  · next hc =>
    obtain rfl := Option.some.inj h
    exact small_any a0 hc w
  · cases h
end Go.Proofs.YtllcfifeaacmiaaDoor.Pr
