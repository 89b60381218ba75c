import Derived.Test.YtllcfifeaacmiaaDoorKru
import Derived.Test.YtllcfifeaacmiaaDoorKal
import Derived.Deep.DeepCutAuto
namespace Go.Proofs.YtllcfifeaacmiaaDoor.Pr
open Go.RowKit Go.Proofs.YtllcfifeaacmiaaDoorW.PrintWords Go.Proofs.YtllcfifeaacmiaaDoorW.PrintLast Go.Proofs.YtllcfifeaacmiaaDoorW.PrintMore
set_option linter.unusedVariables false
set_option linter.unusedSimpArgs false

/-! ### A piece more -/
def datR (R : Rm) (D : List UInt8) : Rm := { R with data := D }
theorem stepR_dat (R : Rm) (D : List UInt8) (c : UInt8) : ∃ y, (stepR R c).2.2.data = R.data ++ y ∧ stepR (datR R D) c = ((stepR R c).1, (stepR R c).2.1, datR (stepR R c).2.2 (D ++ y)) := by
  unfold stepR
  have hst : (datR R D).st = R.st := rfl
  rw [hst]
  cases R.st with
  | none => exact ⟨[], by simp, by simp [datR]⟩
  | plain => exact ⟨[c], rfl, rfl⟩
  | chunk => exact ⟨[c], rfl, rfl⟩
  | extra => exact ⟨[], by simp [cntR], by rw [List.append_nil]; rfl⟩
  | m13 => exact ⟨[], by simp, by simp [datR]⟩
  | m10 => exact ⟨[], by simp, by simp [datR]⟩
  | digit =>
    refine ⟨[], ?_, ?_⟩
    · simp only [List.append_nil]; unfold stepD digR cntR; repeat' split
      all_goals rfl
    · simp only [List.append_nil]; unfold stepD digR cntR datR cntOk; simp only; repeat' split
      all_goals rfl
  | sized =>
    refine ⟨[], ?_, ?_⟩
    · simp only [List.append_nil]; unfold stepZ sizR cntR; repeat' split
      all_goals rfl
    · simp only [List.append_nil]; unfold stepZ sizR cntR datR cntOk; simp only; repeat' split
      all_goals rfl
  | trailer =>
    refine ⟨[], ?_, ?_⟩
    · simp only [List.append_nil]; unfold stepT txtR endR; repeat' split
      all_goals rfl
    · simp only [List.append_nil]; unfold stepT txtR endR datR; simp only; repeat' split
      all_goals rfl
theorem feed_dat : ∀ (s : List UInt8) (R : Rm) (D : List UInt8), ∃ y, (feedL R s).1.data = R.data ++ y ∧ feedL (datR R D) s = (datR (feedL R s).1 (D ++ y), (feedL R s).2)
  | [], R, D => ⟨[], by simp [feedL], by simp [feedL]⟩
  | c :: s, R, D => by
    unfold feedL
    have hst : (datR R D).st = R.st := rfl
    have hf : (datR R D).fault = R.fault := rfl
    rw [hst, hf]
    by_cases h : isNone R.st = false ∧ R.fault = 0
    · rw [if_pos h, if_pos h]
      obtain ⟨y1, h1, h2⟩ := stepR_dat R D c
      have hn : nextR (datR R D) c = datR (nextR R c) (D ++ y1) := by unfold nextR; rw [h2]; rfl
      have hnd : (nextR R c).data = R.data ++ y1 := h1
      obtain ⟨y2, h3, h4⟩ := feed_dat s (nextR R c) (D ++ y1)
      refine ⟨y1 ++ y2, ?_, ?_⟩
      · simp only; rw [h3, hnd, List.append_assoc]
      · rw [hn, h4, List.append_assoc]
    · rw [if_neg h, if_neg h]
      exact ⟨[], by simp, by simp⟩
theorem feed_app : ∀ (a b : List UInt8) (R R1 : Rm), feedL R a = (R1, a.length) → feedL R (a ++ b) = ((feedL R1 b).1, (feedL R1 b).2 + a.length)
  | [], b, R, R1, h => by
    have : R1 = R := by unfold feedL at h; exact (Prod.mk.inj h).1.symm
    rw [this]
    simp
  | c :: a, b, R, R1, h => by
    by_cases hg : isNone R.st = false ∧ R.fault = 0
    · rw [feedL_step hg.1 hg.2] at h
      rw [List.cons_append, feedL_step hg.1 hg.2]
      have h1 := (Prod.mk.inj h).1
      have h2 := (Prod.mk.inj h).2
      simp only [List.length_cons, Nat.add_right_cancel_iff] at h2
      have ih := feed_app a b (nextR R c) R1 (by rw [← h1, ← h2])
      rw [ih]
      simp only [List.length_cons, Prod.mk.injEq, true_and]
      omega
    · unfold feedL at h
      rw [if_neg hg] at h
      have := (Prod.mk.inj h).2
      simp at this
theorem feed_text : ∀ (s : List UInt8) (R : Rm), (feedL R s).1.text.length ≤ R.text.length + s.length
  | [], R => Nat.le_refl _
  | c :: s, R => by
    unfold feedL
    split
    · have h1 := feed_text s (nextR R c)
      have h2 : (nextR R c).text.length ≤ R.text.length + 1 := (stepR_sizes R c).2.1
      simp only [List.length_cons]
      omega
    · simp
theorem stepR_over (R : Rm) (c : UInt8) : (stepR R c).2.2.over = R.over := by
  unfold stepR
  cases R.st with
  | none => rfl
  | plain => rfl
  | chunk => rfl
  | extra => rfl
  | m13 => rfl
  | m10 => rfl
  | digit => simp only; unfold stepD digR cntR; repeat' split
             all_goals rfl
  | sized => simp only; unfold stepZ sizR cntR; repeat' split
             all_goals rfl
  | trailer => simp only; unfold stepT txtR endR; repeat' split
               all_goals rfl
theorem feed_over' : ∀ (s : List UInt8) (R : Rm), (feedL R s).1.over = R.over
  | [], R => rfl
  | c :: s, R => by
    unfold feedL
    split
    · rw [feed_over' s]
      exact stepR_over R c
    · rfl
/-- Where a law's loop stands: all bytes up to p are fed, none is refused. -/
structure At (R0 : Rm) (q : List UInt8) (p : Nat) (R : Rm) : Prop where
  feed : feedL R0 (q.take p) = (R, p)
  le : p ≤ q.length
  fault : R.fault = 0
  made : R.made = true
  over : R.over = false
  text : R.text.length ≤ p
  len : R.data.length ≤ p
/-- What a piece does. -/
structure Piece (R0 : Rm) (q : List UInt8) (p m : Nat) (R : Rm) (r : Nat × List UInt8 × Bool × Int) (R2 : Rm) (u : Nat) : Prop where
  feed : feedL { datR R [] with data := [] } ((q.drop p).take m) = (R2, u)
  used : r.1 = p + u
  le : r.1 ≤ p + m
  cat : R.data ++ R2.data = r.2.1
  done : (overR R2).over = r.2.2.1
  fault : R2.fault = r.2.2.2
  total : R2.total = (r.2.1.length : Int)
  len : r.2.1.length ≤ r.1
  made : R2.made = true
  next : r.2.2.1 = false → r.2.2.2 = 0 → r.1 = p + m ∧ At R0 q (p + m) (datR R2 r.2.1)
theorem piece_is (kind size : Int) (he : newE kind size = 0) (hk : 0 ≤ kind) (q : List UInt8) (hq : q.length ≤ 40000) (p m : Nat) (R : Rm) (hA : At (newR kind size) q p R) (hm : p + m ≤ q.length) :
    ∃ r R2 u, Piece (newR kind size) q p m R r R2 u ∧ ∀ w : World, Calls Tryd.prog 15 #[.int .u8 kind, .int .i64 size, .string (mkB (q.take (p + m)))] w fun e W' => e = .returned (.agg (TkV r.1 (mkB r.2.1) r.2.2.1 r.2.2.2)) ∧ Below w.heap.size w W' := by
  have hlt : (q.take (p + m)).length = p + m := by rw [List.length_take]; omega
  obtain ⟨r, R', hT, hC⟩ := twin kind size he hk (q.take (p + m)) (by omega)
  have hsp : q.take (p + m) = q.take p ++ (q.drop p).take m := List.take_add
  have hlp : (q.take p).length = p := by rw [List.length_take]; omega
  have hap := feed_app (q.take p) ((q.drop p).take m) (newR kind size) R (by rw [hlp]; exact hA.feed)
  rw [← hsp, hT.feed, hlp] at hap
  have hap1 := (Prod.mk.inj hap).1
  have hap2 := (Prod.mk.inj hap).2
  obtain ⟨y, h1, h2⟩ := feed_dat ((q.drop p).take m) R []
  rw [← hap1] at h1 h2
  rw [List.nil_append] at h2
  have hle := hT.le
  rw [hlt] at hle
  have hover : R'.over = false := by
    rw [hap1, feed_over']
    exact hA.over
  refine ⟨r, datR R' y, (feedL R ((q.drop p).take m)).2, ⟨h2, by omega, hle, ?_, hT.done, hT.fault, hT.total, hT.len, hT.made, fun a b => ?_⟩, hC⟩
  · show R.data ++ y = _
    rw [← h1]; exact hT.data
  · have hmo := hT.more a b
    rw [hlt] at hmo
    have hR' : datR (datR R' y) r.2.1 = R' := by
      rw [← hT.data]
      rfl
    rw [hR']
    have htx := feed_text (q.take (p + m)) (newR kind size)
    rw [hT.feed, hlt] at htx
    refine ⟨hmo.2, ⟨by rw [hT.feed, hmo.2], hm, hT.fault.trans b, hT.made, hover, ?_, ?_⟩⟩
    · have : (newR kind size).text.length = 0 := rfl
      simp only at htx
      omega
    · rw [hT.data]
      have := hT.len
      omega
theorem At.start (kind size : Int) (q : List UInt8) : At (newR kind size) q 0 (newR kind size) := ⟨rfl, Nat.zero_le _, rfl, rfl, rfl, Nat.le_refl _, Nat.le_refl _⟩
end Go.Proofs.YtllcfifeaacmiaaDoor.Pr
namespace Go.Proofs.YtllcfifeaacmiaaDoor.Pr
open Go.RowKit Go.Proofs.YtllcfifeaacmiaaDoorW.PrintWords Go.Proofs.YtllcfifeaacmiaaDoorW.PrintLast Go.Proofs.YtllcfifeaacmiaaDoorW.PrintMore
attribute [local go_sem] max2_int min2_int max_two min_two
set_option linter.unusedVariables false
set_option linter.unusedSimpArgs false

/-! ### BodyReads -/
theorem rnew_is (a0 a1 : Int) : portcullisref20_New.f 3 a0 a1 = some (newE a0 a1) := by
  unfold portcullisref20_New.f newE
  by_cases h1 : 2 < a0
  · rw [if_pos h1, if_pos (.inl h1)]; rfl
  · rw [if_neg h1]
    by_cases h2 : a1 < 0
    · rw [if_pos h2, if_pos (.inr (.inl h2))]; rfl
    · rw [if_neg h2]
      by_cases h3 : a0 = 1
      · rw [if_pos h3, if_neg (by omega)]
        show (if false = true then some 2 else if a1 > 16777216 then some 4 else some 0) = some (if 16777216 < a1 then 4 else 0)
        rw [if_neg (by decide)]
        split <;> rfl
      · rw [if_neg h3]
        by_cases h4 : a1 = 0
        · subst h4
          rw [if_neg (by omega)]
          rfl
        · rw [if_pos (.inr (.inr ⟨h3, h4⟩))]
          have : (a1 != 0) = true := bne_iff_ne.2 h4
          rw [this]
          rfl
def RowU (k : IntKind) (w : World) (a : Option Addr) (len cap : Nat) (zs : List Int) : Prop :=
  (a = none ∧ len = 0 ∧ cap = 0 ∧ zs = []) ∨
  ∃ x, a = some x ∧ len ≤ cap ∧ cap ≤ maxLen ∧ zs.length = cap ∧ (∀ i, i < zs.length → w.cell? (x.add i) = some (.int k (zs.getD i 0))) ∧ ∀ n ∈ zs, (Lit.int k n).wf = true
theorem RowU.at_ {w : World} {a : Option Addr} {len cap : Nat} {zs : List Int} (h : RowU .u16 w a len cap zs) (j : Nat) (hj : j < len) : ∃ v : Nat, ∃ ad : Addr, a = some ad ∧ v < 65536 ∧ w.cell? (ad.add j) = some (.int .u16 (v : Int)) ∧ (ad.add j).block < w.heap.size := by
  rcases h with ⟨_, rfl, _⟩ | ⟨x, rfl, h1, h2, h3, h4, h5⟩
  · omega
  · have hjl : j < zs.length := by omega
    have hm : zs.getD j 0 ∈ zs := by
      rw [List.getD_eq_getElem?_getD, List.getElem?_eq_getElem hjl]
      exact List.getElem_mem hjl
    have hw := h5 _ hm
    have hb : 0 ≤ zs.getD j 0 ∧ zs.getD j 0 < 65536 := by
      unfold Lit.wf at hw
      simp at hw
      have q0 : IntKind.u16.min = 0 := rfl
      have q1 : IntKind.u16.max = 65535 := rfl
      rw [List.getD_eq_getElem?_getD]
      omega
    obtain ⟨v, hv⟩ := Int.eq_ofNat_of_zero_le hb.1
    have hc := h4 j hjl
    rw [hv] at hc
    exact ⟨v, x, rfl, by omega, hc, World.block_lt_of_cell? _ _ hc⟩
def portcullislaw20_BodyReads.Pure : Prop := True
theorem Rdr.up {B g N : Nat} {W W1 : World} {R : Rm} (h : Rdr (Fnew (fun k => N ≤ k) W1) B g W R) (hN : N ≤ W1.heap.size) : Rdr (fun k => N ≤ k) B g W R := by
  obtain ⟨vs, vt, vd, cl, h, hs⟩ := h.ex
  exact ⟨vs, vt, vd, cl, h.grow (fun k hk => by rcases hk with hk | hk; exact hk; exact Nat.le_trans hN hk), hs⟩
set_option maxRecDepth 100000 in
set_option maxHeartbeats 8000000 in
theorem reads_main (a0 a1 : Int) (he : newE a0 a1 = 0) (hk0 : 0 ≤ a0) (q : List UInt8) (hq : q.length ≤ 32768) (a3 : Option Addr) (len3 cap3 : Nat) (z3 : List Int) (hl3 : len3 ≤ 1000) (w : World) (w3 : RowU .u16 w a3 len3 cap3 z3) (hG : WG w) :
    Calls Tryd.prog 5 #[.int .u8 a0, .int .i64 a1, .string (mkB q), .slice a3 len3 cap3] w fun e w' => e = .returned (.bool true) ∧ Below w.heap.size w w' := by
  have HG := Aside0.mk hG
  have HE := Aside0.mk he
  have HK := Aside0.mk hk0
  have HQ := Aside0.mk hq
  have HSZ := Aside0.mk (mkB_size q)
  have HEX := Aside0.mk (mkB_extract q)
  have H3 := Aside0.mk w3
  have HNE := Aside0.mk (rnew_is a0 a1)
  rw [he] at HNE
  obtain ⟨b, hb⟩ : ∃ b, mkB q = b := ⟨_, rfl⟩
  rw [hb] at HSZ HEX ⊢
  have hbs : b.size ≤ 32768 := by rw [HSZ.out]; exact hq
  have hbi : (b.size : Int) ≤ 32768 := by omega
  have hbx : decide (32768 < (b.size : Int)) = false := decide_eq_false (by omega)
  have hbn : ¬ 32768 < b.size := by omega
  have hlx : decide (1000 < (len3 : Int)) = false := decide_eq_false (by omega)
  have hln : ¬ 1000 < len3 := by omega
  have hli : (len3 : Int) ≤ 1000 := by omega
  clear hb hG he hk0 hq w3
  go_enter Tryd.func5, Tryd.ntmps5
  go_upto_block 0 with (first | (go_at_call 12; (with_reducible refine (Rdr.new a0 a1 _ HE.out).mono ?_); rintro e w1 ⟨rfl, hb1, hr1⟩; have HB1 := Aside0.mk hb1; have HR1 := Aside0.mk hr1; clear hb1 hr1) | (go_at_call 14; (with_reducible refine (portcullisref20_New.calls 3 a0 a1 0 _ HNE.out).mono ?_); rintro e w2 ⟨rfl, ⟨nd, rfl⟩⟩))
  have HBW : Aside0 (Below w.heap.size w (w1.drewN nd)) := ⟨below_step HB1.out (below_drewN nd)⟩
  have HRW : Aside0 (Rdr (fun k => w.heap.size ≤ k) w.heap.size w.heap.size (w1.drewN nd) (newR a0 a1)) := ⟨HR1.out.low (below_drewN nd)⟩
  clear HB1 HR1 HNE
  generalize w1.drewN nd = W1 at HBW HRW ⊢
  go_wp2_with fail
  go_loopg [11, 12, 13] (4 * len3 + 9) (fun kq v11 v12 v13 wx => ∃ (p i : Nat) (D : List UInt8) (R : Rm), v11 = .int .i64 (p : Int) ∧ v12 = .string (mkB R.data) ∧ v13 = .int .i64 (i : Int) ∧ i + kq = 4 * len3 + 9 ∧ Aside0 (At (newR a0 a1) q p R) ∧ Aside0 (Rdr (fun k => w.heap.size ≤ k) w.heap.size w.heap.size wx (datR R D)) ∧ Aside0 (Below w.heap.size w wx))
  case atStart => exact ⟨0, 0, [], newR a0 a1, rfl, rfl, rfl, by omega, ⟨At.start a0 a1 q⟩, HRW, HBW⟩
  case round =>
    clear HRW HBW
    obtain ⟨p, i, D, R, rfl, rfl, rfl, hik, HA, HR, HB⟩ := hrel
    have hpl : p ≤ b.size := by rw [HSZ.out]; exact HA.out.le
    have hpi : (p : Int) ≤ (b.size : Int) := by omega
    have hp0 : (0 : Int) ≤ (p : Int) := by omega
    have hib : (i : Int) ≤ 5000 := by omega
    go_upto_region 13 with fail
    go_cut [67] (fun v67 wc => ∃ bb : Bool, v67 = .bool bb ∧ Aside0 (bb = true → 0 < len3 ∧ i < 4 * len3 + 8) ∧ wc = wr)
    case first =>
      -- <F
      by_cases h1 : 0 < len3
      · have d1 : decide ((0 : Int) < (len3 : Int)) = true := decide_eq_true (by omega)
        have d1n : 0 < len3 := h1
        by_cases h2 : i < 4 * len3 + 8
        · have d2 : decide ((i : Int) < 4 * (len3 : Int) + 8) = true := decide_eq_true (by omega)
          have d2p : (i : Int) < 4 * (len3 : Int) + 8 := by omega
          go_wp2
          go_meet
          case rel => exact ⟨true, rfl, ⟨fun _ => ⟨h1, h2⟩⟩, rfl⟩
        · have d2 : decide ((i : Int) < 4 * (len3 : Int) + 8) = false := decide_eq_false (by omega)
          have d2p : ¬ (i : Int) < 4 * (len3 : Int) + 8 := by omega
          go_wp2
          go_meet
          case rel => exact ⟨false, rfl, ⟨(fun h => by cases h)⟩, rfl⟩
      · have d1 : decide ((0 : Int) < (len3 : Int)) = false := decide_eq_false (by omega)
        have d1n : ¬ 0 < len3 := h1
        go_wp2
        go_meet
        case rel => exact ⟨false, rfl, ⟨(fun h => by cases h)⟩, rfl⟩
      -- F>
    case rest =>
      obtain ⟨bb, rfl, HBB, rfl⟩ := hcut
      have hn0 : (b.size : Int) - (p : Int) = ((b.size - p : Nat) : Int) := by omega
      go_upto_if 67 with fail
      rw [hn0]
      obtain ⟨n0, hn0e⟩ : ∃ n0, b.size - p = n0 := ⟨_, rfl⟩
      rw [hn0e]
      have HN0 : Aside0 (p + n0 = b.size) := ⟨by omega⟩
      clear hn0 hn0e
      have hn0i : (n0 : Int) ≤ 32768 := by have := HN0.out; omega
      go_cut [14] (fun v14 wd => ∃ m : Nat, v14 = .int .i64 (m : Int) ∧ Aside0 (m ≤ n0 ∧ (bb = false → m = n0)) ∧ wd = wc)
      case first =>
        -- <F
        cases bb with
        | true =>
          obtain ⟨hl0, hi0⟩ := HBB.out rfl
          obtain ⟨v, ad, rfl, hv, hc0, hblk⟩ := H3.out.at_ (i % len3) (Nat.mod_lt _ hl0)
          have hc : wc.cell? (ad.add (i % len3)) = some (.int .u16 (v : Int)) := by rw [HB.out.cell hblk]; exact hc0
          have hr1 : Int.tmod (i : Int) (len3 : Int) = ((i % len3 : Nat) : Int) := rfl
          have hr2 : Int.tmod (v : Int) 5000 = ((v % 5000 : Nat) : Int) := rfl
          have hml : i % len3 < len3 := Nat.mod_lt _ hl0
          have hv5 : v % 5000 < 5000 := Nat.mod_lt _ (by decide)
          obtain ⟨j, hj⟩ : ∃ j, i % len3 = j := ⟨_, rfl⟩
          obtain ⟨v5, hv5e⟩ : ∃ v5, v % 5000 = v5 := ⟨_, rfl⟩
          rw [hj] at hr1 hml hc
          rw [hv5e] at hr2 hv5
          have hji : (j : Int) < (len3 : Int) := by omega
          have hj0 : (0 : Int) ≤ (j : Int) := by omega
          have hne : ¬ (len3 : Int) = 0 := by omega
          clear hj hv5e hc0 hblk hml hi0
          by_cases hm : v5 < n0
          · have d1 : decide ((v5 : Int) < (n0 : Int)) = true := decide_eq_true (by omega)
            go_wp2
            go_meet
            case rel => exact ⟨v5, rfl, ⟨Nat.le_of_lt hm, fun h => by cases h⟩, rfl⟩
          · have d1 : decide ((v5 : Int) < (n0 : Int)) = false := decide_eq_false (by omega)
            go_wp2
            go_meet
            case rel => exact ⟨n0, rfl, ⟨Nat.le_refl _, fun h => by cases h⟩, rfl⟩
        | false =>
          go_wp2
          go_meet
          case rel => exact ⟨n0, rfl, ⟨Nat.le_refl _, fun _ => rfl⟩, rfl⟩
        -- F>
      case rest =>
        obtain ⟨m, rfl, HM, rfl⟩ := hcut
        have hpm : p + m ≤ b.size := by have := HN0.out; have := HM.out.1; omega
        obtain ⟨r, R2, u, hP, hrun⟩ := piece_is a0 a1 HE.out HK.out q (by have := HQ.out; omega) p m R HA.out (by rw [← HSZ.out]; exact hpm)
        have hx1 : b.extract p (p + m) = mkB ((q.drop p).take m) := by
          rw [HEX.out, List.drop_take, show p + m - p = m by omega]
        have hx2 : b.extract 0 (p + m) = mkB (q.take (p + m)) := by rw [HEX.out, List.drop_zero]
        rw [← hx2] at hrun
        have hfd := HR.out.feed (b.extract p (p + m)) HA.out.made HA.out.fault HA.out.over (R1 := R2) (n := u) (by
          have h1 := HA.out.text
          rw [hx1, mkB_size, List.length_take]
          show R.text.length + _ ≤ _
          omega) (by rw [hx1, data_mkB]; exact hP.feed)
        obtain ⟨N, td, dn, ee⟩ := r
        have hN : N = p + u := hP.used
        have hu : p + u ≤ p + m := by have := hP.le; rw [← hN]; exact this
        have hcat : mkB R.data ++ mkB R2.data = mkB td := by rw [mkB_append]; exact congrArg mkB hP.cat
        have htd : td.length ≤ N := hP.len
        have htot : R2.total = ((mkB td).size : Int) := by rw [mkB_size]; exact hP.total
        have hdone : (overR R2).over = dn := hP.done
        have hflt : R2.fault = ee := hP.fault
        rw [hdone, hflt] at hfd
        have hts : (mkB td).size ≤ 32768 := by rw [mkB_size]; omega
        have hxs : (mkB R.data).size ≤ 32768 := by rw [mkB_size]; have := HA.out.len; omega
        have hds : (mkB R2.data).size ≤ 32768 := by
          have := congrArg ByteArray.size hcat
          rw [ByteArray.size_append] at this
          omega
        obtain ⟨xb, hxb⟩ : ∃ xb, mkB R.data = xb := ⟨_, rfl⟩
        obtain ⟨db, hdb⟩ : ∃ db, mkB R2.data = db := ⟨_, rfl⟩
        obtain ⟨tb, htb⟩ : ∃ tb, mkB td = tb := ⟨_, rfl⟩
        rw [hxb, hdb, htb] at hcat
        rw [htb] at htot hts hrun
        rw [hdb] at hfd hds
        rw [hxb] at hxs ⊢
        replace htb := Aside0.mk htb
        replace hP := Aside0.mk hP
        unfold TkV at hrun
        replace hrun := Aside0.mk hrun
        replace hfd := Aside0.mk hfd
        replace htot := Aside0.mk htot
        replace hflt := Aside0.mk hflt
        replace hdone := Aside0.mk hdone
        replace hcat := Aside0.mk hcat
        subst hN
        have hpmi : (p : Int) + (m : Int) ≤ (b.size : Int) := by omega
        have hmi0 : (0 : Int) ≤ (m : Int) := by omega
        have hpm0 : (p : Int) ≤ (p : Int) + (m : Int) := by omega
        have hpmN : ((p : Int) + (m : Int)).toNat = p + m := by omega
        clear hdb hxb hx1 hx2 htd hn0i
        go_upto_region 17 with (first | (go_at_call 13; (with_reducible refine hfd.out.mono ?_); rintro e w5 ⟨rfl, hr5, hk5⟩; have HR5 := Aside0.mk (hr5.up HB.out.size); have HB5 := Aside0.mk (HB.out.trans (hk5.below HB.out.size (fun k hk => hk))); clear hr5 hk5) | (go_at_call 15; (with_reducible refine (hrun.out _).mono ?_); rintro e w6 ⟨rfl, hb6⟩; have HR6 := Aside0.mk (HR5.out.low hb6); have HB6 := Aside0.mk (below_step HB5.out hb6); clear hb6))
        have hblk := Go.Deep.blk_alloc_new w6 (.cells #[.int .i64 ((p : Int) + (u : Int)), .string tb, .bool dn, .int .i64 ee] 38)
        have HR7 : Aside0 (Rdr (fun k => w.heap.size ≤ k) w.heap.size w.heap.size (w6.alloc (.cells #[.int .i64 ((p : Int) + (u : Int)), .string tb, .bool dn, .int .i64 ee] 38)) (overR R2)) := ⟨HR6.out.low (below_alloc (Below.refl _ _) _)⟩
        have HB7 : Aside0 (Below w.heap.size w (w6.alloc (.cells #[.int .i64 ((p : Int) + (u : Int)), .string tb, .bool dn, .int .i64 ee] 38))) := ⟨below_alloc HB6.out _⟩
        clear HR6 HB6 HR5 HB5 HR HB
        generalize w6.alloc (.cells #[.int .i64 ((p : Int) + (u : Int)), .string tb, .bool dn, .int .i64 ee] 38) = W7 at hblk HR7 HB7 ⊢
        generalize w6.heap.size = g7 at hblk ⊢
        have hc0 : W7.cell? ⟨g7, 0, none⟩ = some (.int .i64 ((p : Int) + (u : Int))) := blk_cell hblk 0
        have hc1 : W7.cell? ⟨g7, 1, none⟩ = some (.string tb) := blk_cell hblk 1
        have hc2 : W7.cell? ⟨g7, 2, none⟩ = some (.bool dn) := blk_cell hblk 2
        have hc3 : W7.cell? ⟨g7, 3, none⟩ = some (.int .i64 ee) := blk_cell hblk 3
        have HTd : Aside0 (∀ nd, Calls Tryd.prog 16 #[.pointer (some ⟨w.heap.size, 0, none⟩)] (W7.drewN nd) fun e w' => e = .returned (.int .i64 (tb.size : Int)) ∧ w' = W7.drewN nd) := ⟨fun nd => by
          have h := (HR7.out.low (below_drewN nd)).total
          have e : (overR R2).total = (tb.size : Int) := htot.out
          rw [e] at h
          exact h⟩
        have hw17 : IntKind.i64.wrap ((p : Int) + (u : Int) - (p : Int)) = (u : Int) := by
          rw [show (p : Int) + (u : Int) - (p : Int) = (u : Int) by omega, i64_w]; exact w64c _ (by omega)
        have k1 : ((u : Int) != (u : Int)) = false := by simp
        have k2 : (xb ++ db) = tb := hcat.out
        have k3 : (tb.toList != tb.toList) = false := by simp
        have k4 : (dn != dn) = false := by cases dn <;> rfl
        have k5 : (ee != ee) = false := by simp
        have k6 : ((tb.size : Int) != (tb.size : Int)) = false := by simp
        have k7 : (9223372036854775807 < xb.size + db.size) = False := eq_false (by omega)
        go_quiet (exact (HTd.out _).mono fun _ _ h => ⟨h.1, _, h.2⟩)
        go_upto_region 19 with fail
        have HR8 := Aside0.mk (HR7.out.low (below_drewN nq))
        have HB8 := Aside0.mk (below_step HB7.out (below_drewN nq))
        have hd0 : (W7.drewN nq).cell? ⟨g7, 0, none⟩ = some (.int .i64 ((p : Int) + (u : Int))) := hc0
        have hd1 : (W7.drewN nq).cell? ⟨g7, 1, none⟩ = some (.string tb) := hc1
        have hd2 : (W7.drewN nq).cell? ⟨g7, 2, none⟩ = some (.bool dn) := hc2
        have hd3 : (W7.drewN nq).cell? ⟨g7, 3, none⟩ = some (.int .i64 ee) := hc3
        clear HR7 HB7 hblk hc0 hc1 hc2 hc3 HTd hw17 k1 k2 k3 k4 k5 k6 k7
        generalize W7.drewN nq = W8 at HR8 HB8 hd0 hd1 hd2 hd3 ⊢
        cases dn with
        | true =>
          have hov : Aside0 ((overR R2).over = true) := ⟨hdone.out⟩
          have hfl : Aside0 ((overR R2).fault = 0) := ⟨by
            have h := hdone.out
            unfold overR at h
            simp only [Bool.and_eq_true, decide_eq_true_eq] at h
            exact h.2⟩
          have HFo := Aside0.mk (HR8.out.feed_over ⟨#[120]⟩ hP.out.made hfl.out hov.out)
          go_wp2_with (first | (go_at_call 13; (with_reducible refine HFo.out.mono ?_); rintro e w9 ⟨rfl, rfl⟩) | (go_at_call 7; (with_reducible refine (alive_any _ (WG.keep HG.out HB8.out)).mono ?_); rintro e w9 ⟨rfl, hb9⟩; have HB9 := Aside0.mk (below_step HB8.out hb9); clear hb9))
          go_ret
          exact ⟨rfl, HB9.out⟩
        | false =>
          by_cases hee : ee = 0
          · have q1 : (ee != 0) = false := by rw [hee]; rfl
            obtain ⟨hum, hAt⟩ := hP.out.next rfl hee
            have hum' : u = m := by have : p + u = p + m := hum; omega
            by_cases hend : p + u = b.size
            · have q2 : (((p : Int) + (u : Int)) == (b.size : Int)) = true := beq_iff_eq.2 (by omega)
              clear hAt hum hum' hend hee
              go_wp2_with (go_at_call 7; (with_reducible refine (alive_any _ (WG.keep HG.out HB8.out)).mono ?_); rintro e w9 ⟨rfl, hb9⟩; have HB9 := Aside0.mk (below_step HB8.out hb9); clear hb9)
              go_ret
              exact ⟨rfl, HB9.out⟩
            · have q2 : (((p : Int) + (u : Int)) == (b.size : Int)) = false := beq_eq_false_iff_ne.2 (by omega)
              have hbb : bb = true := by
                cases bb with
                | true => rfl
                | false =>
                  exfalso
                  have h1 := HM.out.2 rfl
                  have h2 := HN0.out
                  omega
              have hlt := (HBB.out hbb).2
              obtain ⟨g, rfl⟩ : ∃ g, gk = g + 1 := ⟨gk - 1, by omega⟩
              have HR9 : Aside0 (Rdr (fun k => w.heap.size ≤ k) w.heap.size w.heap.size W8 (datR (datR R2 td) R2.data)) := ⟨by
                have ho : R2.over = false := hAt.over
                have e1 : datR (datR R2 td) R2.data = overR R2 := by
                  have h := hdone.out
                  unfold overR at h ⊢
                  simp only at h
                  rw [h]
                  unfold datR
                  cases R2
                  simp at ho
                  subst ho
                  rfl
                rw [e1]
                exact HR8.out⟩
              have HA9 : Aside0 (At (newR a0 a1) q (p + u) (datR R2 td)) := ⟨by rw [hum']; exact hAt⟩
              have htb' : mkB (datR R2 td).data = tb := htb.out
              have hii : (i : Int) + 1 ≤ 5001 := by omega
              clear hum hAt hum' hend hee hbb hlt HR8 hP hrun hfd
              go_wp2_with fail
              go_roundg g
              case measure => omega
              case rel => exact ⟨p + u, i + 1, R2.data, datR R2 td, by go_num, by rw [htb'], by go_num, by omega, HA9, HR9, HB8⟩
          · have q1 : (ee != 0) = true := bne_iff_ne.2 hee
            have hfl : Aside0 ((overR R2).fault ≠ 0) := ⟨by show R2.fault ≠ 0; rw [hflt.out]; exact hee⟩
            have HFf := HR8.out.feed_fault ⟨#[120]⟩ hP.out.made hfl.out
            have hef : (overR R2).fault = ee := hflt.out
            rw [hef] at HFf
            replace HFf := Aside0.mk HFf
            have q3 : (ee == ee) = true := beq_self_eq_true ee
            have HB9 := Aside0.mk (below_step HB8.out (below_drew (Below.refl _ _)))
            clear hef hee
            go_wp2_with (first | (go_at_call 13; (with_reducible refine HFf.out.mono ?_); rintro e w9 ⟨rfl, rfl⟩) | (go_at_call 7; (with_reducible refine (alive_any _ (WG.keep HG.out HB9.out)).mono ?_); rintro e w10 ⟨rfl, hb10⟩))
            go_ret
            exact ⟨rfl, below_step HB9.out hb10⟩
set_option maxRecDepth 100000 in
set_option maxHeartbeats 2000000 in
theorem reads_long (a0 a1 : Int) (b : ByteArray) (a3 : Option Addr) (len3 cap3 : Nat) (w : World) (hG : WG w) (h : 32768 < b.size ∨ 1000 < len3) :
    Calls Tryd.prog 5 #[.int .u8 a0, .int .i64 a1, .string b, .slice a3 len3 cap3] w fun e w' => e = .returned (.bool true) ∧ Below w.heap.size w w' := by
  have HA := Aside0.mk (alive_any w hG)
  by_cases h1 : 32768 < b.size
  · have hbx : decide (32768 < (b.size : Int)) = true := decide_eq_true (by omega)
    clear h hG
    go_enter Tryd.func5, Tryd.ntmps5
    go_wp2_with (go_at_call 7; (with_reducible refine HA.out.mono ?_); rintro e w1 ⟨rfl, hb⟩)
    go_ret
    exact ⟨rfl, hb⟩
  · have hbx : decide (32768 < (b.size : Int)) = false := decide_eq_false (by omega)
    have h2 : 1000 < len3 := h.resolve_left h1
    have hlx : decide (1000 < (len3 : Int)) = true := decide_eq_true (by omega)
    clear h hG
    go_enter Tryd.func5, Tryd.ntmps5
    go_wp2_with (go_at_call 7; (with_reducible refine HA.out.mono ?_); rintro e w1 ⟨rfl, hb⟩)
    go_ret
    exact ⟨rfl, hb⟩
set_option maxRecDepth 100000 in
set_option maxHeartbeats 2000000 in
theorem reads_bad (a0 a1 : Int) (b : ByteArray) (a3 : Option Addr) (len3 cap3 : Nat) (w : World) (hG : WG w) (hb0 : b.size ≤ 32768) (hl0 : len3 ≤ 1000) (he : newE a0 a1 ≠ 0) :
    Calls Tryd.prog 5 #[.int .u8 a0, .int .i64 a1, .string b, .slice a3 len3 cap3] w fun e w' => e = .returned (.bool true) ∧ Below w.heap.size w w' := by
  have HG := Aside0.mk hG
  have HN := Aside0.mk (fun W => new_bad a0 a1 W he)
  have HM := Aside0.mk (fun W => portcullisref20_New.calls 3 a0 a1 (newE a0 a1) W (rnew_is a0 a1))
  obtain ⟨ne, hne⟩ : ∃ ne, newE a0 a1 = ne := ⟨_, rfl⟩
  rw [hne] at HN HM he
  have hbx : decide (32768 < (b.size : Int)) = false := decide_eq_false (by omega)
  have hbn : ¬ 32768 < b.size := by omega
  have hlx : decide (1000 < (len3 : Int)) = false := decide_eq_false (by omega)
  have hln : ¬ 1000 < len3 := by omega
  have e1 : (ne != ne) = false := by simp
  have e2 : (ne != 0) = true := bne_iff_ne.2 he
  clear hne he hG hb0 hl0
  go_enter Tryd.func5, Tryd.ntmps5
  go_wp2_with (first | (go_at_call 12; (with_reducible refine (HN.out _).mono ?_); rintro e w1 ⟨rfl, rfl⟩) | (go_at_call 14; (with_reducible refine (HM.out _).mono ?_); rintro e w2 ⟨rfl, ⟨nd, rfl⟩⟩) | (go_at_call 7; (with_reducible refine (alive_any _ (WG.keep HG.out (below_drewN _))).mono ?_); rintro e w3 ⟨rfl, hb⟩))
  go_ret
  exact ⟨rfl, below_step (below_drewN _) hb⟩
theorem portcullislaw20_BodyReads.walk (P : portcullislaw20_BodyReads.Pure) (a0 a1 : Int) (a2 : ByteArray) (a3 : Option Addr) (len3 cap3 : Nat) (z3 : List Int) (w : World) (w0 : (Lit.int .u8 a0).wf = true) (w1 : (Lit.int .i64 a1).wf = true) (w2 : a2.size ≤ 140737488351232) (w3 : RowU .u16 w a3 len3 cap3 z3) (y3 : len3 * 2 ≤ 140737488351232) (hG : WG w) :
    Calls Tryd.prog 5 #[.int .u8 a0, .int .i64 a1, .string a2, .slice a3 len3 cap3] w fun e w' => e = .returned (.bool true) ∧ Below w.heap.size w w' := by
  by_cases h1 : 32768 < a2.size ∨ 1000 < len3
  · exact reads_long a0 a1 a2 a3 len3 cap3 w hG h1
  · by_cases he : newE a0 a1 = 0
    · have h0 : 0 ≤ a0 := by
        unfold Lit.wf at w0
        simp at w0
        have q0 : IntKind.u8.min = 0 := rfl
        omega
      have := reads_main a0 a1 he h0 a2.data.toList (by rw [data_length]; omega) a3 len3 cap3 z3 (by omega) w w3 hG
      rw [mkB_data] at this
      exact this
    · exact reads_bad a0 a1 a2 a3 len3 cap3 w hG (by omega) (by omega) he
end Go.Proofs.YtllcfifeaacmiaaDoor.Pr
