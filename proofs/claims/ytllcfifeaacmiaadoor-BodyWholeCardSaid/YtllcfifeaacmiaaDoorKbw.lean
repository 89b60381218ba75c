import Derived.Test.YtllcfifeaacmiaaDoorKbr
import Derived.Test.YtllcfifeaacmiaaDoorGwh
import Derived.SliceStrings
namespace Go.Proofs.YtllcfifeaacmiaaDoor.Pr
open Go.RowKit Go.Proofs.YtllcfifeaacmiaaDoorW.PrintWords Go.Proofs.YtllcfifeaacmiaaDoorW.PrintLast Go.Proofs.YtllcfifeaacmiaaDoorW.PrintMore
attribute [local go_sem] max2_int min2_int max_two min_two
set_option linter.unusedVariables false
set_option linter.unusedSimpArgs false

/-! ### BodyWhole -/
def RowT (w : World) (a : Option Addr) (len cap : Nat) (zs : List ByteArray) : Prop :=
  (a = none ∧ len = 0 ∧ cap = 0 ∧ zs = []) ∨
  ∃ x, a = some x ∧ len ≤ cap ∧ cap ≤ maxLen ∧ zs.length = cap ∧ (∀ i, i < zs.length → w.cell? (x.add i) = some (.string (zs.getD i ByteArray.empty))) ∧ ∀ s ∈ zs, s.size ≤ maxLen
theorem RowT.at_ {w : World} {a : Option Addr} {len cap : Nat} {zs : List ByteArray} (h : RowT w a len cap zs) (j : Nat) (hj : j < len) : ∃ ad : Addr, a = some ad ∧ w.cell? (ad.add j) = some (.string (mkB ((zs.getD j ByteArray.empty).data.toList))) ∧ (ad.add j).block < w.heap.size := by
  rcases h with ⟨_, rfl, _⟩ | ⟨x, rfl, h1, h2, h3, h4, h5⟩
  · omega
  · have hc := h4 j (by omega)
    rw [mkB_data]
    exact ⟨x, rfl, hc, World.block_lt_of_cell? _ _ hc⟩
theorem chk_is (s : List UInt8) (hs : s.length ≤ 500000) : body_Chunk.f (mkB s) = some (mkB (chkL s)) := by
  have crlfB : (⟨#[13, 10]⟩ : ByteArray) = mkB [13, 10] := rfl
  unfold body_Chunk.f chkL
  have hl : (mkB s).toList = s := by rw [Lib.toList_data, data_mkB]
  rw [hl]
  by_cases h : s = []
  · rw [if_pos h, if_pos h]; rfl
  · have hd : (digs 16 s.length).length ≤ 21 := digs_length 16 (by decide) 20 s.length (by omega)
    have hf : strconv_FormatInt_17.f ((mkB s).size : Int) 16 = some (mkB (digs 16 s.length)) := by
      unfold strconv_FormatInt_17.f
      rw [mkB_size, if_pos (by omega), Int.toNat_natCast]
    rw [if_neg h, if_neg h, hf, Option.bind_some, crlfB]
    simp only [mkB_append, mkB_size]
    rw [if_pos (by omega), if_pos (by rw [List.length_append]; simp; omega), if_pos (by simp; omega)]
theorem chk_len (s : List UInt8) (hs : s.length ≤ 4096) : s.length ≤ (chkL s).length ∧ (chkL s).length ≤ s.length + 20 := by
  unfold chkL
  by_cases h : s = []
  · subst h; simp
  · rw [if_neg h]
    have hd : (digs 16 s.length).length ≤ 14 := digs_length 16 (by decide) 13 s.length (by omega)
    simp
    omega
theorem enc_len : ∀ (l : List (List UInt8)), (∀ x ∈ l, x.length ≤ 4096) → l.flatten.length ≤ (encL l).length
  | [], _ => Nat.le_refl _
  | x :: l, h => by
    have h1 := chk_len x (h x List.mem_cons_self)
    have h2 := enc_len l (fun y hy => h y (List.mem_cons_of_mem _ hy))
    show (x ++ l.flatten).length ≤ (chkL x ++ encL l).length
    rw [List.length_append, List.length_append]
    omega
/-- Where the second loop stands. -/
structure AtW (q all : List UInt8) (n p : Nat) (R : Rm) : Prop where
  feed : feedL (newR 2 0) (q.take p) = (R, p)
  lt : p < n
  fault : R.fault = 0
  made : R.made = true
  over : R.over = false
  text : R.text.length ≤ p
  len : R.data.length ≤ p
theorem data_len : ∀ (s : List UInt8) (R : Rm), (feedL R s).1.data.length ≤ R.data.length + (feedL R s).2
  | [], R => Nat.le_refl _
  | c :: s, R => by
    unfold feedL
    split
    · have h1 := data_len s (nextR R c)
      have h2 : (nextR R c).data.length ≤ R.data.length + 1 := (stepR_sizes R c).1
      simp only
      omega
    · simp
theorem AtW.mk' {q all : List UInt8} {n p : Nat} {R : Rm} (hf : feedL (newR 2 0) (q.take p) = (R, p)) (hl : p < n) (h0 : R.fault = 0) : AtW q all n p R := by
  have h1 := feed_made (q.take p) (newR 2 0)
  have h2 := feed_over' (q.take p) (newR 2 0)
  have h3 := feed_text (q.take p) (newR 2 0)
  have h4 := data_len (q.take p) (newR 2 0)
  rw [hf] at h1 h2 h3 h4
  have e1 : (newR 2 0).text.length = 0 := rfl
  have e2 : (newR 2 0).data.length = 0 := rfl
  have e3 : (q.take p).length ≤ p := by rw [List.length_take]; omega
  exact ⟨hf, hl, h0, h1, h2, by simp only at h3; omega, by simp only at h4; omega⟩
/-- What a piece does. -/
structure PieceW (q all : List UInt8) (n p m : Nat) (R : Rm) (R2 : Rm) (u : Nat) : Prop where
  feed : feedL { datR R [] with data := [] } ((q.drop p).take m) = (R2, u)
  le : u ≤ m
  fault : R2.fault = 0
  ways : ((overR R2).over = true ∧ p + u = n ∧ R.data ++ R2.data = all) ∨ ((overR R2).over = false ∧ u = m ∧ p + m < n ∧ AtW q all n (p + m) (datR R2 (R.data ++ R2.data)))
  small : (R.data ++ R2.data).length ≤ p + u
theorem pieceW_is (q all : List UInt8) (n : Nat) (RT : Rm) (hT : feedL (newR 2 0) q = (RT, n)) (hTd : RT.data = all) (hTn : isNone RT.st = true) (hTf : RT.fault = 0) (p m : Nat) (R : Rm) (hA : AtW q all n p R) (hm : p + m ≤ q.length) :
    ∃ R2 u, PieceW q all n p m R R2 u := by
  have hpre := feed_prefix q (newR 2 0) RT n hT
  have hsp : q.take (p + m) = q.take p ++ (q.drop p).take m := List.take_add
  have hlp : (q.take p).length = p := by rw [List.length_take]; omega
  have hap := feed_app (q.take p) ((q.drop p).take m) (newR 2 0) R (by rw [hlp]; exact hA.feed)
  rw [← hsp, hlp] at hap
  obtain ⟨y, h1, h2⟩ := feed_dat ((q.drop p).take m) R []
  rw [List.nil_append] at h2
  by_cases hlt : p + m < n
  · obtain ⟨Rp, g1, g2, g3⟩ := hpre.2 (p + m) (by omega)
    rw [g1] at hap
    have hap1 := (Prod.mk.inj hap).1
    have hap2 := (Prod.mk.inj hap).2
    rw [← hap1] at h1 h2
    have hu : (feedL R ((q.drop p).take m)).2 = m := by omega
    rw [hu] at h2
    have hg := g3 hlt
    have hA2 : AtW q all n (p + m) Rp := AtW.mk' g1 hlt hg.2
    have hcat : R.data ++ y = Rp.data := h1.symm
    refine ⟨datR Rp y, m, ⟨h2, Nat.le_refl _, hg.2, .inr ⟨?_, rfl, hlt, ?_⟩, ?_⟩⟩
    · show (isNone Rp.st && _) = false
      rw [hg.1]; rfl
    · have e : datR (datR Rp y) (R.data ++ y) = Rp := by rw [hcat]; rfl
      rw [show R.data ++ (datR Rp y).data = R.data ++ y from rfl, e]
      exact hA2
    · show (R.data ++ y).length ≤ _
      rw [hcat]; exact hA2.len
  · obtain ⟨Rn, g1, g2, _⟩ := hpre.2 n (Nat.le_refl _)
    have hnlt := hA.lt
    have hsp2 : q.take (p + m) = q.take n ++ (q.take (p + m)).drop n := by
      have := List.take_append_drop n (q.take (p + m))
      rw [List.take_take, show min n (p + m) = n by omega] at this
      exact this.symm
    have hRn : Rn = RT := by
      have h := feed_made
      have e : feedL Rn (q.drop n) = (RT, n - n) := g2
      by_cases hh : isNone Rn.st = false ∧ Rn.fault = 0
      · cases hd : q.drop n with
        | nil => rw [hd] at e; exact (Prod.mk.inj e).1
        | cons c t =>
          rw [hd, feedL_step hh.1 hh.2] at e
          have := (Prod.mk.inj e).2
          omega
      · have : feedL Rn (q.drop n) = (Rn, 0) := by
          refine feedL_halt ?_
          cases hx : isNone Rn.st with
          | true => exact .inl rfl
          | false => exact .inr (fun e => hh ⟨hx, e⟩)
        rw [this] at e
        exact (Prod.mk.inj e).1
    have hln : (q.take n).length = n := by have := hpre.1; rw [List.length_take]; omega
    have hap3 := feed_app (q.take n) ((q.take (p + m)).drop n) (newR 2 0) RT (by rw [hln, g1, hRn])
    rw [← hsp2, hln, feedL_halt (.inl hTn)] at hap3
    rw [hap3] at hap
    have hap1 := (Prod.mk.inj hap).1
    have hap2 := (Prod.mk.inj hap).2
    simp only at hap1 hap2
    rw [← hap1] at h1 h2
    have hu : (feedL R ((q.drop p).take m)).2 = n - p := by omega
    rw [hu] at h2
    have hcat : R.data ++ y = RT.data := h1.symm
    have hdl := data_len q (newR 2 0)
    rw [hT] at hdl
    refine ⟨datR RT y, n - p, ⟨h2, by omega, hTf, .inl ⟨?_, by omega, ?_⟩, ?_⟩⟩
    · show (isNone RT.st && decide (RT.fault = 0)) = true
      rw [hTn, decide_eq_true hTf]; rfl
    · show R.data ++ y = _
      rw [hcat, hTd]
    · show (R.data ++ y).length ≤ _
      rw [hcat]
      have e2 : (newR 2 0).data.length = 0 := rfl
      simp only at hdl
      omega
def portcullislaw20_BodyWhole.Pure : Prop := True
def rowL (len : Nat) (zs : List ByteArray) : List (List UInt8) := (List.range len).map fun j => (zs.getD j ByteArray.empty).data.toList
theorem rowL_succ (zs : List ByteArray) (i : Nat) : rowL (i + 1) zs = rowL i zs ++ [(zs.getD i ByteArray.empty).data.toList] := by
  unfold rowL
  rw [List.range_succ, List.map_append]
  rfl
theorem encL_snoc (l : List (List UInt8)) (x : List UInt8) : encL (l ++ [x]) = encL l ++ chkL x := by
  unfold encL
  simp
set_option maxRecDepth 100000 in
set_option maxHeartbeats 8000000 in
theorem whole_main (a0 : Option Addr) (len0 cap0 : Nat) (z0 : List ByteArray) (a1 : Option Addr) (len1 cap1 : Nat) (z1 : List Int) (rest : ByteArray) (w : World) (w0 : RowT w a0 len0 cap0 z0) (w1 : RowU .u16 w a1 len1 cap1 z1) (hl0 : len0 ≤ 9223372036854775807) (hl1 : len1 * 2 ≤ 140737488351232) (hr : rest.size ≤ 140737488351232) (hG : WG w) :
    Calls Tryd.prog 4 #[.slice a0 len0 cap0, .slice a1 len1 cap1, .string rest] w fun e w' => e = .returned (.bool true) ∧ Below w.heap.size w w' := by
  have HG := Aside0.mk hG
  have H0 := Aside0.mk w0
  have H1 := Aside0.mk w1
  have hl0i : (len0 : Int) ≤ 9223372036854775807 := by omega
  have hl1i : (len1 : Int) ≤ 140737488351232 := by omega
  have hri : (rest.size : Int) ≤ 140737488351232 := by omega
  clear hG w0 w1
  go_enter Tryd.func4, Tryd.ntmps4
  go_wp2_with fail
  go_loopg [7, 8, 9] (len0 + 1) (fun kq v7 v8 v9 wx => ∃ i : Nat, v7 = .string (mkB (encL (rowL i z0))) ∧ v8 = .string (mkB (rowL i z0).flatten) ∧ v9 = .int .i64 (i : Int) ∧ i + kq = len0 + 1 ∧ i ≤ len0 ∧ Aside0 ((∀ x ∈ rowL i z0, x.length ≤ 4096) ∧ (encL (rowL i z0)).length ≤ 20600) ∧ Aside0 (Below w.heap.size w wx))
  case atStart => exact ⟨0, rfl, rfl, rfl, by omega, Nat.zero_le _, ⟨(fun x hx => by cases hx), Nat.zero_le _⟩, ⟨Below.refl _ _⟩⟩
  case round =>
    obtain ⟨i, rfl, rfl, rfl, hik, hile, HX, HB⟩ := hrel
    have hsz := mkB_size (encL (rowL i z0))
    have hel := enc_len (rowL i z0) HX.out.1
    have hfs : (mkB (rowL i z0).flatten).size ≤ 20600 := by rw [mkB_size]; have := HX.out.2; omega
    obtain ⟨sb, hsb⟩ : ∃ sb, mkB (encL (rowL i z0)) = sb := ⟨_, rfl⟩
    obtain ⟨fb, hfb⟩ : ∃ fb, mkB (rowL i z0).flatten = fb := ⟨_, rfl⟩
    have hss : sb.size ≤ 20600 := by rw [← hsb, hsz]; exact HX.out.2
    rw [hsb] at hsz ⊢
    rw [hfb] at hfs ⊢
    replace hsb := Aside0.mk hsb
    replace hfb := Aside0.mk hfb
    replace hsz := Aside0.mk hsz
    replace hel := Aside0.mk hel
    by_cases hbig : 16384 < sb.size
    · have d1 : decide (16384 < (sb.size : Int)) = true := decide_eq_true (by omega)
      have d2 : decide ((sb.size : Int) ≤ 16384) = false := decide_eq_false (by omega)
      by_cases hi : i < len0
      · have d3 : decide ((i : Int) < (len0 : Int)) = true := decide_eq_true (by omega)
        go_wp2_with (go_at_call 7; (with_reducible refine (alive_any _ (WG.keep HG.out HB.out)).mono ?_); rintro e w9 ⟨rfl, hb9⟩; have HB9 := Aside0.mk (below_step HB.out hb9); clear hb9)
        go_ret
        exact ⟨rfl, HB9.out⟩
      · have d3 : decide ((i : Int) < (len0 : Int)) = false := decide_eq_false (by omega)
        go_wp2_with (go_at_call 7; (with_reducible refine (alive_any _ (WG.keep HG.out HB.out)).mono ?_); rintro e w9 ⟨rfl, hb9⟩; have HB9 := Aside0.mk (below_step HB.out hb9); clear hb9)
        go_ret
        exact ⟨rfl, HB9.out⟩
    · have d1 : decide (16384 < (sb.size : Int)) = false := decide_eq_false (by omega)
      have d2 : decide ((sb.size : Int) ≤ 16384) = true := decide_eq_true (by omega)
      by_cases hi : i < len0
      · have d3 : decide ((i : Int) < (len0 : Int)) = true := decide_eq_true (by omega)
        obtain ⟨ad, rfl, hc0, hblk⟩ := H0.out.at_ i hi
        have hc : wr.cell? (ad.add i) = some (.string (mkB ((z0.getD i ByteArray.empty).data.toList))) := by rw [HB.out.cell hblk]; exact hc0
        have HS := Aside0.mk (rowL_succ z0 i)
        obtain ⟨x, hx⟩ : ∃ x, (z0.getD i ByteArray.empty).data.toList = x := ⟨_, rfl⟩
        rw [hx] at hc HS
        have hxs := mkB_size x
        obtain ⟨xb, hxb⟩ : ∃ xb, mkB x = xb := ⟨_, rfl⟩
        rw [hxb] at hc hxs
        have hii : (i : Int) < (len0 : Int) := by omega
        have hi0 : (0 : Int) ≤ (i : Int) := by omega
        clear hc0 hblk hx
        by_cases h4 : 4096 < xb.size
        · have d4 : decide (4096 < (xb.size : Int)) = true := decide_eq_true (by omega)
          go_wp2_with (go_at_call 7; (with_reducible refine (alive_any _ (WG.keep HG.out HB.out)).mono ?_); rintro e w9 ⟨rfl, hb9⟩; have HB9 := Aside0.mk (below_step HB.out hb9); clear hb9)
          go_ret
          exact ⟨rfl, HB9.out⟩
        · have d4 : decide (4096 < (xb.size : Int)) = false := decide_eq_false (by omega)
          have hxl : x.length ≤ 4096 := by omega
          have hck := chk_is x (by omega)
          have hckl := chk_len x hxl
          have hcks := mkB_size (chkL x)
          rw [hxb] at hck
          obtain ⟨cb, hcb⟩ : ∃ cb, mkB (chkL x) = cb := ⟨_, rfl⟩
          rw [hcb] at hck hcks
          have HCK := Aside0.mk hck
          have hcs : cb.size ≤ 4116 := by omega
          have k1 : (9223372036854775807 < sb.size + cb.size) = False := eq_false (by omega)
          have k2 : (9223372036854775807 < fb.size + xb.size) = False := eq_false (by omega)
          have HN1 : Aside0 (sb ++ cb = mkB (encL (rowL (i + 1) z0))) := ⟨by rw [HS.out, encL_snoc, ← mkB_append, hsb.out, hcb]⟩
          have HN2 : Aside0 (fb ++ xb = mkB (rowL (i + 1) z0).flatten) := ⟨by rw [HS.out, List.flatten_append, ← mkB_append, hfb.out]; simp [hxb]⟩
          have HN3 : Aside0 ((∀ y ∈ rowL (i + 1) z0, y.length ≤ 4096) ∧ (encL (rowL (i + 1) z0)).length ≤ 20600) := ⟨by
            rw [HS.out, encL_snoc]
            refine ⟨fun y hy => ?_, ?_⟩
            · rcases List.mem_append.1 hy with hy | hy
              · exact HX.out.1 y hy
              · rw [List.mem_singleton.1 hy]; exact hxl
            · rw [List.length_append]
              have := hsz.out
              omega⟩
          clear hck hckl hcb hcks hxb hxs
          obtain ⟨g, rfl⟩ : ∃ g, gk = g + 1 := ⟨gk - 1, by omega⟩
          go_wp2_with (go_at_call 8; (with_reducible refine (body_Chunk.calls _ _ _ HCK.out (WG.keep HG.out HB.out)).mono ?_); rintro e w3 ⟨rfl, hb3⟩; have HB3 := Aside0.mk (below_step HB.out hb3); have hc' : w3.cell? (ad.add i) = some (.string xb) := (hb3.cell (World.block_lt_of_cell? _ _ hc)).trans hc; clear hb3 hc)
          go_roundg g
          case measure => omega
          case rel => exact ⟨i + 1, by rw [HN1.out], by rw [HN2.out], by go_num, by omega, by omega, HN3, HB3⟩
      · have d3 : decide ((i : Int) < (len0 : Int)) = false := decide_eq_false (by omega)
        by_cases h5 : 4096 < rest.size
        · have d5 : decide (4096 < (rest.size : Int)) = true := decide_eq_true (by omega)
          go_wp2_with (go_at_call 7; (with_reducible refine (alive_any _ (WG.keep HG.out HB.out)).mono ?_); rintro e w9 ⟨rfl, hb9⟩; have HB9 := Aside0.mk (below_step HB.out hb9); clear hb9)
          go_ret
          exact ⟨rfl, HB9.out⟩
        · have d5 : decide (4096 < (rest.size : Int)) = false := decide_eq_false (by omega)
          by_cases h6 : 1000 < len1
          · have d6 : decide (1000 < (len1 : Int)) = true := decide_eq_true (by omega)
            go_wp2_with (go_at_call 7; (with_reducible refine (alive_any _ (WG.keep HG.out HB.out)).mono ?_); rintro e w9 ⟨rfl, hb9⟩; have HB9 := Aside0.mk (below_step HB.out hb9); clear hb9)
            go_ret
            exact ⟨rfl, HB9.out⟩
          · have d6 : decide (1000 < (len1 : Int)) = false := decide_eq_false (by omega)
            obtain rfl : i = len0 := by omega
            have hlast : (sb ++ (⟨#[48, 13, 10, 13, 10]⟩ : ByteArray)) ++ rest = mkB (encL (rowL i z0) ++ (lastL ++ rest.data.toList)) := by
              rw [← mkB_append, ← mkB_append, hsb.out, mkB_data, ← ByteArray.append_assoc]
              rfl
            have hr4 : rest.size ≤ 4096 := by omega
            have hs4 : sb.size ≤ 16384 := by omega
            have k1 : (9223372036854775807 < sb.size + 5) = False := eq_false (by omega)
            have k2 : (9223372036854775807 < sb.size + 5 + rest.size) = False := eq_false (by omega)
            have hl1x : (len1 : Int) ≤ 1000 := by omega
            clear hbig hi h5 h6 hri hl1 hl1i hr
            go_upto_block 2 with (first | (go_at_call 10; (with_reducible refine (body_Last.calls _ _ rfl).mono ?_); rintro e w3 ⟨rfl, ⟨nd, rfl⟩⟩) | (go_at_call 12; (with_reducible refine (Rdr.new 2 0 _ rfl).mono ?_); rintro e w4 ⟨rfl, hb4, hrd4⟩))
            have HBW : Aside0 (Below wr.heap.size wr w4) := ⟨by first | exact hb4 | exact below_step (below_drewN _) hb4⟩
            have HRW := Aside0.mk hrd4
            clear hb4 hrd4
            obtain ⟨W0, rfl⟩ : ∃ W0, W0 = wr := ⟨_, rfl⟩
            obtain ⟨q, hq⟩ : ∃ q, encL (rowL i z0) ++ (lastL ++ rest.data.toList) = q := ⟨_, rfl⟩
            obtain ⟨all, hall⟩ : ∃ all, (rowL i z0).flatten = all := ⟨_, rfl⟩
            have hrl : rest.data.toList.length ≤ 4096 := by rw [data_length]; exact hr4
            have hlen : q.length = sb.size + 5 + rest.data.toList.length := by
              rw [← hq, List.length_append, List.length_append, ← hsz.out, show lastL.length = 5 from rfl]
              omega
            have hT := whole_feed (rowL i z0) rest.data.toList HX.out.1 (by rw [hq, hlen]; omega) (by have := hel.out; have := hsz.out; omega)
            rw [hq, hall, ← hsz.out] at hT
            obtain ⟨RT, hT1, hT2, hT3, hT4⟩ := hT
            rw [hq]
            obtain ⟨n, hn⟩ : ∃ n, sb.size + 5 = n := ⟨_, rfl⟩
            have hnc : (sb.size : Int) + 5 = (n : Int) := by omega
            rw [hnc]
            rw [hn] at hT1 hlen
            have hnq : n ≤ 16389 := by omega
            have hqn : n ≤ q.length := by omega
            have HQ : Aside0 (q.length ≤ 32768) := ⟨by omega⟩
            have HALL : Aside0 (fb = mkB all) := ⟨by rw [← hfb.out, hall]⟩
            have HEX := Aside0.mk (mkB_extract q)
            have HSZ := Aside0.mk (mkB_size q)
            have HQN := Aside0.mk hqn
            obtain ⟨b, hb⟩ : ∃ b, mkB q = b := ⟨_, rfl⟩
            rw [hb] at HEX HSZ ⊢
            have hbs : b.size ≤ 32768 := by rw [HSZ.out]; exact HQ.out
            have hbi : (b.size : Int) ≤ 32768 := by omega
            have hn0' : 5 ≤ n := by omega
            have HPW := Aside0.mk (pieceW_is q all n RT hT1 hT2 hT3 hT4)
            have hst : AtW q all n 0 (newR 2 0) := AtW.mk' (by rw [List.take_zero]; rfl) (by omega) rfl
            have hln : ¬ 1000 < len1 := by omega
            clear hT1 hT2 hT3 hT4 hq hall hlen hn hnc hsz hel HX hsb hss hs4 hb hfb k1 k2 hqn hrl hr4 hlast
            go_wp2_with fail
            go_loopg [13, 14, 15] (4 * len1 + 9) (fun kq v13 v14 v15 wx => ∃ (p j : Nat) (D : List UInt8) (R : Rm), v13 = .string (mkB R.data) ∧ v14 = .int .i64 (p : Int) ∧ v15 = .int .i64 (j : Int) ∧ j + kq = 4 * len1 + 9 ∧ Aside0 (AtW q all n p R) ∧ Aside0 (Rdr (fun k => W0.heap.size ≤ k) W0.heap.size W0.heap.size wx (datR R D)) ∧ Aside0 (Below W0.heap.size W0 wx))
            case atStart => exact ⟨0, 0, [], newR 2 0, rfl, rfl, rfl, by omega, ⟨hst⟩, HRW, HBW⟩
            case round =>
              clear HRW HBW hst
              obtain ⟨p, j, D, R, rfl, rfl, rfl, hik, HA, HR, HBN⟩ := hrel
              have HBX := Aside0.mk (below_step HB.out HBN.out)
              have hpn : p < n := HA.out.lt
              have hpl : p < b.size := by rw [HSZ.out]; have := HQN.out; omega
              have hpi : (p : Int) < (b.size : Int) := by omega
              have hpi' : (p : Int) ≤ (b.size : Int) := by omega
              have hpd : decide ((p : Int) < (b.size : Int)) = true := decide_eq_true hpi
              have hp0 : (0 : Int) ≤ (p : Int) := by omega
              have hib : (j : Int) ≤ 5000 := by omega
              go_upto_region 24 with fail
              go_cut [100] (fun v100 wc => ∃ bb : Bool, v100 = .bool bb ∧ Aside0 (bb = true → 0 < len1 ∧ j < 4 * len1 + 8) ∧ wc = wr)
              case first =>
                -- <F
                by_cases h1 : 0 < len1
                · have d1 : decide ((0 : Int) < (len1 : Int)) = true := decide_eq_true (by omega)
                  have d1n : 0 < len1 := h1
                  by_cases h2 : j < 4 * len1 + 8
                  · have d2 : decide ((j : Int) < 4 * (len1 : Int) + 8) = true := decide_eq_true (by omega)
                    have d2p : (j : Int) < 4 * (len1 : Int) + 8 := by omega
                    go_wp2
                    go_meet
                    case rel => exact ⟨true, rfl, ⟨fun _ => ⟨h1, h2⟩⟩, rfl⟩
                  · have d2 : decide ((j : Int) < 4 * (len1 : Int) + 8) = false := decide_eq_false (by omega)
                    have d2p : ¬ (j : Int) < 4 * (len1 : Int) + 8 := by omega
                    go_wp2
                    go_meet
                    case rel => exact ⟨false, rfl, ⟨(fun h => by cases h)⟩, rfl⟩
                · have d1 : decide ((0 : Int) < (len1 : Int)) = false := decide_eq_false (by omega)
                  have d1n : ¬ 0 < len1 := h1
                  go_wp2
                  go_meet
                  case rel => exact ⟨false, rfl, ⟨(fun h => by cases h)⟩, rfl⟩
                -- F>
              case rest =>
                obtain ⟨bb, rfl, HBB, rfl⟩ := hcut
                have hn0 : (b.size : Int) - (p : Int) = ((b.size - p : Nat) : Int) := by omega
                go_upto_if 100 with fail
                rw [hn0]
                obtain ⟨n0, hn0e⟩ : ∃ n0, b.size - p = n0 := ⟨_, rfl⟩
                rw [hn0e]
                have HN0 : Aside0 (p + n0 = b.size) := ⟨by omega⟩
                clear hn0 hn0e
                have hn0i : (n0 : Int) ≤ 32768 := by have := HN0.out; omega
                go_cut [16] (fun v16 wd => ∃ m : Nat, v16 = .int .i64 (m : Int) ∧ Aside0 (m ≤ n0 ∧ (bb = false → m = n0)) ∧ wd = wc)
                case first =>
                  -- <F
                  cases bb with
                  | true =>
                    obtain ⟨hl0, hi0⟩ := HBB.out rfl
                    obtain ⟨v, ad, rfl, hv, hc0, hblk⟩ := H1.out.at_ (j % len1) (Nat.mod_lt _ hl0)
                    have hc : wc.cell? (ad.add (j % len1)) = some (.int .u16 (v : Int)) := by rw [HBX.out.cell hblk]; exact hc0
                    have hr1 : Int.tmod (j : Int) (len1 : Int) = ((j % len1 : Nat) : Int) := rfl
                    have hr2 : Int.tmod (v : Int) 5000 = ((v % 5000 : Nat) : Int) := rfl
                    have hml : j % len1 < len1 := Nat.mod_lt _ hl0
                    have hv5 : v % 5000 < 5000 := Nat.mod_lt _ (by decide)
                    obtain ⟨jj, hj⟩ : ∃ jj, j % len1 = jj := ⟨_, rfl⟩
                    obtain ⟨v5, hv5e⟩ : ∃ v5, v % 5000 = v5 := ⟨_, rfl⟩
                    rw [hj] at hr1 hml hc
                    rw [hv5e] at hr2 hv5
                    have hji : (jj : Int) < (len1 : Int) := by omega
                    have hj0 : (0 : Int) ≤ (jj : Int) := by omega
                    have hne : ¬ (len1 : Int) = 0 := by omega
                    clear hj hv5e hc0 hblk hml hi0
                    by_cases hm : v5 < n0
                    · have d1 : decide ((v5 : Int) < (n0 : Int)) = true := decide_eq_true (by omega)
                      go_wp2
                      go_meet
                      case rel => exact ⟨v5, rfl, ⟨Nat.le_of_lt hm, fun h => by cases h⟩, rfl⟩
                    · have d1 : decide ((v5 : Int) < (n0 : Int)) = false := decide_eq_false (by omega)
                      go_wp2
                      go_meet
                      case rel => exact ⟨n0, rfl, ⟨Nat.le_refl _, fun h => by cases h⟩, rfl⟩
                  | false =>
                    go_wp2
                    go_meet
                    case rel => exact ⟨n0, rfl, ⟨Nat.le_refl _, fun _ => rfl⟩, rfl⟩
                  -- F>
                case rest =>
                  obtain ⟨m, rfl, HM, rfl⟩ := hcut
                  have hpm : p + m ≤ b.size := by have := HN0.out; have := HM.out.1; omega
                  obtain ⟨R2, u, hP⟩ := HPW.out p m R HA.out (by rw [← HSZ.out]; exact hpm)
                  have hx1 : b.extract p (p + m) = mkB ((q.drop p).take m) := by
                    rw [HEX.out, List.drop_take, show p + m - p = m by omega]
                  have hfd := HR.out.feed (b.extract p (p + m)) HA.out.made HA.out.fault HA.out.over (R1 := R2) (n := u) (by
                    have h1 := HA.out.text
                    rw [hx1, mkB_size, List.length_take]
                    show R.text.length + _ ≤ _
                    omega) (by rw [hx1, data_mkB]; exact hP.feed)
                  rw [hP.fault] at hfd
                  have hu : u ≤ m := hP.le
                  have hsm := hP.small
                  have hcat : mkB R.data ++ mkB R2.data = mkB (R.data ++ R2.data) := by rw [mkB_append]
                  have hts : (mkB (R.data ++ R2.data)).size ≤ 32768 := by rw [mkB_size]; omega
                  have hss2 := congrArg ByteArray.size hcat
                  rw [ByteArray.size_append] at hss2
                  have hw2 := hP.ways
                  obtain ⟨xb, hxb⟩ : ∃ xb, mkB R.data = xb := ⟨_, rfl⟩
                  obtain ⟨db, hdb⟩ : ∃ db, mkB R2.data = db := ⟨_, rfl⟩
                  obtain ⟨tb, htb⟩ : ∃ tb, mkB (R.data ++ R2.data) = tb := ⟨_, rfl⟩
                  rw [hxb, hdb, htb] at hcat hss2
                  rw [htb] at hts
                  rw [hdb] at hfd
                  rw [hxb]
                  have HW2 := Aside0.mk hw2
                  obtain ⟨dn, hdn⟩ : ∃ dn, (overR R2).over = dn := ⟨_, rfl⟩
                  rw [hdn] at hfd hw2
                  replace htb := Aside0.mk htb
                  replace hfd := Aside0.mk hfd
                  have hpmi : (p : Int) + (m : Int) ≤ (b.size : Int) := by omega
                  have hmi0 : (0 : Int) ≤ (m : Int) := by omega
                  have hpm0 : (p : Int) ≤ (p : Int) + (m : Int) := by omega
                  have hpmN : ((p : Int) + (m : Int)).toNat = p + m := by omega
                  have hui : (u : Int) ≤ (m : Int) := by omega
                  have k0 : decide ((m : Int) < (u : Int)) = false := decide_eq_false (by omega)
                  have k7 : (9223372036854775807 < xb.size + db.size) = False := eq_false (by omega)
                  have HDN := Aside0.mk hdn
                  clear hdb hxb hx1 hsm hdn
                  cases dn with
                  | true =>
                    have hh : p + u = n ∧ R.data ++ R2.data = all := by
                      rcases hw2 with h | h
                      · exact h.2
                      · exact absurd h.1 (by decide)
                    obtain rfl : tb = fb := by rw [← htb.out, hh.2, HALL.out]
                    have k1 : (((p : Int) + (u : Int)) == (n : Int)) = true := beq_iff_eq.2 (by omega)
                    have k2 : (tb.toList == tb.toList) = true := beq_self_eq_true _
                    clear hw2 HW2
                    go_wp2_with (first | (go_at_call 13; (with_reducible refine hfd.out.mono ?_); rintro e w5 ⟨rfl, hr5, hk5⟩; have HB5 := Aside0.mk (below_step HB.out (HBN.out.trans (hk5.below HBN.out.size (fun k hk => hk)))); clear hr5 hk5) | (go_at_call 7; (with_reducible refine (alive_any _ (WG.keep HG.out HB5.out)).mono ?_); rintro e w9 ⟨rfl, hb9⟩; have HB9 := Aside0.mk (below_step HB5.out hb9); clear hb9))
                    go_ret
                    exact ⟨rfl, HB9.out⟩
                  | false =>
                    have hh : u = m ∧ p + m < n ∧ AtW q all n (p + m) (datR R2 (R.data ++ R2.data)) := by
                      rcases hw2 with h | h
                      · exact absurd h.1 (by decide)
                      · exact h.2
                    obtain ⟨rfl, hlt, hAt⟩ := hh
                    have HA9 := Aside0.mk hAt
                    have hbb : bb = true := by
                      cases bb with
                      | true => rfl
                      | false =>
                        exfalso
                        have h1 := HM.out.2 rfl
                        have h2 := HN0.out
                        have h3 := HQN.out
                        have h4 := HSZ.out
                        omega
                    have hjl := (HBB.out hbb).2
                    have q1 : decide ((u : Int) < (u : Int)) = false := decide_eq_false (by omega)
                    have htb' : mkB (datR R2 (R.data ++ R2.data)).data = tb := htb.out
                    have hii : (j : Int) + 1 ≤ 5001 := by omega
                    obtain ⟨g, rfl⟩ : ∃ g, gk = g + 1 := ⟨gk - 1, by omega⟩
                    clear hw2 hbb hAt
                    go_wp2_with (go_at_call 13; (with_reducible refine hfd.out.mono ?_); rintro e w5 ⟨rfl, hr5, hk5⟩; have HR5 := Aside0.mk (hr5.up HBN.out.size); have HB5 := Aside0.mk (HBN.out.trans (hk5.below HBN.out.size (fun k hk => hk))); clear hr5 hk5)
                    have HR9 : Aside0 (Rdr (fun k => W0.heap.size ≤ k) W0.heap.size W0.heap.size w5 (datR (datR R2 (R.data ++ R2.data)) R2.data)) := ⟨by
                      have e1 : datR (datR R2 (R.data ++ R2.data)) R2.data = overR R2 := by
                        have h := HDN.out
                        have ho : R2.over = false := HA9.out.over
                        unfold overR at h ⊢
                        simp only at h
                        rw [h]
                        unfold datR
                        cases R2
                        simp at ho
                        subst ho
                        rfl
                      rw [e1]
                      exact HR5.out⟩
                    go_roundg g
                    case measure => omega
                    case rel => exact ⟨p + u, j + 1, R2.data, datR R2 (R.data ++ R2.data), by rw [htb'], by go_num, by go_num, by omega, HA9, HR9, HB5⟩
theorem portcullislaw20_BodyWhole.walk (P : portcullislaw20_BodyWhole.Pure) (a0 : Option Addr) (len0 cap0 : Nat) (z0 : List ByteArray) (a1 : Option Addr) (len1 cap1 : Nat) (z1 : List Int) (a2 : ByteArray) (w : World) (w0 : RowT w a0 len0 cap0 z0) (y0 : True) (w1 : RowU .u16 w a1 len1 cap1 z1) (y1 : len1 * 2 ≤ 140737488351232) (w2 : a2.size ≤ 140737488351232) (hG : WG w) :
    Calls Tryd.prog 4 #[.slice a0 len0 cap0, .slice a1 len1 cap1, .string a2] w fun e w' => e = .returned (.bool true) ∧ Below w.heap.size w w' := by
  refine whole_main a0 len0 cap0 z0 a1 len1 cap1 z1 a2 w w0 w1 ?_ y1 w2 hG
  rcases w0 with ⟨_, h, _⟩ | ⟨_, _, h1, h2, _⟩
  · omega
  · have e : maxLen ≤ 9223372036854775807 := by decide
    omega
end Go.Proofs.YtllcfifeaacmiaaDoor.Pr
