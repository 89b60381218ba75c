import Derived.Test.YtllcfifeaacmiaaDoorRnw
import Derived.Test.YtllcfifeaacmiaaDoorPrB1
namespace Go.Proofs.YtllcfifeaacmiaaDoor.Pr
open Go.RowKit Go.Proofs.YtllcfifeaacmiaaDoorW.PrintWords Go.Proofs.YtllcfifeaacmiaaDoorW.PrintLast Go.Proofs.YtllcfifeaacmiaaDoorW.PrintMore
set_option linter.unusedVariables false
set_option linter.unusedSimpArgs false

/-! ### alive -/
/-- A reader, with its state. -/
structure Rdr (F : Nat → Prop) (B g : Nat) (W : World) (R : Rm) : Prop where
  ex : ∃ vs vt vd cl, RdC F B g W R vs vt vd cl ∧ StV W vs cl R.st
theorem Rdr.tight {F : Nat → Prop} {B g : Nat} {W : World} {R : Rm} (h : Rdr F B g W R) : Rdr (fun k => F k ∧ k < W.heap.size) B g W R := by
  obtain ⟨vs, vt, vd, cl, h, hs⟩ := h.ex
  refine ⟨vs, vt, vd, cl, ⟨h.blk, ⟨h.gf, h.lt⟩, h.bg, fun k hk => ⟨⟨(h.clf k hk).1, (h.clf k hk).2.2⟩, (h.clf k hk).2⟩, Kd.R_mono (Kd.R_bound h.t) (fun k hk => ⟨⟨hk.1.1, hk.2.2.1⟩, hk.1.2⟩), Kd.R_mono (Kd.R_bound h.d) (fun k hk => ⟨⟨hk.1.1, hk.2.2.1⟩, hk.1.2⟩)⟩, hs⟩
theorem Rdr.far {F G : Nat → Prop} {B g : Nat} {W W1 : World} {R : Rm} (h : Rdr F B g W R) (hk : KW G W W1) (hFG : ∀ k, F k → k < W.heap.size → ¬ G k) : Rdr F B g W1 R := by
  obtain ⟨vs, vt, vd, cl, h, hs⟩ := h.ex
  have hm : ∀ k, F k → k < W.heap.size → W1.heap[k]? = W.heap[k]? := fun k h1 h2 => hk.far k h2 (hFG k h1 h2)
  refine ⟨vs, vt, vd, cl, ⟨(hm g h.gf h.lt).trans h.blk, h.gf, h.bg, fun k hk' => ⟨(h.clf k hk').1, (h.clf k hk').2.1, Nat.lt_of_lt_of_le (h.clf k hk').2.2 hk.size⟩, Kd.R_step h.t (fun k h1 h2 => hm k h1.1 h2), Kd.R_step h.d (fun k h1 h2 => hm k h1.1 h2)⟩, ?_⟩
  exact hs.keep (F := F) (fun k hk' => hm k (h.clf k hk').1 (h.clf k hk').2.2)
theorem Rdr.low {F : Nat → Prop} {B g : Nat} {W W1 : World} {R : Rm} (h : Rdr F B g W R) (hb : Below W.heap.size W W1) : Rdr F B g W1 R := h.far (KW.of_below hb : KW (fun _ => False) W W1) (fun _ _ _ h => h)
theorem Rdr.lt {F : Nat → Prop} {B g : Nat} {W : World} {R : Rm} (h : Rdr F B g W R) : g < W.heap.size := by
  obtain ⟨vs, vt, vd, cl, h, hs⟩ := h.ex
  exact h.lt
theorem Rdr.feed {F : Nat → Prop} {B g : Nat} {W : World} {R : Rm} (h : Rdr F B g W R) (s : ByteArray) (hm : R.made = true) (hf : R.fault = 0) (ho : R.over = false) (hl : R.text.length + s.size ≤ 1000000) {R1 : Rm} {n : Nat} (he : feedL { R with data := [] } s.data.toList = (R1, n)) :
    Calls Tryd.prog 13 #[.pointer (some ⟨g, 0, none⟩), .string s] W fun e W' => e = .returned (.tuple #[.int .i64 (n : Int), .string (mkB R1.data), .bool (overR R1).over, .int .i64 R1.fault]) ∧ Rdr (Fnew F W) B g W' (overR R1) ∧ KW F W W' := by
  obtain ⟨vs, vt, vd, cl, h, hs⟩ := h.ex
  refine (feed_any F B g W R vs vt vd cl s h hs hm hf ho hl).mono ?_
  rw [he]
  rintro e W' ⟨rfl, vs', vt', vd', cl', h1, h2, h3⟩
  exact ⟨rfl, ⟨vs', vt', vd', cl', h1, h2⟩, h3⟩
theorem Rdr.feed_over {F : Nat → Prop} {B g : Nat} {W : World} {R : Rm} (h : Rdr F B g W R) (s : ByteArray) (hm : R.made = true) (hf : R.fault = 0) (ho : R.over = true) :
    Calls Tryd.prog 13 #[.pointer (some ⟨g, 0, none⟩), .string s] W fun e W' => e = .returned (.tuple #[.int .i64 0, .string ⟨#[]⟩, .bool false, .int .i64 3]) ∧ W' = W := by
  obtain ⟨vs, vt, vd, cl, h, hs⟩ := h.ex
  exact Pr.feed_over F B g W R vs vt vd cl s h hm hf ho
theorem Rdr.feed_fault {F : Nat → Prop} {B g : Nat} {W : World} {R : Rm} (h : Rdr F B g W R) (s : ByteArray) (hm : R.made = true) (hf : R.fault ≠ 0) :
    Calls Tryd.prog 13 #[.pointer (some ⟨g, 0, none⟩), .string s] W fun e W' => e = .returned (.tuple #[.int .i64 0, .string ⟨#[]⟩, .bool false, .int .i64 R.fault]) ∧ W' = W.drew := by
  obtain ⟨vs, vt, vd, cl, h, hs⟩ := h.ex
  exact Pr.feed_fault F B g W R vs vt vd cl s h hm hf
theorem Rdr.total {F : Nat → Prop} {B g : Nat} {W : World} {R : Rm} (h : Rdr F B g W R) : Calls Tryd.prog 16 #[.pointer (some ⟨g, 0, none⟩)] W fun e W' => e = .returned (.int .i64 R.total) ∧ W' = W := by
  obtain ⟨vs, vt, vd, cl, h, hs⟩ := h.ex
  exact total_any F B g W R vs vt vd cl h
theorem Rdr.new (kind size : Int) (W : World) (h : newE kind size = 0) : Calls Tryd.prog 12 #[.int .u8 kind, .int .i64 size] W fun e W' => e = .returned (.tuple #[.pointer (some ⟨W.heap.size, 0, none⟩), .int .i64 0]) ∧ Below W.heap.size W W' ∧ Rdr (fun k => W.heap.size ≤ k) W.heap.size W.heap.size W' (newR kind size) := by
  refine (new_any kind size W h).mono ?_
  rintro e W' ⟨he, hb, vs, h1, h2⟩
  exact ⟨he, hb, ⟨vs, _, _, _, h1, h2⟩⟩
def RA1 : Rm := { st := .plain, left := 1, sum := 0, digits := 0, line := 0, fields := 0, text := [], data := [97, 98], total := 2, fault := 0, over := false, made := true }
def RA2 : Rm := { st := .none, left := 0, sum := 0, digits := 0, line := 0, fields := 0, text := [], data := [99], total := 3, fault := 0, over := false, made := true }
def RB1 : Rm := { st := .none, left := 0, sum := 3, digits := 0, line := 0, fields := 0, text := [13, 10], data := [97, 98, 99], total := 3, fault := 0, over := false, made := true }
theorem feedA1 : feedL { newR 1 3 with data := [] } [97, 98] = (RA1, 2) := by kernel_rfl
theorem feedA2 : feedL { overR RA1 with data := [] } [99, 100, 101] = (RA2, 1) := by kernel_rfl
theorem feedB1 : feedL { newR 2 0 with data := [] } [51, 59, 120, 13, 10, 97, 98, 99, 13, 10, 48, 13, 10, 13, 10, 109, 111, 114, 101] = (RB1, 15) := by kernel_rfl
theorem chunk10 : body_Chunk.f ⟨#[48, 49, 50, 51, 52, 53, 54, 55, 56, 57]⟩ = some ⟨#[97, 13, 10, 48, 49, 50, 51, 52, 53, 54, 55, 56, 57, 13, 10]⟩ := by
  have h : strconv_FormatInt_17.f ((⟨#[48, 49, 50, 51, 52, 53, 54, 55, 56, 57]⟩ : ByteArray).size : Int) 16 = some ⟨#[97]⟩ := by
    unfold strconv_FormatInt_17.f
    rw [if_pos (by decide)]
    have : digs 16 ((⟨#[48, 49, 50, 51, 52, 53, 54, 55, 56, 57]⟩ : ByteArray).size : Int).toNat = [97] := digs_small (b := 16) (n := 10) (by decide)
    rw [this]
    rfl
  unfold body_Chunk.f
  have hne : ¬ (⟨#[48, 49, 50, 51, 52, 53, 54, 55, 56, 57]⟩ : ByteArray).toList = [] := by rw [Lib.toList_data]; decide
  rw [if_neg hne, h, Option.bind_some]
  repeat rw [if_pos (by decide)]
  rfl
theorem alive_c3 {F : Nat → Prop} {B g : Nat} {W : World} (h : Rdr F B g W (newR 1 3)) : Calls Tryd.prog 13 #[.pointer (some ⟨g, 0, none⟩), .string ⟨#[97, 98]⟩] W fun e W' => e = .returned (.tuple #[.int .i64 2, .string ⟨#[97, 98]⟩, .bool false, .int .i64 0]) ∧ Rdr (Fnew F W) B g W' (overR RA1) ∧ KW F W W' :=
  h.feed ⟨#[97, 98]⟩ rfl rfl rfl (by decide) feedA1
theorem alive_c4 {F : Nat → Prop} {B g : Nat} {W : World} (h : Rdr F B g W (overR RA1)) : Calls Tryd.prog 13 #[.pointer (some ⟨g, 0, none⟩), .string ⟨#[99, 100, 101]⟩] W fun e W' => e = .returned (.tuple #[.int .i64 1, .string ⟨#[99]⟩, .bool true, .int .i64 0]) ∧ Rdr (Fnew F W) B g W' (overR RA2) ∧ KW F W W' :=
  h.feed ⟨#[99, 100, 101]⟩ rfl rfl rfl (by decide) feedA2
theorem alive_c5 {F : Nat → Prop} {B g : Nat} {W : World} (h : Rdr F B g W (overR RA2)) : Calls Tryd.prog 13 #[.pointer (some ⟨g, 0, none⟩), .string ⟨#[120]⟩] W fun e W' => e = .returned (.tuple #[.int .i64 0, .string ⟨#[]⟩, .bool false, .int .i64 3]) ∧ W' = W :=
  h.feed_over ⟨#[120]⟩ rfl rfl rfl
theorem alive_c6 {F : Nat → Prop} {B g : Nat} {W : World} (h : Rdr F B g W (newR 2 0)) : Calls Tryd.prog 13 #[.pointer (some ⟨g, 0, none⟩), .string ⟨#[51, 59, 120, 13, 10, 97, 98, 99, 13, 10, 48, 13, 10, 13, 10, 109, 111, 114, 101]⟩] W fun e W' => e = .returned (.tuple #[.int .i64 15, .string ⟨#[97, 98, 99]⟩, .bool true, .int .i64 0]) ∧ Rdr (Fnew F W) B g W' (overR RB1) ∧ KW F W W' :=
  h.feed ⟨#[51, 59, 120, 13, 10, 97, 98, 99, 13, 10, 48, 13, 10, 13, 10, 109, 111, 114, 101]⟩ rfl rfl rfl (by decide) feedB1
set_option maxRecDepth 100000 in
set_option maxHeartbeats 4000000 in
theorem alive_any (w : World) (hG : WG w) : Calls Tryd.prog 7 #[] w fun e w' => e = .returned (.bool true) ∧ Below w.heap.size w w' := by
  have HG := Aside0.mk hG
  clear hG
  go_enter Tryd.func7, Tryd.ntmps7
  go_wp2_with (first
    | (go_at_call 12; (with_reducible refine (Rdr.new 1 3 _ rfl).mono ?_); rintro e w1 ⟨rfl, hb1, ha⟩; have HB1 := Aside0.mk hb1; have HA1 := Aside0.mk ha.tight; clear hb1 ha)
    | (go_at_call 12; (with_reducible refine (Rdr.new 2 0 _ rfl).mono ?_); rintro e w2 ⟨rfl, hb2, hb⟩; have HB2 := Aside0.mk (below_step HB1.out hb2); have HS1 : Aside0 (w.heap.size ≤ w1.heap.size ∧ w1.heap.size ≤ w2.heap.size) := ⟨⟨HB1.out.size, hb2.size⟩⟩; have HA2 := Aside0.mk (HA1.out.low hb2); have HR2 := Aside0.mk hb.tight; clear hb2 hb)
    | (go_at_call 13; (with_reducible refine (alive_c3 HA2.out).mono ?_); rintro e w3 ⟨rfl, ha, hk⟩; have HA3 := Aside0.mk ha; have HB3 := Aside0.mk (HB2.out.trans (hk.below (by have := HS1.out; omega) (fun k hk => hk.1))); have HR3 := Aside0.mk (HR2.out.far hk (fun k h1 h2 h3 => by have := h1.1; have := h3.2; omega)); clear ha hk)
    | (go_at_call 13; (with_reducible refine (alive_c4 HA3.out).mono ?_); rintro e w4 ⟨rfl, ha, hk⟩; have HA4 := Aside0.mk ha; have HB4 := Aside0.mk (HB3.out.trans (hk.below HB3.out.size (fun k hk => by rcases hk with hk | hk; exact hk.1; have := HS1.out; omega))); have HR4 := Aside0.mk (HR3.out.far hk (fun k h1 h2 h3 => by have := h1.1; have := h1.2; rcases h3 with h3 | h3; have := h3.2; omega; omega)); clear ha hk)
    | (go_at_call 13; (with_reducible refine (alive_c5 HA4.out).mono ?_); rintro e w5 ⟨rfl, rfl⟩)
    | (go_at_call 13; (with_reducible refine (alive_c6 HR4.out).mono ?_); rintro e w6 ⟨rfl, ha, hk⟩; have HB6 := Aside0.mk (HB4.out.trans (hk.below HB4.out.size (fun k hk => by have := hk.1; have := HS1.out; omega))); clear ha hk)
    | (go_at_call 8; (with_reducible refine (body_Chunk.calls _ _ _ chunk10 (WG.keep HG.out HB6.out)).mono ?_); rintro e w7 ⟨rfl, hb⟩; have HB7 := Aside0.mk (below_step HB6.out hb); clear hb)
    | (go_at_call 10; (with_reducible refine (body_Last.calls _ _ rfl).mono ?_); rintro e w8 ⟨rfl, ⟨nd, rfl⟩⟩))
  go_ret
  exact ⟨rfl, by apply pw_below_drewN; exact HB7.out⟩
def portcullislaw20_alive.f : Option Bool := some true
theorem portcullislaw20_alive.calls (r : Bool) (w : World) (h : portcullislaw20_alive.f = some r) (hG : WG w) : Calls Tryd.prog 7 #[] w fun e w' => e = .returned (.bool r) ∧ Below w.heap.size w w' := by
  obtain rfl := Option.some.inj h
  exact alive_any w hG
end Go.Proofs.YtllcfifeaacmiaaDoor.Pr
