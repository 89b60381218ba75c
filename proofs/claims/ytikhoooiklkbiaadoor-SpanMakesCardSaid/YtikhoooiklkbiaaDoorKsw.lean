import Derived.Test.YtikhoooiklkbiaaDoorKsrt
import Derived.Test.YtikhoooiklkbiaaDoorGswp
import Derived.Deep.RegionHeldLaw
namespace Go.Proofs.YtikhoooiklkbiaaDoor.Pr
open Go.RowKit Go.Proofs.YtikhoooiklkbiaaDoorW.PrintWords Go.Proofs.YtikhoooiklkbiaaDoorW.PrintLast Go.Proofs.YtikhoooiklkbiaaDoorW.PrintMore
set_option linter.unusedVariables false
set_option linter.unusedSimpArgs false

/-! ### The sweep -/
set_option maxHeartbeats 1000000 in
theorem or_any (b : Nat) (x y : Int) (W : World) (h0 : W.cell? ⟨b, 0, none⟩ = some (.int .i64 x)) (h1 : W.cell? ⟨b, 1, none⟩ = some (.int .i64 y)) :
    Calls Tryd.prog 46 #[.slice (some ⟨b, 0, none⟩) 2 2] W fun e w' => e = .returned (.int .i64 (if x ≠ 0 then x else y)) ∧ Drawn0 W w' := by
  obtain ⟨r, hr⟩ : ∃ r, r = (if x ≠ 0 then x else y) := ⟨_, rfl⟩
  rw [← hr]
  replace hr := Aside0.mk hr
  go_enter Tryd.func46, Tryd.ntmps46
  go_wp2_with fail
  go_loopw [8] (fun v8 wi => wi = W ∧ ∃ i : Nat, v8 = .int .i64 (i : Int) ∧ i ≤ 2 ∧ (0 < i → x = 0) ∧ (1 < i → y = 0)) (fun v8 _ => 2 - (intOf v8).toNat)
  case atStart => exact ⟨rfl, 0, rfl, by omega, by omega, by omega⟩
  case round =>
    obtain ⟨rfl, i, rfl, hi, hx, hy⟩ := hrel
    rcases (by omega : i = 0 ∨ i = 1 ∨ i = 2) with rfl | rfl | rfl
    · clear hy
      by_cases hx0 : x = 0
      · subst hx0
        go_wp2_with fail
        exact ⟨⟨by trivial, 1, rfl, by omega, by simp, by simp⟩, by simp [intOf]⟩
      · have e1 : (x == 0) = false := beq_eq_false_iff_ne.2 hx0
        have e2 : (x != 0) = true := bne_iff_ne.2 hx0
        have HN := Aside0.mk hx0
        clear hx hx0
        go_wp2_with fail
        go_ret
        exact ⟨by rw [hr.out, if_pos HN.out]; rfl, Drawn0.refl _⟩
    · have hx0 := hx (by omega)
      subst hx0
      clear hx hy
      by_cases hy0 : y = 0
      · subst hy0
        go_wp2_with fail
        exact ⟨⟨by trivial, 2, rfl, by omega, by simp, by simp⟩, by simp [intOf]⟩
      · have e1 : (y == 0) = false := beq_eq_false_iff_ne.2 hy0
        have e2 : (y != 0) = true := bne_iff_ne.2 hy0
        have HN := Aside0.mk hy0
        clear hy0
        go_wp2_with fail
        go_ret
        exact ⟨by rw [hr.out, if_neg (by simp)]; rfl, Drawn0.refl _⟩
    · have hx0 := hx (by omega)
      have hy0 := hy (by omega)
      subst hx0 hy0
      clear hx hy
      go_wp2_with fail
      go_ret
      exact ⟨by rw [hr.out, if_neg (by simp)]; rfl, Drawn0.refl _⟩

structure SwW (w W : World) (gi gl : Nat) (E : List Ed) (i0 i1 : Int) (v : Value) (out : List Sp) : Prop where
  ls : Kd.C k68 W (some ⟨gl, 0, none⟩) E.length E
  ltl : gl < gi
  lti : gi < W.heap.size
  ib : W.heap[gi]? = some (.cells #[.int .i64 i0, .int .i64 i1] 72 (0, 0))
  rw : Kd.R k37 37 W (gi + 1) (fun _ => True) v out
  bel : Below w.heap.size w W
  wgi : w.heap.size ≤ gi
theorem SwW.start {w W : World} {gl : Nat} {E : List Ed} (h : Kd.C k68 W (some ⟨gl, 0, none⟩) E.length E) (hl : gl < W.heap.size) (hb : Below w.heap.size w W) : SwW w (W.alloc (.cells #[.int .i64 0, .int .i64 0] 72)) W.heap.size gl E 0 0 (.slice none 0 0) [] :=
  ⟨Kd.C_alloc h _, hl, by simp, heap_alloc_new _ _, Kd.R_nil _ _ _ _ _, below_alloc hb _, hb.size⟩
theorem SwW.at_ {w W : World} {gi gl : Nat} {E : List Ed} {i0 i1 : Int} {v : Value} {out : List Sp} (h : SwW w W gi gl E i0 i1 v out) {i : Nat} {x : Ed} (hx : E[i]? = some x) :
    W.cell? ⟨gl, i * 3, none⟩ = some (.int .i32 x.f0) ∧ W.cell? ⟨gl, i * 3 + 1, none⟩ = some (.int .i64 x.f1) ∧ W.cell? ⟨gl, i * 3 + 2, none⟩ = some (.int .i64 x.f2) := by
  have hi : i < E.length := (List.getElem?_eq_some_iff.1 hx).1
  obtain ⟨ad, he, h0, h1, h2⟩ := at_T68 h.ls (i : Int) (by omega) (by omega)
  obtain rfl := Option.some.inj he
  have hr : rd_T68 E (i : Int) = x := by
    unfold rd_T68
    rw [Int.toNat_natCast, List.getD_eq_getElem?_getD, hx]
    rfl
  rw [hr, Int.toNat_natCast] at h0 h1 h2
  have he : Addr.add ⟨gl, 0, none⟩ (i * 3) = ⟨gl, i * 3, none⟩ := by unfold Addr.add; simp; intro h; omega
  rw [he] at h0 h1 h2
  exact ⟨h0, h1, h2⟩
theorem SwW.box {w W : World} {gi gl : Nat} {E : List Ed} {i0 i1 : Int} {v : Value} {out : List Sp} (h : SwW w W gi gl E i0 i1 v out) (p d st : Int) :
    ∃ gx W1, W.heap.size = gx ∧ W.alloc (.cells #[.int .i32 p, .int .i64 d, .int .i64 st] 68) = W1 ∧ W1.heap[gx]? = some (.cells #[.int .i32 p, .int .i64 d, .int .i64 st] 68 (0, 0)) ∧ SwW w W1 gi gl E i0 i1 v out ∧ gi < gx :=
  ⟨_, _, rfl, rfl, blk_new _ _, ⟨Kd.C_alloc h.ls _, h.ltl, Nat.lt_of_lt_of_le h.lti (by simp), blk_alloc h.ib _, Kd.R_alloc h.rw _, below_alloc h.bel _, h.wgi⟩, h.lti⟩
theorem w64a (x d : Int) (hx : -10000 ≤ x ∧ x ≤ 10000) (hd : -1 ≤ d ∧ d ≤ 1) : IntKind.i64.wrap (x + d) = x + d := by
  rw [i64_w, IntWalk.wrap64_in _ (by omega)]
theorem c68_keep {W W1 : World} {gl n : Nat} {E : List Ed} (h : Kd.C k68 W (some ⟨gl, 0, none⟩) n E) (hb : W1.heap[gl]? = W.heap[gl]?) : Kd.C k68 W1 (some ⟨gl, 0, none⟩) n E := by
  refine ⟨h.1, h.2.1, fun hn => ?_⟩
  obtain ⟨ad, e, hc⟩ := h.2.2 hn
  refine ⟨ad, e, fun j p hp => ?_⟩
  obtain ⟨c, hl, hk, hcell⟩ := hc j p hp
  obtain rfl := k68_open hk
  refine ⟨_, hl, k68_mk _ _, fun i u hu => ?_⟩
  rw [← hcell i u hu]
  obtain rfl := Option.some.inj e
  refine World.cell?_of_block ?_
  have : (Addr.add ⟨gl, 0, none⟩ (j * k68.sz + i)).block = gl := by unfold Addr.add; split <;> rfl
  rw [this]
  exact hb
theorem SwW.move {w W W1 : World} {gi gl : Nat} {E : List Ed} {i0 i1 : Int} {v v1 : Value} {out out1 : List Sp} (h : SwW w W gi gl E i0 i1 v out) (hl : W1.heap[gl]? = W.heap[gl]?) (hi : W1.heap[gi]? = W.heap[gi]?) (hs : gi < W1.heap.size) (hr : Kd.R k37 37 W1 (gi + 1) (fun _ => True) v1 out1) (hb : Below w.heap.size w W1) : SwW w W1 gi gl E i0 i1 v1 out1 :=
  ⟨c68_keep h.ls hl, h.ltl, hs, hi.trans h.ib, hr, hb, h.wgi⟩
theorem SwW.drewN {w W : World} {gi gl : Nat} {E : List Ed} {i0 i1 : Int} {v : Value} {out : List Sp} (h : SwW w W gi gl E i0 i1 v out) (m : Nat) : SwW w (W.drewN m) gi gl E i0 i1 v out :=
  h.move rfl rfl h.lti (Kd.R_drewN h.rw m) (pw_below_drewN h.bel m)
theorem stepS {w W : World} {gi gl gx : Nat} {E : List Ed} {i0 i1 : Int} {v : Value} {out : List Sp} {o : Obj} (h : SwW w W gi gl E i0 i1 v out) (hx : W.heap[gx]? = some o) (hlt : gi < gx) (c : Nat) (j j0 j1 : Int) (hc : (#[Value.int .i64 i0, Value.int .i64 i1]).setIfInBounds c (.int .i64 j) = #[.int .i64 j0, .int .i64 j1]) :
    ∃ W2, (W.setCell ⟨gi, c, none⟩ (.int .i64 j)).drew = W2 ∧ SwW w W2 gi gl E j0 j1 v out ∧ W2.heap[gx]? = some o := by
  refine ⟨_, rfl, ⟨c68_keep h.ls ?_, h.ltl, by simpa using h.lti, blk_drew (blk_put h.ib c _ hc), Kd.R_drew (Kd.R_mono (Kd.R_far (Kd.R_bound h.rw) ?_ _) (fun _ _ => trivial)), below_drew (below_set h.bel h.wgi), h.wgi⟩, ?_⟩
  · exact Below.heap_setCell W ⟨gi, c, none⟩ _ gl (by have := h.ltl; show gl ≠ gi; omega)
  · intro k hk
    have := hk.2.1
    show k ≠ gi
    omega
  · exact (Below.heap_setCell W ⟨gi, c, none⟩ _ gx (show gx ≠ gi by omega)).trans hx
theorem step0 {w W : World} {gi gl gx : Nat} {E : List Ed} {i0 i1 : Int} {v : Value} {out : List Sp} {o : Obj} (h : SwW w W gi gl E i0 i1 v out) (hx : W.heap[gx]? = some o) (hlt : gi < gx) (p d : Int) :
    ∃ j0 j1 W2, (W.setCell ⟨gi, 0, none⟩ (.int .i64 (i0 + d))).drew = W2 ∧ SwW w W2 gi gl E j0 j1 v out ∧ W2.heap[gx]? = some o ∧ j0 = stepI 0 ⟨p, d, 0⟩ i0 ∧ j1 = stepI 1 ⟨p, d, 0⟩ i1 := by
  obtain ⟨W2, e, h1, h2⟩ := stepS h hx hlt 0 (i0 + d) (i0 + d) i1 rfl
  exact ⟨_, _, W2, e, h1, h2, rfl, rfl⟩
theorem step1 {w W : World} {gi gl gx : Nat} {E : List Ed} {i0 i1 : Int} {v : Value} {out : List Sp} {o : Obj} (h : SwW w W gi gl E i0 i1 v out) (hx : W.heap[gx]? = some o) (hlt : gi < gx) (p d : Int) :
    ∃ j0 j1 W2, (W.setCell ⟨gi, 1, none⟩ (.int .i64 (i1 + d))).drew = W2 ∧ SwW w W2 gi gl E j0 j1 v out ∧ W2.heap[gx]? = some o ∧ j0 = stepI 0 ⟨p, d, 1⟩ i0 ∧ j1 = stepI 1 ⟨p, d, 1⟩ i1 := by
  obtain ⟨W2, e, h1, h2⟩ := stepS h hx hlt 1 (i1 + d) i0 (i1 + d) rfl
  exact ⟨_, _, W2, e, h1, h2, rfl, rfl⟩
theorem stepN {w W : World} {gi gl gx : Nat} {E : List Ed} {i0 i1 : Int} {v : Value} {out : List Sp} {o : Obj} (h : SwW w W gi gl E i0 i1 v out) (hx : W.heap[gx]? = some o) (hlt : gi < gx) (n : Nat) (hn : n < 2) (p d iv : Int) (hiv : iv = if n = 0 then i0 else i1) :
    ∃ j0 j1 W2, (W.setCell ⟨gi, n, none⟩ (.int .i64 (iv + d))).drew = W2 ∧ SwW w W2 gi gl E j0 j1 v out ∧ W2.heap[gx]? = some o ∧ j0 = stepI 0 ⟨p, d, n⟩ i0 ∧ j1 = stepI 1 ⟨p, d, n⟩ i1 := by
  subst hiv
  rcases (by omega : n = 0 ∨ n = 1) with rfl | rfl
  · exact step0 h hx hlt p d
  · exact step1 h hx hlt p d
theorem SwW.drew {w W : World} {gi gl : Nat} {E : List Ed} {i0 i1 : Int} {v : Value} {out : List Sp} (h : SwW w W gi gl E i0 i1 v out) : SwW w W.drew gi gl E i0 i1 v out :=
  h.move rfl rfl h.lti (Kd.R_drew h.rw) (below_drew h.bel)
theorem out_last {W : World} {base : Nat} {v : Value} {o : List Sp} {s : Sp} (h : Kd.R k37 37 W base (fun _ => True) v (o ++ [s])) :
    ∃ go co, v = .slice (some ⟨go, 0, none⟩) (o.length + 1) co ∧ base ≤ go ∧ go < W.heap.size ∧ W.cell? ⟨go, o.length * 2 + 1, none⟩ = some (.int .i32 s.f1) ∧ W.frozen? ⟨go, o.length * 2 + 1, none⟩ = false ∧
      ∀ q, Kd.R k37 37 (W.setCell ⟨go, o.length * 2 + 1, none⟩ (.int .i32 q)) base (fun _ => True) v (o ++ [⟨s.f0, q⟩]) := by
  have hl : (o ++ [s]).length = o.length + 1 := by simp
  obtain ⟨go, co, rfl, hb, hlt, _⟩ := Kd.R_form h (by omega)
  rw [hl] at h ⊢
  have hget : (o ++ [s]).getD ((o.length : Int)).toNat z37 = s := by
    rw [Int.toNat_natCast, List.getD_eq_getElem?_getD, List.getElem?_append_right (Nat.le_refl _)]
    simp
  obtain ⟨c, hcl, hM, hcc, hfr⟩ := Kd.R_elem h z37 ((o.length : Nat) : Int) (Int.natCast_nonneg _) (by omega)
  rw [hget] at hM
  obtain rfl := k37_openM hM
  have hc1 := hcc 1 (.int .i32 s.f1) rfl
  have hf1 := hfr 1
  have hsz : k37.sz = 2 := rfl
  rw [hsz, Int.toNat_natCast] at hc1 hf1
  refine ⟨go, co, rfl, hb, hlt, hc1, hf1, fun q => ?_⟩
  have HP := (Kd.R_seg h ((o.length : Nat) : Int) (Int.natCast_nonneg _) (by omega) (seg := [.int .i32 q]) (j := 1) hcl hcc (show 2 ≤ 2 from by decide) (x' := (⟨s.f0, q⟩ : Sp)) (k37_mkM _ _ _ (⟨s.f0, q⟩ : Sp)) (fun _ hk => hk)).1
  rw [hsz, Int.toNat_natCast] at HP
  have e : (o ++ [s]).set o.length (⟨s.f0, q⟩ : Sp) = o ++ [⟨s.f0, q⟩] := by rw [List.set_append_right _ _ (Nat.le_refl _)]; simp
  rw [e] at HP
  exact HP
theorem SwW.stored {w W : World} {gi gl go l co : Nat} {E : List Ed} {i0 i1 : Int} {out out1 : List Sp} (h : SwW w W gi gl E i0 i1 (.slice (some ⟨go, 0, none⟩) (l + 1) co) out) (hb : gi + 1 ≤ go) (c : Nat) (u : Value)
    (hr : Kd.R k37 37 (W.setCell ⟨go, c, none⟩ u) (gi + 1) (fun _ => True) (.slice (some ⟨go, 0, none⟩) (l + 1) co) out1) : SwW w (W.setCell ⟨go, c, none⟩ u) gi gl E i0 i1 (.slice (some ⟨go, 0, none⟩) (l + 1) co) out1 :=
  h.move (Below.heap_setCell W ⟨go, c, none⟩ _ gl (by have := h.ltl; show gl ≠ go; omega)) (Below.heap_setCell W ⟨go, c, none⟩ _ gi (by show gi ≠ go; omega)) (by have := h.lti; simpa using this) hr (below_set h.bel (by have := h.wgi; show w.heap.size ≤ go; omega))
theorem cell_there {w : World} {a : Addr} {v : Value} (h : w.cell? a = some v) : (w.drew.cell? a).isSome = true := by show (w.cell? a).isSome = true; rw [h]; rfl
theorem cellB {w w2 : World} {ad : Addr} {v : Value} (h : w.cell? ad = some v) (hb : Below w.heap.size w w2) : w2.cell? ad = some v := by
  rw [← h]
  unfold World.cell?
  rw [hb.block _ (World.block_lt_of_cell? _ _ h)]
theorem cellG {W w1 : World} {row : Option Nat} {g c : Nat} {u : Value} (h : W.cell? ⟨g, c, none⟩ = some u) (hg : W.grownBy w1 row) (hne : some g ≠ row) : w1.cell? ⟨g, c, none⟩ = some u := by
  rw [← h]
  exact World.cell?_of_block (hg.block g (World.block_lt_of_cell? _ _ h) hne)
theorem SwW.appended {w W w1 : World} {gi gl : Nat} {E : List Ed} {i0 i1 : Int} {v v1 : Value} {out out1 : List Sp} (h : SwW w W gi gl E i0 i1 v out) (hb : Below (gi + 1) W w1) (hr : Kd.R k37 37 w1 (gi + 1) (fun _ => True) v1 out1) : SwW w w1 gi gl E i0 i1 v1 out1 :=
  h.move (hb.block gl (by have := h.ltl; omega)) (hb.block gi (by omega)) (Nat.lt_of_lt_of_le h.lti hb.size) hr (h.bel.trans (hb.mono (by have := h.wgi; omega)))
theorem SwW.ownLt {w W : World} {gi gl : Nat} {E : List Ed} {i0 i1 : Int} {v : Value} {out : List Sp} (h : SwW w W gi gl E i0 i1 v out) {g : Nat} (hg : g ≤ gi) : some g ≠ v.ownBlock := by
  intro e
  obtain ⟨inner, ho⟩ := Kd.R_own h.rw
  have := own_base ho g e.symm
  omega
theorem fst_is (k : Nat) (a : List Sp) (w : World) (A0 : Option Addr) (c0 : Nat) (hr0 : Kd.C k37 w A0 a.length a) (hc0 : a.length ≤ c0) (hl : a.length ≤ 100000) :
    Calls Tryd.prog 17 #[.slice A0 a.length c0] w fun e w' => e = .returned (.int .i64 (chk a)) ∧ Below w.heap.size w w' := by
  obtain ⟨K, hK⟩ := scheck_is a hl
  exact span_Check.calls K A0 c0 a _ w hr0 hc0 (hK K (Nat.le_refl _))
theorem heap37 : Kd.Heap k37 := Kd.heap_iso _ (Kd.heap_pair (Kd.heap_int _) (Kd.heap_int _))
theorem two_row (W : World) : Kd.C k68 (W.alloc (.cells #[.int .i32 0, .int .i64 0, .int .i64 0, .int .i32 1114112, .int .i64 0, .int .i64 0] 68)) (some ⟨W.heap.size, 0, none⟩) 2 [⟨0, 0, 0⟩, ⟨1114112, 0, 0⟩] := by
  refine ⟨rfl, by decide, fun _ => ⟨_, rfl, fun j p hp => ⟨encE p, rfl, k68_mk _ _, fun i u hu => ?_⟩⟩⟩
  have hj : j < 2 := (List.getElem?_eq_some_iff.1 hp).1
  have hi : i < 3 := (List.getElem?_eq_some_iff.1 hu).1
  have he : Addr.add ⟨W.heap.size, 0, none⟩ (j * 3 + i) = ⟨W.heap.size, j * 3 + i, none⟩ := by unfold Addr.add; simp; intro h1 h2; omega
  show World.cell? _ (Addr.add _ (j * 3 + i)) = _
  rw [he, World.cell?_alloc_new]
  rcases (by omega : j = 0 ∨ j = 1) with rfl | rfl <;> rcases (by omega : i = 0 ∨ i = 1 ∨ i = 2) with rfl | rfl | rfl <;> (cases hp; cases hu; rfl)
theorem edg_one (k : Nat) (a : List Sp) (r : List Ed) (w W : World) (A : Option Addr) (n : Nat) (hr : Kd.C k37 w A a.length a) (hn : a.length ≤ n) (hB : Below w.heap.size w W) (h : span_edges_int.f k [] 0 a = some r) :
    Calls Tryd.prog 47 #[.slice none 0 0, .int .i64 0, .slice A a.length n] W fun e w' => ∃ v, e = .returned v ∧ Kd.R k68 68 w' w.heap.size (fun _ => True) v r ∧ Below w.heap.size w w' := by
  refine (span_edges_int.calls k (fun _ => False) (.slice none 0 0) [] 0 A n a r w W hB (Kd.R_nil _ _ _ _ _) (Kd.C_kept_came heap37 hr hB (fun _ h => h.elim)) hn h).mono ?_
  rintro e w' ⟨v, rfl, hR, hb, _⟩
  exact ⟨v, rfl, Kd.R_mono hR (fun _ _ => trivial), hb⟩
theorem edg_two (k : Nat) (a : List Sp) (r r0 : List Ed) (v : Value) (w W : World) (A : Option Addr) (n : Nat) (hr : Kd.C k37 w A a.length a) (hn : a.length ≤ n) (hB : Below w.heap.size w W) (hR : Kd.R k68 68 W w.heap.size (fun _ => True) v r0) (h : span_edges_int.f k r0 1 a = some r) :
    Calls Tryd.prog 47 #[v, .int .i64 1, .slice A a.length n] W fun e w' => ∃ v, e = .returned v ∧ Kd.R k68 68 w' w.heap.size (fun _ => True) v r ∧ Below w.heap.size w w' := by
  refine (span_edges_int.calls k (fun k => w.heap.size ≤ k) v r0 1 A n a r w W hB (Kd.R_mono (Kd.R_bound hR) (fun _ hk => hk.2.1)) (Kd.C_kept_came heap37 hr hB (fun _ h => h)) hn h).mono ?_
  rintro e w' ⟨v, rfl, hR, hb, _⟩
  exact ⟨v, rfl, Kd.R_mono hR (fun _ _ => trivial), hb⟩
set_option maxRecDepth 8000 in
set_option maxHeartbeats 4000000 in
theorem sweep_any (c2 : Bool → Bool → Bool) (g : Nat) (hcl : ∀ x y W, Calls Tryd.prog g #[.bool x, .bool y] W fun e w' => e = .returned (.bool (c2 x y)) ∧ w' = W) (eg : ∀ xs W, (callFunc g xs).run Tryd.prog W = .ok (.enter g xs) W)
    (A0 : Option Addr) (n0 : Nat) (a : List Sp) (A1 : Option Addr) (n1 : Nat) (b : List Sp) (w : World) (hr0 : Kd.C k37 w A0 a.length a) (hc0 : a.length ≤ n0) (hr1 : Kd.C k37 w A1 b.length b) (hc1 : b.length ≤ n1) (la : a.length ≤ 100000) (lb : b.length ≤ 100000) :
    Calls Tryd.prog 34 #[.slice A0 a.length n0, .slice A1 b.length n1, .func (.func g) #[] #[]] w fun e w' => ∃ v0_ : Value, e = .returned (.tuple #[v0_, .int .i64 (madeR c2 a b).2]) ∧ Kd.R k37 37 w' w.heap.size (fun _ => True) v0_ (madeR c2 a b).1 ∧ Below w.heap.size w w' := by
  have HR := Aside0.mk hr0
  have HR1 := Aside0.mk hr1
  have HC0 := Aside0.mk (fst_is 0 a w A0 n0 hr0 hc0 la)
  have HC1 := Aside0.mk (fun W (h : Below w.heap.size w W) => fst_is 0 b W A1 n1 (Kd.C_below hr1 h) hc1 lb)
  have HN0 := Aside0.mk hc0
  have HN1 := Aside0.mk hc1
  clear hr0 hr1 hc0 hc1
  have hor := fun W (h : Below w.heap.size w W) => or_any W.heap.size (chk a) (chk b) (W.alloc (.cells #[.int .i64 (chk a), .int .i64 (chk b)] 25)) (by rw [World.cell?_alloc_new]; rfl) (by rw [World.cell?_alloc_new]; rfl)
  obtain ⟨er, her⟩ : ∃ er, er = (if chk a ≠ 0 then chk a else chk b) := ⟨_, rfl⟩
  rw [← her] at hor
  replace hor := Aside0.mk hor
  by_cases h1 : er = 0
  · have hca : chk a = 0 := by
      by_cases h : chk a = 0
      · exact h
      · rw [if_pos h] at her; exact absurd (her.symm.trans h1) h
    have hcb : chk b = 0 := by
      rw [if_neg (by simp [hca])] at her
      exact her.symm.trans h1
    subst h1
    obtain ⟨ha1, ha2⟩ := chk_ok hca
    obtain ⟨hb1, hb2⟩ := chk_ok hcb
    have HM : Aside0 (madeR c2 a b = finM (madeF c2 a b)) := ⟨by unfold madeR; rw [if_neg (by simp [hca]), if_neg (by simp [hcb])]⟩
    rw [HM.out]
    obtain ⟨K1, hK1⟩ := edg_is 0 [] a ha2 (by omega) (by simp)
    obtain ⟨K2, hK2⟩ := edg_is 1 ([] ++ edgesOf 0 a) b hb2 (by omega) (by rw [List.nil_append, edgesOf_len]; omega)
    have HE1 := Aside0.mk (hK1 K1 (Nat.le_refl _))
    have HE2 := Aside0.mk (hK2 K2 (Nat.le_refl _))
    clear hK1 hK2 her la lb hca hcb
    have HL : Aside0 (([] ++ edgesOf 0 a ++ edgesOf 1 b).length ≤ 10000) := ⟨by rw [List.nil_append, List.length_append, edgesOf_len, edgesOf_len]; omega⟩
    have HC2 := Aside0.mk (fun W (h : Below w.heap.size w W) => edg_one K1 a _ w W A0 n0 HR.out HN0.out h HE1.out)
    have HC3 := Aside0.mk (fun W v (h : Below w.heap.size w W) (hR : Kd.R k68 68 W w.heap.size (fun _ => True) v ([] ++ edgesOf 0 a)) => edg_two K2 b _ _ v w W A1 n1 HR1.out HN1.out h hR HE2.out)
    go_enter Tryd.func34, Tryd.ntmps34
    go_upto_region 4 with (first | (go_at_call 17; with_reducible refine HC0.out.mono ?_; rintro e w1 ⟨rfl, hbb⟩; have HB := Aside0.mk hbb; clear hbb) | (go_at_call 17; with_reducible refine (HC1.out _ HB.out).mono ?_; rintro e w2 ⟨rfl, hbb⟩; replace HB := Aside0.mk (below_step HB.out hbb); clear hbb) | (go_at_call 46; with_reducible refine (hor.out _ HB.out).mono ?_; rintro e w3 ⟨rfl, hbb⟩; replace HB := Aside0.mk (below_step (below_alloc HB.out _) hbb.below); clear hbb))
    go_upto_region 6 with (first | (go_at_call 47; with_reducible refine (HC2.out _ HB.out).mono ?_; rintro e w4 ⟨v4, rfl, hrr, hbb⟩; replace HB := Aside0.mk hbb; have HO := Aside0.mk hrr; clear hbb hrr HC2) | (go_at_call 47; with_reducible refine (HC3.out _ _ HB.out HO.out).mono ?_; rintro e w5 ⟨v5, rfl, hrr, hbb⟩; replace HB := Aside0.mk hbb; replace HO := Aside0.mk hrr; clear hbb hrr HC3) | ((with_reducible refine gate_builtin (b := .append) (xs := #[.tmp 28, .tmp 31]) rfl ?_); at_builtin; refine Kd.R_append_rows k68 (w0 := w) w.heap.size rfl (.tmp 28) (.tmp 31) 65 68 (.agg #[(.int .i32 0), (.int .i64 0), (.int .i64 0)]) 24 rfl Tryd.underlying65 info68 rfl (by decide) (by omega) v5 ([] ++ edgesOf 0 a ++ edgesOf 1 b) [⟨0, 0, 0⟩, ⟨1114112, 0, 0⟩] _ _ _ (fun _ => True) (fun _ => False) rfl rfl ?aO ?aR (fun _ _ h => h) (fun _ h => h.elim) (fun _ _ => trivial) ?aB ?aS ?aL ?_; (case aR => exact two_row _); (case aB => exact below_alloc HB.out _); (case aO => exact Kd.R_alloc HO.out _); (case aS => exact below_size (below_alloc HB.out _)); (case aL => have := HL.out; omega); intro v6 w6 ho hbb hg hat; replace HB := Aside0.mk hbb; have HA := Aside0.mk ho; clear hg hat hbb ho HO))
    obtain ⟨gl, cl, rfl, hsort⟩ := sort_any (show Kd.R k68 68 w6 w.heap.size (fun _ => True) v6 (allE a b) from HA.out) (by rw [allE_len]; omega) HB.out (by rw [allE_len]; omega)
    obtain ⟨n, hn⟩ : ∃ n, (allE a b).length = n := ⟨_, rfl⟩
    rw [hn] at hsort ⊢
    have hlenE : Aside0 (n ≤ 10000) := ⟨by rw [← hn, allE_len]; omega⟩
    have hlenF : Aside0 (1 < n) := ⟨by rw [← hn, allE_len]; omega⟩
    replace hn := Aside0.mk hn
    replace hsort := Aside0.mk hsort
    have hma := allE_mem a b ha2 hb2
    clear HA HL HE1 HE2 hor HC0 HC1 HN0 HN1 HR HR1
    go_upto_region 9 with (first | (go_at_call 48; with_reducible refine hsort.out.mono ?_; rintro e w7 ⟨rfl, E, hE1, hE2, hE3, hE4, hE5⟩; clear HB hsort; obtain rfl : n = E.length := by rw [← hn.out]; exact hE1.length_eq.symm))
    have HS := Aside0.mk (sw_made c2 a b ha2 hb2 E hE2 hE1)
    have hmE : ∀ e ∈ E, (0 ≤ e.f0 ∧ e.f0 ≤ 1114112) ∧ (-1 ≤ e.f1 ∧ e.f1 ≤ 1) ∧ (e.f2 = 0 ∨ e.f2 = 1) := fun e he => hma e (hE1.mem_iff.1 he)
    have hW := Aside0.mk (SwW.start hE3 hE5 hE4)
    clear hE3 hE4 hE5 hE1 hE2 hma hn ha1 ha2 hb1 hb2 HM
    generalize hRE : madeF c2 a b = R at HS
    replace hRE := Aside0.mk hRE
    generalize w7.heap.size = gi at hW ⊢
    generalize w7.alloc (.cells #[.int .i64 0, .int .i64 0] 72) = w8 at hW ⊢
    go_wp2_with fail
    go_loopw [10, 37] (fun v10 v37 wi => ∃ (i : Nat) (i0 i1 : Int) (out : List Sp), v37 = .int .i64 (i : Int) ∧ i ≤ E.length ∧ Aside0 (SwW w wi gi gl E i0 i1 v10 out) ∧ Aside0 (sw c2 (E.drop i) i0 i1 out = R) ∧ Aside0 ((-(i : Int) ≤ i0 ∧ i0 ≤ i) ∧ -(i : Int) ≤ i1 ∧ i1 ≤ i) ∧ Aside0 (OutB out ∧ out.length ≤ i)) (fun _ v37 _ => E.length - (intOf v37).toNat)
    case atStart => exact ⟨0, 0, 0, [], rfl, Nat.zero_le _, hW, ⟨by rw [List.drop_zero]; exact HS.out⟩, ⟨by simp⟩, ⟨fun x hx => by simp at hx, by simp⟩⟩
    case round =>
      obtain ⟨i, i0, i1, out, rfl, hil, HW, HD, HI, HO⟩ := hrel
      clear hW HS
      by_cases hi : i < E.length
      · obtain ⟨x, hx⟩ : ∃ x, E[i]? = some x := ⟨_, List.getElem?_eq_getElem hi⟩
        have hmx := hmE x (List.mem_of_getElem? hx)
        obtain ⟨hx0, hx1, hx2⟩ := HW.out.at_ hx
        have HX := Aside0.mk hx
        have HMX := Aside0.mk hmx
        have k1 : decide ((i : Int) < (E.length : Int)) = true := decide_eq_true (by omega)
        have k2 : decide (i < E.length) = true := decide_eq_true hi
        clear hx hmx
        have hmx := HMX.out
        obtain ⟨p, d, st⟩ := x
        simp only at hx0 hx1 hx2 hmx
        go_upto_region 12 with fail
        obtain ⟨gx, W1, hgx, hW1, HXB, HW1, hlt⟩ := HW.out.box p d st
        rw [hW1]
        rw [hgx]
        clear HW hgx hW1 hx0 hx1 hx2
        have hc0 : W1.cell? ⟨gx, 0, none⟩ = some (.int .i32 p) := blk_cell HXB 0
        have hc1 : W1.cell? ⟨gx, 1, none⟩ = some (.int .i64 d) := blk_cell HXB 1
        have hc2 : W1.cell? ⟨gx, 2, none⟩ = some (.int .i64 st) := blk_cell HXB 2
        have hI := HI.out
        have hE := hlenE.out
        have hI0 : -10000 ≤ i0 ∧ i0 ≤ 10000 := ⟨by omega, by omega⟩
        have hI1 : -10000 ≤ i1 ∧ i1 ≤ 10000 := ⟨by omega, by omega⟩
        obtain ⟨_, ⟨hd0, hd1⟩, hst⟩ := hmx
        obtain ⟨n, rfl, hn2⟩ : ∃ n : Nat, st = (n : Int) ∧ n < 2 := by
          rcases hst with rfl | rfl
          · exact ⟨0, rfl, by omega⟩
          · exact ⟨1, rfl, by omega⟩
        obtain ⟨iv, hiv⟩ : ∃ iv, iv = (if n = 0 then i0 else i1) := ⟨_, rfl⟩
        have hin : W1.cell? ⟨gi, n, none⟩ = some (.int .i64 iv) := by
          rcases (by omega : n = 0 ∨ n = 1) with rfl | rfl
          · rw [hiv]; exact blk_cell HW1.ib 0
          · rw [hiv]; exact blk_cell HW1.ib 1
        have hfn := blk_frozen HW1.ib n
        have hnl : (n : Int) < 2 := by omega
        have hsn : IntKind.i64.wrap (iv + d) = iv + d := w64a iv d (by rw [hiv]; split <;> assumption) ⟨hd0, hd1⟩
        replace HW1 := Aside0.mk HW1
        replace HXB := Aside0.mk HXB
        clear hI hE hst
        clear hI0 hI1 hd0 hd1
        replace hiv := Aside0.mk hiv
        have hwr : IntKind.i64.wrap ((i : Int) + 1) = (i : Int) + 1 := by rw [i64_w, IntWalk.wrap64_in _ (by have := hlenE.out; omega)]
        go_upto_region 13 with (go_region)
        obtain ⟨j0, j1, W2, hW2, HW2, HXB2, hj0, hj1⟩ := stepN HW1.out HXB.out hlt n hn2 p d iv hiv.out
        rw [hW2]
        clear hW2 hc0 hc1 hc2 hin hfn HXB HW1 hsn hiv
        replace hj0 := Aside0.mk hj0
        replace hj1 := Aside0.mk hj1
        have HI2 : Aside0 ((-((i + 1 : Nat) : Int) ≤ j0 ∧ j0 ≤ ((i + 1 : Nat) : Int)) ∧ -((i + 1 : Nat) : Int) ≤ j1 ∧ j1 ≤ ((i + 1 : Nat) : Int)) := ⟨by
          have h1 := hj0.out
          have h2 := hj1.out
          have h3 := HI.out
          have h4 := HMX.out.2.1
          unfold stepI at h1 h2
          simp only at h1 h2 h4
          split at h1 <;> split at h2 <;> omega⟩
        have hc0 : W2.cell? ⟨gx, 0, none⟩ = some (.int .i32 p) := blk_cell HXB2 0
        have hi0 : W2.cell? ⟨gi, 0, none⟩ = some (.int .i64 j0) := blk_cell HW2.ib 0
        have hi1 : W2.cell? ⟨gi, 1, none⟩ = some (.int .i64 j1) := blk_cell HW2.ib 1
        replace HW2 := Aside0.mk HW2
        replace HXB2 := Aside0.mk HXB2
        clear HI hnl
        by_cases hlast : i + 1 = E.length
        · have e1 : ((i : Int) + 1 == (E.length : Int)) = true := beq_iff_eq.2 (by omega)
          have HD2 : Aside0 (sw c2 (E.drop (i + 1)) j0 j1 out = R) := ⟨by
            have h := HD.out
            rw [List.drop_eq_nil_of_le (by omega)]
            obtain ⟨h1, h2⟩ := List.getElem?_eq_some_iff.1 HX.out
            rw [List.drop_eq_getElem_cons h1, List.drop_eq_nil_of_le (by omega)] at h
            exact h⟩
          clear hlast
          go_wp2_with (go_region)
          exact ⟨⟨i + 1, j0, j1, out, by go_num, by omega, Aside0.mk HW2.out.drew, HD2, HI2, ⟨HO.out.1, by have := HO.out.2; omega⟩⟩, by simp [intOf]; omega⟩
        · obtain ⟨y, hy⟩ : ∃ y, E[i + 1]? = some y := ⟨_, List.getElem?_eq_getElem (by omega)⟩
          obtain ⟨hyc, _, _⟩ := HW2.out.at_ hy
          have HMY := Aside0.mk (hmE y (List.mem_of_getElem? hy))
          have HD2 : Aside0 (sw c2 (E.drop (i + 1)) j0 j1 (if y.f0 ≠ p ∧ c2 (decide (0 < j0)) (decide (0 < j1)) = true then put out p y.f0 else out) = R) := ⟨by
            have h := HD.out
            obtain ⟨h1, h2⟩ := List.getElem?_eq_some_iff.1 HX.out
            obtain ⟨h3, h4⟩ := List.getElem?_eq_some_iff.1 hy
            rw [List.drop_eq_getElem_cons h1, List.drop_eq_getElem_cons h3, h2, h4, sw_cons, ← hj0.out, ← hj1.out] at h
            rw [List.drop_eq_getElem_cons h3, h4]
            exact h⟩
          have e1 : ((i : Int) + 1 == (E.length : Int)) = false := beq_eq_false_iff_ne.2 (by omega)
          have e0 : (0 : Int) ≤ (i : Int) + 1 := by omega
          have e0' : (i : Int) + 1 < (E.length : Int) := by omega
          obtain ⟨q, hq⟩ : ∃ q, q = y.f0 := ⟨_, rfl⟩
          rw [← hq] at hyc HD2
          have hqb : 0 ≤ q ∧ q ≤ 1114112 := by rw [hq]; exact HMY.out.1
          replace hqb := Aside0.mk hqb
          clear hq hy hlast HD HX HMX hj0 hj1 HMY
          by_cases hqp : q = p
          · have e2 : (q == p) = true := beq_iff_eq.2 hqp
            replace HD2 : Aside0 (sw c2 (E.drop (i + 1)) j0 j1 out = R) := ⟨by have h := HD2.out; rw [if_neg (fun e => e.1 hqp)] at h; exact h⟩
            clear hqp
            go_wp2_with (go_region)
            exact ⟨⟨i + 1, j0, j1, out, by go_num, by omega, Aside0.mk HW2.out.drew, HD2, HI2, ⟨HO.out.1, by have := HO.out.2; omega⟩⟩, by simp [intOf]; omega⟩
          · have e2 : (q == p) = false := beq_eq_false_iff_ne.2 hqp
            have hcl' := hcl (decide (0 < j0)) (decide (0 < j1))
            by_cases hcc : c2 (decide (0 < j0)) (decide (0 < j1)) = true
            · replace HD2 : Aside0 (sw c2 (E.drop (i + 1)) j0 j1 (put out p q) = R) := ⟨by have h := HD2.out; rw [if_pos ⟨hqp, hcc⟩] at h; exact h⟩
              rw [hcc] at hcl'
              clear hcc hqp hcl
              go_upto_region 14 with (go_region_held3 (fun w' => w'.cell? ⟨gx, 0, none⟩ = some (.int .i32 p) ∧ w'.cell? ⟨gi, 0, none⟩ = some (.int .i64 j0) ∧ w'.cell? ⟨gi, 1, none⟩ = some (.int .i64 j1) ∧ w'.cell? ⟨gl, (i + 1) * 3, none⟩ = some (.int .i32 q)) (first | assumption | exact ⟨hc0, hi0, hi1, hyc⟩) (first | (with_reducible refine (hcl' _).mono ?_; rintro e w9 ⟨rfl, rfl⟩)))
              replace hc0 : W2.drew.cell? ⟨gx, 0, none⟩ = some (.int .i32 p) := hc0
              replace hyc : W2.drew.cell? ⟨gl, (i + 1) * 3, none⟩ = some (.int .i32 q) := hyc
              replace HW2 := Aside0.mk HW2.out.drew
              replace HXB2 := Aside0.mk (show W2.drew.heap[gx]? = _ from HXB2.out)
              clear hi0 hi1
              generalize W2.drew = W3 at hc0 hyc HW2 HXB2 ⊢
              have hqw : IntKind.i32.wrap (q - 1) = q - 1 := by rw [i32_w]; exact qw q hqb.out
              have HN : Aside0 (OutB (put out p q) ∧ (put out p q).length ≤ i + 1) := ⟨put_outB _ _ _ HO.out.1 hqb.out, by have := put_len out p q; have := HO.out.2; omega⟩
              have hgx : some gx ≠ u10.ownBlock := Kd.R_ne HW2.out.rw HXB2.out (by decide)
              have hgl : some gl ≠ u10.ownBlock := HW2.out.ownLt (Nat.le_of_lt HW2.out.ltl)
              have hlen : Aside0 (out.length ≤ 10001) := ⟨by have := HO.out.2; have := hlenE.out; omega⟩
              clear HXB2
              rcases List.eq_nil_or_concat out with rfl | ⟨o, s, rfl⟩
              · obtain ⟨Ao, co, rfl⟩ := Kd.R_slice HW2.out.rw
                go_upto_region 17 with (go_region)
                replace hc0 : W3.drew.cell? ⟨gx, 0, none⟩ = some (.int .i32 p) := hc0
                replace hyc : W3.drew.cell? ⟨gl, (i + 1) * 3, none⟩ = some (.int .i32 q) := hyc
                replace HW2 := Aside0.mk HW2.out.drew
                replace hgx := Aside0.mk hgx
                replace hgl := Aside0.mk hgl
                generalize W3.drew = W4 at hc0 hyc HW2 ⊢
                go_region_held_law (fun w' => w'.cell? ⟨gx, 0, none⟩ = some (.int .i32 p) ∧ w'.cell? ⟨gl, (i + 1) * 3, none⟩ = some (.int .i32 q)) (first | assumption | exact ⟨hc0, hyc⟩ | exact ⟨cellB hc0 (below_alloc (below_drew (Below.refl _ _)) _), cellB hyc (below_alloc (below_drew (Below.refl _ _)) _)⟩ | exact ⟨cellG (show W4.drew.cell? _ = _ from hc0) (by assumption) hgx.out, cellG (show W4.drew.cell? _ = _ from hyc) (by assumption) hgl.out⟩)
                  (first | (refine Kd.R_append_step k37 (w0 := W4.drew) (gi + 1) (by rfl) (.tmp 105) (.tmp 116) 22 37 (.agg #[(.int .i32 0), (.int .i32 0)]) 8 rfl Tryd.underlying22 info37 rfl (by decide) (by omega) (.slice Ao ([] : List Sp).length co) [] (⟨p, q - 1⟩ : Sp) [.int .i32 p, .int .i32 (q - 1)] (fun _ => True) (fun _ => False) rfl rfl (k37_mkM _ _ _ (⟨p, q - 1⟩ : Sp)) (fun _ hk => hk.elim) (fun _ _ => trivial) HW2.out.drew.rw (Below.refl _ _) (by have := HW2.out.lti; exact this) (by have := hlen.out; simp only [List.length_nil, List.length_append, List.length_cons] at this ⊢; omega) ?_; intro v6 w6 ho hbb hg hat; clear hat))
                go_wp2_with fail
                exact ⟨⟨i + 1, j0, j1, put [] p q, by go_num, by omega, ⟨HW2.out.drew.appended hbb (by rw [put_nil]; exact ho)⟩, HD2, HI2, HN⟩, by simp [intOf]; omega⟩
              · rw [List.concat_eq_append] at HO HD2 HW2 HN hlen
                obtain ⟨go, co, rfl, hgo1, hgo2, hs1, hsf, hst⟩ := out_last HW2.out.rw
                have hsb := HO.out.1 s (List.mem_append_right _ (List.mem_singleton.2 rfl))
                have hol : o.length ≤ 10000 := by have := HO.out.2; have hle := hlenE.out; rw [List.length_append] at this; simp only [List.length_cons, List.length_nil] at this; omega
                have hsw : IntKind.i32.wrap (s.f1 + 1) = s.f1 + 1 := by rw [i32_w]; exact sw32 _ hsb
                have hlw : IntKind.i64.wrap ((o.length : Int)) = (o.length : Int) := by rw [i64_w, IntWalk.wrap64_in _ (by omega)]
                replace hgo1 := Aside0.mk hgo1
                replace hgo2 := Aside0.mk hgo2
                replace hst := Aside0.mk hst
                replace hsb := Aside0.mk hsb
                have hl1 : (0 : Int) ≤ (o.length : Int) := by omega
                clear hol
                by_cases hsp : s.f1 + 1 = p
                · have e3 : (s.f1 + 1 == p) = true := beq_iff_eq.2 hsp
                  have HP : Aside0 (put (o ++ [s]) p q = o ++ [⟨s.f0, q - 1⟩]) := ⟨by rw [put_snoc, if_pos hsp]⟩
                  clear hsp
                  go_upto_region 16 with (go_region)
                  replace hyc : W3.drew.cell? ⟨gl, (i + 1) * 3, none⟩ = some (.int .i32 q) := hyc
                  replace hsf : W3.drew.frozen? ⟨go, o.length * 2 + 1, none⟩ = false := hsf
                  have hth := cell_there hs1
                  go_wp2_with fail
                  exact ⟨⟨i + 1, j0, j1, put (o ++ [s]) p q, by go_num, by omega, ⟨(HW2.out.stored hgo1.out _ _ (by rw [HP.out]; exact hst.out (q - 1))).drew⟩, HD2, HI2, HN⟩, by simp [intOf]; omega⟩
                · have e3 : (s.f1 + 1 == p) = false := beq_eq_false_iff_ne.2 hsp
                  have HP : Aside0 (put (o ++ [s]) p q = (o ++ [s]) ++ [⟨p, q - 1⟩]) := ⟨by rw [put_snoc, if_neg hsp]⟩
                  clear hsp
                  go_upto_region 17 with (go_region)
                  replace hc0 : W3.drew.cell? ⟨gx, 0, none⟩ = some (.int .i32 p) := hc0
                  replace hyc : W3.drew.cell? ⟨gl, (i + 1) * 3, none⟩ = some (.int .i32 q) := hyc
                  replace HW2 := Aside0.mk HW2.out.drew
                  replace hgx := Aside0.mk hgx
                  replace hgl := Aside0.mk hgl
                  generalize W3.drew = W4 at hc0 hyc HW2 ⊢
                  go_region_held_law (fun w' => w'.cell? ⟨gx, 0, none⟩ = some (.int .i32 p) ∧ w'.cell? ⟨gl, (i + 1) * 3, none⟩ = some (.int .i32 q)) (first | assumption | exact ⟨hc0, hyc⟩ | exact ⟨cellB hc0 (below_alloc (below_drew (Below.refl _ _)) _), cellB hyc (below_alloc (below_drew (Below.refl _ _)) _)⟩ | exact ⟨cellG (show W4.drew.cell? _ = _ from hc0) (by assumption) hgx.out, cellG (show W4.drew.cell? _ = _ from hyc) (by assumption) hgl.out⟩)
                    (first | (refine Kd.R_append_step k37 (w0 := W4.drew) (gi + 1) (by rfl) (.tmp 105) (.tmp 116) 22 37 (.agg #[(.int .i32 0), (.int .i32 0)]) 8 rfl Tryd.underlying22 info37 rfl (by decide) (by omega) (.slice (some ⟨go, 0, none⟩) (o.length + 1) co) (o ++ [s]) (⟨p, q - 1⟩ : Sp) [.int .i32 p, .int .i32 (q - 1)] (fun _ => True) (fun _ => False) rfl rfl (k37_mkM _ _ _ (⟨p, q - 1⟩ : Sp)) (fun _ hk => hk.elim) (fun _ _ => trivial) HW2.out.drew.rw (Below.refl _ _) (by have := HW2.out.lti; exact this) (by have := hlen.out; simp only [List.length_nil, List.length_append, List.length_cons] at this ⊢; omega) ?_; intro v6 w6 ho hbb hg hat; clear hat))
                  go_wp2_with fail
                  exact ⟨⟨i + 1, j0, j1, put (o ++ [s]) p q, by go_num, by omega, ⟨HW2.out.drew.appended hbb (by rw [HP.out]; exact ho)⟩, HD2, HI2, HN⟩, by simp [intOf]; omega⟩
            · replace HD2 : Aside0 (sw c2 (E.drop (i + 1)) j0 j1 out = R) := ⟨by have h := HD2.out; rw [if_neg (fun e => hcc e.2)] at h; exact h⟩
              rw [Bool.eq_false_iff.2 hcc] at hcl'
              clear hcc hqp hcl
              go_wp2_with (go_region_held3 (fun w' => w'.cell? ⟨gx, 0, none⟩ = some (.int .i32 p) ∧ w'.cell? ⟨gi, 0, none⟩ = some (.int .i64 j0) ∧ w'.cell? ⟨gi, 1, none⟩ = some (.int .i64 j1) ∧ w'.cell? ⟨gl, (i + 1) * 3, none⟩ = some (.int .i32 q)) (first | assumption | exact ⟨hc0, hi0, hi1, hyc⟩) (first | (with_reducible refine (hcl' _).mono ?_; rintro e w9 ⟨rfl, rfl⟩)))
              exact ⟨⟨i + 1, j0, j1, out, by go_num, by omega, Aside0.mk HW2.out.drew, HD2, HI2, ⟨HO.out.1, by have := HO.out.2; omega⟩⟩, by simp [intOf]; omega⟩
      · have hie : i = E.length := by omega
        have k1 : decide ((i : Int) < (E.length : Int)) = false := decide_eq_false (by omega)
        have k2 : decide (i < E.length) = false := decide_eq_false hi
        have HR : Aside0 (out = R) := ⟨by have h := HD.out; rw [List.drop_eq_nil_of_le (by omega)] at h; exact h⟩
        clear hie hi HD HI
        obtain ⟨Ao, co, rfl⟩ := Kd.R_slice HW.out.rw
        have HRW := Aside0.mk (Kd.R_lower HW.out.rw (show w.heap.size ≤ gi + 1 from by have := HW.out.wgi; omega))
        have HBW := Aside0.mk HW.out.bel
        clear HW
        by_cases hm : 1024 < out.length
        · have HF : Aside0 (finM (madeF c2 a b) = ([], 4)) := ⟨by unfold finM; rw [hRE.out, ← HR.out, if_pos hm]⟩
          have k3 : decide ((1024 : Int) < (out.length : Int)) = true := decide_eq_true (by omega)
          have k4 : decide (1024 < out.length) = true := decide_eq_true hm
          clear hm
          go_wp2_with fail
          go_ret2
          rw [HF.out]
          exact ⟨_, rfl, Kd.R_nil _ _ _ _ _, HBW.out⟩
        · have HF : Aside0 (finM (madeF c2 a b) = (out, 0)) := ⟨by unfold finM; rw [hRE.out, ← HR.out, if_neg hm]⟩
          have k3 : decide ((1024 : Int) < (out.length : Int)) = false := decide_eq_false (by omega)
          have k4 : decide (1024 < out.length) = false := decide_eq_false hm
          clear hm
          go_wp2_with fail
          go_ret2
          rw [HF.out]
          exact ⟨_, rfl, HRW.out, HBW.out⟩
  · have HM : Aside0 (madeR c2 a b = ([], er)) := ⟨by
      unfold madeR
      by_cases h : chk a = 0
      · rw [if_neg (by simp [h])] at her ⊢
        rw [← her, if_pos h1]
      · rw [if_pos h] at her ⊢
        rw [← her]⟩
    rw [HM.out]
    have e1 : (er != 0) = true := bne_iff_ne.2 h1
    clear h1 her
    go_enter Tryd.func34, Tryd.ntmps34
    go_wp2_with (first | (go_at_call 17; with_reducible refine HC0.out.mono ?_; rintro e w1 ⟨rfl, hbb⟩; have HB := Aside0.mk hbb; clear hbb) | (go_at_call 17; with_reducible refine (HC1.out _ HB.out).mono ?_; rintro e w2 ⟨rfl, hbb⟩; replace HB := Aside0.mk (below_step HB.out hbb); clear hbb) | (go_at_call 46; with_reducible refine (hor.out _ HB.out).mono ?_; rintro e w3 ⟨rfl, hbb⟩; replace HB := Aside0.mk (below_step (below_alloc HB.out _) hbb.below); clear hbb))
    go_ret2
    exact ⟨_, rfl, Kd.R_nil _ _ _ _ _, HB.out⟩
end Go.Proofs.YtikhoooiklkbiaaDoor.Pr
namespace Go.Proofs.YtikhoooiklkbiaaDoor.Pr
open Go.RowKit Go.Proofs.YtikhoooiklkbiaaDoorW.PrintWords Go.Proofs.YtikhoooiklkbiaaDoorW.PrintLast Go.Proofs.YtikhoooiklkbiaaDoorW.PrintMore
set_option linter.unusedVariables false
set_option linter.unusedSimpArgs false

/-! ### Sets put together -/
def cNorm (x y : Bool) : Bool := x
theorem clNorm (x y : Bool) (W : World) : Calls Tryd.prog 35 #[.bool x, .bool y] W fun e w' => e = .returned (.bool (cNorm x y)) ∧ w' = W := by
  cases x <;> cases y <;> (go_enter Tryd.func35, Tryd.ntmps35; go_wp2_with fail; go_ret; exact ⟨rfl, rfl⟩)
def span_Norm.f (l0 : List Sp) : Option (List Sp × Int) := if l0.length ≤ 100000 then some (madeR cNorm l0 []) else none
theorem span_Norm.calls (A0 : Option Addr) (c0 : Nat) (l0 : List Sp) (r1 : List Sp) (r2 : Int) (w : World) (hr0 : Kd.C k37 w A0 l0.length l0) (hc0 : l0.length ≤ c0) (h : span_Norm.f l0 = some (r1, r2)) :
    Calls Tryd.prog 16 #[.slice A0 l0.length c0] w fun e w' => ∃ v0_ : Value, e = .returned (.tuple #[v0_, .int .i64 r2]) ∧ Kd.R k37 37 w' w.heap.size (fun _ => True) v0_ r1 ∧ Below w.heap.size w w' := by
  unfold span_Norm.f at h
  split at h
  · next hl =>
    have e1 : r1 = (madeR cNorm l0 []).1 := by rw [Option.some.inj h]
    have e2 : r2 = (madeR cNorm l0 []).2 := by rw [Option.some.inj h]
    rw [e1, e2]
    have HS := sweep_any cNorm 35 clNorm (enters_of Tryd.func35 (by kernel_rfl) rfl) A0 c0 l0 none 0 [] w hr0 hc0 (Kd.C_nil _ _) (Nat.le_refl _) hl (by decide)
    rw [List.length_nil] at HS
    clear e1 e2 h hr0 hc0 hl
    generalize madeR cNorm l0 [] = R at HS ⊢
    go_enter Tryd.func16, Tryd.ntmps16
    go_wp2_with (go_at_call 34; with_reducible refine HS.mono ?_; rintro e w1 ⟨v0, rfl, ho, hb⟩)
    go_ret2
    exact ⟨v0, rfl, ho, hb⟩
  · cases h
def cUnion (x y : Bool) : Bool := x || y
theorem clUnion (x y : Bool) (W : World) : Calls Tryd.prog 36 #[.bool x, .bool y] W fun e w' => e = .returned (.bool (cUnion x y)) ∧ w' = W := by
  cases x <;> cases y <;> (go_enter Tryd.func36, Tryd.ntmps36; go_wp2_with fail; go_ret; exact ⟨rfl, rfl⟩)
def span_Union.f (l0 l1 : List Sp) : Option (List Sp × Int) := if l0.length ≤ 100000 ∧ l1.length ≤ 100000 then some (madeR cUnion l0 l1) else none
theorem span_Union.calls (A0 : Option Addr) (c0 : Nat) (l0 : List Sp) (A1 : Option Addr) (c1 : Nat) (l1 : List Sp) (r1 : List Sp) (r2 : Int) (w : World) (hr0 : Kd.C k37 w A0 l0.length l0) (hc0 : l0.length ≤ c0) (hr1 : Kd.C k37 w A1 l1.length l1) (hc1 : l1.length ≤ c1) (h : span_Union.f l0 l1 = some (r1, r2)) :
    Calls Tryd.prog 18 #[.slice A0 l0.length c0, .slice A1 l1.length c1] w fun e w' => ∃ v0_ : Value, e = .returned (.tuple #[v0_, .int .i64 r2]) ∧ Kd.R k37 37 w' w.heap.size (fun _ => True) v0_ r1 ∧ Below w.heap.size w w' := by
  unfold span_Union.f at h
  split at h
  · next hl =>
    have e1 : r1 = (madeR cUnion l0 l1).1 := by rw [Option.some.inj h]
    have e2 : r2 = (madeR cUnion l0 l1).2 := by rw [Option.some.inj h]
    rw [e1, e2]
    have HS := sweep_any cUnion 36 clUnion (enters_of Tryd.func36 (by kernel_rfl) rfl) A0 c0 l0 A1 c1 l1 w hr0 hc0 hr1 hc1 hl.1 hl.2
    clear e1 e2 h hr0 hr1 hc0 hc1 hl
    generalize madeR cUnion l0 l1 = R at HS ⊢
    go_enter Tryd.func18, Tryd.ntmps18
    go_wp2_with (go_at_call 34; with_reducible refine HS.mono ?_; rintro e w1 ⟨v0, rfl, ho, hb⟩)
    go_ret2
    exact ⟨v0, rfl, ho, hb⟩
  · cases h
def cMeet (x y : Bool) : Bool := x && y
theorem clMeet (x y : Bool) (W : World) : Calls Tryd.prog 40 #[.bool x, .bool y] W fun e w' => e = .returned (.bool (cMeet x y)) ∧ w' = W := by
  cases x <;> cases y <;> (go_enter Tryd.func40, Tryd.ntmps40; go_wp2_with fail; go_ret; exact ⟨rfl, rfl⟩)
def span_Meet.f (l0 l1 : List Sp) : Option (List Sp × Int) := if l0.length ≤ 100000 ∧ l1.length ≤ 100000 then some (madeR cMeet l0 l1) else none
theorem span_Meet.calls (A0 : Option Addr) (c0 : Nat) (l0 : List Sp) (A1 : Option Addr) (c1 : Nat) (l1 : List Sp) (r1 : List Sp) (r2 : Int) (w : World) (hr0 : Kd.C k37 w A0 l0.length l0) (hc0 : l0.length ≤ c0) (hr1 : Kd.C k37 w A1 l1.length l1) (hc1 : l1.length ≤ c1) (h : span_Meet.f l0 l1 = some (r1, r2)) :
    Calls Tryd.prog 22 #[.slice A0 l0.length c0, .slice A1 l1.length c1] w fun e w' => ∃ v0_ : Value, e = .returned (.tuple #[v0_, .int .i64 r2]) ∧ Kd.R k37 37 w' w.heap.size (fun _ => True) v0_ r1 ∧ Below w.heap.size w w' := by
  unfold span_Meet.f at h
  split at h
  · next hl =>
    have e1 : r1 = (madeR cMeet l0 l1).1 := by rw [Option.some.inj h]
    have e2 : r2 = (madeR cMeet l0 l1).2 := by rw [Option.some.inj h]
    rw [e1, e2]
    have HS := sweep_any cMeet 40 clMeet (enters_of Tryd.func40 (by kernel_rfl) rfl) A0 c0 l0 A1 c1 l1 w hr0 hc0 hr1 hc1 hl.1 hl.2
    clear e1 e2 h hr0 hr1 hc0 hc1 hl
    generalize madeR cMeet l0 l1 = R at HS ⊢
    go_enter Tryd.func22, Tryd.ntmps22
    go_wp2_with (go_at_call 34; with_reducible refine HS.mono ?_; rintro e w1 ⟨v0, rfl, ho, hb⟩)
    go_ret2
    exact ⟨v0, rfl, ho, hb⟩
  · cases h
def cLess (x y : Bool) : Bool := x && !y
theorem clLess (x y : Bool) (W : World) : Calls Tryd.prog 37 #[.bool x, .bool y] W fun e w' => e = .returned (.bool (cLess x y)) ∧ w' = W := by
  cases x <;> cases y <;> (go_enter Tryd.func37, Tryd.ntmps37; go_wp2_with fail; go_ret; exact ⟨rfl, rfl⟩)
def span_Less.f (l0 l1 : List Sp) : Option (List Sp × Int) := if l0.length ≤ 100000 ∧ l1.length ≤ 100000 then some (madeR cLess l0 l1) else none
theorem span_Less.calls (A0 : Option Addr) (c0 : Nat) (l0 : List Sp) (A1 : Option Addr) (c1 : Nat) (l1 : List Sp) (r1 : List Sp) (r2 : Int) (w : World) (hr0 : Kd.C k37 w A0 l0.length l0) (hc0 : l0.length ≤ c0) (hr1 : Kd.C k37 w A1 l1.length l1) (hc1 : l1.length ≤ c1) (h : span_Less.f l0 l1 = some (r1, r2)) :
    Calls Tryd.prog 19 #[.slice A0 l0.length c0, .slice A1 l1.length c1] w fun e w' => ∃ v0_ : Value, e = .returned (.tuple #[v0_, .int .i64 r2]) ∧ Kd.R k37 37 w' w.heap.size (fun _ => True) v0_ r1 ∧ Below w.heap.size w w' := by
  unfold span_Less.f at h
  split at h
  · next hl =>
    have e1 : r1 = (madeR cLess l0 l1).1 := by rw [Option.some.inj h]
    have e2 : r2 = (madeR cLess l0 l1).2 := by rw [Option.some.inj h]
    rw [e1, e2]
    have HS := sweep_any cLess 37 clLess (enters_of Tryd.func37 (by kernel_rfl) rfl) A0 c0 l0 A1 c1 l1 w hr0 hc0 hr1 hc1 hl.1 hl.2
    clear e1 e2 h hr0 hr1 hc0 hc1 hl
    generalize madeR cLess l0 l1 = R at HS ⊢
    go_enter Tryd.func19, Tryd.ntmps19
    go_wp2_with (go_at_call 34; with_reducible refine HS.mono ?_; rintro e w1 ⟨v0, rfl, ho, hb⟩)
    go_ret2
    exact ⟨v0, rfl, ho, hb⟩
  · cases h
def cNot (x y : Bool) : Bool := !x
theorem clNot (x y : Bool) (W : World) : Calls Tryd.prog 41 #[.bool x, .bool y] W fun e w' => e = .returned (.bool (cNot x y)) ∧ w' = W := by
  cases x <;> cases y <;> (go_enter Tryd.func41, Tryd.ntmps41; go_wp2_with fail; go_ret; exact ⟨rfl, rfl⟩)
def span_Not.f (l0 : List Sp) : Option (List Sp × Int) := if l0.length ≤ 100000 then some (madeR cNot l0 []) else none
theorem span_Not.calls (A0 : Option Addr) (c0 : Nat) (l0 : List Sp) (r1 : List Sp) (r2 : Int) (w : World) (hr0 : Kd.C k37 w A0 l0.length l0) (hc0 : l0.length ≤ c0) (h : span_Not.f l0 = some (r1, r2)) :
    Calls Tryd.prog 23 #[.slice A0 l0.length c0] w fun e w' => ∃ v0_ : Value, e = .returned (.tuple #[v0_, .int .i64 r2]) ∧ Kd.R k37 37 w' w.heap.size (fun _ => True) v0_ r1 ∧ Below w.heap.size w w' := by
  unfold span_Not.f at h
  split at h
  · next hl =>
    have e1 : r1 = (madeR cNot l0 []).1 := by rw [Option.some.inj h]
    have e2 : r2 = (madeR cNot l0 []).2 := by rw [Option.some.inj h]
    rw [e1, e2]
    have HS := sweep_any cNot 41 clNot (enters_of Tryd.func41 (by kernel_rfl) rfl) A0 c0 l0 none 0 [] w hr0 hc0 (Kd.C_nil _ _) (Nat.le_refl _) hl (by decide)
    rw [List.length_nil] at HS
    clear e1 e2 h hr0 hc0 hl
    generalize madeR cNot l0 [] = R at HS ⊢
    go_enter Tryd.func23, Tryd.ntmps23
    go_wp2_with (go_at_call 34; with_reducible refine HS.mono ?_; rintro e w1 ⟨v0, rfl, ho, hb⟩)
    go_ret2
    exact ⟨v0, rfl, ho, hb⟩
  · cases h
end Go.Proofs.YtikhoooiklkbiaaDoor.Pr
