import Derived.Test.YtllcfifeaacmiaaDoorGs3
import Derived.Test.YtllcfifeaacmiaaDoorPrB2
import Derived.Test.YtllcfifeaacmiaaDoorKrn
namespace Go.Proofs.YtllcfifeaacmiaaDoor.Pr
open Go.RowKit Go.Proofs.YtllcfifeaacmiaaDoorW.PrintWords Go.Proofs.YtllcfifeaacmiaaDoorW.PrintLast Go.Proofs.YtllcfifeaacmiaaDoorW.PrintMore
set_option linter.unusedVariables false
set_option linter.unusedSimpArgs false

/-! ### Trim, Field, tail of the reference -/
theorem trim_l1 : ∀ (n : Nat) (s : List UInt8), s.length ≤ n → s.length ≤ 100000 → ∃ r, Ev (fun k => portcullisref19_Trim.l1 k (mkB s)) r
  | n, s, hn, hl => by
    have htl : (mkB s).toList = s := by rw [Lib.toList_data, data_mkB]
    rcases List.eq_nil_or_concat s with rfl | ⟨Y, y, rfl⟩
    · exact ⟨_, Ev.one (fun k => by
        simp only [portcullisref19_Trim.l1]
        rw [if_pos htl])⟩
    · rw [List.concat_eq_append] at *
      cases n with
      | zero => simp at hn
      | succ n =>
        have hsz : ((mkB (Y ++ [y])).size : Int) = (Y.length : Int) + 1 := by rw [mkB_size]; simp
        have hlY : Y.length + 1 ≤ 100000 := by simpa using hl
        have hb := bt_app Y y [] Y.length rfl
        have hpre := mkB_pre Y [y] Y.length rfl
        have q1 : wrap64 ((Y.length : Int) + 1 - 1) = (Y.length : Int) := by rw [show (Y.length : Int) + 1 - 1 = (Y.length : Int) by omega]; exact w64c _ (by omega)
        obtain ⟨r, ih⟩ := trim_l1 n Y (by simpa using hn) (by omega)
        have hne : ¬ (mkB (Y ++ [y])).toList = [] := by rw [htl]; simp
        have p1 : (0 : Int) ≤ (Y.length : Int) := by omega
        have p2 : (Y.length : Int) < (Y.length : Int) + 1 := by omega
        have p3 : (Y.length : Int) ≤ (Y.length : Int) + 1 := by omega
        by_cases h1 : (y.toNat : Int) = 32
        · refine ⟨r, Ev.step (fun k => ?_) ih⟩
          simp only [portcullisref19_Trim.l1]
          rw [if_neg hne, hsz, q1, if_pos p1, if_pos p2, hb, if_pos h1, if_pos p3, Int.toNat_natCast, hpre]
        · by_cases h2 : (y.toNat : Int) = 9
          · refine ⟨r, Ev.step (fun k => ?_) ih⟩
            simp only [portcullisref19_Trim.l1]
            rw [if_neg hne, hsz, q1, if_pos p1, if_pos p2, hb, if_neg h1, if_pos h2, if_pos p3, Int.toNat_natCast, hpre]
          · refine ⟨mkB (Y ++ [y]), Ev.one (fun k => ?_)⟩
            simp only [portcullisref19_Trim.l1]
            rw [if_neg hne, hsz, q1, if_pos p1, if_pos p2, hb, if_neg h1, if_neg h2]
theorem trim_l0 : ∀ (s : List UInt8), s.length ≤ 100000 → ∃ r, Ev (fun k => portcullisref19_Trim.l0 k (mkB s)) r
  | [], hl => by
    obtain ⟨r, h⟩ := trim_l1 0 [] (Nat.le_refl _) hl
    refine ⟨r, Ev.step (f := fun k => portcullisref19_Trim.j1 k (mkB [])) (fun k => ?_) (Ev.step (fun k => ?_) h)⟩
    · simp only [portcullisref19_Trim.l0]
      rw [if_pos (by rw [Lib.toList_data, data_mkB])]
    · simp only [portcullisref19_Trim.j1]
  | c :: t, hl => by
    have htl : (mkB (c :: t)).toList = c :: t := by rw [Lib.toList_data, data_mkB]
    have hne : ¬ (mkB (c :: t)).toList = [] := by rw [htl]; simp
    have hsz : ((mkB (c :: t)).size : Int) = (t.length : Int) + 1 := by rw [mkB_size]; simp
    have hb : bt (mkB (c :: t)) 0 = (c.toNat : Int) := bt_app [] c t 0 rfl
    have hx : (mkB (c :: t)).extract 1 (mkB (c :: t)).size = mkB t := mkB_from (c :: t) 1
    have hlt : t.length ≤ 100000 := by simp at hl; omega
    obtain ⟨r, ih⟩ := trim_l0 t hlt
    obtain ⟨r2, h2⟩ := trim_l1 (c :: t).length (c :: t) (Nat.le_refl _) hl
    have p1 : (0 : Int) < (t.length : Int) + 1 := by omega
    have p2 : (1 : Int) ≤ (t.length : Int) + 1 := by omega
    by_cases e1 : (c.toNat : Int) = 32
    · refine ⟨r, Ev.step (fun k => ?_) ih⟩
      simp only [portcullisref19_Trim.l0]
      rw [if_neg hne, hx, hsz, if_pos p1, hb, if_pos e1, if_pos p2]
    · by_cases e2 : (c.toNat : Int) = 9
      · refine ⟨r, Ev.step (fun k => ?_) ih⟩
        simp only [portcullisref19_Trim.l0]
        rw [if_neg hne, hx, hsz, if_pos p1, hb, if_neg e1, if_pos e2, if_pos p2]
      · refine ⟨r2, Ev.step (f := fun k => portcullisref19_Trim.j1 k (mkB (c :: t))) (fun k => ?_) (Ev.step (fun k => ?_) h2)⟩
        · simp only [portcullisref19_Trim.l0]
          rw [if_neg hne, hsz, if_pos p1, hb, if_neg e1, if_neg e2]
        · simp only [portcullisref19_Trim.j1]
theorem field_go (A B0 : List UInt8) : ∀ (r p : List UInt8), p ++ r = A ++ 58 :: B0 → A.length + 1 ≤ p.length → (p ++ r).length ≤ 100000 → ∃ a b, Ev (fun k => portcullisref19_Field.l0 k (mkB (p ++ r)) (A.length : Int) (p.length : Int)) (a, b, r.all (fun b => !badB b))
  | [], p, he, hp, hl => by
    have hlp : p.length ≤ 100000 := by simpa using hl
    have hsz : ((mkB (p ++ [])).size : Int) = (p.length : Int) := by rw [mkB_size, List.append_nil]
    have hpre : (mkB (p ++ [])).extract 0 A.length = mkB A := by rw [he]; exact mkB_pre A _ A.length rfl
    have hw1 : wrap64 ((A.length : Int) + 1) = ((A.length + 1 : Nat) : Int) := w64n _ (by omega)
    have hx : (mkB (p ++ [])).extract (A.length + 1) (mkB (p ++ [])).size = mkB ((p ++ []).drop (A.length + 1)) := mkB_from _ _
    obtain ⟨r, h⟩ := trim_l0 ((p ++ []).drop (A.length + 1)) (by simp; omega)
    have h' : Ev (fun k => portcullisref19_Trim.f k (mkB ((p ++ ([] : List UInt8)).drop (A.length + 1)))) r := h
    have hsm : portcullisref19_Small.f (mkB A) = some (mkB (A.map low8)) := by
      unfold portcullisref19_Small.f
      rw [if_pos (by rw [mkB_size]; omega), data_mkB]
    have p1 : ¬ (p.length : Int) < (p.length : Int) := by omega
    have p2 : (0 : Int) ≤ (A.length : Int) := by omega
    have p3 : (A.length : Int) ≤ (p.length : Int) := by omega
    have p4 : (0 : Int) ≤ ((A.length + 1 : Nat) : Int) := by omega
    have p5 : ((A.length + 1 : Nat) : Int) ≤ (p.length : Int) := by omega
    refine ⟨mkB (A.map low8), r, Ev.step (f := fun k => (portcullisref19_Trim.f k (mkB ((p ++ []).drop (A.length + 1)))).bind fun t119 => some (mkB (A.map low8), t119, true)) (fun k => ?_) (Ev.bind h' (Ev.now fun k => rfl))⟩
    simp only [portcullisref19_Field.l0]
    rw [hsz, if_neg p1, if_pos p2, if_pos p3, Int.toNat_natCast, hpre, hsm, Option.bind_some, hw1, if_pos p4, if_pos p5, Int.toNat_natCast, hx]
  | c :: t, p, he, hp, hl => by
    have hsz : ((mkB (p ++ c :: t)).size : Int) = (p.length : Int) + (t.length : Int) + 1 := by rw [mkB_size]; simp; omega
    have hb := bt_app p c t p.length rfl
    have hlen : p.length + t.length + 1 ≤ 100000 := by simp at hl; omega
    have q1 : (p.length : Int) < (p.length : Int) + (t.length : Int) + 1 := by omega
    have q2 : (0 : Int) ≤ (p.length : Int) := by omega
    have hw1 : wrap64 ((p.length : Int) + 1) = ((p.length + 1 : Nat) : Int) := w64n _ (by omega)
    have hl2 : ((p ++ [c]) ++ t).length ≤ 100000 := by rw [List.append_assoc]; exact hl
    obtain ⟨a, b, ih⟩ := field_go A B0 t (p ++ [c]) (by rw [List.append_assoc]; exact he) (by simp; omega) hl2
    rw [List.append_assoc, List.singleton_append, List.length_append] at ih
    rw [List.all_cons]
    cases hk : badB c with
    | true =>
      have hq := of_decide_eq_true hk
      refine ⟨⟨#[]⟩, ⟨#[]⟩, Ev.one (fun k => ?_)⟩
      simp only [portcullisref19_Field.l0]
      rw [hsz, if_pos q1, if_pos q2, hb]
      by_cases h32 : (c.toNat : Int) < 32
      · rw [if_pos h32]
        by_cases h9 : (c.toNat : Int) = 9
        · omega
        · rw [if_neg h9]; rfl
      · rw [if_neg h32, if_pos (by omega)]; rfl
    | false =>
      have hq := of_decide_eq_false hk
      refine ⟨a, b, Ev.step (fun k => ?_) ih⟩
      simp only [portcullisref19_Field.l0]
      rw [hsz, if_pos q1, if_pos q2, hb]
      by_cases h32 : (c.toNat : Int) < 32
      · rw [if_pos h32, if_pos (Classical.byContradiction fun e => hq (.inl ⟨h32, e⟩)), if_neg (fun e => hq (.inr e)), hw1]
        rfl
      · rw [if_neg h32, if_neg (fun e => hq (.inr e)), hw1]
        rfl
theorem field_is (s : List UInt8) (hl : s.length ≤ 100000) : ∃ a b, Ev (fun k => portcullisref19_Field.f k (mkB s)) (a, b, fieldOk s) := by
  rcases idx_ways 58 s with h | ⟨A, B, rfl, h⟩
  · have hf := find_is 58 s hl
    rw [idxL_none 58 s 0 h] at hf
    rw [fieldOk_none s h]
    refine ⟨⟨#[]⟩, ⟨#[]⟩, Ev.bind hf ?_⟩
    refine Ev.one (fun k => ?_)
    rw [if_pos (by decide)]
    simp only [portcullisref19_Field.j0]
    rw [if_pos True.intro]
  · have hf := find_is 58 (A ++ 58 :: B) hl
    rw [idxL_some 58 A B 0 h, Int.zero_add] at hf
    rw [fieldOk_some A B h]
    have hlA : A.length + B.length + 1 ≤ 100000 := by simp at hl; omega
    have hsz : ((mkB (A ++ 58 :: B)).size : Int) = (A.length : Int) + (B.length : Int) + 1 := by rw [mkB_size]; simp; omega
    have hpre := mkB_pre A (58 :: B) A.length rfl
    have hw1 : wrap64 ((A.length : Int) + 1) = ((A.length + 1 : Nat) : Int) := w64n _ (by omega)
    have p1 : ¬ (A.length : Int) < 0 := by omega
    have p2 : (0 : Int) ≤ (A.length : Int) := by omega
    have p3 : (A.length : Int) ≤ (A.length : Int) + (B.length : Int) + 1 := by omega
    have ht := tok_is A (by omega)
    cases hk : tokL A with
    | false =>
      rw [hk] at ht
      refine ⟨⟨#[]⟩, ⟨#[]⟩, Ev.bind hf (Ev.of_eq (g := fun k => (portcullisref19_Token.f k (mkB A)).bind fun t117 => portcullisref19_Field.j0 k (mkB (A ++ 58 :: B)) (A.length : Int) (!t117)) (fun k => ?_) (Ev.bind ht (Ev.one fun k => ?_)))⟩
      · rw [hsz, if_neg p1, if_pos p2, if_pos p3, Int.toNat_natCast, hpre]
      · simp only [portcullisref19_Field.j0]
        rw [if_pos (by decide)]
        rfl
    | true =>
      rw [hk] at ht
      obtain ⟨a, b, ih⟩ := field_go A B B (A ++ [58]) (by simp) (by simp) (by simp; omega)
      rw [List.append_assoc, List.singleton_append, List.length_append] at ih
      refine ⟨a, b, Ev.bind hf (Ev.of_eq (g := fun k => (portcullisref19_Token.f k (mkB A)).bind fun t117 => portcullisref19_Field.j0 k (mkB (A ++ 58 :: B)) (A.length : Int) (!t117)) (fun k => ?_) (Ev.bind ht (Ev.step (fun k => ?_) ih)))⟩
      · rw [hsz, if_neg p1, if_pos p2, if_pos p3, Int.toNat_natCast, hpre]
      · simp only [portcullisref19_Field.j0]
        rw [if_neg (by decide), hw1]
        rfl
/-- The lines behind the last size: fields so far, the line so far, the bytes ahead. -/
def tlG : Nat → List UInt8 → List UInt8 → Nat × Bool × Int
  | _, _, [] => (0, false, 0)
  | f, T, c :: r => if c ≠ 10 then (if 4097 < T.length + 1 then (1, false, 195) else ((tlG f (T ++ [c]) r).1 + 1, (tlG f (T ++ [c]) r).2))
    else if endsB T = false then (1, false, 200)
    else if T.length = 1 then (1, true, 0)
    else if 4096 < T.length - 1 ∨ 64 ≤ f then (1, false, 195)
    else if fieldOk (T.take (T.length - 1)) = false then (1, false, 200)
    else ((tlG (f + 1) [] r).1 + 1, (tlG (f + 1) [] r).2)
def castT (n : Nat) (x : Nat × Bool × Int) : Int × Bool × Int := (((n + x.1 : Nat) : Int), x.2.1, x.2.2)
theorem castT_succ (n : Nat) (x : Nat × Bool × Int) : castT n (x.1 + 1, x.2) = castT (n + 1) x := by
  unfold castT
  simp only
  rw [show n + (x.1 + 1) = n + 1 + x.1 by omega]
theorem mkB_mid (P T t : List UInt8) (a b : Nat) (ha : P.length = a) (hb : a + T.length = b) : (mkB (P ++ T ++ t)).extract a b = mkB T := by
  rw [mkB_extract]
  subst ha hb
  have e : (P ++ T ++ t).take (P.length + T.length) = P ++ T := by
    rw [← List.length_append]
    exact List.take_left
  rw [e, List.drop_left]
theorem endsB_ne {T : List UInt8} (h : endsB T = true) : 0 < T.length := by
  have := (of_decide_eq_true h).1
  omega
theorem Ev.stepBind {α β : Type} {f : Nat → Option α} {F : Nat → α → Option β} {g : Nat → Option β} {a : α} {r : β} (h : ∀ k, g (k + 1) = (f k).bind (F k)) (hf : Ev f a) (hF : Ev (fun k => F k a) r) : Ev g r := Ev.step h (Ev.bind hf hF)
theorem tail_j1 (P T t : List UInt8) (f x5 : Nat) (n : Nat) (L : List UInt8) (hL : L.length ≤ 100000) (r : Nat × Bool × Int) (hx5 : x5 = n + 1) (b : Bool)
    (hn : n + 1 ≤ 100000) (hf : f ≤ 100000)
    (h : b = false → fieldOk L = true → Ev (fun k => portcullisref20_tail.l0 k (mkB (P ++ T ++ t)) ((n + 1 : Nat) : Int) ((f + 1 : Nat) : Int) ((n + 1 : Nat) : Int)) (castT n r))
    (h1 : b = true → r = (1, false, 195)) (h2 : b = false → fieldOk L = false → r = (1, false, 200)) :
    Ev (fun k => portcullisref20_tail.j1 k (mkB (P ++ T ++ t)) ((n + 1 : Nat) : Int) (f : Int) (n : Int) (mkB L) b) (castT n r) := by
  have hw1 : wrap64 ((n : Int) + 1) = ((n + 1 : Nat) : Int) := w64n _ (by omega)
  have hw2 : wrap64 ((f : Int) + 1) = ((f + 1 : Nat) : Int) := w64n _ (by omega)
  cases b with
  | true =>
    rw [h1 rfl]
    refine Ev.one (fun k => ?_)
    simp only [portcullisref20_tail.j1]
    rw [if_pos True.intro, hw1]
    rfl
  | false =>
    obtain ⟨a, b, hfd⟩ := field_is L hL
    refine Ev.step (f := fun k => (portcullisref19_Field.f k (mkB L)).bind fun bt121 => (if bt121.2.2 = true then (portcullisref20_tail.l0 k (mkB (P ++ T ++ t)) ((n + 1 : Nat) : Int) (wrap64 ((f : Int) + 1)) (wrap64 ((n : Int) + 1))) else (some (wrap64 ((n : Int) + 1), false, 200)))) (fun k => ?_) (Ev.bind hfd ?_)
    · simp only [portcullisref20_tail.j1]
      rw [if_neg (by decide)]
    · cases hk : fieldOk L with
      | true =>
        refine Ev.of_eq (fun k => ?_) (h rfl hk)
        rw [if_pos (show (a, b, true).2.2 = true from rfl), hw1, hw2]
      | false =>
        rw [h2 rfl hk]
        refine Ev.now fun k => ?_
        rw [if_neg (show ¬ (a, b, false).2.2 = true from fun e => by cases e), hw1]
        rfl
theorem tail_go : ∀ (r P T : List UInt8) (f : Nat), (P ++ T ++ r).length ≤ 80000 → f + r.length ≤ 100000 → Ev (fun k => portcullisref20_tail.l0 k (mkB (P ++ T ++ r)) (P.length : Int) (f : Int) ((P.length + T.length : Nat) : Int)) (castT (P.length + T.length) (tlG f T r))
  | [], P, T, f, hl, hf => by
    refine Ev.one (fun k => ?_)
    simp only [portcullisref20_tail.l0]
    have hsz : ((mkB (P ++ T ++ [])).size : Int) = ((P.length + T.length : Nat) : Int) := by rw [mkB_size]; simp
    rw [hsz, if_neg (by omega)]
    rfl
  | c :: t, P, T, f, hl, hf => by
    have hlen : P.length + T.length + t.length + 1 ≤ 80000 := by simp at hl; omega
    have hsz : ((mkB (P ++ T ++ c :: t)).size : Int) = ((P.length + T.length : Nat) : Int) + (t.length : Int) + 1 := by rw [mkB_size]; simp; omega
    have hb := bt_app (P ++ T) c t (P.length + T.length) (by simp)
    have hw1 : wrap64 (((P.length + T.length : Nat) : Int) + 1) = ((P.length + T.length + 1 : Nat) : Int) := w64n _ (by omega)
    have hw2 : wrap64 (((P.length + T.length + 1 : Nat) : Int) - (P.length : Int)) = ((T.length + 1 : Nat) : Int) := by
      rw [show ((P.length + T.length + 1 : Nat) : Int) - (P.length : Int) = ((T.length + 1 : Nat) : Int) by omega]; exact w64c _ (by omega)
    have p1 : ((P.length + T.length : Nat) : Int) < ((P.length + T.length : Nat) : Int) + (t.length : Int) + 1 := by omega
    have p2 : (0 : Int) ≤ ((P.length + T.length : Nat) : Int) := by omega
    have p3 : (0 : Int) ≤ (P.length : Int) := by omega
    have p4 : (P.length : Int) ≤ ((P.length + T.length + 1 : Nat) : Int) := by omega
    have p5 : ((P.length + T.length + 1 : Nat) : Int) ≤ ((P.length + T.length : Nat) : Int) + (t.length : Int) + 1 := by omega
    by_cases hc : c = 10
    · subst hc
      have hb10 : ((10 : UInt8).toNat : Int) = 10 := rfl
      have hex : (mkB (P ++ T ++ 10 :: t)).extract P.length (P.length + T.length + 1) = mkB (T ++ [10]) := by
        have := mkB_mid P (T ++ [10]) t P.length (P.length + T.length + 1) rfl (by simp; omega)
        rw [show P ++ (T ++ [10]) ++ t = P ++ T ++ 10 :: t by simp] at this
        exact this
      have hend := ends_is T (by omega)
      have ihn := tail_go t (P ++ T ++ [10]) [] (f + 1) (by simp; omega) (by simp at hf; omega)
      rw [List.append_nil] at ihn
      rw [show (P ++ T ++ [10]) ++ t = P ++ T ++ 10 :: t by simp] at ihn
      have hpl : (P ++ T ++ [10]).length = P.length + T.length + 1 := by simp; omega
      rw [hpl] at ihn
      unfold tlG
      rw [if_neg (fun e => e rfl)]
      cases he : endsB T with
      | false =>
        rw [he] at hend
        rw [if_pos rfl]
        refine Ev.stepBind (F := ?F) (fun k => ?h1) hend ?h2
        case h1 =>
          simp only [portcullisref20_tail.l0]
          rw [hsz, if_pos p1, if_pos p2, hb, if_pos hb10, hw1, if_pos p3, if_pos p4, if_pos p5, Int.toNat_natCast, Int.toNat_natCast, hex]
        case h2 =>
          refine Ev.now fun k => ?_
          rw [if_neg (by decide)]
          rfl
      | true =>
        have hT := endsB_ne he
        have hw3 : wrap64 (((T.length + 1 : Nat) : Int) - 2) = ((T.length - 1 : Nat) : Int) := by
          rw [show ((T.length + 1 : Nat) : Int) - 2 = ((T.length - 1 : Nat) : Int) by omega]; exact w64c _ (by omega)
        have hpre : (mkB (T ++ [10])).extract 0 (T.length - 1) = mkB (T.take (T.length - 1)) := by
          have := mkB_pre (T.take (T.length - 1)) (T.drop (T.length - 1) ++ [10]) (T.length - 1) (by rw [List.length_take]; omega)
          rw [← List.append_assoc, List.take_append_drop] at this
          exact this
        have hsz2 : ((mkB (T ++ [10])).size : Int) = ((T.length + 1 : Nat) : Int) := by rw [mkB_size]; simp
        have hsz3 : ((mkB (T.take (T.length - 1))).size : Int) = ((T.length - 1 : Nat) : Int) := by rw [mkB_size, List.length_take]; omega
        have htl : (mkB (T.take (T.length - 1))).toList = T.take (T.length - 1) := by rw [Lib.toList_data, data_mkB]
        rw [he] at hend
        rw [if_neg (by decide)]
        refine Ev.stepBind (F := ?F) (fun k => ?h1) hend ?h2
        case h1 =>
          simp only [portcullisref20_tail.l0]
          rw [hsz, if_pos p1, if_pos p2, hb, if_pos hb10, hw1, if_pos p3, if_pos p4, if_pos p5, Int.toNat_natCast, Int.toNat_natCast, hex]
        case h2 =>
          have z1 : (0 : Int) ≤ ((T.length - 1 : Nat) : Int) := by omega
          have z2 : ((T.length - 1 : Nat) : Int) ≤ ((T.length + 1 : Nat) : Int) := by omega
          by_cases h1 : T.length = 1
          · rw [if_pos h1]
            refine Ev.now fun k => ?_
            rw [if_pos rfl, hw2, hw3, if_pos z1, hsz2, if_pos z2, Int.toNat_natCast, hpre, if_pos (by rw [htl, h1]; rfl)]
            rfl
          · rw [if_neg h1]
            have hne : ¬ (mkB (T.take (T.length - 1))).toList = [] := by
              rw [htl]
              intro e
              have := congrArg List.length e
              rw [List.length_take] at this
              simp at this
              omega
            obtain ⟨q, hq⟩ : ∃ q, (if 4096 < T.length - 1 ∨ 64 ≤ f then ((1, false, 195) : Nat × Bool × Int) else if fieldOk (T.take (T.length - 1)) = false then (1, false, 200) else ((tlG (f + 1) [] t).1 + 1, (tlG (f + 1) [] t).2)) = q := ⟨_, rfl⟩
            rw [hq]
            have hj := fun (b : Bool) (hb1 : b = false → ¬ (4096 < T.length - 1 ∨ 64 ≤ f)) (hb2 : b = true → (4096 < T.length - 1 ∨ 64 ≤ f)) => tail_j1 P T (10 :: t) f (P.length + T.length + 1) (P.length + T.length) (T.take (T.length - 1)) (by rw [List.length_take]; omega) q rfl b (by omega) (by omega) (fun hb hk => by
              rw [if_neg (hb1 hb), hk, if_neg (by decide)] at hq
              rw [← hq, castT_succ]
              exact ihn) (fun hb => by rw [if_pos (hb2 hb)] at hq; exact hq.symm) (fun hb hk => by rw [if_neg (hb1 hb), hk, if_pos rfl] at hq; exact hq.symm)
            by_cases h2 : 4096 < T.length - 1
            · refine Ev.of_eq (fun k => ?_) (hj true (fun e => by cases e) (fun _ => .inl h2))
              rw [if_pos rfl, hw2, hw3, if_pos z1, hsz2, if_pos z2, Int.toNat_natCast, hpre, if_neg hne, hsz3, if_pos (by omega)]
            · have hd : decide ((f : Int) ≥ 64) = decide (64 ≤ f) := by
                by_cases e : 64 ≤ f
                · rw [decide_eq_true e, decide_eq_true (by omega)]
                · rw [decide_eq_false e, decide_eq_false (by omega)]
              refine Ev.of_eq (fun k => ?_) (hj (decide (64 ≤ f)) (fun e => by have := of_decide_eq_false e; omega) (fun e => .inr (of_decide_eq_true e)))
              rw [if_pos rfl, hw2, hw3, if_pos z1, hsz2, if_pos z2, Int.toNat_natCast, hpre, if_neg hne, hsz3, if_neg (by omega), hd]
    · have ih := tail_go t P (T ++ [c]) f (by simp; omega) (by simp at hf; omega)
      rw [show P ++ (T ++ [c]) ++ t = P ++ T ++ c :: t by simp, show P.length + (T ++ [c]).length = P.length + T.length + 1 by simp; omega] at ih
      unfold tlG
      rw [if_pos hc]
      by_cases h4 : 4097 < T.length + 1
      · rw [if_pos h4]
        refine Ev.one (fun k => ?_)
        simp only [portcullisref20_tail.l0]
        rw [hsz, if_pos p1, if_pos p2, hb, if_neg (u8ne 10 rfl hc), hw1, hw2, if_pos (by omega)]
        rfl
      · rw [if_neg h4, castT_succ]
        refine Ev.step (fun k => ?_) ih
        simp only [portcullisref20_tail.l0]
        rw [hsz, if_pos p1, if_pos p2, hb, if_neg (u8ne 10 rfl hc), hw1, hw2, if_neg (by omega)]
end Go.Proofs.YtllcfifeaacmiaaDoor.Pr
