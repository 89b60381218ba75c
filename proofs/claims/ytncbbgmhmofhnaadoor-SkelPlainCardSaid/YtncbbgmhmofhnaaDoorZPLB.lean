import Derived.Shelf.Small.Utf8
import Derived.Shelf.Utf8.AppendRunePlain
import Derived.Shelf.Unicode.DecodeSlow
import Derived.Shelf.Unicode.DecodeAny
import Derived.Shelf.Slices.Turned
import Derived.Test.YtncbbgmhmofhnaaDoorProg
import Derived.Below
import Derived.Deep.Draws
import Derived.Deep.AppendLies
import Derived.Maps.AppendAt
import Derived.OwnWalk
import Derived.Laws.BytesArg
import Derived.Laws.MakeOwn
import Derived.Laws.OwnMore
import Derived.Deep.OwnRows
import Derived.Tactics
import Derived.Lib.ConvBytes
import Derived.Laws.Slices
import Derived.WalkKit
import Derived.KernelRfl
import Derived.RowKit3
import Derived.Deep.LoopGhost
import Derived.Deep.QuietTactic
import Derived.BigQuiet
import Derived.WideLaws
import Derived.Deep.DeepCutAuto
import Derived.Deep.CutBlock
import Derived.Deep.RegionHeld3
import Derived.Laws.Rows
import Derived.Lib.AppendStr
import Derived.ArgAppend
import Derived.Laws.IdiomCopy
import Derived.OrdersHeld
import Derived.Laws.BitsLemmas
import Derived.RowKit
import Derived.Test.YtncbbgmhmofhnaaDoorZPLA
import Derived.Test.YtncbbgmhmofhnaaDoorRows
import Derived.Lib.LaidU8
import Derived.WalkSpells
import Derived.Lib.Hide
import Derived.WalkLawsBesides
import Derived.Deep.MidRow
section
namespace Go.Proofs
open Go.Shelf
def Tryd.lays119_ren : Go.Shelf.Ren := ⟨fun | 119 => 42 | n => n, fun | 21 => 21 | 4 => 4 | n => n, fun | n => n⟩
theorem Tryd.lays119 : Go.Proofs.Lays.n119 Tryd.prog Tryd.lays119_ren := {
  mixed := by kernel_rfl
  f119 := Tryd.func42.trans (congrArg some (by kernel_rfl))
  t4 := Tryd.underlying4
  a4 := Tryd.isAgg4
  z4 := Tryd.sizeOf4
  v4 := Tryd.zeroValue4
  t21 := Tryd.underlying21
  a21 := Tryd.isAgg21
  z21 := Tryd.sizeOf21
  v21 := Tryd.zeroValue21 }
/-- utf8.ValidRune: "ValidRune reports whether r can be legally encoded as UTF-8. Code points that are out of range or a surrogate half are illegal.": IT RETURNS 'Lib.validRune r'; the world is as it was. (LAID: no walk: one application.) -/
theorem Tryd.utf8_ValidRune (r : Int) (w : World) :
    Calls Tryd.prog 42 #[.int .i32 r] w fun e w' => e = .returned (.bool (Lib.validRune r)) ∧ w' = w := Any.utf8_ValidRune Tryd.lays119 r w
def Tryd.lays242_ren : Go.Shelf.Ren := ⟨fun | 242 => 43 | 278 => 66 | n => n, fun | 37 => 27 | 21 => 21 | 51 => 83 | 4 => 4 | 5 => 5 | 46 => 74 | n => n, fun | n => n⟩
theorem Tryd.lays242 : Go.Proofs.Lays.n242 Tryd.prog Tryd.lays242_ren := {
  mixed := by kernel_rfl
  f242 := Tryd.func43.trans (congrArg some (by kernel_rfl))
  f278 := Tryd.func66.trans (congrArg some (by kernel_rfl))
  t4 := Tryd.underlying4
  a4 := Tryd.isAgg4
  z4 := Tryd.sizeOf4
  v4 := Tryd.zeroValue4
  t5 := Tryd.underlying5
  a5 := Tryd.isAgg5
  z5 := Tryd.sizeOf5
  v5 := Tryd.zeroValue5
  t21 := Tryd.underlying21
  a21 := Tryd.isAgg21
  z21 := Tryd.sizeOf21
  v21 := Tryd.zeroValue21
  t37 := Tryd.underlying27
  a37 := Tryd.isAgg27
  z37 := Tryd.sizeOf27
  v37 := Tryd.zeroValue27
  t46 := Tryd.underlying74
  a46 := Tryd.isAgg74
  z46 := Tryd.sizeOf74
  v46 := Tryd.zeroValue74
  t51 := Tryd.underlying83
  a51 := Tryd.isAgg83
  z51 := Tryd.sizeOf83
  v51 := Tryd.zeroValue83 }
open Go.RowKit in
/-- unicode/utf8.AppendRune: "AppendRune appends the UTF-8 encoding of r to the end of p and returns the extended buffer. If the rune is out of range, it appends the encoding of RuneError.": ONTO A ROW OF BYTES THAT THE CALL OWNS (its head frozen or not): EVERY int32: 'Lib.runeCells r' goes in behind what the row holds; the world: one new block (the bytes as the call's variadic argument), then what 'append' does to the row. (LAID: no walk: one application.) -/
theorem Tryd.utf8_AppendRune_plain (B : Nat) (v : Value) (n : Nat) (xs : List Value) (r : Int) (hr0 : -2147483648 ≤ r) (hr1 : r ≤ 2147483647) (w : World) (hown : w.ownsRow B 5 1 v n xs) (hlen : n + 4 ≤ 140737488355328) (hBw : B ≤ w.heap.size) :
    Calls Tryd.prog 43 #[v, .int .i32 r] w fun e w' => ∃ v', e = .returned v' ∧ w'.ownsRow B 5 1 v' (n + (Lib.runeCells r).length) (xs ++ Lib.runeCells r) ∧ ∃ o, (w.alloc o).grownBy w' v.ownBlock := Any.utf8_AppendRune_plain Tryd.lays242 (by kernel_rfl) B v n xs r hr0 hr1 w hown hlen hBw
def Tryd.lays260_ren : Go.Shelf.Ren := ⟨fun | 260 => 91 | n => n, fun | 9 => 9 | 21 => 21 | 3 => 3 | 4 => 4 | 5 => 5 | 119 => 112 | 0 => 0 | 46 => 74 | 139 => 115 | 138 => 114 | n => n, fun | 3 => 0 | 4 => 1 | n => n⟩
theorem Tryd.lays260 : Go.Proofs.Lays.n260 Tryd.prog Tryd.lays260_ren := {
  mixed := by kernel_rfl
  f260 := Tryd.func91.trans (congrArg some (by kernel_rfl))
  t0 := Tryd.underlying0
  a0 := Tryd.isAgg0
  z0 := Tryd.sizeOf0
  v0 := Tryd.zeroValue0
  t3 := Tryd.underlying3
  a3 := Tryd.isAgg3
  z3 := Tryd.sizeOf3
  v3 := Tryd.zeroValue3
  t4 := Tryd.underlying4
  a4 := Tryd.isAgg4
  z4 := Tryd.sizeOf4
  v4 := Tryd.zeroValue4
  t5 := Tryd.underlying5
  a5 := Tryd.isAgg5
  z5 := Tryd.sizeOf5
  v5 := Tryd.zeroValue5
  t9 := Tryd.underlying9
  a9 := Tryd.isAgg9
  z9 := Tryd.sizeOf9
  v9 := Tryd.zeroValue9
  t21 := Tryd.underlying21
  a21 := Tryd.isAgg21
  z21 := Tryd.sizeOf21
  v21 := Tryd.zeroValue21
  t46 := Tryd.underlying74
  a46 := Tryd.isAgg74
  z46 := Tryd.sizeOf74
  v46 := Tryd.zeroValue74
  t119 := Tryd.underlying112
  a119 := Tryd.isAgg112
  z119 := Tryd.sizeOf112
  t138 := Tryd.underlying114
  a138 := Tryd.isAgg114
  z138 := Tryd.sizeOf114
  v138 := Tryd.zeroValue114
  t139 := Tryd.underlying115
  a139 := Tryd.isAgg115
  z139 := Tryd.sizeOf115
  v139 := Tryd.zeroValue115
  g3 := by kernel_rfl
  g4 := by kernel_rfl }
def Tryd.lays197_ren : Go.Shelf.Ren := ⟨fun | 197 => 78 | 260 => 91 | n => n, fun | 9 => 9 | 21 => 21 | 3 => 3 | 4 => 4 | 5 => 5 | 105 => 98 | 119 => 112 | 0 => 0 | 46 => 74 | 139 => 115 | 138 => 114 | n => n, fun | 3 => 0 | 4 => 1 | n => n⟩
theorem Tryd.lays197 : Go.Proofs.Lays.n197 Tryd.prog Tryd.lays197_ren := {
  mixed := by kernel_rfl
  f197 := Tryd.func78.trans (congrArg some (by kernel_rfl))
  f260 := Tryd.func91.trans (congrArg some (by kernel_rfl))
  t0 := Tryd.underlying0
  a0 := Tryd.isAgg0
  z0 := Tryd.sizeOf0
  v0 := Tryd.zeroValue0
  t3 := Tryd.underlying3
  a3 := Tryd.isAgg3
  z3 := Tryd.sizeOf3
  v3 := Tryd.zeroValue3
  t4 := Tryd.underlying4
  a4 := Tryd.isAgg4
  z4 := Tryd.sizeOf4
  v4 := Tryd.zeroValue4
  t5 := Tryd.underlying5
  a5 := Tryd.isAgg5
  z5 := Tryd.sizeOf5
  v5 := Tryd.zeroValue5
  t9 := Tryd.underlying9
  a9 := Tryd.isAgg9
  z9 := Tryd.sizeOf9
  v9 := Tryd.zeroValue9
  t21 := Tryd.underlying21
  a21 := Tryd.isAgg21
  z21 := Tryd.sizeOf21
  v21 := Tryd.zeroValue21
  t46 := Tryd.underlying74
  a46 := Tryd.isAgg74
  z46 := Tryd.sizeOf74
  v46 := Tryd.zeroValue74
  t105 := Tryd.underlying98
  a105 := Tryd.isAgg98
  z105 := Tryd.sizeOf98
  v105 := Tryd.zeroValue98
  t119 := Tryd.underlying112
  a119 := Tryd.isAgg112
  z119 := Tryd.sizeOf112
  t138 := Tryd.underlying114
  a138 := Tryd.isAgg114
  z138 := Tryd.sizeOf114
  v138 := Tryd.zeroValue114
  t139 := Tryd.underlying115
  a139 := Tryd.isAgg115
  z139 := Tryd.sizeOf115
  v139 := Tryd.zeroValue115
  g3 := by kernel_rfl
  g4 := by kernel_rfl }
open Go.RowKit Go.Lib in
/-- **unicode/utf8.DecodeRuneInString AT EVERY STRING.** (LAID: no walk: one application.) -/
theorem Tryd.utf8_DecodeRuneInString (s : ByteArray) (w : World) (hT : Lib.Utf8Tabs 0 1 w) :
    Calls Tryd.prog 78 #[.string s] w fun e w' => e = .returned (.tuple #[.int .i32 (Lib.decodeGo s).1, .int .i64 (Lib.decodeGo s).2]) ∧ Below w.heap.size w w' := Any.utf8_DecodeRuneInString Tryd.lays197 s w hT
def Tryd.lays109_ren : Go.Shelf.Ren := ⟨fun | 109 => 36 | n => n, fun | 31 => 30 | 9 => 9 | 3 => 3 | 0 => 0 | 4 => 4 | n => n, fun | n => n⟩
theorem Tryd.lays109 : Go.Proofs.Lays.n109 Tryd.prog Tryd.lays109_ren := {
  mixed := by kernel_rfl
  f109 := Tryd.func36.trans (congrArg some (by kernel_rfl))
  t0 := Tryd.underlying0
  a0 := Tryd.isAgg0
  z0 := Tryd.sizeOf0
  v0 := Tryd.zeroValue0
  t3 := Tryd.underlying3
  a3 := Tryd.isAgg3
  z3 := Tryd.sizeOf3
  v3 := Tryd.zeroValue3
  t4 := Tryd.underlying4
  a4 := Tryd.isAgg4
  z4 := Tryd.sizeOf4
  v4 := Tryd.zeroValue4
  t9 := Tryd.underlying9
  a9 := Tryd.isAgg9
  z9 := Tryd.sizeOf9
  v9 := Tryd.zeroValue9
  t31 := Tryd.underlying30
  a31 := Tryd.isAgg30
  z31 := Tryd.sizeOf30
  v31 := Tryd.zeroValue30 }
open Go.Lib in
/-- slices.Index at []string: "Index returns the index of the first occurrence of v in s, or -1 if not present.": IT RETURNS 'Lib.idxOfS (the elements) v'; the world is as it was. 'zs': what the cells behind the slice's address hold (its spare capacity too, if you have it); 'zs.take n': its elements. (LAID: no walk: one application.) -/
theorem Tryd.slices_Index_string (b off n c : Nat) (zs : List ByteArray) (x : ByteArray) (w : World) (hz : n ≤ zs.length) (hbig : n ≤ 9223372036854775807) (hc : ∀ j, j < zs.length → w.cell? ⟨b, off + j, none⟩ = some (.string (zs.getD j ByteArray.empty))) :
    Calls Tryd.prog 36 #[.slice (some ⟨b, off, none⟩) n c, .string x] w fun e w' => e = .returned (.int .i64 (Lib.idxOfS (zs.take n) x)) ∧ w' = w := Any.slices_Index_string Tryd.lays109 b off n c zs x w hz hbig hc
end Go.Proofs
end

section
namespace Go.Proofs.YtncbbgmhmofhnaaDoor.Pr
open Go.RowKit Go.Proofs.YtncbbgmhmofhnaaDoorW.PrintWords Go.Proofs.YtncbbgmhmofhnaaDoorW.PrintLast Go.Proofs.YtncbbgmhmofhnaaDoorW.PrintMore
attribute [local go_sem] max2_int min2_int max_two min_two max_three min_three max_four min_four Instr.field asAgg   -- for this text's walks alone
set_option linter.unusedVariables false
set_option linter.unusedSimpArgs false



def errW : Option Int → Value
  | none => .nilIface
  | some c => .iface 0 (.int .i64 c)
theorem errW_none : errW none = .nilIface := rfl
theorem errW_some (c : Int) : errW (some c) = .iface 0 (.int .i64 c) := rfl

theorem info5 : (Tryd.prog.info? 5).map (fun i => (i.zero, i.size, i.bytes)) = some (some (.int .u8 0), 1, 1) := by kernel_rfl
theorem info21 : (Tryd.prog.info? 21).map (fun i => (i.zero, i.size, i.bytes)) = some (some (.int .i32 0), 1, 4) := by kernel_rfl
-- the values' own types
structure S88 where
  f0 : Int
  f1 : Int
  f2 : Int
  f3 : Int
  f4 : Int
  f5 : Int
  f6 : Int
  f7 : Bool
def z88 : S88 := ⟨(0 : Int), (0 : Int), (0 : Int), (0 : Int), (0 : Int), (0 : Int), (0 : Int), false⟩
structure S91 where
  f0 : Int
  f1 : Int
  f2 : Int
end Go.Proofs.YtncbbgmhmofhnaaDoor.Pr
end

section
namespace Go.Proofs.YtncbbgmhmofhnaaDoor.Pr
open Go.RowKit Go.Proofs.YtncbbgmhmofhnaaDoorW.PrintWords Go.Proofs.YtncbbgmhmofhnaaDoorW.PrintLast Go.Proofs.YtncbbgmhmofhnaaDoorW.PrintMore
set_option linter.unusedVariables false
set_option linter.unusedSimpArgs false

abbrev WG (w : World) : Prop := Lib.Utf8Tabs 0 1 w
theorem WG.keep {w w1 : World} (h : WG w) (hb : Below w.heap.size w w1) : WG w1 :=
  ⟨fun c hc => pw_cell_below hb (h.1 c hc), fun i hi => ⟨pw_cell_below hb (h.2 i hi).1, pw_cell_below hb (h.2 i hi).2⟩⟩
theorem WG.of {W : World} {l : List (String × DataW Unit)} (h : laidMet Tryd.prog l W) (h1 : ("unicode/utf8.first", Lib.firstData) ∈ l) (h2 : ("unicode/utf8.acceptRanges", Lib.acceptData) ∈ l) : WG W :=
  utf8Tabs_of_reads Tryd.lays260 ⟨by kernel_rfl, by kernel_rfl, by kernel_rfl, by kernel_rfl, by kernel_rfl, by kernel_rfl, by kernel_rfl⟩ (Lib.laidMet.reads h h1) (Lib.laidMet.reads h h2)
def utf8_DecodeRuneInString.f (a0 : ByteArray) : Option (Int × Int) := some (((Lib.decodeGo a0).1 : Int), ((Lib.decodeGo a0).2 : Int))
theorem utf8_DecodeRuneInString.calls (a0 : ByteArray) (r1 : Int) (r2 : Int) (w : World) (h : utf8_DecodeRuneInString.f a0 = some (r1, r2)) (hG : WG w) :
    Calls Tryd.prog 78 #[.string a0] w fun e w' => e = .returned (.tuple #[.int .i32 r1, .int .i64 r2]) ∧ Below w.heap.size w w' := by
  have h := Option.some.inj h
  simp only [Prod.mk.injEq] at h
  obtain ⟨rfl, rfl⟩ := h
  exact Tryd.utf8_DecodeRuneInString a0 w hG
end Go.Proofs.YtncbbgmhmofhnaaDoor.Pr
end

section
namespace Go.Proofs.YtncbbgmhmofhnaaDoor.Pr
open Go.RowKit Go.Proofs.YtncbbgmhmofhnaaDoorW.PrintWords Go.Proofs.YtncbbgmhmofhnaaDoorW.PrintLast Go.Proofs.YtncbbgmhmofhnaaDoorW.PrintMore
attribute [local go_sem] max2_int min2_int max_two min_two max_three min_three max_four min_four Instr.field asAgg   -- for this text's walks alone
set_option linter.unusedVariables false
set_option linter.unusedSimpArgs false

mutual
def unidata_Like.j0 : Nat → Int → Int → Bool → Option (List Int)
 | 0, _, _, _ => none
 | k + 1, x0, x3, x4 => if x4 = true then (some (([97] : List Int))) else (if x3 = 1089 then (some (([99] : List Int))) else (if x3 = 1077 then (some (([101] : List Int))) else (if x3 = 1110 then (some (([105] : List Int))) else (if x3 = 961 then (unidata_Like.j1 k x0 x3 (x3 == 961)) else (unidata_Like.j1 k x0 x3 (x3 == 1088))))))
def unidata_Like.j1 : Nat → Int → Int → Bool → Option (List Int)
 | 0, _, _, _ => none
 | k + 1, x0, x3, x17 => if x17 = true then (some (([112] : List Int))) else (if x3 = 1109 then (some (([115] : List Int))) else (if x3 = 957 then (some (([118] : List Int))) else (if x3 = 1093 then (some (([120] : List Int))) else (if x3 = 1091 then (some (([121] : List Int))) else (if x3 = 48 then (unidata_Like.j2 k x0 x3 (x3 == 48)) else (if x3 = 959 then (unidata_Like.j2 k x0 x3 (x3 == 959)) else (if x3 = 1086 then (unidata_Like.j2 k x0 x3 (x3 == 1086)) else (unidata_Like.j2 k x0 x3 (x3 == 1505)))))))))
def unidata_Like.j2 : Nat → Int → Int → Bool → Option (List Int)
 | 0, _, _, _ => none
 | k + 1, x0, x3, x33 => if x33 = true then (some (([111] : List Int))) else (if x3 = 49 then (unidata_Like.j3 k x0 x3 (x3 == 49)) else (unidata_Like.j3 k x0 x3 (x3 == 1575)))
def unidata_Like.j3 : Nat → Int → Int → Bool → Option (List Int)
 | 0, _, _, _ => none
 | k + 1, x0, x3, x39 => if x39 = true then (some (([108] : List Int))) else (if x3 = 109 then (some (([114, 110] : List Int))) else (if x3 = 1112 then (some (([106] : List Int))) else (if x3 = 12540 then (some (([19968] : List Int))) else (some (([x0] : List Int))))))
end
def unidata_Like.f (k : Nat) (a0 : Int) : Option (List Int) := if a0 = 945 then (unidata_Like.j0 k a0 a0 (a0 == 945)) else (unidata_Like.j0 k a0 a0 (a0 == 1072))
set_option maxHeartbeats 8000000 in
set_option maxRecDepth 100000 in
theorem unidata_Like.calls (k : Nat) (a0 : Int) (r : List Int) (w : World) (h : unidata_Like.f k a0 = some r) :
  Calls Tryd.prog 23 #[.int .i32 a0] w fun e w' => ∃ v0_ : Value, e = .returned (v0_) ∧ Kd.R (Kd.int .i32) 21 w' w.heap.size (fun _ => True) v0_ r ∧ Below w.heap.size w w' := by
 have HB := Aside0.mk (Below.refl w.heap.size w)
 have H : (if a0 = 945 then (unidata_Like.j0 k a0 a0 (a0 == 945)) else (unidata_Like.j0 k a0 a0 (a0 == 1072))) = some r := h
 clear h
 have HC2 := Aside0.mk H
 clear H
 go_enter Tryd.func23, Tryd.ntmps23
 go_upto_if 4 with (fail)
 go_cut [4] (fun v4 wc => ∃ (kq : Nat) (x4_1 : Bool), v4 = .bool x4_1 ∧ Aside0 (unidata_Like.j0 kq a0 a0 x4_1 = some r) ∧ Aside0 (kq ≤ k) ∧ Aside0 (Below w.heap.size w wc))
 case first =>
  have H := HC2.out
  clear HC2
  by_cases c3 : a0 = 945
  ·rw [if_pos c3] at H
   have c3b0 : (a0 == 945) = true := beq_iff_eq.mpr c3
   have c3b1 : (a0 != 945) = false := bne_eq_false_iff_eq.mpr c3
   clear c3
   (first | rw [c3b0] | (simp only [i64_w, i32_w]; rw [c3b0]) | skip)
   have H' := Aside0.mk H
   clear H
   go_wp2
   go_meet
   case rel => exact ⟨_, ((a0 == 945)), (by first | rfl | (simp; done) | (simp [*]; done)), H', ⟨by first | omega | exact Nat.le_refl _⟩, ⟨by repeat (first | (with_reducible first | exact HB.out | apply below_alloc | apply pw_below_drewN | apply below_drew1) | exact HB.out)⟩⟩
  ·rw [if_neg c3] at H
   have c3b0 : (a0 == 945) = false := beq_eq_false_iff_ne.mpr c3
   have c3b1 : (a0 != 945) = true := bne_iff_ne.mpr c3
   (first | rw [c3b0] | (simp only [i64_w, i32_w]; rw [c3b0]) | skip)
   have H' := Aside0.mk H
   clear H
   go_wp2
   go_meet
   case rel => exact ⟨_, ((a0 == 1072)), (by first | rfl | (simp; done) | (simp [*]; done)), H', ⟨by first | omega | exact Nat.le_refl _⟩, ⟨by repeat (first | (with_reducible first | exact HB.out | apply below_alloc | apply pw_below_drewN | apply below_drew1) | exact HB.out)⟩⟩
 case rest =>
  clear HC2
  try clear c2
  try clear p2
  try clear c3
  try clear c3b0
  try clear c3b1
  obtain ⟨kq, x4_1, rfl, HA, HJ1, HB⟩ := hcut
  cases kq with
  | zero => exact absurd HA.out (by simp [unidata_Like.j0])
  | succ kj1 =>
   have H := HA.out
   clear HA
   simp only [unidata_Like.j0] at H
   by_cases c4 : x4_1 = true
   ·subst c4
    have H1 : (some (([97] : List Int))) = some r := by rw [if_pos rfl] at H; exact H
    clear H
    have H := H1
    clear H1
    obtain ⟨y109, hy109⟩ : ∃ y_ : List Int, y_ = (([97] : List Int)) := ⟨_, rfl⟩
    replace H : (some y109) = some r := by first | (rw [hy109]; with_reducible exact H) | (have H2_ := (Option.bind_some _ _).symm.trans H; rw [hy109]; with_reducible exact H2_) | (have H2_ := (Option.bind_some _ _).symm.trans H; with_reducible exact H2_) | with_reducible exact H | (rw [hy109]; exact H) | exact H
    have Ny109 := Aside0.mk hy109
    clear hy109
    obtain rfl := Option.some.inj H
    go_wp2_with (first | ((with_reducible refine gate_dst (N := 7) rfl ?_); refine Kd.R_lit (Kd.int .i32) _ 21 ?hg (N := 7) ?hd (xs := ([97] : List Int)) (inner := [.int .i32 97]) (ok := fun _ => True) (okp := fun _ => True) ?hr ?hp (fun _ hk => hk) trivial (Below.refl _ _) (Nat.le_refl _) (by simp) ?_; (case hd => rfl); (case hg => rfl); (case hr => first | (go_simp; done) | (go_simp; rfl)); (case hp => exact (Reps.one (show Kd.M (Kd.int .i32) _ _ _ 97 [.int .i32 97] from rfl) (Reps.none _ _))); intro v110 w5 ho6 hb hg_ hnew_; clear hg_ hnew_; (first | rw [← Ny109.out] at ho6 | (simp only [Int.reduceToNat] at ho6; rw [← Ny109.out] at ho6)); have n0_ := Aside0.mk (Kd.R_lower ho6 (below_size (by repeat (first | (with_reducible first | exact HB.out | apply below_alloc | apply pw_below_drewN | apply below_drew1) | exact HB.out)))); have n1_ := Aside0.mk (below_step (by repeat (first | (with_reducible first | exact HB.out | apply below_alloc | apply pw_below_drewN | apply below_drew1) | exact HB.out)) hb); clear HB; have HO111 := n0_; have HB := n1_; clear n0_ n1_; clear hb ho6))
    go_ret
    exact ⟨_, by first | rfl | (simp [errW_none, errW_some] <;> rfl) | (simp [*, errW_none, errW_some] <;> rfl), by (with_reducible repeat (first | apply Kd.R_alloc | apply Kd.R_drewN | apply Kd.R_drew)); exact HO111.out, by repeat (first | (with_reducible first | exact HB.out | apply below_alloc | apply pw_below_drewN | apply below_drew1) | exact HB.out)⟩
   ·replace c4 := Bool.eq_false_iff.mpr c4
    subst c4
    have H1 : (if a0 = 1089 then (some (([99] : List Int))) else (if a0 = 1077 then (some (([101] : List Int))) else (if a0 = 1110 then (some (([105] : List Int))) else (if a0 = 961 then (unidata_Like.j1 kj1 a0 a0 (a0 == 961)) else (unidata_Like.j1 kj1 a0 a0 (a0 == 1088)))))) = some r := by rw [if_neg (show ¬ (false = true) by decide)] at H; exact H
    clear H
    have H := H1
    clear H1
    by_cases c7 : a0 = 1089
    ·rw [if_pos c7] at H
     have c7b0 : (a0 == 1089) = true := beq_iff_eq.mpr c7
     have c7b1 : (a0 != 1089) = false := bne_eq_false_iff_eq.mpr c7
     clear c7
     obtain ⟨y112, hy112⟩ : ∃ y_ : List Int, y_ = (([99] : List Int)) := ⟨_, rfl⟩
     replace H : (some y112) = some r := by first | (rw [hy112]; with_reducible exact H) | (have H2_ := (Option.bind_some _ _).symm.trans H; rw [hy112]; with_reducible exact H2_) | (have H2_ := (Option.bind_some _ _).symm.trans H; with_reducible exact H2_) | with_reducible exact H | (rw [hy112]; exact H) | exact H
     have Ny112 := Aside0.mk hy112
     clear hy112
     obtain rfl := Option.some.inj H
     go_wp2_with (first | ((with_reducible refine gate_dst (N := 10) rfl ?_); refine Kd.R_lit (Kd.int .i32) _ 21 ?hg (N := 10) ?hd (xs := ([99] : List Int)) (inner := [.int .i32 99]) (ok := fun _ => True) (okp := fun _ => True) ?hr ?hp (fun _ hk => hk) trivial (Below.refl _ _) (Nat.le_refl _) (by simp) ?_; (case hd => rfl); (case hg => rfl); (case hr => first | (go_simp; done) | (go_simp; rfl)); (case hp => exact (Reps.one (show Kd.M (Kd.int .i32) _ _ _ 99 [.int .i32 99] from rfl) (Reps.none _ _))); intro v113 w8 ho9 hb hg_ hnew_; clear hg_ hnew_; (first | rw [← Ny112.out] at ho9 | (simp only [Int.reduceToNat] at ho9; rw [← Ny112.out] at ho9)); have n0_ := Aside0.mk (Kd.R_lower ho9 (below_size (by repeat (first | (with_reducible first | exact HB.out | apply below_alloc | apply pw_below_drewN | apply below_drew1) | exact HB.out)))); have n1_ := Aside0.mk (below_step (by repeat (first | (with_reducible first | exact HB.out | apply below_alloc | apply pw_below_drewN | apply below_drew1) | exact HB.out)) hb); clear HB; have HO114 := n0_; have HB := n1_; clear n0_ n1_; clear hb ho9))
     go_ret
     exact ⟨_, by first | rfl | (simp [errW_none, errW_some] <;> rfl) | (simp [*, errW_none, errW_some] <;> rfl), by (with_reducible repeat (first | apply Kd.R_alloc | apply Kd.R_drewN | apply Kd.R_drew)); exact HO114.out, by repeat (first | (with_reducible first | exact HB.out | apply below_alloc | apply pw_below_drewN | apply below_drew1) | exact HB.out)⟩
    ·rw [if_neg c7] at H
     have c7b0 : (a0 == 1089) = false := beq_eq_false_iff_ne.mpr c7
     have c7b1 : (a0 != 1089) = true := bne_iff_ne.mpr c7
     by_cases c10 : a0 = 1077
     ·rw [if_pos c10] at H
      have c10b0 : (a0 == 1077) = true := beq_iff_eq.mpr c10
      have c10b1 : (a0 != 1077) = false := bne_eq_false_iff_eq.mpr c10
      clear c10
      obtain ⟨y115, hy115⟩ : ∃ y_ : List Int, y_ = (([101] : List Int)) := ⟨_, rfl⟩
      replace H : (some y115) = some r := by first | (rw [hy115]; with_reducible exact H) | (have H2_ := (Option.bind_some _ _).symm.trans H; rw [hy115]; with_reducible exact H2_) | (have H2_ := (Option.bind_some _ _).symm.trans H; with_reducible exact H2_) | with_reducible exact H | (rw [hy115]; exact H) | exact H
      have Ny115 := Aside0.mk hy115
      clear hy115
      obtain rfl := Option.some.inj H
      go_wp2_with (first | ((with_reducible refine gate_dst (N := 13) rfl ?_); refine Kd.R_lit (Kd.int .i32) _ 21 ?hg (N := 13) ?hd (xs := ([101] : List Int)) (inner := [.int .i32 101]) (ok := fun _ => True) (okp := fun _ => True) ?hr ?hp (fun _ hk => hk) trivial (Below.refl _ _) (Nat.le_refl _) (by simp) ?_; (case hd => rfl); (case hg => rfl); (case hr => first | (go_simp; done) | (go_simp; rfl)); (case hp => exact (Reps.one (show Kd.M (Kd.int .i32) _ _ _ 101 [.int .i32 101] from rfl) (Reps.none _ _))); intro v116 w11 ho12 hb hg_ hnew_; clear hg_ hnew_; (first | rw [← Ny115.out] at ho12 | (simp only [Int.reduceToNat] at ho12; rw [← Ny115.out] at ho12)); have n0_ := Aside0.mk (Kd.R_lower ho12 (below_size (by repeat (first | (with_reducible first | exact HB.out | apply below_alloc | apply pw_below_drewN | apply below_drew1) | exact HB.out)))); have n1_ := Aside0.mk (below_step (by repeat (first | (with_reducible first | exact HB.out | apply below_alloc | apply pw_below_drewN | apply below_drew1) | exact HB.out)) hb); clear HB; have HO117 := n0_; have HB := n1_; clear n0_ n1_; clear hb ho12))
      go_ret
      exact ⟨_, by first | rfl | (simp [errW_none, errW_some] <;> rfl) | (simp [*, errW_none, errW_some] <;> rfl), by (with_reducible repeat (first | apply Kd.R_alloc | apply Kd.R_drewN | apply Kd.R_drew)); exact HO117.out, by repeat (first | (with_reducible first | exact HB.out | apply below_alloc | apply pw_below_drewN | apply below_drew1) | exact HB.out)⟩
     ·rw [if_neg c10] at H
      have c10b0 : (a0 == 1077) = false := beq_eq_false_iff_ne.mpr c10
      have c10b1 : (a0 != 1077) = true := bne_iff_ne.mpr c10
      by_cases c13 : a0 = 1110
      ·rw [if_pos c13] at H
       have c13b0 : (a0 == 1110) = true := beq_iff_eq.mpr c13
       have c13b1 : (a0 != 1110) = false := bne_eq_false_iff_eq.mpr c13
       clear c13
       obtain ⟨y118, hy118⟩ : ∃ y_ : List Int, y_ = (([105] : List Int)) := ⟨_, rfl⟩
       replace H : (some y118) = some r := by first | (rw [hy118]; with_reducible exact H) | (have H2_ := (Option.bind_some _ _).symm.trans H; rw [hy118]; with_reducible exact H2_) | (have H2_ := (Option.bind_some _ _).symm.trans H; with_reducible exact H2_) | with_reducible exact H | (rw [hy118]; exact H) | exact H
       have Ny118 := Aside0.mk hy118
       clear hy118
       obtain rfl := Option.some.inj H
       go_wp2_with (first | ((with_reducible refine gate_dst (N := 16) rfl ?_); refine Kd.R_lit (Kd.int .i32) _ 21 ?hg (N := 16) ?hd (xs := ([105] : List Int)) (inner := [.int .i32 105]) (ok := fun _ => True) (okp := fun _ => True) ?hr ?hp (fun _ hk => hk) trivial (Below.refl _ _) (Nat.le_refl _) (by simp) ?_; (case hd => rfl); (case hg => rfl); (case hr => first | (go_simp; done) | (go_simp; rfl)); (case hp => exact (Reps.one (show Kd.M (Kd.int .i32) _ _ _ 105 [.int .i32 105] from rfl) (Reps.none _ _))); intro v119 w14 ho15 hb hg_ hnew_; clear hg_ hnew_; (first | rw [← Ny118.out] at ho15 | (simp only [Int.reduceToNat] at ho15; rw [← Ny118.out] at ho15)); have n0_ := Aside0.mk (Kd.R_lower ho15 (below_size (by repeat (first | (with_reducible first | exact HB.out | apply below_alloc | apply pw_below_drewN | apply below_drew1) | exact HB.out)))); have n1_ := Aside0.mk (below_step (by repeat (first | (with_reducible first | exact HB.out | apply below_alloc | apply pw_below_drewN | apply below_drew1) | exact HB.out)) hb); clear HB; have HO120 := n0_; have HB := n1_; clear n0_ n1_; clear hb ho15))
       go_ret
       exact ⟨_, by first | rfl | (simp [errW_none, errW_some] <;> rfl) | (simp [*, errW_none, errW_some] <;> rfl), by (with_reducible repeat (first | apply Kd.R_alloc | apply Kd.R_drewN | apply Kd.R_drew)); exact HO120.out, by repeat (first | (with_reducible first | exact HB.out | apply below_alloc | apply pw_below_drewN | apply below_drew1) | exact HB.out)⟩
      ·rw [if_neg c13] at H
       have c13b0 : (a0 == 1110) = false := beq_eq_false_iff_ne.mpr c13
       have c13b1 : (a0 != 1110) = true := bne_iff_ne.mpr c13
       have HC16 := Aside0.mk H
       clear H
       go_upto_if 17 with (fail)
       go_cut [17] (fun v17 wc => ∃ (kq : Nat) (x17_15 : Bool), v17 = .bool x17_15 ∧ Aside0 (unidata_Like.j1 kq a0 a0 x17_15 = some r) ∧ Aside0 (kq ≤ kj1) ∧ Aside0 (Below w.heap.size w wc))
       case first =>
        have H := HC16.out
        clear HC16
        by_cases c17 : a0 = 961
        ·rw [if_pos c17] at H
         have c17b0 : (a0 == 961) = true := beq_iff_eq.mpr c17
         have c17b1 : (a0 != 961) = false := bne_eq_false_iff_eq.mpr c17
         clear c17
         (first | rw [c17b0] | (simp only [i64_w, i32_w]; rw [c17b0]) | skip)
         have H' := Aside0.mk H
         clear H
         go_wp2
         go_meet
         case rel => exact ⟨_, ((a0 == 961)), (by first | rfl | (simp; done) | (simp [*]; done)), H', ⟨by have := HJ1.out; first | omega | exact Nat.le_refl _⟩, ⟨by repeat (first | (with_reducible first | exact HB.out | apply below_alloc | apply pw_below_drewN | apply below_drew1) | exact HB.out)⟩⟩
        ·rw [if_neg c17] at H
         have c17b0 : (a0 == 961) = false := beq_eq_false_iff_ne.mpr c17
         have c17b1 : (a0 != 961) = true := bne_iff_ne.mpr c17
         (first | rw [c17b0] | (simp only [i64_w, i32_w]; rw [c17b0]) | skip)
         have H' := Aside0.mk H
         clear H
         go_wp2
         go_meet
         case rel => exact ⟨_, ((a0 == 1088)), (by first | rfl | (simp; done) | (simp [*]; done)), H', ⟨by have := HJ1.out; first | omega | exact Nat.le_refl _⟩, ⟨by repeat (first | (with_reducible first | exact HB.out | apply below_alloc | apply pw_below_drewN | apply below_drew1) | exact HB.out)⟩⟩
       case rest =>
        clear HC16
        try clear c1
        try clear c2
        try clear p2
        try clear c3
        try clear c3b0
        try clear c3b1
        try clear c4
        try clear c7
        try clear c7b0
        try clear c7b1
        try clear c10
        try clear c10b0
        try clear c10b1
        try clear c13
        try clear c13b0
        try clear c13b1
        try clear c17
        try clear c17b0
        try clear c17b1
        try clear p2
        obtain ⟨kq, x17_15, rfl, HA, HJ15, HB⟩ := hcut
        cases kq with
        | zero => exact absurd HA.out (by simp [unidata_Like.j1])
        | succ kj15 =>
         have H := HA.out
         clear HA
         simp only [unidata_Like.j1] at H
         by_cases c18 : x17_15 = true
         ·subst c18
          have H1 : (some (([112] : List Int))) = some r := by rw [if_pos rfl] at H; exact H
          clear H
          have H := H1
          clear H1
          obtain ⟨y121, hy121⟩ : ∃ y_ : List Int, y_ = (([112] : List Int)) := ⟨_, rfl⟩
          replace H : (some y121) = some r := by first | (rw [hy121]; with_reducible exact H) | (have H2_ := (Option.bind_some _ _).symm.trans H; rw [hy121]; with_reducible exact H2_) | (have H2_ := (Option.bind_some _ _).symm.trans H; with_reducible exact H2_) | with_reducible exact H | (rw [hy121]; exact H) | exact H
          have Ny121 := Aside0.mk hy121
          clear hy121
          obtain rfl := Option.some.inj H
          go_wp2_with (first | ((with_reducible refine gate_dst (N := 20) rfl ?_); refine Kd.R_lit (Kd.int .i32) _ 21 ?hg (N := 20) ?hd (xs := ([112] : List Int)) (inner := [.int .i32 112]) (ok := fun _ => True) (okp := fun _ => True) ?hr ?hp (fun _ hk => hk) trivial (Below.refl _ _) (Nat.le_refl _) (by simp) ?_; (case hd => rfl); (case hg => rfl); (case hr => first | (go_simp; done) | (go_simp; rfl)); (case hp => exact (Reps.one (show Kd.M (Kd.int .i32) _ _ _ 112 [.int .i32 112] from rfl) (Reps.none _ _))); intro v122 w19 ho20 hb hg_ hnew_; clear hg_ hnew_; (first | rw [← Ny121.out] at ho20 | (simp only [Int.reduceToNat] at ho20; rw [← Ny121.out] at ho20)); have n0_ := Aside0.mk (Kd.R_lower ho20 (below_size (by repeat (first | (with_reducible first | exact HB.out | apply below_alloc | apply pw_below_drewN | apply below_drew1) | exact HB.out)))); have n1_ := Aside0.mk (below_step (by repeat (first | (with_reducible first | exact HB.out | apply below_alloc | apply pw_below_drewN | apply below_drew1) | exact HB.out)) hb); clear HB; have HO123 := n0_; have HB := n1_; clear n0_ n1_; clear hb ho20))
          go_ret
          exact ⟨_, by first | rfl | (simp [errW_none, errW_some] <;> rfl) | (simp [*, errW_none, errW_some] <;> rfl), by (with_reducible repeat (first | apply Kd.R_alloc | apply Kd.R_drewN | apply Kd.R_drew)); exact HO123.out, by repeat (first | (with_reducible first | exact HB.out | apply below_alloc | apply pw_below_drewN | apply below_drew1) | exact HB.out)⟩
         ·replace c18 := Bool.eq_false_iff.mpr c18
          subst c18
          have H1 : (if a0 = 1109 then (some (([115] : List Int))) else (if a0 = 957 then (some (([118] : List Int))) else (if a0 = 1093 then (some (([120] : List Int))) else (if a0 = 1091 then (some (([121] : List Int))) else (if a0 = 48 then (unidata_Like.j2 kj15 a0 a0 (a0 == 48)) else (if a0 = 959 then (unidata_Like.j2 kj15 a0 a0 (a0 == 959)) else (if a0 = 1086 then (unidata_Like.j2 kj15 a0 a0 (a0 == 1086)) else (unidata_Like.j2 kj15 a0 a0 (a0 == 1505))))))))) = some r := by rw [if_neg (show ¬ (false = true) by decide)] at H; exact H
          clear H
          have H := H1
          clear H1
          by_cases c21 : a0 = 1109
          ·rw [if_pos c21] at H
           have c21b0 : (a0 == 1109) = true := beq_iff_eq.mpr c21
           have c21b1 : (a0 != 1109) = false := bne_eq_false_iff_eq.mpr c21
           clear c21
           obtain ⟨y124, hy124⟩ : ∃ y_ : List Int, y_ = (([115] : List Int)) := ⟨_, rfl⟩
           replace H : (some y124) = some r := by first | (rw [hy124]; with_reducible exact H) | (have H2_ := (Option.bind_some _ _).symm.trans H; rw [hy124]; with_reducible exact H2_) | (have H2_ := (Option.bind_some _ _).symm.trans H; with_reducible exact H2_) | with_reducible exact H | (rw [hy124]; exact H) | exact H
           have Ny124 := Aside0.mk hy124
           clear hy124
           obtain rfl := Option.some.inj H
           go_wp2_with (first | ((with_reducible refine gate_dst (N := 23) rfl ?_); refine Kd.R_lit (Kd.int .i32) _ 21 ?hg (N := 23) ?hd (xs := ([115] : List Int)) (inner := [.int .i32 115]) (ok := fun _ => True) (okp := fun _ => True) ?hr ?hp (fun _ hk => hk) trivial (Below.refl _ _) (Nat.le_refl _) (by simp) ?_; (case hd => rfl); (case hg => rfl); (case hr => first | (go_simp; done) | (go_simp; rfl)); (case hp => exact (Reps.one (show Kd.M (Kd.int .i32) _ _ _ 115 [.int .i32 115] from rfl) (Reps.none _ _))); intro v125 w22 ho23 hb hg_ hnew_; clear hg_ hnew_; (first | rw [← Ny124.out] at ho23 | (simp only [Int.reduceToNat] at ho23; rw [← Ny124.out] at ho23)); have n0_ := Aside0.mk (Kd.R_lower ho23 (below_size (by repeat (first | (with_reducible first | exact HB.out | apply below_alloc | apply pw_below_drewN | apply below_drew1) | exact HB.out)))); have n1_ := Aside0.mk (below_step (by repeat (first | (with_reducible first | exact HB.out | apply below_alloc | apply pw_below_drewN | apply below_drew1) | exact HB.out)) hb); clear HB; have HO126 := n0_; have HB := n1_; clear n0_ n1_; clear hb ho23))
           go_ret
           exact ⟨_, by first | rfl | (simp [errW_none, errW_some] <;> rfl) | (simp [*, errW_none, errW_some] <;> rfl), by (with_reducible repeat (first | apply Kd.R_alloc | apply Kd.R_drewN | apply Kd.R_drew)); exact HO126.out, by repeat (first | (with_reducible first | exact HB.out | apply below_alloc | apply pw_below_drewN | apply below_drew1) | exact HB.out)⟩
          ·rw [if_neg c21] at H
           have c21b0 : (a0 == 1109) = false := beq_eq_false_iff_ne.mpr c21
           have c21b1 : (a0 != 1109) = true := bne_iff_ne.mpr c21
           by_cases c24 : a0 = 957
           ·rw [if_pos c24] at H
            have c24b0 : (a0 == 957) = true := beq_iff_eq.mpr c24
            have c24b1 : (a0 != 957) = false := bne_eq_false_iff_eq.mpr c24
            clear c24
            obtain ⟨y127, hy127⟩ : ∃ y_ : List Int, y_ = (([118] : List Int)) := ⟨_, rfl⟩
            replace H : (some y127) = some r := by first | (rw [hy127]; with_reducible exact H) | (have H2_ := (Option.bind_some _ _).symm.trans H; rw [hy127]; with_reducible exact H2_) | (have H2_ := (Option.bind_some _ _).symm.trans H; with_reducible exact H2_) | with_reducible exact H | (rw [hy127]; exact H) | exact H
            have Ny127 := Aside0.mk hy127
            clear hy127
            obtain rfl := Option.some.inj H
            go_wp2_with (first | ((with_reducible refine gate_dst (N := 26) rfl ?_); refine Kd.R_lit (Kd.int .i32) _ 21 ?hg (N := 26) ?hd (xs := ([118] : List Int)) (inner := [.int .i32 118]) (ok := fun _ => True) (okp := fun _ => True) ?hr ?hp (fun _ hk => hk) trivial (Below.refl _ _) (Nat.le_refl _) (by simp) ?_; (case hd => rfl); (case hg => rfl); (case hr => first | (go_simp; done) | (go_simp; rfl)); (case hp => exact (Reps.one (show Kd.M (Kd.int .i32) _ _ _ 118 [.int .i32 118] from rfl) (Reps.none _ _))); intro v128 w25 ho26 hb hg_ hnew_; clear hg_ hnew_; (first | rw [← Ny127.out] at ho26 | (simp only [Int.reduceToNat] at ho26; rw [← Ny127.out] at ho26)); have n0_ := Aside0.mk (Kd.R_lower ho26 (below_size (by repeat (first | (with_reducible first | exact HB.out | apply below_alloc | apply pw_below_drewN | apply below_drew1) | exact HB.out)))); have n1_ := Aside0.mk (below_step (by repeat (first | (with_reducible first | exact HB.out | apply below_alloc | apply pw_below_drewN | apply below_drew1) | exact HB.out)) hb); clear HB; have HO129 := n0_; have HB := n1_; clear n0_ n1_; clear hb ho26))
            go_ret
            exact ⟨_, by first | rfl | (simp [errW_none, errW_some] <;> rfl) | (simp [*, errW_none, errW_some] <;> rfl), by (with_reducible repeat (first | apply Kd.R_alloc | apply Kd.R_drewN | apply Kd.R_drew)); exact HO129.out, by repeat (first | (with_reducible first | exact HB.out | apply below_alloc | apply pw_below_drewN | apply below_drew1) | exact HB.out)⟩
           ·rw [if_neg c24] at H
            have c24b0 : (a0 == 957) = false := beq_eq_false_iff_ne.mpr c24
            have c24b1 : (a0 != 957) = true := bne_iff_ne.mpr c24
            by_cases c27 : a0 = 1093
            ·rw [if_pos c27] at H
             have c27b0 : (a0 == 1093) = true := beq_iff_eq.mpr c27
             have c27b1 : (a0 != 1093) = false := bne_eq_false_iff_eq.mpr c27
             clear c27
             obtain ⟨y130, hy130⟩ : ∃ y_ : List Int, y_ = (([120] : List Int)) := ⟨_, rfl⟩
             replace H : (some y130) = some r := by first | (rw [hy130]; with_reducible exact H) | (have H2_ := (Option.bind_some _ _).symm.trans H; rw [hy130]; with_reducible exact H2_) | (have H2_ := (Option.bind_some _ _).symm.trans H; with_reducible exact H2_) | with_reducible exact H | (rw [hy130]; exact H) | exact H
             have Ny130 := Aside0.mk hy130
             clear hy130
             obtain rfl := Option.some.inj H
             go_wp2_with (first | ((with_reducible refine gate_dst (N := 29) rfl ?_); refine Kd.R_lit (Kd.int .i32) _ 21 ?hg (N := 29) ?hd (xs := ([120] : List Int)) (inner := [.int .i32 120]) (ok := fun _ => True) (okp := fun _ => True) ?hr ?hp (fun _ hk => hk) trivial (Below.refl _ _) (Nat.le_refl _) (by simp) ?_; (case hd => rfl); (case hg => rfl); (case hr => first | (go_simp; done) | (go_simp; rfl)); (case hp => exact (Reps.one (show Kd.M (Kd.int .i32) _ _ _ 120 [.int .i32 120] from rfl) (Reps.none _ _))); intro v131 w28 ho29 hb hg_ hnew_; clear hg_ hnew_; (first | rw [← Ny130.out] at ho29 | (simp only [Int.reduceToNat] at ho29; rw [← Ny130.out] at ho29)); have n0_ := Aside0.mk (Kd.R_lower ho29 (below_size (by repeat (first | (with_reducible first | exact HB.out | apply below_alloc | apply pw_below_drewN | apply below_drew1) | exact HB.out)))); have n1_ := Aside0.mk (below_step (by repeat (first | (with_reducible first | exact HB.out | apply below_alloc | apply pw_below_drewN | apply below_drew1) | exact HB.out)) hb); clear HB; have HO132 := n0_; have HB := n1_; clear n0_ n1_; clear hb ho29))
             go_ret
             exact ⟨_, by first | rfl | (simp [errW_none, errW_some] <;> rfl) | (simp [*, errW_none, errW_some] <;> rfl), by (with_reducible repeat (first | apply Kd.R_alloc | apply Kd.R_drewN | apply Kd.R_drew)); exact HO132.out, by repeat (first | (with_reducible first | exact HB.out | apply below_alloc | apply pw_below_drewN | apply below_drew1) | exact HB.out)⟩
            ·rw [if_neg c27] at H
             have c27b0 : (a0 == 1093) = false := beq_eq_false_iff_ne.mpr c27
             have c27b1 : (a0 != 1093) = true := bne_iff_ne.mpr c27
             by_cases c30 : a0 = 1091
             ·rw [if_pos c30] at H
              have c30b0 : (a0 == 1091) = true := beq_iff_eq.mpr c30
              have c30b1 : (a0 != 1091) = false := bne_eq_false_iff_eq.mpr c30
              clear c30
              obtain ⟨y133, hy133⟩ : ∃ y_ : List Int, y_ = (([121] : List Int)) := ⟨_, rfl⟩
              replace H : (some y133) = some r := by first | (rw [hy133]; with_reducible exact H) | (have H2_ := (Option.bind_some _ _).symm.trans H; rw [hy133]; with_reducible exact H2_) | (have H2_ := (Option.bind_some _ _).symm.trans H; with_reducible exact H2_) | with_reducible exact H | (rw [hy133]; exact H) | exact H
              have Ny133 := Aside0.mk hy133
              clear hy133
              obtain rfl := Option.some.inj H
              go_wp2_with (first | ((with_reducible refine gate_dst (N := 32) rfl ?_); refine Kd.R_lit (Kd.int .i32) _ 21 ?hg (N := 32) ?hd (xs := ([121] : List Int)) (inner := [.int .i32 121]) (ok := fun _ => True) (okp := fun _ => True) ?hr ?hp (fun _ hk => hk) trivial (Below.refl _ _) (Nat.le_refl _) (by simp) ?_; (case hd => rfl); (case hg => rfl); (case hr => first | (go_simp; done) | (go_simp; rfl)); (case hp => exact (Reps.one (show Kd.M (Kd.int .i32) _ _ _ 121 [.int .i32 121] from rfl) (Reps.none _ _))); intro v134 w31 ho32 hb hg_ hnew_; clear hg_ hnew_; (first | rw [← Ny133.out] at ho32 | (simp only [Int.reduceToNat] at ho32; rw [← Ny133.out] at ho32)); have n0_ := Aside0.mk (Kd.R_lower ho32 (below_size (by repeat (first | (with_reducible first | exact HB.out | apply below_alloc | apply pw_below_drewN | apply below_drew1) | exact HB.out)))); have n1_ := Aside0.mk (below_step (by repeat (first | (with_reducible first | exact HB.out | apply below_alloc | apply pw_below_drewN | apply below_drew1) | exact HB.out)) hb); clear HB; have HO135 := n0_; have HB := n1_; clear n0_ n1_; clear hb ho32))
              go_ret
              exact ⟨_, by first | rfl | (simp [errW_none, errW_some] <;> rfl) | (simp [*, errW_none, errW_some] <;> rfl), by (with_reducible repeat (first | apply Kd.R_alloc | apply Kd.R_drewN | apply Kd.R_drew)); exact HO135.out, by repeat (first | (with_reducible first | exact HB.out | apply below_alloc | apply pw_below_drewN | apply below_drew1) | exact HB.out)⟩
             ·rw [if_neg c30] at H
              have c30b0 : (a0 == 1091) = false := beq_eq_false_iff_ne.mpr c30
              have c30b1 : (a0 != 1091) = true := bne_iff_ne.mpr c30
              have HC33 := Aside0.mk H
              clear H
              go_upto_if 33 with (fail)
              go_cut [33] (fun v33 wc => ∃ (kq : Nat) (x33_32 : Bool), v33 = .bool x33_32 ∧ Aside0 (unidata_Like.j2 kq a0 a0 x33_32 = some r) ∧ Aside0 (kq ≤ kj15) ∧ Aside0 (Below w.heap.size w wc))
              case first =>
               have H := HC33.out
               clear HC33
               by_cases c34 : a0 = 48
               ·rw [if_pos c34] at H
                have c34b0 : (a0 == 48) = true := beq_iff_eq.mpr c34
                have c34b1 : (a0 != 48) = false := bne_eq_false_iff_eq.mpr c34
                clear c34
                (first | rw [c34b0] | (simp only [i64_w, i32_w]; rw [c34b0]) | skip)
                have H' := Aside0.mk H
                clear H
                go_wp2
                go_meet
                case rel => exact ⟨_, ((a0 == 48)), (by first | rfl | (simp; done) | (simp [*]; done)), H', ⟨by have := HJ1.out; have := HJ15.out; first | omega | exact Nat.le_refl _⟩, ⟨by repeat (first | (with_reducible first | exact HB.out | apply below_alloc | apply pw_below_drewN | apply below_drew1) | exact HB.out)⟩⟩
               ·rw [if_neg c34] at H
                have c34b0 : (a0 == 48) = false := beq_eq_false_iff_ne.mpr c34
                have c34b1 : (a0 != 48) = true := bne_iff_ne.mpr c34
                (first | rw [c34b0] | (simp only [i64_w, i32_w]; rw [c34b0]) | skip)
                by_cases c35 : a0 = 959
                ·rw [if_pos c35] at H
                 have c35b0 : (a0 == 959) = true := beq_iff_eq.mpr c35
                 have c35b1 : (a0 != 959) = false := bne_eq_false_iff_eq.mpr c35
                 clear c35
                 have H' := Aside0.mk H
                 clear H
                 go_wp2
                 go_meet
                 case rel => exact ⟨_, ((a0 == 959)), (by first | rfl | (simp; done) | (simp [*]; done)), H', ⟨by have := HJ1.out; have := HJ15.out; first | omega | exact Nat.le_refl _⟩, ⟨by repeat (first | (with_reducible first | exact HB.out | apply below_alloc | apply pw_below_drewN | apply below_drew1) | exact HB.out)⟩⟩
                ·rw [if_neg c35] at H
                 have c35b0 : (a0 == 959) = false := beq_eq_false_iff_ne.mpr c35
                 have c35b1 : (a0 != 959) = true := bne_iff_ne.mpr c35
                 by_cases c36 : a0 = 1086
                 ·rw [if_pos c36] at H
                  have c36b0 : (a0 == 1086) = true := beq_iff_eq.mpr c36
                  have c36b1 : (a0 != 1086) = false := bne_eq_false_iff_eq.mpr c36
                  clear c36
                  have H' := Aside0.mk H
                  clear H
                  go_wp2
                  go_meet
                  case rel => exact ⟨_, ((a0 == 1086)), (by first | rfl | (simp; done) | (simp [*]; done)), H', ⟨by have := HJ1.out; have := HJ15.out; first | omega | exact Nat.le_refl _⟩, ⟨by repeat (first | (with_reducible first | exact HB.out | apply below_alloc | apply pw_below_drewN | apply below_drew1) | exact HB.out)⟩⟩
                 ·rw [if_neg c36] at H
                  have c36b0 : (a0 == 1086) = false := beq_eq_false_iff_ne.mpr c36
                  have c36b1 : (a0 != 1086) = true := bne_iff_ne.mpr c36
                  have H' := Aside0.mk H
                  clear H
                  go_wp2
                  go_meet
                  case rel => exact ⟨_, ((a0 == 1505)), (by first | rfl | (simp; done) | (simp [*]; done)), H', ⟨by have := HJ1.out; have := HJ15.out; first | omega | exact Nat.le_refl _⟩, ⟨by repeat (first | (with_reducible first | exact HB.out | apply below_alloc | apply pw_below_drewN | apply below_drew1) | exact HB.out)⟩⟩
              case rest =>
               clear HC33
               try clear c1
               try clear c2
               try clear p2
               try clear c3
               try clear c3b0
               try clear c3b1
               try clear c4
               try clear c7
               try clear c7b0
               try clear c7b1
               try clear c10
               try clear c10b0
               try clear c10b1
               try clear c13
               try clear c13b0
               try clear c13b1
               try clear c17
               try clear c17b0
               try clear c17b1
               try clear c18
               try clear c21
               try clear c21b0
               try clear c21b1
               try clear c23
               try clear c24
               try clear c24b0
               try clear c24b1
               try clear c27
               try clear c27b0
               try clear c27b1
               try clear c30
               try clear c30b0
               try clear c30b1
               try clear c34
               try clear c34b0
               try clear c34b1
               try clear c35
               try clear c35b0
               try clear c35b1
               try clear c36
               try clear c36b0
               try clear c36b1
               try clear p2
               obtain ⟨kq, x33_32, rfl, HA, HJ32, HB⟩ := hcut
               cases kq with
               | zero => exact absurd HA.out (by simp [unidata_Like.j2])
               | succ kj32 =>
                have H := HA.out
                clear HA
                simp only [unidata_Like.j2] at H
                by_cases c37 : x33_32 = true
                ·subst c37
                 have H1 : (some (([111] : List Int))) = some r := by rw [if_pos rfl] at H; exact H
                 clear H
                 have H := H1
                 clear H1
                 obtain ⟨y136, hy136⟩ : ∃ y_ : List Int, y_ = (([111] : List Int)) := ⟨_, rfl⟩
                 replace H : (some y136) = some r := by first | (rw [hy136]; with_reducible exact H) | (have H2_ := (Option.bind_some _ _).symm.trans H; rw [hy136]; with_reducible exact H2_) | (have H2_ := (Option.bind_some _ _).symm.trans H; with_reducible exact H2_) | with_reducible exact H | (rw [hy136]; exact H) | exact H
                 have Ny136 := Aside0.mk hy136
                 clear hy136
                 obtain rfl := Option.some.inj H
                 go_wp2_with (first | ((with_reducible refine gate_dst (N := 38) rfl ?_); refine Kd.R_lit (Kd.int .i32) _ 21 ?hg (N := 38) ?hd (xs := ([111] : List Int)) (inner := [.int .i32 111]) (ok := fun _ => True) (okp := fun _ => True) ?hr ?hp (fun _ hk => hk) trivial (Below.refl _ _) (Nat.le_refl _) (by simp) ?_; (case hd => rfl); (case hg => rfl); (case hr => first | (go_simp; done) | (go_simp; rfl)); (case hp => exact (Reps.one (show Kd.M (Kd.int .i32) _ _ _ 111 [.int .i32 111] from rfl) (Reps.none _ _))); intro v137 w38 ho39 hb hg_ hnew_; clear hg_ hnew_; (first | rw [← Ny136.out] at ho39 | (simp only [Int.reduceToNat] at ho39; rw [← Ny136.out] at ho39)); have n0_ := Aside0.mk (Kd.R_lower ho39 (below_size (by repeat (first | (with_reducible first | exact HB.out | apply below_alloc | apply pw_below_drewN | apply below_drew1) | exact HB.out)))); have n1_ := Aside0.mk (below_step (by repeat (first | (with_reducible first | exact HB.out | apply below_alloc | apply pw_below_drewN | apply below_drew1) | exact HB.out)) hb); clear HB; have HO138 := n0_; have HB := n1_; clear n0_ n1_; clear hb ho39))
                 go_ret
                 exact ⟨_, by first | rfl | (simp [errW_none, errW_some] <;> rfl) | (simp [*, errW_none, errW_some] <;> rfl), by (with_reducible repeat (first | apply Kd.R_alloc | apply Kd.R_drewN | apply Kd.R_drew)); exact HO138.out, by repeat (first | (with_reducible first | exact HB.out | apply below_alloc | apply pw_below_drewN | apply below_drew1) | exact HB.out)⟩
                ·replace c37 := Bool.eq_false_iff.mpr c37
                 subst c37
                 have H1 : (if a0 = 49 then (unidata_Like.j3 kj32 a0 a0 (a0 == 49)) else (unidata_Like.j3 kj32 a0 a0 (a0 == 1575))) = some r := by rw [if_neg (show ¬ (false = true) by decide)] at H; exact H
                 clear H
                 have H := H1
                 clear H1
                 have HC40 := Aside0.mk H
                 clear H
                 go_upto_if 39 with (fail)
                 go_cut [39] (fun v39 wc => ∃ (kq : Nat) (x39_39 : Bool), v39 = .bool x39_39 ∧ Aside0 (unidata_Like.j3 kq a0 a0 x39_39 = some r) ∧ Aside0 (kq ≤ kj32) ∧ Aside0 (Below w.heap.size w wc))
                 case first =>
                  have H := HC40.out
                  clear HC40
                  by_cases c41 : a0 = 49
                  ·rw [if_pos c41] at H
                   have c41b0 : (a0 == 49) = true := beq_iff_eq.mpr c41
                   have c41b1 : (a0 != 49) = false := bne_eq_false_iff_eq.mpr c41
                   clear c41
                   (first | rw [c41b0] | (simp only [i64_w, i32_w]; rw [c41b0]) | skip)
                   have H' := Aside0.mk H
                   clear H
                   go_wp2
                   go_meet
                   case rel => exact ⟨_, ((a0 == 49)), (by first | rfl | (simp; done) | (simp [*]; done)), H', ⟨by have := HJ1.out; have := HJ15.out; have := HJ32.out; first | omega | exact Nat.le_refl _⟩, ⟨by repeat (first | (with_reducible first | exact HB.out | apply below_alloc | apply pw_below_drewN | apply below_drew1) | exact HB.out)⟩⟩
                  ·rw [if_neg c41] at H
                   have c41b0 : (a0 == 49) = false := beq_eq_false_iff_ne.mpr c41
                   have c41b1 : (a0 != 49) = true := bne_iff_ne.mpr c41
                   (first | rw [c41b0] | (simp only [i64_w, i32_w]; rw [c41b0]) | skip)
                   have H' := Aside0.mk H
                   clear H
                   go_wp2
                   go_meet
                   case rel => exact ⟨_, ((a0 == 1575)), (by first | rfl | (simp; done) | (simp [*]; done)), H', ⟨by have := HJ1.out; have := HJ15.out; have := HJ32.out; first | omega | exact Nat.le_refl _⟩, ⟨by repeat (first | (with_reducible first | exact HB.out | apply below_alloc | apply pw_below_drewN | apply below_drew1) | exact HB.out)⟩⟩
                 case rest =>
                  clear HC40
                  try clear c1
                  try clear c2
                  try clear p2
                  try clear c3
                  try clear c3b0
                  try clear c3b1
                  try clear c4
                  try clear c7
                  try clear c7b0
                  try clear c7b1
                  try clear c10
                  try clear c10b0
                  try clear c10b1
                  try clear c13
                  try clear c13b0
                  try clear c13b1
                  try clear c17
                  try clear c17b0
                  try clear c17b1
                  try clear c18
                  try clear c21
                  try clear c21b0
                  try clear c21b1
                  try clear c23
                  try clear c24
                  try clear c24b0
                  try clear c24b1
                  try clear c27
                  try clear c27b0
                  try clear c27b1
                  try clear c30
                  try clear c30b0
                  try clear c30b1
                  try clear c34
                  try clear c34b0
                  try clear c34b1
                  try clear c35
                  try clear c35b0
                  try clear c35b1
                  try clear c36
                  try clear c36b0
                  try clear c36b1
                  try clear c37
                  try clear c41
                  try clear c41b0
                  try clear c41b1
                  try clear p2
                  obtain ⟨kq, x39_39, rfl, HA, HJ39, HB⟩ := hcut
                  cases kq with
                  | zero => exact absurd HA.out (by simp [unidata_Like.j3])
                  | succ kj39 =>
                   have H := HA.out
                   clear HA
                   simp only [unidata_Like.j3] at H
                   by_cases c42 : x39_39 = true
                   ·subst c42
                    have H1 : (some (([108] : List Int))) = some r := by rw [if_pos rfl] at H; exact H
                    clear H
                    have H := H1
                    clear H1
                    obtain ⟨y139, hy139⟩ : ∃ y_ : List Int, y_ = (([108] : List Int)) := ⟨_, rfl⟩
                    replace H : (some y139) = some r := by first | (rw [hy139]; with_reducible exact H) | (have H2_ := (Option.bind_some _ _).symm.trans H; rw [hy139]; with_reducible exact H2_) | (have H2_ := (Option.bind_some _ _).symm.trans H; with_reducible exact H2_) | with_reducible exact H | (rw [hy139]; exact H) | exact H
                    have Ny139 := Aside0.mk hy139
                    clear hy139
                    obtain rfl := Option.some.inj H
                    go_wp2_with (first | ((with_reducible refine gate_dst (N := 42) rfl ?_); refine Kd.R_lit (Kd.int .i32) _ 21 ?hg (N := 42) ?hd (xs := ([108] : List Int)) (inner := [.int .i32 108]) (ok := fun _ => True) (okp := fun _ => True) ?hr ?hp (fun _ hk => hk) trivial (Below.refl _ _) (Nat.le_refl _) (by simp) ?_; (case hd => rfl); (case hg => rfl); (case hr => first | (go_simp; done) | (go_simp; rfl)); (case hp => exact (Reps.one (show Kd.M (Kd.int .i32) _ _ _ 108 [.int .i32 108] from rfl) (Reps.none _ _))); intro v140 w43 ho44 hb hg_ hnew_; clear hg_ hnew_; (first | rw [← Ny139.out] at ho44 | (simp only [Int.reduceToNat] at ho44; rw [← Ny139.out] at ho44)); have n0_ := Aside0.mk (Kd.R_lower ho44 (below_size (by repeat (first | (with_reducible first | exact HB.out | apply below_alloc | apply pw_below_drewN | apply below_drew1) | exact HB.out)))); have n1_ := Aside0.mk (below_step (by repeat (first | (with_reducible first | exact HB.out | apply below_alloc | apply pw_below_drewN | apply below_drew1) | exact HB.out)) hb); clear HB; have HO141 := n0_; have HB := n1_; clear n0_ n1_; clear hb ho44))
                    go_ret
                    exact ⟨_, by first | rfl | (simp [errW_none, errW_some] <;> rfl) | (simp [*, errW_none, errW_some] <;> rfl), by (with_reducible repeat (first | apply Kd.R_alloc | apply Kd.R_drewN | apply Kd.R_drew)); exact HO141.out, by repeat (first | (with_reducible first | exact HB.out | apply below_alloc | apply pw_below_drewN | apply below_drew1) | exact HB.out)⟩
                   ·replace c42 := Bool.eq_false_iff.mpr c42
                    subst c42
                    have H1 : (if a0 = 109 then (some (([114, 110] : List Int))) else (if a0 = 1112 then (some (([106] : List Int))) else (if a0 = 12540 then (some (([19968] : List Int))) else (some (([a0] : List Int)))))) = some r := by rw [if_neg (show ¬ (false = true) by decide)] at H; exact H
                    clear H
                    have H := H1
                    clear H1
                    by_cases c45 : a0 = 109
                    ·rw [if_pos c45] at H
                     have c45b0 : (a0 == 109) = true := beq_iff_eq.mpr c45
                     have c45b1 : (a0 != 109) = false := bne_eq_false_iff_eq.mpr c45
                     clear c45
                     obtain ⟨y142, hy142⟩ : ∃ y_ : List Int, y_ = (([114, 110] : List Int)) := ⟨_, rfl⟩
                     replace H : (some y142) = some r := by first | (rw [hy142]; with_reducible exact H) | (have H2_ := (Option.bind_some _ _).symm.trans H; rw [hy142]; with_reducible exact H2_) | (have H2_ := (Option.bind_some _ _).symm.trans H; with_reducible exact H2_) | with_reducible exact H | (rw [hy142]; exact H) | exact H
                     have Ny142 := Aside0.mk hy142
                     clear hy142
                     obtain rfl := Option.some.inj H
                     go_wp2_with (first | ((with_reducible refine gate_dst (N := 45) rfl ?_); refine Kd.R_lit (Kd.int .i32) _ 21 ?hg (N := 45) ?hd (xs := ([114, 110] : List Int)) (inner := [.int .i32 114, .int .i32 110]) (ok := fun _ => True) (okp := fun _ => True) ?hr ?hp (fun _ hk => hk) trivial (Below.refl _ _) (Nat.le_refl _) (by simp) ?_; (case hd => rfl); (case hg => rfl); (case hr => first | (go_simp; done) | (go_simp; rfl)); (case hp => exact (Reps.one (show Kd.M (Kd.int .i32) _ _ _ 114 [.int .i32 114] from rfl) (Reps.one (show Kd.M (Kd.int .i32) _ _ _ 110 [.int .i32 110] from rfl) (Reps.none _ _)))); intro v143 w46 ho47 hb hg_ hnew_; clear hg_ hnew_; (first | rw [← Ny142.out] at ho47 | (simp only [Int.reduceToNat] at ho47; rw [← Ny142.out] at ho47)); have n0_ := Aside0.mk (Kd.R_lower ho47 (below_size (by repeat (first | (with_reducible first | exact HB.out | apply below_alloc | apply pw_below_drewN | apply below_drew1) | exact HB.out)))); have n1_ := Aside0.mk (below_step (by repeat (first | (with_reducible first | exact HB.out | apply below_alloc | apply pw_below_drewN | apply below_drew1) | exact HB.out)) hb); clear HB; have HO144 := n0_; have HB := n1_; clear n0_ n1_; clear hb ho47))
                     go_ret
                     exact ⟨_, by first | rfl | (simp [errW_none, errW_some] <;> rfl) | (simp [*, errW_none, errW_some] <;> rfl), by (with_reducible repeat (first | apply Kd.R_alloc | apply Kd.R_drewN | apply Kd.R_drew)); exact HO144.out, by repeat (first | (with_reducible first | exact HB.out | apply below_alloc | apply pw_below_drewN | apply below_drew1) | exact HB.out)⟩
                    ·rw [if_neg c45] at H
                     have c45b0 : (a0 == 109) = false := beq_eq_false_iff_ne.mpr c45
                     have c45b1 : (a0 != 109) = true := bne_iff_ne.mpr c45
                     by_cases c48 : a0 = 1112
                     ·rw [if_pos c48] at H
                      have c48b0 : (a0 == 1112) = true := beq_iff_eq.mpr c48
                      have c48b1 : (a0 != 1112) = false := bne_eq_false_iff_eq.mpr c48
                      clear c48
                      obtain ⟨y145, hy145⟩ : ∃ y_ : List Int, y_ = (([106] : List Int)) := ⟨_, rfl⟩
                      replace H : (some y145) = some r := by first | (rw [hy145]; with_reducible exact H) | (have H2_ := (Option.bind_some _ _).symm.trans H; rw [hy145]; with_reducible exact H2_) | (have H2_ := (Option.bind_some _ _).symm.trans H; with_reducible exact H2_) | with_reducible exact H | (rw [hy145]; exact H) | exact H
                      have Ny145 := Aside0.mk hy145
                      clear hy145
                      obtain rfl := Option.some.inj H
                      go_wp2_with (first | ((with_reducible refine gate_dst (N := 48) rfl ?_); refine Kd.R_lit (Kd.int .i32) _ 21 ?hg (N := 48) ?hd (xs := ([106] : List Int)) (inner := [.int .i32 106]) (ok := fun _ => True) (okp := fun _ => True) ?hr ?hp (fun _ hk => hk) trivial (Below.refl _ _) (Nat.le_refl _) (by simp) ?_; (case hd => rfl); (case hg => rfl); (case hr => first | (go_simp; done) | (go_simp; rfl)); (case hp => exact (Reps.one (show Kd.M (Kd.int .i32) _ _ _ 106 [.int .i32 106] from rfl) (Reps.none _ _))); intro v146 w49 ho50 hb hg_ hnew_; clear hg_ hnew_; (first | rw [← Ny145.out] at ho50 | (simp only [Int.reduceToNat] at ho50; rw [← Ny145.out] at ho50)); have n0_ := Aside0.mk (Kd.R_lower ho50 (below_size (by repeat (first | (with_reducible first | exact HB.out | apply below_alloc | apply pw_below_drewN | apply below_drew1) | exact HB.out)))); have n1_ := Aside0.mk (below_step (by repeat (first | (with_reducible first | exact HB.out | apply below_alloc | apply pw_below_drewN | apply below_drew1) | exact HB.out)) hb); clear HB; have HO147 := n0_; have HB := n1_; clear n0_ n1_; clear hb ho50))
                      go_ret
                      exact ⟨_, by first | rfl | (simp [errW_none, errW_some] <;> rfl) | (simp [*, errW_none, errW_some] <;> rfl), by (with_reducible repeat (first | apply Kd.R_alloc | apply Kd.R_drewN | apply Kd.R_drew)); exact HO147.out, by repeat (first | (with_reducible first | exact HB.out | apply below_alloc | apply pw_below_drewN | apply below_drew1) | exact HB.out)⟩
                     ·rw [if_neg c48] at H
                      have c48b0 : (a0 == 1112) = false := beq_eq_false_iff_ne.mpr c48
                      have c48b1 : (a0 != 1112) = true := bne_iff_ne.mpr c48
                      by_cases c51 : a0 = 12540
                      ·rw [if_pos c51] at H
                       have c51b0 : (a0 == 12540) = true := beq_iff_eq.mpr c51
                       have c51b1 : (a0 != 12540) = false := bne_eq_false_iff_eq.mpr c51
                       clear c51
                       obtain ⟨y148, hy148⟩ : ∃ y_ : List Int, y_ = (([19968] : List Int)) := ⟨_, rfl⟩
                       replace H : (some y148) = some r := by first | (rw [hy148]; with_reducible exact H) | (have H2_ := (Option.bind_some _ _).symm.trans H; rw [hy148]; with_reducible exact H2_) | (have H2_ := (Option.bind_some _ _).symm.trans H; with_reducible exact H2_) | with_reducible exact H | (rw [hy148]; exact H) | exact H
                       have Ny148 := Aside0.mk hy148
                       clear hy148
                       obtain rfl := Option.some.inj H
                       go_wp2_with (first | ((with_reducible refine gate_dst (N := 51) rfl ?_); refine Kd.R_lit (Kd.int .i32) _ 21 ?hg (N := 51) ?hd (xs := ([19968] : List Int)) (inner := [.int .i32 19968]) (ok := fun _ => True) (okp := fun _ => True) ?hr ?hp (fun _ hk => hk) trivial (Below.refl _ _) (Nat.le_refl _) (by simp) ?_; (case hd => rfl); (case hg => rfl); (case hr => first | (go_simp; done) | (go_simp; rfl)); (case hp => exact (Reps.one (show Kd.M (Kd.int .i32) _ _ _ 19968 [.int .i32 19968] from rfl) (Reps.none _ _))); intro v149 w52 ho53 hb hg_ hnew_; clear hg_ hnew_; (first | rw [← Ny148.out] at ho53 | (simp only [Int.reduceToNat] at ho53; rw [← Ny148.out] at ho53)); have n0_ := Aside0.mk (Kd.R_lower ho53 (below_size (by repeat (first | (with_reducible first | exact HB.out | apply below_alloc | apply pw_below_drewN | apply below_drew1) | exact HB.out)))); have n1_ := Aside0.mk (below_step (by repeat (first | (with_reducible first | exact HB.out | apply below_alloc | apply pw_below_drewN | apply below_drew1) | exact HB.out)) hb); clear HB; have HO150 := n0_; have HB := n1_; clear n0_ n1_; clear hb ho53))
                       go_ret
                       exact ⟨_, by first | rfl | (simp [errW_none, errW_some] <;> rfl) | (simp [*, errW_none, errW_some] <;> rfl), by (with_reducible repeat (first | apply Kd.R_alloc | apply Kd.R_drewN | apply Kd.R_drew)); exact HO150.out, by repeat (first | (with_reducible first | exact HB.out | apply below_alloc | apply pw_below_drewN | apply below_drew1) | exact HB.out)⟩
                      ·rw [if_neg c51] at H
                       have c51b0 : (a0 == 12540) = false := beq_eq_false_iff_ne.mpr c51
                       have c51b1 : (a0 != 12540) = true := bne_iff_ne.mpr c51
                       obtain ⟨y151, hy151⟩ : ∃ y_ : List Int, y_ = (([a0] : List Int)) := ⟨_, rfl⟩
                       replace H : (some y151) = some r := by first | (rw [hy151]; with_reducible exact H) | (have H2_ := (Option.bind_some _ _).symm.trans H; rw [hy151]; with_reducible exact H2_) | (have H2_ := (Option.bind_some _ _).symm.trans H; with_reducible exact H2_) | with_reducible exact H | (rw [hy151]; exact H) | exact H
                       have Ny151 := Aside0.mk hy151
                       clear hy151
                       obtain rfl := Option.some.inj H
                       go_wp2_with (first | ((with_reducible refine gate_dst (N := 53) rfl ?_); refine Kd.R_lit (Kd.int .i32) _ 21 ?hg (N := 53) ?hd (xs := ([a0] : List Int)) (inner := [.int .i32 a0]) (ok := fun _ => True) (okp := fun _ => True) ?hr ?hp (fun _ hk => hk) trivial (Below.refl _ _) (Nat.le_refl _) (by simp) ?_; (case hd => rfl); (case hg => rfl); (case hr => first | (go_simp; done) | (go_simp; rfl)); (case hp => exact (Reps.one (show Kd.M (Kd.int .i32) _ _ _ a0 [.int .i32 a0] from rfl) (Reps.none _ _))); intro v152 w54 ho55 hb hg_ hnew_; clear hg_ hnew_; (first | rw [← Ny151.out] at ho55 | (simp only [Int.reduceToNat] at ho55; rw [← Ny151.out] at ho55)); have n0_ := Aside0.mk (Kd.R_lower ho55 (below_size (by repeat (first | (with_reducible first | exact HB.out | apply below_alloc | apply pw_below_drewN | apply below_drew1) | exact HB.out)))); have n1_ := Aside0.mk (below_step (by repeat (first | (with_reducible first | exact HB.out | apply below_alloc | apply pw_below_drewN | apply below_drew1) | exact HB.out)) hb); clear HB; have HO153 := n0_; have HB := n1_; clear n0_ n1_; clear hb ho55))
                       go_ret
                       exact ⟨_, by first | rfl | (simp [errW_none, errW_some] <;> rfl) | (simp [*, errW_none, errW_some] <;> rfl), by (with_reducible repeat (first | apply Kd.R_alloc | apply Kd.R_drewN | apply Kd.R_drew)); exact HO153.out, by repeat (first | (with_reducible first | exact HB.out | apply below_alloc | apply pw_below_drewN | apply below_drew1) | exact HB.out)⟩

def portcullisref01_Scalar.f (a0 : Int) : Option (Bool) := if a0 ≥ 0 then (if a0 ≤ 1114111 then (if a0 < 55296 then (some true) else (some (decide (a0 > 57343)))) else (some false)) else (some false)
set_option maxHeartbeats 8000000 in
set_option maxRecDepth 100000 in
theorem portcullisref01_Scalar.calls (a0 : Int) (r : Bool) (w : World) (h : portcullisref01_Scalar.f a0 = some r) :
  Calls Tryd.prog 44 #[.int .i32 a0] w fun e w' => e = .returned (.bool r) ∧ Drawn0 w w' := by
 have H : (if a0 ≥ 0 then (if a0 ≤ 1114111 then (if a0 < 55296 then (some true) else (some (decide (a0 > 57343)))) else (some false)) else (some false)) = some r := h
 clear h
 by_cases c2 : a0 ≥ 0
 ·rw [if_pos c2] at H
  have c2b0 : decide (0 ≤ a0) = true := decide_eq_true c2
  clear c2
  by_cases c3 : a0 ≤ 1114111
  ·rw [if_pos c3] at H
   have c3b0 : decide (a0 ≤ 1114111) = true := decide_eq_true c3
   clear c3
   by_cases c4 : a0 < 55296
   ·rw [if_pos c4] at H
    have c4b0 : decide (a0 < 55296) = true := decide_eq_true c4
    clear c4
    obtain rfl := Option.some.inj H
    go_enter Tryd.func44, Tryd.ntmps44
    go_wp2
    go_ret
    exact ⟨by first | rfl | (simp; done) | (simp [*]; done), by repeat (first | exact Drawn0.refl _ | apply Drawn0.step)⟩
   ·rw [if_neg c4] at H
    have c4b0 : decide (a0 < 55296) = false := decide_eq_false c4
    clear c4
    obtain rfl := Option.some.inj H
    go_enter Tryd.func44, Tryd.ntmps44
    go_wp2
    go_ret
    exact ⟨by first | rfl | (simp; done) | (simp [*]; done), by repeat (first | exact Drawn0.refl _ | apply Drawn0.step)⟩
  ·rw [if_neg c3] at H
   have c3b0 : decide (a0 ≤ 1114111) = false := decide_eq_false c3
   clear c3
   obtain rfl := Option.some.inj H
   go_enter Tryd.func44, Tryd.ntmps44
   go_wp2
   go_ret
   exact ⟨by first | rfl | (simp; done) | (simp [*]; done), by repeat (first | exact Drawn0.refl _ | apply Drawn0.step)⟩
 ·rw [if_neg c2] at H
  have c2b0 : decide (0 ≤ a0) = false := decide_eq_false c2
  clear c2
  obtain rfl := Option.some.inj H
  go_enter Tryd.func44, Tryd.ntmps44
  go_wp2
  go_ret
  exact ⟨by first | rfl | (simp; done) | (simp [*]; done), by repeat (first | exact Drawn0.refl _ | apply Drawn0.step)⟩

def portcullisref01_Bytes.f (a0 : Int) : Option (ByteArray) := if a0 < 128 then (if ([] : List Int).length < 140737488355328 then (some (strOfNums (([] : List Int) ++ [(a0) % 256]))) else (none)) else (if a0 < 2048 then ((some (([(wrap32 (192 + (wrap32 (Int.tdiv a0 64)))) % 256, (wrap32 (128 + (Int.tmod a0 64))) % 256] : List Int) : List Int)).bind fun y204 => (if ([] : List Int).length + y204.length < 140737488355328 then (some (strOfNums (([] : List Int) ++ y204))) else (none))) else (if a0 < 65536 then ((some (([(wrap32 (224 + (wrap32 (Int.tdiv a0 4096)))) % 256, (wrap32 (128 + (Int.tmod (wrap32 (Int.tdiv a0 64)) 64))) % 256, (wrap32 (128 + (Int.tmod a0 64))) % 256] : List Int) : List Int)).bind fun y210 => (if ([] : List Int).length + y210.length < 140737488355328 then (some (strOfNums (([] : List Int) ++ y210))) else (none))) else ((some (([(wrap32 (240 + (wrap32 (Int.tdiv a0 262144)))) % 256, (wrap32 (128 + (Int.tmod (wrap32 (Int.tdiv a0 4096)) 64))) % 256, (wrap32 (128 + (Int.tmod (wrap32 (Int.tdiv a0 64)) 64))) % 256, (wrap32 (128 + (Int.tmod a0 64))) % 256] : List Int) : List Int)).bind fun y216 => (if ([] : List Int).length + y216.length < 140737488355328 then (some (strOfNums (([] : List Int) ++ y216))) else (none)))))
set_option maxHeartbeats 8000000 in
set_option maxRecDepth 100000 in
theorem portcullisref01_Bytes.calls (a0 : Int) (r : ByteArray) (w : World) (h : portcullisref01_Bytes.f a0 = some r) :
  Calls Tryd.prog 45 #[.int .i32 a0] w fun e w' => e = .returned (.string r) ∧ Below w.heap.size w w' := by
 have HB := Aside0.mk (Below.refl w.heap.size w)
 have H : (if a0 < 128 then (if ([] : List Int).length < 140737488355328 then (some (strOfNums (([] : List Int) ++ [(a0) % 256]))) else (none)) else (if a0 < 2048 then ((some (([(wrap32 (192 + (wrap32 (Int.tdiv a0 64)))) % 256, (wrap32 (128 + (Int.tmod a0 64))) % 256] : List Int) : List Int)).bind fun y204 => (if ([] : List Int).length + y204.length < 140737488355328 then (some (strOfNums (([] : List Int) ++ y204))) else (none))) else (if a0 < 65536 then ((some (([(wrap32 (224 + (wrap32 (Int.tdiv a0 4096)))) % 256, (wrap32 (128 + (Int.tmod (wrap32 (Int.tdiv a0 64)) 64))) % 256, (wrap32 (128 + (Int.tmod a0 64))) % 256] : List Int) : List Int)).bind fun y210 => (if ([] : List Int).length + y210.length < 140737488355328 then (some (strOfNums (([] : List Int) ++ y210))) else (none))) else ((some (([(wrap32 (240 + (wrap32 (Int.tdiv a0 262144)))) % 256, (wrap32 (128 + (Int.tmod (wrap32 (Int.tdiv a0 4096)) 64))) % 256, (wrap32 (128 + (Int.tmod (wrap32 (Int.tdiv a0 64)) 64))) % 256, (wrap32 (128 + (Int.tmod a0 64))) % 256] : List Int) : List Int)).bind fun y216 => (if ([] : List Int).length + y216.length < 140737488355328 then (some (strOfNums (([] : List Int) ++ y216))) else (none)))))) = some r := h
 clear h
 by_cases c2 : a0 < 128
 ·rw [if_pos c2] at H
  have c2b0 : decide (a0 < 128) = true := decide_eq_true c2
  clear c2
  by_cases c3 : ([] : List Int).length < 140737488355328
  ·rw [if_pos c3] at H
   have LMc3 := Aside0.mk c3
   clear c3
   obtain ⟨y201, hy201⟩ : ∃ y_ : List Int, y_ = (([] : List Int) ++ [(a0) % 256]) := ⟨_, rfl⟩
   replace H : (some (strOfNums y201)) = some r := by first | (rw [hy201]; with_reducible exact H) | (have H2_ := (Option.bind_some _ _).symm.trans H; rw [hy201]; with_reducible exact H2_) | (have H2_ := (Option.bind_some _ _).symm.trans H; with_reducible exact H2_) | with_reducible exact H | (rw [hy201]; exact H) | exact H
   have Ny201 := Aside0.mk hy201
   clear hy201
   obtain rfl := Option.some.inj H
   go_enter Tryd.func45, Tryd.ntmps45
   go_wp2_with (first | ((with_reducible refine gate_builtin (b := .append) (xs := #[.tmp 6, .tmp 9]) rfl ?_); at_builtin; refine Kd.R_append (Kd.int .u8) (w0 := w) w.heap.size rfl (.tmp 6) (.tmp 9) 27 5 (.int .u8 0) 1 rfl Tryd.underlying27 info5 rfl (by decide) (by omega) (.slice none 0 0) ([] : List Int) ((a0) % 256) [.int .u8 ((a0) % 256)] (fun _ => True) (fun _ => False) rfl rfl ?aP (fun _ hk => hk.elim) ?aF ?aO ?aB ?aS ?aL ?_; (case aP => exact rfl); (case aB => exact (by repeat (first | (with_reducible first | exact HB.out | apply below_alloc | apply pw_below_drewN | apply below_drew1) | exact HB.out))); (case aF => exact (fun _ _ => trivial)); (case aO => exact ((Kd.R_nil _ _ _ _ (fun _ => True)))); (case aS => exact (below_size (by repeat (first | (with_reducible first | exact HB.out | apply below_alloc | apply pw_below_drewN | apply below_drew1) | exact HB.out)))); (case aL => have := LMc3.out; omega); intro v202 w4 ho hb hg hat; rw [← Ny201.out] at ho; have n0_ := Aside0.mk (hb); have n1_ := Aside0.mk (ho); clear HB; have HB := n0_; have HO203 := n1_; clear n0_ n1_; clear ho hb hg hat; have hcv5 := own_string (P := Tryd.prog) Tryd.underlying27 Tryd.underlying5 Tryd.underlying9 (Kd.own_of_R HO203.out)))
   go_ret
   exact ⟨by first | rfl | (simp [errW_none, errW_some] <;> rfl) | (simp [*, errW_none, errW_some] <;> rfl), by repeat (first | (with_reducible first | exact HB.out | apply below_alloc | apply pw_below_drewN | apply below_drew1) | exact HB.out)⟩
  ·rw [if_neg c3] at H
   exact absurd H (by simp)
 ·rw [if_neg c2] at H
  have c2b0 : decide (a0 < 128) = false := decide_eq_false c2
  clear c2
  by_cases c6 : a0 < 2048
  ·rw [if_pos c6] at H
   have c6b0 : decide (a0 < 2048) = true := decide_eq_true c6
   clear c6
   obtain ⟨y204, hy204⟩ : ∃ y_ : List Int, y_ = (([(wrap32 (192 + (wrap32 (Int.tdiv a0 64)))) % 256, (wrap32 (128 + (Int.tmod a0 64))) % 256] : List Int)) := ⟨_, rfl⟩
   replace H : (if ([] : List Int).length + y204.length < 140737488355328 then (some (strOfNums (([] : List Int) ++ y204))) else (none)) = some r := by first | (rw [hy204]; with_reducible exact H) | (have H2_ := (Option.bind_some _ _).symm.trans H; rw [hy204]; with_reducible exact H2_) | (have H2_ := (Option.bind_some _ _).symm.trans H; with_reducible exact H2_) | with_reducible exact H | (rw [hy204]; exact H) | exact H
   have Ny204 := Aside0.mk hy204
   clear hy204
   by_cases c7 : ([] : List Int).length + y204.length < 140737488355328
   ·rw [if_pos c7] at H
    have LMc7 := Aside0.mk c7
    clear c7
    obtain ⟨y207, hy207⟩ : ∃ y_ : List Int, y_ = (([] : List Int) ++ y204) := ⟨_, rfl⟩
    replace H : (some (strOfNums y207)) = some r := by first | (rw [hy207]; with_reducible exact H) | (have H2_ := (Option.bind_some _ _).symm.trans H; rw [hy207]; with_reducible exact H2_) | (have H2_ := (Option.bind_some _ _).symm.trans H; with_reducible exact H2_) | with_reducible exact H | (rw [hy207]; exact H) | exact H
    have Ny207 := Aside0.mk hy207
    clear hy207
    obtain rfl := Option.some.inj H
    go_enter Tryd.func45, Tryd.ntmps45
    go_wp2_with (first | ((with_reducible refine gate_dst (N := 22) rfl ?_); refine Kd.R_lit (Kd.int .u8) _ 5 ?hg (N := 22) ?hd (xs := ([(wrap32 (192 + (wrap32 (Int.tdiv a0 64)))) % 256, (wrap32 (128 + (Int.tmod a0 64))) % 256] : List Int)) (inner := [.int .u8 ((wrap32 (192 + (wrap32 (Int.tdiv a0 64)))) % 256), .int .u8 ((wrap32 (128 + (Int.tmod a0 64))) % 256)]) (ok := fun _ => True) (okp := fun _ => True) ?hr ?hp (fun _ hk => hk) trivial (Below.refl _ _) (Nat.le_refl _) (by simp) ?_; (case hd => rfl); (case hg => rfl); (case hr => first | (go_simp; done) | (go_simp; rfl)); (case hp => exact (Reps.one (show Kd.M (Kd.int .u8) _ _ _ ((wrap32 (192 + (wrap32 (Int.tdiv a0 64)))) % 256) [.int .u8 ((wrap32 (192 + (wrap32 (Int.tdiv a0 64)))) % 256)] from rfl) (Reps.one (show Kd.M (Kd.int .u8) _ _ _ ((wrap32 (128 + (Int.tmod a0 64))) % 256) [.int .u8 ((wrap32 (128 + (Int.tmod a0 64))) % 256)] from rfl) (Reps.none _ _)))); intro v205 w8 ho9 hb hg_ hnew_; clear hg_ hnew_; (first | rw [← Ny204.out] at ho9 | (simp only [Int.reduceToNat] at ho9; rw [← Ny204.out] at ho9)); have n0_ := Aside0.mk (Kd.R_lower ho9 (below_size (by repeat (first | (with_reducible first | exact HB.out | apply below_alloc | apply pw_below_drewN | apply below_drew1) | exact HB.out)))); have n1_ := Aside0.mk (below_step (by repeat (first | (with_reducible first | exact HB.out | apply below_alloc | apply pw_below_drewN | apply below_drew1) | exact HB.out)) hb); clear HB; have HO206 := n0_; have HB := n1_; clear n0_ n1_; clear hb ho9; obtain ⟨Ao11, co11, eo11⟩ := Kd.R_slice HO206.out; subst eo11) | ((with_reducible refine gate_builtin (b := .append) (xs := #[.tmp 13, .tmp 22]) rfl ?_); at_builtin; refine Kd.R_append_rows (Kd.int .u8) (w0 := w) w.heap.size rfl (.tmp 13) (.tmp 22) 27 5 (.int .u8 0) 1 rfl Tryd.underlying27 info5 rfl (by decide) (by omega) (.slice none 0 0) ([] : List Int) y204 _ _ _ (fun k_ => some k_ ≠ (.slice Ao11 y204.length co11 : Value).ownBlock) (fun _ => False) rfl rfl ?aO ?aR (fun _ _ h => h) (fun _ h => h.elim) ?aF ?aB ?aS ?aL ?_; (case aR => repeat (first | exact (Kd.R_reads' HO206.out).2.2 | (with_reducible refine Kd.C_alloc ?_ _) | (with_reducible refine Kd.C_drewN ?_ _) | (with_reducible refine Kd.C_drew ?_))); (case aB => exact (by repeat (first | (with_reducible first | exact HB.out | apply below_alloc | apply pw_below_drewN | apply below_drew1) | exact HB.out))); (case aF => exact (fun k_ hk => Kd.fresh' (Kd.R_lt (by (with_reducible repeat (first | apply Kd.R_alloc | apply Kd.R_drewN | apply Kd.R_drew)); exact HO206.out)) k_ hk)); (case aO => exact ((Kd.R_nil _ _ _ _ (fun k_ => some k_ ≠ (.slice Ao11 y204.length co11 : Value).ownBlock)))); (case aS => exact (below_size (by repeat (first | (with_reducible first | exact HB.out | apply below_alloc | apply pw_below_drewN | apply below_drew1) | exact HB.out)))); (case aL => have := LMc7.out; omega); intro v208 w10 ho hb hg hat; rw [← Ny207.out] at ho; have n0_ := Aside0.mk (Kd.R_after (Kd.R_apart_nil (by (with_reducible repeat (first | apply Kd.R_alloc | apply Kd.R_drewN | apply Kd.R_drew)); exact HO206.out)) hg hat); have n1_ := Aside0.mk (hb); have n2_ := Aside0.mk (ho); clear HO206; clear HB; have HO206 := n0_; have HB := n1_; have HO209 := n2_; clear n0_ n1_ n2_; clear ho hb hg hat; have hcv12 := own_string (P := Tryd.prog) Tryd.underlying27 Tryd.underlying5 Tryd.underlying9 (Kd.own_of_R HO209.out)))
    go_ret
    exact ⟨by first | rfl | (simp [errW_none, errW_some] <;> rfl) | (simp [*, errW_none, errW_some] <;> rfl), by repeat (first | (with_reducible first | exact HB.out | apply below_alloc | apply pw_below_drewN | apply below_drew1) | exact HB.out)⟩
   ·rw [if_neg c7] at H
    exact absurd H (by simp)
  ·rw [if_neg c6] at H
   have c6b0 : decide (a0 < 2048) = false := decide_eq_false c6
   clear c6
   by_cases c13 : a0 < 65536
   ·rw [if_pos c13] at H
    have c13b0 : decide (a0 < 65536) = true := decide_eq_true c13
    clear c13
    obtain ⟨y210, hy210⟩ : ∃ y_ : List Int, y_ = (([(wrap32 (224 + (wrap32 (Int.tdiv a0 4096)))) % 256, (wrap32 (128 + (Int.tmod (wrap32 (Int.tdiv a0 64)) 64))) % 256, (wrap32 (128 + (Int.tmod a0 64))) % 256] : List Int)) := ⟨_, rfl⟩
    replace H : (if ([] : List Int).length + y210.length < 140737488355328 then (some (strOfNums (([] : List Int) ++ y210))) else (none)) = some r := by first | (rw [hy210]; with_reducible exact H) | (have H2_ := (Option.bind_some _ _).symm.trans H; rw [hy210]; with_reducible exact H2_) | (have H2_ := (Option.bind_some _ _).symm.trans H; with_reducible exact H2_) | with_reducible exact H | (rw [hy210]; exact H) | exact H
    have Ny210 := Aside0.mk hy210
    clear hy210
    by_cases c14 : ([] : List Int).length + y210.length < 140737488355328
    ·rw [if_pos c14] at H
     have LMc14 := Aside0.mk c14
     clear c14
     obtain ⟨y213, hy213⟩ : ∃ y_ : List Int, y_ = (([] : List Int) ++ y210) := ⟨_, rfl⟩
     replace H : (some (strOfNums y213)) = some r := by first | (rw [hy213]; with_reducible exact H) | (have H2_ := (Option.bind_some _ _).symm.trans H; rw [hy213]; with_reducible exact H2_) | (have H2_ := (Option.bind_some _ _).symm.trans H; with_reducible exact H2_) | with_reducible exact H | (rw [hy213]; exact H) | exact H
     have Ny213 := Aside0.mk hy213
     clear hy213
     obtain rfl := Option.some.inj H
     go_enter Tryd.func45, Tryd.ntmps45
     go_wp2_with (first | ((with_reducible refine gate_dst (N := 40) rfl ?_); refine Kd.R_lit (Kd.int .u8) _ 5 ?hg (N := 40) ?hd (xs := ([(wrap32 (224 + (wrap32 (Int.tdiv a0 4096)))) % 256, (wrap32 (128 + (Int.tmod (wrap32 (Int.tdiv a0 64)) 64))) % 256, (wrap32 (128 + (Int.tmod a0 64))) % 256] : List Int)) (inner := [.int .u8 ((wrap32 (224 + (wrap32 (Int.tdiv a0 4096)))) % 256), .int .u8 ((wrap32 (128 + (Int.tmod (wrap32 (Int.tdiv a0 64)) 64))) % 256), .int .u8 ((wrap32 (128 + (Int.tmod a0 64))) % 256)]) (ok := fun _ => True) (okp := fun _ => True) ?hr ?hp (fun _ hk => hk) trivial (Below.refl _ _) (Nat.le_refl _) (by simp) ?_; (case hd => rfl); (case hg => rfl); (case hr => first | (go_simp; done) | (go_simp; rfl)); (case hp => exact (Reps.one (show Kd.M (Kd.int .u8) _ _ _ ((wrap32 (224 + (wrap32 (Int.tdiv a0 4096)))) % 256) [.int .u8 ((wrap32 (224 + (wrap32 (Int.tdiv a0 4096)))) % 256)] from rfl) (Reps.one (show Kd.M (Kd.int .u8) _ _ _ ((wrap32 (128 + (Int.tmod (wrap32 (Int.tdiv a0 64)) 64))) % 256) [.int .u8 ((wrap32 (128 + (Int.tmod (wrap32 (Int.tdiv a0 64)) 64))) % 256)] from rfl) (Reps.one (show Kd.M (Kd.int .u8) _ _ _ ((wrap32 (128 + (Int.tmod a0 64))) % 256) [.int .u8 ((wrap32 (128 + (Int.tmod a0 64))) % 256)] from rfl) (Reps.none _ _))))); intro v211 w15 ho16 hb hg_ hnew_; clear hg_ hnew_; (first | rw [← Ny210.out] at ho16 | (simp only [Int.reduceToNat] at ho16; rw [← Ny210.out] at ho16)); have n0_ := Aside0.mk (Kd.R_lower ho16 (below_size (by repeat (first | (with_reducible first | exact HB.out | apply below_alloc | apply pw_below_drewN | apply below_drew1) | exact HB.out)))); have n1_ := Aside0.mk (below_step (by repeat (first | (with_reducible first | exact HB.out | apply below_alloc | apply pw_below_drewN | apply below_drew1) | exact HB.out)) hb); clear HB; have HO212 := n0_; have HB := n1_; clear n0_ n1_; clear hb ho16; obtain ⟨Ao18, co18, eo18⟩ := Kd.R_slice HO212.out; subst eo18) | ((with_reducible refine gate_builtin (b := .append) (xs := #[.tmp 26, .tmp 40]) rfl ?_); at_builtin; refine Kd.R_append_rows (Kd.int .u8) (w0 := w) w.heap.size rfl (.tmp 26) (.tmp 40) 27 5 (.int .u8 0) 1 rfl Tryd.underlying27 info5 rfl (by decide) (by omega) (.slice none 0 0) ([] : List Int) y210 _ _ _ (fun k_ => some k_ ≠ (.slice Ao18 y210.length co18 : Value).ownBlock) (fun _ => False) rfl rfl ?aO ?aR (fun _ _ h => h) (fun _ h => h.elim) ?aF ?aB ?aS ?aL ?_; (case aR => repeat (first | exact (Kd.R_reads' HO212.out).2.2 | (with_reducible refine Kd.C_alloc ?_ _) | (with_reducible refine Kd.C_drewN ?_ _) | (with_reducible refine Kd.C_drew ?_))); (case aB => exact (by repeat (first | (with_reducible first | exact HB.out | apply below_alloc | apply pw_below_drewN | apply below_drew1) | exact HB.out))); (case aF => exact (fun k_ hk => Kd.fresh' (Kd.R_lt (by (with_reducible repeat (first | apply Kd.R_alloc | apply Kd.R_drewN | apply Kd.R_drew)); exact HO212.out)) k_ hk)); (case aO => exact ((Kd.R_nil _ _ _ _ (fun k_ => some k_ ≠ (.slice Ao18 y210.length co18 : Value).ownBlock)))); (case aS => exact (below_size (by repeat (first | (with_reducible first | exact HB.out | apply below_alloc | apply pw_below_drewN | apply below_drew1) | exact HB.out)))); (case aL => have := LMc14.out; omega); intro v214 w17 ho hb hg hat; rw [← Ny213.out] at ho; have n0_ := Aside0.mk (Kd.R_after (Kd.R_apart_nil (by (with_reducible repeat (first | apply Kd.R_alloc | apply Kd.R_drewN | apply Kd.R_drew)); exact HO212.out)) hg hat); have n1_ := Aside0.mk (hb); have n2_ := Aside0.mk (ho); clear HO212; clear HB; have HO212 := n0_; have HB := n1_; have HO215 := n2_; clear n0_ n1_ n2_; clear ho hb hg hat; have hcv19 := own_string (P := Tryd.prog) Tryd.underlying27 Tryd.underlying5 Tryd.underlying9 (Kd.own_of_R HO215.out)))
     go_ret
     exact ⟨by first | rfl | (simp [errW_none, errW_some] <;> rfl) | (simp [*, errW_none, errW_some] <;> rfl), by repeat (first | (with_reducible first | exact HB.out | apply below_alloc | apply pw_below_drewN | apply below_drew1) | exact HB.out)⟩
    ·rw [if_neg c14] at H
     exact absurd H (by simp)
   ·rw [if_neg c13] at H
    have c13b0 : decide (a0 < 65536) = false := decide_eq_false c13
    clear c13
    obtain ⟨y216, hy216⟩ : ∃ y_ : List Int, y_ = (([(wrap32 (240 + (wrap32 (Int.tdiv a0 262144)))) % 256, (wrap32 (128 + (Int.tmod (wrap32 (Int.tdiv a0 4096)) 64))) % 256, (wrap32 (128 + (Int.tmod (wrap32 (Int.tdiv a0 64)) 64))) % 256, (wrap32 (128 + (Int.tmod a0 64))) % 256] : List Int)) := ⟨_, rfl⟩
    replace H : (if ([] : List Int).length + y216.length < 140737488355328 then (some (strOfNums (([] : List Int) ++ y216))) else (none)) = some r := by first | (rw [hy216]; with_reducible exact H) | (have H2_ := (Option.bind_some _ _).symm.trans H; rw [hy216]; with_reducible exact H2_) | (have H2_ := (Option.bind_some _ _).symm.trans H; with_reducible exact H2_) | with_reducible exact H | (rw [hy216]; exact H) | exact H
    have Ny216 := Aside0.mk hy216
    clear hy216
    by_cases c20 : ([] : List Int).length + y216.length < 140737488355328
    ·rw [if_pos c20] at H
     have LMc20 := Aside0.mk c20
     clear c20
     obtain ⟨y219, hy219⟩ : ∃ y_ : List Int, y_ = (([] : List Int) ++ y216) := ⟨_, rfl⟩
     replace H : (some (strOfNums y219)) = some r := by first | (rw [hy219]; with_reducible exact H) | (have H2_ := (Option.bind_some _ _).symm.trans H; rw [hy219]; with_reducible exact H2_) | (have H2_ := (Option.bind_some _ _).symm.trans H; with_reducible exact H2_) | with_reducible exact H | (rw [hy219]; exact H) | exact H
     have Ny219 := Aside0.mk hy219
     clear hy219
     obtain rfl := Option.some.inj H
     go_enter Tryd.func45, Tryd.ntmps45
     go_wp2_with (first | ((with_reducible refine gate_dst (N := 61) rfl ?_); refine Kd.R_lit (Kd.int .u8) _ 5 ?hg (N := 61) ?hd (xs := ([(wrap32 (240 + (wrap32 (Int.tdiv a0 262144)))) % 256, (wrap32 (128 + (Int.tmod (wrap32 (Int.tdiv a0 4096)) 64))) % 256, (wrap32 (128 + (Int.tmod (wrap32 (Int.tdiv a0 64)) 64))) % 256, (wrap32 (128 + (Int.tmod a0 64))) % 256] : List Int)) (inner := [.int .u8 ((wrap32 (240 + (wrap32 (Int.tdiv a0 262144)))) % 256), .int .u8 ((wrap32 (128 + (Int.tmod (wrap32 (Int.tdiv a0 4096)) 64))) % 256), .int .u8 ((wrap32 (128 + (Int.tmod (wrap32 (Int.tdiv a0 64)) 64))) % 256), .int .u8 ((wrap32 (128 + (Int.tmod a0 64))) % 256)]) (ok := fun _ => True) (okp := fun _ => True) ?hr ?hp (fun _ hk => hk) trivial (Below.refl _ _) (Nat.le_refl _) (by simp) ?_; (case hd => rfl); (case hg => rfl); (case hr => first | (go_simp; done) | (go_simp; rfl)); (case hp => exact (Reps.one (show Kd.M (Kd.int .u8) _ _ _ ((wrap32 (240 + (wrap32 (Int.tdiv a0 262144)))) % 256) [.int .u8 ((wrap32 (240 + (wrap32 (Int.tdiv a0 262144)))) % 256)] from rfl) (Reps.one (show Kd.M (Kd.int .u8) _ _ _ ((wrap32 (128 + (Int.tmod (wrap32 (Int.tdiv a0 4096)) 64))) % 256) [.int .u8 ((wrap32 (128 + (Int.tmod (wrap32 (Int.tdiv a0 4096)) 64))) % 256)] from rfl) (Reps.one (show Kd.M (Kd.int .u8) _ _ _ ((wrap32 (128 + (Int.tmod (wrap32 (Int.tdiv a0 64)) 64))) % 256) [.int .u8 ((wrap32 (128 + (Int.tmod (wrap32 (Int.tdiv a0 64)) 64))) % 256)] from rfl) (Reps.one (show Kd.M (Kd.int .u8) _ _ _ ((wrap32 (128 + (Int.tmod a0 64))) % 256) [.int .u8 ((wrap32 (128 + (Int.tmod a0 64))) % 256)] from rfl) (Reps.none _ _)))))); intro v217 w21 ho22 hb hg_ hnew_; clear hg_ hnew_; (first | rw [← Ny216.out] at ho22 | (simp only [Int.reduceToNat] at ho22; rw [← Ny216.out] at ho22)); have n0_ := Aside0.mk (Kd.R_lower ho22 (below_size (by repeat (first | (with_reducible first | exact HB.out | apply below_alloc | apply pw_below_drewN | apply below_drew1) | exact HB.out)))); have n1_ := Aside0.mk (below_step (by repeat (first | (with_reducible first | exact HB.out | apply below_alloc | apply pw_below_drewN | apply below_drew1) | exact HB.out)) hb); clear HB; have HO218 := n0_; have HB := n1_; clear n0_ n1_; clear hb ho22; obtain ⟨Ao24, co24, eo24⟩ := Kd.R_slice HO218.out; subst eo24) | ((with_reducible refine gate_builtin (b := .append) (xs := #[.tmp 42, .tmp 61]) rfl ?_); at_builtin; refine Kd.R_append_rows (Kd.int .u8) (w0 := w) w.heap.size rfl (.tmp 42) (.tmp 61) 27 5 (.int .u8 0) 1 rfl Tryd.underlying27 info5 rfl (by decide) (by omega) (.slice none 0 0) ([] : List Int) y216 _ _ _ (fun k_ => some k_ ≠ (.slice Ao24 y216.length co24 : Value).ownBlock) (fun _ => False) rfl rfl ?aO ?aR (fun _ _ h => h) (fun _ h => h.elim) ?aF ?aB ?aS ?aL ?_; (case aR => repeat (first | exact (Kd.R_reads' HO218.out).2.2 | (with_reducible refine Kd.C_alloc ?_ _) | (with_reducible refine Kd.C_drewN ?_ _) | (with_reducible refine Kd.C_drew ?_))); (case aB => exact (by repeat (first | (with_reducible first | exact HB.out | apply below_alloc | apply pw_below_drewN | apply below_drew1) | exact HB.out))); (case aF => exact (fun k_ hk => Kd.fresh' (Kd.R_lt (by (with_reducible repeat (first | apply Kd.R_alloc | apply Kd.R_drewN | apply Kd.R_drew)); exact HO218.out)) k_ hk)); (case aO => exact ((Kd.R_nil _ _ _ _ (fun k_ => some k_ ≠ (.slice Ao24 y216.length co24 : Value).ownBlock)))); (case aS => exact (below_size (by repeat (first | (with_reducible first | exact HB.out | apply below_alloc | apply pw_below_drewN | apply below_drew1) | exact HB.out)))); (case aL => have := LMc20.out; omega); intro v220 w23 ho hb hg hat; rw [← Ny219.out] at ho; have n0_ := Aside0.mk (Kd.R_after (Kd.R_apart_nil (by (with_reducible repeat (first | apply Kd.R_alloc | apply Kd.R_drewN | apply Kd.R_drew)); exact HO218.out)) hg hat); have n1_ := Aside0.mk (hb); have n2_ := Aside0.mk (ho); clear HO218; clear HB; have HO218 := n0_; have HB := n1_; have HO221 := n2_; clear n0_ n1_ n2_; clear ho hb hg hat; have hcv25 := own_string (P := Tryd.prog) Tryd.underlying27 Tryd.underlying5 Tryd.underlying9 (Kd.own_of_R HO221.out)))
     go_ret
     exact ⟨by first | rfl | (simp [errW_none, errW_some] <;> rfl) | (simp [*, errW_none, errW_some] <;> rfl), by repeat (first | (with_reducible first | exact HB.out | apply below_alloc | apply pw_below_drewN | apply below_drew1) | exact HB.out)⟩
    ·rw [if_neg c20] at H
     exact absurd H (by simp)

end Go.Proofs.YtncbbgmhmofhnaaDoor.Pr
end

section
namespace Go.Proofs.YtncbbgmhmofhnaaDoor.Pr
open Go.RowKit Go.Proofs.YtncbbgmhmofhnaaDoorW.PrintWords Go.Proofs.YtncbbgmhmofhnaaDoorW.PrintLast Go.Proofs.YtncbbgmhmofhnaaDoorW.PrintMore
set_option linter.unusedVariables false
set_option linter.unusedSimpArgs false

section
variable {P : Program}
/-- The cells of a slice's literal. -/
def sliceCells (P : Program) (t : TypeId) (len : Nat) (parts : List (Nat × Value)) : Option (TypeId × Array Value) :=
  match P.underlying t with
  | some (.slice e) =>
    match P.info? e with
    | some i =>
      match i.zero with
      | some z => if len * i.size = 0 ∨ len * i.size > 2 ^ 24 then none else (Instr.fill (fun k => some (k * i.size, i.size)) ((Array.range (len * i.size)).map (z.cells[· % z.cells.size]!)) parts).map fun c => (e, c)
      | none => none
    | none => none
  | _ => none
theorem run_sliceCells (w : World) (t : TypeId) (len : Nat) (parts : Array (Nat × Value)) (e : TypeId) (cells : Array Value) (h : sliceCells P t len parts.toList = some (e, cells)) :
    (Instr.buildSlice t len parts).run P w = .ok (.slice (some ⟨w.heap.size, 0, none⟩) len len) (w.alloc (.cells cells e)) := by
  unfold sliceCells at h
  cases hu : P.underlying t with
  | none => simp [hu] at h
  | some d =>
    cases d <;> try (simp [hu] at h; done)
    case slice e' =>
      cases hi : P.info? e' with
      | none => simp [hu, hi] at h
      | some i =>
        cases hz : i.zero with
        | none => simp [hu, hi, hz] at h
        | some z =>
          simp only [hu, hi, hz] at h
          by_cases hc : len * i.size = 0 ∨ len * i.size > 2 ^ 24
          · rw [if_pos hc] at h; exact absurd h (by simp)
          · rw [if_neg hc] at h
            rw [not_or] at hc
            cases hf : Instr.fill (fun k => some (k * i.size, i.size)) ((Array.range (len * i.size)).map (z.cells[· % z.cells.size]!)) parts.toList with
            | none => rw [hf] at h; exact absurd h (by simp)
            | some c =>
              rw [hf] at h
              simp only [Option.map_some, Option.some.injEq, Prod.mk.injEq] at h
              obtain ⟨rfl, rfl⟩ := h
              simp [Instr.buildSlice, run_underlying hu, sizeOf, typeInfo, zeroValue, hi, hz, hc.1, hc.2, hf, newRow]
def worldLit (w : World) : Option (TypeId × Array Value) → World
  | none => w
  | some (e, c) => w.alloc (.cells c e)
/-- The operations of a literal: builds, one slice, moves. -/
def runLit (P : Program) (g : Nat) : List Oper → Act → Option (TypeId × Array Value) → Option (Act × Option (TypeId × Array Value))
  | [], a, m => some (a, m)
  | o :: os, a, m =>
    match o.guard, o.op with
    | none, .build t parts => (P.built t (parts.map fun (i, x) => (i, a.eval x)).toList).bind fun cells => runLit P g os (a.put o.dst (.agg cells)) m
    | none, .buildSlice t len parts =>
      match m with
      | none => (sliceCells P t len (parts.map fun (i, x) => (i, a.eval x)).toList).bind fun m' => runLit P g os (a.put o.dst (.slice (some ⟨g, 0, none⟩) len len)) (some m')
      | some _ => none
    | none, .assign x => runLit P g os (a.put o.dst (a.eval x)) m
    | _, _ => none
theorem wpList_runLit {ops : Array Oper} {Q : Exit → Act → World → Prop} {w : World} : ∀ (os : List Oper) (a : Act) (m : Option (TypeId × Array Value)) {a' : Act} {m' : Option (TypeId × Array Value)},
    runLit P w.heap.size os a m = some (a', m') → Q .normal a' (worldLit w m') → wpList P ops Q os a (worldLit w m)
  | [], a, m, a', m', h, hq => by
    simp only [runLit, Option.some.injEq, Prod.mk.injEq] at h
    obtain ⟨rfl, rfl⟩ := h
    exact hq
  | o :: os, a, m, a', m', h, hq => by
    rw [runLit] at h
    split at h
    · rename_i t parts hg ho
      cases hb : P.built t (parts.map fun (i, x) => (i, a.eval x)).toList with
      | none => rw [hb] at h; exact absurd h (by simp)
      | some cells =>
        rw [hb] at h
        refine wpList_build hg t parts ho (by rw [hb]; rfl) ?_
        rw [hb]
        exact wpList_runLit os _ m h hq
    · rename_i t len parts hg ho
      cases m with
      | some m => exact absurd h (by simp)
      | none =>
        dsimp only at h
        cases hb : sliceCells P t len (parts.map fun (i, x) => (i, a.eval x)).toList with
        | none => rw [hb] at h; exact absurd h (by simp)
        | some m1 =>
          rw [hb] at h
          refine wpList_plain hg fun K hK => ?_
          have hr := run_sliceCells (P := P) w t len (parts.map fun (i, x) => (i, a.eval x)) m1.1 m1.2 hb
          unfold Oper.wp execOp
          simp only [ho, Sem.run_bind, worldLit, hr, Result.andThen_ok]
          exact hK _ _ (wpList_runLit os _ (some m1) h hq)
    · rename_i x hg ho
      refine wpList_plain hg fun K hK => ?_
      unfold Oper.wp execOp
      simp only [ho]
      exact hK _ _ (wpList_runLit os _ m h hq)
    · exact absurd h (by simp)
theorem runLit_append {g : Nat} (os' : List Oper) : ∀ (os : List Oper) (a : Act) (m : Option (TypeId × Array Value)),
    runLit P g (os ++ os') a m = (runLit P g os a m).bind fun x => runLit P g os' x.1 x.2
  | [], a, m => rfl
  | o :: os, a, m => by
    simp only [List.cons_append, runLit]
    split
    · simp only [runLit_append os' os, Option.bind_assoc]
    · cases m with
      | none => simp only [runLit_append os' os, Option.bind_assoc]
      | some m => rfl
    · exact runLit_append os' os _ _
    · rfl
theorem lit_calls {f : FuncId} {fn : Func} (hf : P.funcs[f]? = some fn) {i0 i1 : Nat} {o0 : Oper} {ops : Array Oper} {r n : Nat} {e : TypeId} {cells : Array Value}
    (hb : fn.body = some ((Code.region i0 #[o0] false).seq ((Code.region i1 ops false).seq Code.ret))) (hr : fn.results = #[.tmp r])
    (h : ∀ g, (runLit P g (o0 :: ops.toList) { tmps := Array.replicate fn.ntmps undef, defers := [] } none).map (fun x => (x.1.tmps.getD r undef, x.1.defers.isEmpty, x.2)) = some (.slice (some ⟨g, 0, none⟩) n n, true, some (e, cells)))
    (w : World) : Calls P f #[] w fun e' w' => e' = .returned (.slice (some ⟨w.heap.size, 0, none⟩) n n) ∧ w' = w.alloc (.cells cells e) := by
  have h := h w.heap.size
  cases hx : runLit P w.heap.size (o0 :: ops.toList) { tmps := Array.replicate fn.ntmps undef, defers := [] } none with
  | none => rw [hx] at h; exact absurd h (by simp)
  | some x =>
    obtain ⟨a, m⟩ := x
    rw [hx] at h
    simp only [Option.map_some, Option.some.injEq, Prod.mk.injEq] at h
    obtain ⟨h1, h2, rfl⟩ := h
    have hd : a.defers = [] := by simpa using h2
    refine calls_of_wp hf hb ?_
    simp only [List.size_toArray, List.length_nil, Nat.sub_zero, Array.empty_append]
    refine wp_seq (wp_region_list ?_)
    rw [show o0 :: ops.toList = [o0] ++ ops.toList from rfl, runLit_append] at hx
    cases hrun : runLit P w.heap.size [o0] { tmps := Array.replicate fn.ntmps undef, defers := [] } none with
    | none => rw [hrun] at hx; exact absurd hx (by simp)
    | some y =>
      obtain ⟨a1, m1⟩ := y
      rw [hrun] at hx
      have hrest : runLit P w.heap.size ops.toList a1 m1 = some (a, some (e, cells)) := hx
      refine wpList_runLit (w := w) [o0] _ none hrun ?_
      show (Code.seq _ _).wp P _ a1 _
      refine wp_seq (wp_region_list ?_)
      refine wpList_runLit (w := w) ops.toList a1 m1 hrest ?_
      show Code.ret.wp P _ a _
      refine wp_ret ?_
      exact bodyPost_ret (results_tmp hr _ _ _) hd ⟨by rw [h1], rfl⟩
end
end Go.Proofs.YtncbbgmhmofhnaaDoor.Pr
end

section
namespace Go.Proofs.YtncbbgmhmofhnaaDoor.Pr
open Go.RowKit Go.Proofs.YtncbbgmhmofhnaaDoorW.PrintWords Go.Proofs.YtncbbgmhmofhnaaDoorW.PrintLast Go.Proofs.YtncbbgmhmofhnaaDoorW.PrintMore
set_option linter.unusedVariables false
set_option linter.unusedSimpArgs false

def cells_u (x : S88) : List Value := [.int .i32 x.f0, .int .i32 x.f1, .int .u8 x.f2, .int .u8 x.f3, .int .u8 x.f4, .int .u8 x.f5, .int .u8 x.f6, .bool x.f7]
def cells_p (x : S91) : List Value := [.int .i32 x.f0, .int .i32 x.f1, .int .i32 x.f2]
def uT0 : List S88 := [⟨45, 45, 1, 0, 5, 0, 0, false⟩,
  ⟨46, 46, 1, 0, 6, 0, 0, false⟩,
  ⟨48, 57, 1, 0, 4, 0, 0, false⟩,
  ⟨65, 90, 3, 2, 1, 0, 0, false⟩,
  ⟨95, 95, 1, 0, 0, 0, 0, false⟩,
  ⟨97, 122, 1, 2, 1, 0, 0, false⟩,
  ⟨170, 170, 3, 2, 1, 0, 0, false⟩,
  ⟨173, 173, 2, 0, 9, 0, 0, false⟩,
  ⟨178, 179, 3, 0, 4, 0, 0, false⟩,
  ⟨185, 185, 3, 0, 4, 0, 0, false⟩,
  ⟨186, 186, 3, 2, 1, 0, 0, false⟩,
  ⟨192, 214, 3, 2, 1, 0, 0, false⟩,
  ⟨216, 222, 3, 2, 1, 0, 0, false⟩,
  ⟨223, 223, 4, 2, 1, 0, 0, false⟩,
  ⟨224, 246, 1, 2, 1, 0, 0, false⟩,
  ⟨248, 255, 1, 2, 1, 0, 0, false⟩,
  ⟨376, 376, 3, 2, 1, 0, 0, false⟩,
  ⟨469, 469, 3, 2, 1, 0, 0, false⟩,
  ⟨470, 470, 1, 2, 1, 0, 0, false⟩,
  ⟨768, 772, 1, 1, 8, 230, 4, true⟩,
  ⟨774, 776, 1, 1, 8, 230, 4, true⟩,
  ⟨778, 778, 1, 1, 8, 230, 4, true⟩,
  ⟨803, 803, 1, 1, 8, 220, 4, true⟩,
  ⟨807, 808, 1, 1, 8, 202, 4, true⟩,
  ⟨902, 902, 3, 3, 1, 0, 0, false⟩,
  ⟨904, 906, 3, 3, 1, 0, 0, false⟩,
  ⟨908, 908, 3, 3, 1, 0, 0, false⟩,
  ⟨910, 911, 3, 3, 1, 0, 0, false⟩,
  ⟨913, 929, 3, 3, 1, 0, 0, false⟩,
  ⟨931, 937, 3, 3, 1, 0, 0, false⟩]
set_option maxRecDepth 100000 in
theorem unidata_rows0.run (w : World) : Calls Tryd.prog 81 #[] w fun e w' => e = .returned (.slice (some ⟨w.heap.size, 0, none⟩) uT0.length uT0.length) ∧ w' = w.alloc (.cells (uT0.flatMap cells_u).toArray 88) :=
  lit_calls Tryd.func81 rfl rfl (fun g => by kernel_rfl) w
def uT1 : List S88 := [⟨940, 943, 1, 3, 1, 0, 0, false⟩,
  ⟨945, 961, 1, 3, 1, 0, 0, false⟩,
  ⟨962, 962, 4, 3, 1, 0, 0, false⟩,
  ⟨963, 969, 1, 3, 1, 0, 0, false⟩,
  ⟨972, 974, 1, 3, 1, 0, 0, false⟩,
  ⟨1025, 1025, 3, 4, 1, 0, 0, false⟩,
  ⟨1029, 1030, 3, 4, 1, 0, 0, false⟩,
  ⟨1032, 1032, 3, 4, 1, 0, 0, false⟩,
  ⟨1040, 1071, 3, 4, 1, 0, 0, false⟩,
  ⟨1072, 1103, 1, 4, 1, 0, 0, false⟩,
  ⟨1105, 1105, 1, 4, 1, 0, 0, false⟩,
  ⟨1109, 1110, 1, 4, 1, 0, 0, false⟩,
  ⟨1112, 1112, 1, 4, 1, 0, 0, false⟩,
  ⟨1488, 1514, 1, 5, 2, 0, 0, false⟩,
  ⟨1575, 1575, 1, 6, 3, 0, 2, false⟩,
  ⟨1576, 1576, 1, 6, 3, 0, 3, false⟩,
  ⟨1578, 1578, 1, 6, 3, 0, 3, false⟩,
  ⟨1583, 1583, 1, 6, 3, 0, 2, false⟩,
  ⟨1587, 1587, 1, 6, 3, 0, 3, false⟩,
  ⟨1604, 1606, 1, 6, 3, 0, 3, false⟩,
  ⟨1608, 1608, 1, 6, 3, 0, 2, false⟩,
  ⟨1610, 1610, 1, 6, 3, 0, 3, false⟩,
  ⟨1611, 1611, 1, 1, 8, 27, 4, true⟩,
  ⟨1632, 1641, 1, 6, 7, 0, 0, false⟩,
  ⟨1776, 1785, 1, 6, 4, 0, 0, false⟩,
  ⟨2325, 2361, 1, 7, 1, 0, 0, false⟩,
  ⟨2367, 2367, 1, 7, 1, 0, 0, true⟩,
  ⟨2381, 2381, 1, 7, 8, 9, 4, true⟩,
  ⟨7776, 7776, 3, 2, 1, 0, 0, false⟩,
  ⟨7777, 7777, 1, 2, 1, 0, 0, false⟩]
set_option maxRecDepth 100000 in
theorem unidata_rows1.run (w : World) : Calls Tryd.prog 82 #[] w fun e w' => e = .returned (.slice (some ⟨w.heap.size, 0, none⟩) uT1.length uT1.length) ∧ w' = w.alloc (.cells (uT1.flatMap cells_u).toArray 88) :=
  lit_calls Tryd.func82 rfl rfl (fun g => by kernel_rfl) w
def uT2 : List S88 := [⟨7778, 7778, 3, 2, 1, 0, 0, false⟩,
  ⟨7779, 7779, 1, 2, 1, 0, 0, false⟩,
  ⟨7784, 7784, 3, 2, 1, 0, 0, false⟩,
  ⟨7785, 7785, 1, 2, 1, 0, 0, false⟩,
  ⟨7838, 7838, 3, 2, 1, 0, 0, false⟩,
  ⟨8204, 8204, 4, 1, 9, 0, 0, false⟩,
  ⟨8205, 8205, 4, 1, 9, 0, 5, false⟩,
  ⟨8486, 8486, 3, 3, 1, 0, 0, false⟩,
  ⟨8490, 8490, 3, 2, 1, 0, 0, false⟩,
  ⟨8491, 8491, 3, 2, 1, 0, 0, false⟩,
  ⟨9731, 9731, 1, 0, 0, 0, 0, false⟩,
  ⟨12290, 12290, 3, 0, 0, 0, 0, false⟩,
  ⟨12353, 12438, 1, 8, 1, 0, 0, false⟩,
  ⟨12449, 12538, 1, 9, 1, 0, 0, false⟩,
  ⟨12540, 12540, 1, 0, 1, 0, 0, false⟩,
  ⟨19968, 20108, 1, 10, 1, 0, 0, false⟩,
  ⟨64257, 64257, 3, 2, 1, 0, 0, false⟩,
  ⟨65285, 65285, 3, 0, 0, 0, 0, false⟩,
  ⟨65293, 65293, 3, 0, 5, 0, 0, false⟩,
  ⟨65294, 65294, 3, 0, 6, 0, 0, false⟩,
  ⟨65295, 65295, 3, 0, 6, 0, 0, false⟩,
  ⟨65296, 65305, 3, 0, 4, 0, 0, false⟩,
  ⟨65313, 65338, 3, 2, 1, 0, 0, false⟩,
  ⟨65345, 65370, 3, 2, 1, 0, 0, false⟩,
  ⟨65377, 65377, 3, 0, 0, 0, 0, false⟩,
  ⟨66560, 66599, 3, 11, 1, 0, 0, false⟩,
  ⟨66600, 66639, 1, 11, 1, 0, 0, false⟩,
  ⟨128512, 128512, 1, 0, 0, 0, 0, false⟩]
set_option maxRecDepth 100000 in
theorem unidata_rows2.run (w : World) : Calls Tryd.prog 83 #[] w fun e w' => e = .returned (.slice (some ⟨w.heap.size, 0, none⟩) uT2.length uT2.length) ∧ w' = w.alloc (.cells (uT2.flatMap cells_u).toArray 88) :=
  lit_calls Tryd.func83 rfl rfl (fun g => by kernel_rfl) w
def uP0 : List S91 := [⟨192, 65, 768⟩,
  ⟨193, 65, 769⟩,
  ⟨194, 65, 770⟩,
  ⟨195, 65, 771⟩,
  ⟨196, 65, 776⟩,
  ⟨197, 65, 778⟩,
  ⟨199, 67, 807⟩,
  ⟨200, 69, 768⟩,
  ⟨201, 69, 769⟩,
  ⟨202, 69, 770⟩,
  ⟨203, 69, 776⟩,
  ⟨204, 73, 768⟩,
  ⟨205, 73, 769⟩,
  ⟨206, 73, 770⟩,
  ⟨207, 73, 776⟩,
  ⟨209, 78, 771⟩,
  ⟨210, 79, 768⟩,
  ⟨211, 79, 769⟩,
  ⟨212, 79, 770⟩,
  ⟨213, 79, 771⟩,
  ⟨214, 79, 776⟩,
  ⟨217, 85, 768⟩,
  ⟨218, 85, 769⟩,
  ⟨219, 85, 770⟩,
  ⟨220, 85, 776⟩,
  ⟨221, 89, 769⟩,
  ⟨224, 97, 768⟩,
  ⟨225, 97, 769⟩,
  ⟨226, 97, 770⟩,
  ⟨227, 97, 771⟩,
  ⟨228, 97, 776⟩,
  ⟨229, 97, 778⟩,
  ⟨231, 99, 807⟩,
  ⟨232, 101, 768⟩,
  ⟨233, 101, 769⟩,
  ⟨234, 101, 770⟩,
  ⟨235, 101, 776⟩,
  ⟨236, 105, 768⟩,
  ⟨237, 105, 769⟩,
  ⟨238, 105, 770⟩]
set_option maxRecDepth 100000 in
theorem unidata_pairs0.run (w : World) : Calls Tryd.prog 86 #[] w fun e w' => e = .returned (.slice (some ⟨w.heap.size, 0, none⟩) uP0.length uP0.length) ∧ w' = w.alloc (.cells (uP0.flatMap cells_p).toArray 91) :=
  lit_calls Tryd.func86 rfl rfl (fun g => by kernel_rfl) w
def uP1 : List S91 := [⟨239, 105, 776⟩,
  ⟨241, 110, 771⟩,
  ⟨242, 111, 768⟩,
  ⟨243, 111, 769⟩,
  ⟨244, 111, 770⟩,
  ⟨245, 111, 771⟩,
  ⟨246, 111, 776⟩,
  ⟨249, 117, 768⟩,
  ⟨250, 117, 769⟩,
  ⟨251, 117, 770⟩,
  ⟨252, 117, 776⟩,
  ⟨253, 121, 769⟩,
  ⟨255, 121, 776⟩,
  ⟨376, 89, 776⟩,
  ⟨469, 220, 772⟩,
  ⟨470, 252, 772⟩,
  ⟨902, 913, 769⟩,
  ⟨904, 917, 769⟩,
  ⟨905, 919, 769⟩,
  ⟨906, 921, 769⟩,
  ⟨908, 927, 769⟩,
  ⟨910, 933, 769⟩,
  ⟨911, 937, 769⟩,
  ⟨940, 945, 769⟩,
  ⟨941, 949, 769⟩,
  ⟨942, 951, 769⟩,
  ⟨943, 953, 769⟩,
  ⟨972, 959, 769⟩,
  ⟨973, 965, 769⟩,
  ⟨974, 969, 769⟩,
  ⟨1025, 1045, 776⟩,
  ⟨1049, 1048, 774⟩,
  ⟨1081, 1080, 774⟩,
  ⟨1105, 1077, 776⟩,
  ⟨7776, 83, 775⟩,
  ⟨7777, 115, 775⟩,
  ⟨7778, 83, 803⟩,
  ⟨7779, 115, 803⟩,
  ⟨7784, 7778, 775⟩,
  ⟨7785, 7779, 775⟩]
set_option maxRecDepth 100000 in
theorem unidata_pairs1.run (w : World) : Calls Tryd.prog 87 #[] w fun e w' => e = .returned (.slice (some ⟨w.heap.size, 0, none⟩) uP1.length uP1.length) ∧ w' = w.alloc (.cells (uP1.flatMap cells_p).toArray 91) :=
  lit_calls Tryd.func87 rfl rfl (fun g => by kernel_rfl) w
end Go.Proofs.YtncbbgmhmofhnaaDoor.Pr
end

section
namespace Go.Proofs.YtncbbgmhmofhnaaDoor.Pr
open Go.RowKit Go.Proofs.YtncbbgmhmofhnaaDoorW.PrintWords Go.Proofs.YtncbbgmhmofhnaaDoorW.PrintLast Go.Proofs.YtncbbgmhmofhnaaDoorW.PrintMore
set_option linter.unusedVariables false
set_option linter.unusedSimpArgs false

theorem rangeAt_below {B b o : Nat} {cs : List Value} {w w' : World} (h : w.rangeAt b o cs) (hb : Below B w w') (hB : b < B) : w'.rangeAt b o cs := fun j v hv => (hb.cell (p := ⟨b, o + j, none⟩) hB).trans (h j v hv)
theorem there_below {B b o n : Nat} {w w' : World} (h : w.there b o n) (hb : Below B w w') (hB : b < B) : w'.there b o n := fun j hj => by
  rw [hb.cell (p := ⟨b, o + j, none⟩) hB, hb.frozen (p := ⟨b, o + j, none⟩) hB]; exact h j hj
theorem below_cells {B b : Nat} {a : World} (hb : B ≤ b) : ∀ (vs : List Value) (o : Nat) {w : World}, Below B a w → Below B a (w.setCells b o vs)
  | [], _, _, h => h
  | v :: vs, o, w, h => by
    simp only [World.setCells]
    exact below_cells hb vs (o + 1) (h.setCell (by simpa using hb) v)
theorem size_cells (b : Nat) : ∀ (vs : List Value) (o : Nat) (w : World), (w.setCells b o vs).heap.size = w.heap.size
  | [], _, _ => rfl
  | v :: vs, o, w => by
    simp only [World.setCells]
    rw [size_cells b vs (o + 1)]
    simp
theorem results_cell_mid {fn : Func} {p : Tmp} {ty : TypeId} (h : fn.results = #[.cell p ty]) (tmps : Array Value) (w : World) (g : Nat) (cs : List Value) (d : TypeDesc)
    (hp : tmps.getD p undef = .pointer (some ⟨g, 0, none⟩)) (hc : w.rangeAt g 0 cs)
    (hu : Tryd.prog.underlying ty = some d) (hd : d.isRow = true) (hi : (Tryd.prog.info? ty).map (·.size) = some cs.length) :
    (results fn tmps).run Tryd.prog w = .ok (.agg cs.toArray) w := by
  have hp' : tmps[p]?.getD undef = .pointer (some ⟨g, 0, none⟩) := by simpa using hp
  simp [results, h, hp', asAddr, run_loadVar_mid w g 0 ty cs d hc hu hd hi]
theorem range_new (w : World) (cs : List Value) (e : TypeId) : (w.alloc (.cells cs.toArray e)).rangeAt w.heap.size 0 cs := fun j v hv => by
  rw [cell_of_row _ _ _ _ _ _ (heap_alloc_new w _)]
  simpa using hv
theorem there_new (w : World) (cs : Array Value) (e : TypeId) : (w.alloc (.cells cs e)).there w.heap.size 0 cs.size := fun j hj => by
  rw [cell_of_row _ _ _ _ _ _ (heap_alloc_new w _), frozen_of_row _ _ _ _ _ (heap_alloc_new w _)]
  simp [hj]
theorem range_later {w : World} {b o : Nat} {cs : List Value} (h : w.rangeAt b o cs) (ob : Obj) : (w.alloc ob).rangeAt b o cs := World.rangeAt_alloc h ob
/-- A slice of structs as it lies in a block: element i's cells from i * n on. -/
def RowsAt {α : Type} (f : α → List Value) (n : Nat) (w : World) (g : Nat) (T : List α) : Prop := ∀ i x, T[i]? = some x → w.rangeAt g (i * n) (f x)
theorem RowsAt.below {α : Type} {f : α → List Value} {n g : Nat} {w w' : World} {T : List α} (h : RowsAt f n w g T) {B : Nat} (hb : Below B w w') (hB : g < B) : RowsAt f n w' g T := fun i x hx => rangeAt_below (h i x hx) hb hB
theorem RowsAt.later {α : Type} {f : α → List Value} {n g : Nat} {w : World} {T : List α} (h : RowsAt f n w g T) (ob : Obj) : RowsAt f n (w.alloc ob) g T := fun i x hx => range_later (h i x hx) ob
theorem RowsAt.new {α : Type} {f : α → List Value} {n : Nat} (hf : ∀ x, (f x).length = n) (w : World) (T : List α) (e : TypeId) : RowsAt f n (w.alloc (.cells (T.flatMap f).toArray e)) w.heap.size T := fun i x hx j v hv => by
  have hr := (flat_at hf T i x hx)
  have h0 := range_new w (T.flatMap f) e (i * n + j) v (by
    rw [← hr] at hv
    rw [List.getElem?_take] at hv
    split at hv
    · rwa [List.getElem?_drop] at hv
    · exact absurd hv (by simp))
  rwa [Nat.zero_add] at h0
where flat_at {α : Type} {f : α → List Value} {n : Nat} (hf : ∀ x, (f x).length = n) : ∀ (T : List α) (i : Nat) (x : α), T[i]? = some x → ((T.flatMap f).drop (i * n)).take n = f x
  | [], i, x, h => by simp at h
  | y :: T, 0, x, h => by
    obtain rfl : y = x := by simpa using h
    rw [Nat.zero_mul, List.drop_zero, List.flatMap_cons, List.take_append_of_le_length (Nat.le_of_eq (hf y).symm), List.take_of_length_le (Nat.le_of_eq (hf y))]
  | y :: T, i + 1, x, h => by
    rw [Nat.add_mul, Nat.one_mul, Nat.add_comm, ← List.drop_drop, List.flatMap_cons, List.drop_append_of_le_length (Nat.le_of_eq (hf y).symm), List.drop_of_length_le (Nat.le_of_eq (hf y)), List.nil_append]
    exact flat_at hf T i x (by simpa using h)
end Go.Proofs.YtncbbgmhmofhnaaDoor.Pr
end

section
namespace Go.Proofs.YtncbbgmhmofhnaaDoor.Pr
open Go.RowKit Go.Proofs.YtncbbgmhmofhnaaDoorW.PrintWords Go.Proofs.YtncbbgmhmofhnaaDoorW.PrintLast Go.Proofs.YtncbbgmhmofhnaaDoorW.PrintMore
set_option linter.unusedVariables false
set_option linter.unusedSimpArgs false

theorem info_u : (Tryd.prog.info? 88).map (·.size) = some 8 := by kernel_rfl
/-- What the search's closure answers. -/
def cmpU (x : S88) (r : Int) : Int := if x.f1 < r then -1 else if r < x.f0 then 1 else 0

set_option maxHeartbeats 400000 in
theorem cmp_calls (x : S88) (r : Int) (w : World) :
    Calls Tryd.prog 85 #[.agg (cells_u x).toArray, .int .i32 r] w fun e w' => e = .returned (.int .i64 (cmpU x r)) ∧ Below w.heap.size w w' := by
  unfold cells_u cmpU
  by_cases h1 : x.f1 < r
  · rw [if_pos h1]
    go_enter Tryd.func85, Tryd.ntmps85
    go_wp2
    go_ret
    exact ⟨rfl, (Below.refl _ _).alloc (Nat.le_refl _) _⟩
  · rw [if_neg h1]
    by_cases h2 : r < x.f0
    · rw [if_pos h2]
      go_enter Tryd.func85, Tryd.ntmps85
      go_wp2
      go_ret
      exact ⟨rfl, (Below.refl _ _).alloc (Nat.le_refl _) _⟩
    · rw [if_neg h2]
      go_enter Tryd.func85, Tryd.ntmps85
      go_wp2
      go_ret
      exact ⟨rfl, (Below.refl _ _).alloc (Nat.le_refl _) _⟩

/-- Where the search ends. -/
def Ends (T : List S88) (r : Int) (i : Nat) : Prop := i ≤ T.length ∧ (∀ m x, m < i → T[m]? = some x → cmpU x r < 0) ∧ (∀ m x, i ≤ m → T[m]? = some x → 0 ≤ cmpU x r)
def foundU (T : List S88) (r : Int) (i : Nat) : Bool := match T[i]? with | some x => cmpU x r == 0 | none => false
def Mono (T : List S88) (r : Int) : Prop := ∀ (a b : Nat) (x y : S88), a ≤ b → T[a]? = some x → T[b]? = some y → cmpU y r < 0 → cmpU x r < 0
/-- What the search answers: behind a name. -/
def Searched (T : List S88) (r : Int) (w : World) (e : Ending) (w' : World) : Prop := ∃ i : Nat, Ends T r i ∧ e = .returned (.tuple #[.int .i64 i, .bool (foundU T r i)]) ∧ Below w.heap.size w w'

structure SInv (T : List S88) (r : Int) (w wr : World) (a b : Nat) : Prop where
  le : a ≤ b
  top : b ≤ T.length
  lo : ∀ m x, m < a → T[m]? = some x → cmpU x r < 0
  hi : ∀ m x, b ≤ m → T[m]? = some x → 0 ≤ cmpU x r
  bel : Below w.heap.size w wr
theorem SInv.up {T : List S88} {r : Int} {w wr w1 : World} {a b h : Nat} {x : S88} (I : SInv T r w wr a b) (hm : Mono T r) (h2 : h < b) (hx : T[h]? = some x) (hc : cmpU x r < 0) (hb : Below wr.heap.size wr w1) : SInv T r w w1 (h + 1) b :=
  ⟨by omega, I.top, fun m y hmh hy => hm m h y x (by omega) hy hx hc, I.hi, below_then I.bel I.bel.size hb⟩
theorem SInv.down {T : List S88} {r : Int} {w wr w1 : World} {a b h : Nat} {x : S88} (I : SInv T r w wr a b) (hm : Mono T r) (h1 : a ≤ h) (h2 : h < b) (hx : T[h]? = some x) (hc : ¬ cmpU x r < 0) (hb : Below wr.heap.size wr w1) : SInv T r w w1 a h :=
  ⟨h1, by have := I.top; omega, I.lo, fun m y hmh hy => by
    by_cases e : cmpU y r < 0
    · exact absurd (hm h m x y hmh hx hy e) hc
    · omega, below_then I.bel I.bel.size hb⟩
theorem row_size (x : S88) : (Tryd.prog.info? 88).map (·.size) = some (cells_u x).length := info_u

set_option maxHeartbeats 1000000 in
theorem search_calls (T : List S88) (g c : Nat) (r : Int) (w : World) (hT : RowsAt cells_u 8 w g T) (hg : g < w.heap.size) (hm : Mono T r) (hn : T.length ≤ 1000000) :
    Calls Tryd.prog 84 #[.slice (some ⟨g, 0, none⟩) T.length c, .int .i32 r, .func (.func 85) #[] #[]] w (Searched T r w) := by
  have HM := Lib.hid hm
  clear hm
  go_enter Tryd.func84, Tryd.ntmps84
  go_wp2_with fail
  go_loopw [9, 10] (fun i j wr => ∃ a b : Nat, i = .int .i64 a ∧ j = .int .i64 b ∧ SInv T r w wr a b) (fun i j _ => (intOf j).toNat - (intOf i).toNat)
  case atStart => exact ⟨0, T.length, rfl, rfl, ⟨Nat.zero_le _, Nat.le_refl _, fun m x h => absurd h (Nat.not_lt_zero _), fun m x h hx => by rw [List.getElem?_eq_none h] at hx; exact absurd hx (by simp), Below.refl _ _⟩⟩
  case round =>
    obtain ⟨a, b, rfl, rfl, I⟩ := hrel
    have h1 := I.le
    have h2 := I.top
    by_cases hlt : a < b
    · obtain ⟨x, hx⟩ : ∃ x, T[(a + b) / 2]? = some x := ⟨_, List.getElem?_eq_getElem (by omega)⟩
      have hr : wr.rangeAt g ((a + b) / 2 * 8) (cells_u x) := hT.below I.bel hg _ _ hx
      have HX := Lib.hid hx
      have HR := Lib.hid hr
      clear hx hr
      by_cases hc : cmpU x r < 0
      · have J := fun w1 hb => I.up (w1 := w1) HM.out (show (a + b) / 2 < b by omega) HX.out hc hb
        go_wp2_with (first | (with_reducible refine wpList_load_mid rfl 88 _ rfl g (((a + b) / 2) * 8) rfl (cells_u x) _ HR.out Tryd.underlying88 rfl (row_size x) ?_) | (go_at_call 85; refine (cmp_calls x r _).mono ?_; rintro e w1 ⟨rfl, hb1⟩))
        go_roundw
        case rel => exact ⟨(a + b) / 2 + 1, b, by go_num, rfl, J _ hb1⟩
        case measure => simp [intOf]; omega
      · have J := fun w1 hb => I.down (w1 := w1) HM.out (show a ≤ (a + b) / 2 by omega) (show (a + b) / 2 < b by omega) HX.out hc hb
        have hc' : 0 ≤ cmpU x r := by omega
        clear hc
        go_wp2_with (first | (with_reducible refine wpList_load_mid rfl 88 _ rfl g (((a + b) / 2) * 8) rfl (cells_u x) _ HR.out Tryd.underlying88 rfl (row_size x) ?_) | (go_at_call 85; refine (cmp_calls x r _).mono ?_; rintro e w1 ⟨rfl, hb1⟩))
        go_roundw
        case rel => exact ⟨a, (a + b) / 2, rfl, by go_num, J _ hb1⟩
        case measure => simp [intOf]; omega
    · obtain rfl : a = b := by omega
      have E : Ends T r a := ⟨h2, I.lo, I.hi⟩
      by_cases ha : a < T.length
      · obtain ⟨x, hx⟩ : ∃ x, T[a]? = some x := ⟨_, List.getElem?_eq_getElem ha⟩
        have hr : wr.rangeAt g (a * 8) (cells_u x) := hT.below I.bel hg _ _ hx
        have hf : foundU T r a = (cmpU x r == 0) := by unfold foundU; rw [hx]
        have HF := Lib.hid hf
        have HR := Lib.hid hr
        have HB := I.bel
        have c0 := hr 0 _ rfl
        have c1 := hr 1 _ rfl
        have c2 := hr 2 _ rfl
        have c3 := hr 3 _ rfl
        have c4 := hr 4 _ rfl
        have c5 := hr 5 _ rfl
        have c6 := hr 6 _ rfl
        have c7 := hr 7 _ rfl
        rw [Nat.add_zero] at c0
        have hd2 : decide (a < T.length) = true := decide_eq_true ha
        have hd1 : decide ((a : Int) < (T.length : Int)) = true := decide_eq_true (by omega)
        clear hx hr hf I
        go_wp2_with (first | (go_at_call 85; refine (cmp_calls x r _).mono ?_; rintro e w1 ⟨rfl, hb1⟩))
        go_ret2
        exact ⟨a, E, by rw [HF.out]; rfl, below_then HB HB.size hb1⟩
      · have hf : foundU T r a = false := by unfold foundU; rw [List.getElem?_eq_none (by omega)]
        have HF := Lib.hid hf
        have HB := I.bel
        clear hf I
        go_wp2_with fail
        go_ret2
        exact ⟨a, E, by rw [HF.out]; rfl, HB⟩

def inU (r : Int) (x : S88) : Bool := decide (x.f0 ≤ r) && decide (r ≤ x.f1)
theorem cmp_zero {x : S88} {r : Int} (h : (cmpU x r == 0) = true) : inU r x = true := by
  unfold cmpU at h
  unfold inU
  by_cases h1 : x.f1 < r
  · rw [if_pos h1] at h; exact absurd h (by decide)
  · rw [if_neg h1] at h
    by_cases h2 : r < x.f0
    · rw [if_pos h2] at h; exact absurd h (by decide)
    · simp; omega
theorem cmp_in {x : S88} {r : Int} (h : inU r x = true) : cmpU x r = 0 := by
  unfold inU at h
  simp at h
  unfold cmpU
  rw [if_neg (by omega), if_neg (by omega)]
/-- A table whose rows rise. -/
def Rises (T : List S88) : Prop := T.Pairwise fun x y => x.f0 ≤ y.f0 ∧ x.f1 ≤ y.f1
theorem Rises.at_ {T : List S88} (h : Rises T) {a b : Nat} {x y : S88} (hab : a ≤ b) (hx : T[a]? = some x) (hy : T[b]? = some y) : x.f0 ≤ y.f0 ∧ x.f1 ≤ y.f1 := by
  rcases Nat.lt_or_eq_of_le hab with hlt | rfl
  · obtain ⟨ha, rfl⟩ := List.getElem?_eq_some_iff.1 hx
    obtain ⟨hb, rfl⟩ := List.getElem?_eq_some_iff.1 hy
    exact List.pairwise_iff_getElem.1 h a b ha hb hlt
  · rw [hx] at hy
    obtain rfl := Option.some.inj hy
    exact ⟨Int.le_refl _, Int.le_refl _⟩
theorem Rises.mono {T : List S88} (h : Rises T) (r : Int) : Mono T r := by
  intro a b x y hab hx hy hc
  have := (h.at_ hab hx hy).2
  unfold cmpU at hc ⊢
  by_cases h1 : y.f1 < r
  · rw [if_pos (show x.f1 < r by omega)]; decide
  · rw [if_neg h1] at hc
    split at hc
    · exact absurd hc (by decide)
    · exact absurd hc (by decide)
theorem find_first {α : Type} {p : α → Bool} : ∀ {T : List α} {i : Nat} {x : α}, T[i]? = some x → p x = true → (∀ m y, m < i → T[m]? = some y → p y = false) → T.find? p = some x
  | [], i, x, h, _, _ => by simp at h
  | y :: T, 0, x, h, hp, _ => by
    obtain rfl : y = x := by simpa using h
    simp [List.find?_cons, hp]
  | y :: T, i + 1, x, h, hp, hm => by
    have h0 := hm 0 y (by omega) rfl
    simp only [List.find?_cons, h0]
    exact find_first (by simpa using h) hp (fun m z hmi hz => hm (m + 1) z (by omega) (by simpa using hz))
theorem find_nowhere {α : Type} {p : α → Bool} {T : List α} (h : ∀ (m : Nat) (x : α), T[m]? = some x → p x = false) : T.find? p = none := by
  rw [List.find?_eq_none]
  intro x hx
  obtain ⟨m, hm⟩ := List.mem_iff_getElem?.1 hx
  rw [h m x hm]
  decide
theorem Ends.yes {T : List S88} {r : Int} {i : Nat} (h : Ends T r i) (hf : foundU T r i = true) : ∃ x, T[i]? = some x ∧ T.find? (inU r) = some x := by
  unfold foundU at hf
  cases hx : T[i]? with
  | none => rw [hx] at hf; exact absurd hf Bool.false_ne_true
  | some x =>
    rw [hx] at hf
    refine ⟨x, rfl, find_first hx (cmp_zero hf) fun m y hm hy => ?_⟩
    have := h.2.1 m y hm hy
    cases hb : inU r y with
    | false => rfl
    | true => have := cmp_in hb; omega
theorem Ends.no {T : List S88} {r : Int} {i : Nat} (hT : Rises T) (h : Ends T r i) (hf : foundU T r i = false) : T.find? (inU r) = none := by
  refine find_nowhere fun m y hy => ?_
  cases hb : inU r y with
  | false => rfl
  | true =>
    exfalso
    have h0 := cmp_in hb
    rcases Nat.lt_or_ge m i with hm | hm
    · have := h.2.1 m y hm hy; omega
    · have hi : i < T.length := by have := (List.getElem?_eq_some_iff.1 hy).1; omega
      have hx : T[i]? = some T[i] := List.getElem?_eq_getElem hi
      have hs := hT.at_ hm hx hy
      have hc := h.2.2 i T[i] (Nat.le_refl _) hx
      unfold foundU at hf
      rw [hx] at hf
      simp only [beq_eq_false_iff_ne] at hf
      unfold inU at hb
      simp at hb
      unfold cmpU at hc hf
      split at hc
      · exact absurd hc (by decide)
      · rename_i h1
        rw [if_neg h1] at hf
        split at hf
        · omega
        · exact hf rfl
theorem rises0 : Rises uT0 := by unfold Rises; decide +kernel
theorem rises1 : Rises uT1 := by unfold Rises; decide +kernel
theorem rises2 : Rises uT2 := by unfold Rises; decide +kernel
/-- The line of a code point. -/
def findU (r : Int) : S88 := ((uT0 ++ uT1 ++ uT2).find? (inU r)).getD z88
def unidata_find.f (r : Int) : Option (Int × Int × Int × Int × Int × Int × Int × Bool) := some ((findU r).f0, (findU r).f1, (findU r).f2, (findU r).f3, (findU r).f4, (findU r).f5, (findU r).f6, (findU r).f7)
theorem findU0 {r : Int} {x : S88} (h : uT0.find? (inU r) = some x) : findU r = x := by unfold findU; rw [List.find?_append, List.find?_append, h]; rfl
theorem findU1 {r : Int} {x : S88} (h0 : uT0.find? (inU r) = none) (h : uT1.find? (inU r) = some x) : findU r = x := by unfold findU; rw [List.find?_append, List.find?_append, h0, h]; rfl
theorem findU2 {r : Int} {x : S88} (h0 : uT0.find? (inU r) = none) (h1 : uT1.find? (inU r) = none) (h : uT2.find? (inU r) = some x) : findU r = x := by unfold findU; rw [List.find?_append, List.find?_append, h0, h1, h]; rfl
theorem findU3 {r : Int} (h0 : uT0.find? (inU r) = none) (h1 : uT1.find? (inU r) = none) (h : uT2.find? (inU r) = none) : findU r = z88 := by unfold findU; rw [List.find?_append, List.find?_append, h0, h1, h]; rfl

structure FW (w W : World) : Prop where
  r0 : RowsAt cells_u 8 W (w.heap.size + 1) uT0
  r1 : RowsAt cells_u 8 W (w.heap.size + 1 + 1) uT1
  r2 : RowsAt cells_u 8 W (w.heap.size + 1 + 1 + 1) uT2
  th : W.there w.heap.size 0 8
  sz : w.heap.size + 1 + 1 + 1 < W.heap.size
  bel : Below w.heap.size w W
theorem FW.keep {w W W1 : World} (h : FW w W) (hb : Below W.heap.size W W1) : FW w W1 :=
  ⟨h.r0.below hb (by have := h.sz; omega), h.r1.below hb (by have := h.sz; omega), h.r2.below hb h.sz, there_below h.th hb (by have := h.sz; omega), Nat.lt_of_lt_of_le h.sz hb.size, below_then h.bel (by have := h.sz; omega) hb⟩
theorem FW.start (w : World) (c : Array Value) (hc : c.size = 8) : FW w ((((w.alloc (.cells c 88)).alloc (.cells (uT0.flatMap cells_u).toArray 88)).alloc (.cells (uT1.flatMap cells_u).toArray 88)).alloc (.cells (uT2.flatMap cells_u).toArray 88)) := by
  have h0 := RowsAt.new (f := cells_u) (n := 8) (fun _ => rfl) (w.alloc (.cells c 88)) uT0 88
  have h1 := RowsAt.new (f := cells_u) (n := 8) (fun _ => rfl) ((w.alloc (.cells c 88)).alloc (.cells (uT0.flatMap cells_u).toArray 88)) uT1 88
  have h2 := RowsAt.new (f := cells_u) (n := 8) (fun _ => rfl) (((w.alloc (.cells c 88)).alloc (.cells (uT0.flatMap cells_u).toArray 88)).alloc (.cells (uT1.flatMap cells_u).toArray 88)) uT2 88
  simp only [World.size_alloc] at h0 h1 h2
  have ht := there_new w c 88
  rw [hc] at ht
  exact ⟨(h0.later _).later _, h1.later _, h2, World.there_alloc (World.there_alloc (World.there_alloc ht _) _) _, by simp, ((((Below.refl _ _).alloc (Nat.le_refl _) _).alloc (by simp) _).alloc (by simp; omega) _).alloc (by simp; omega) _⟩
theorem index3 (x0 x1 x2 : Value) : (∀ w, (Instr.index 102 (.agg #[x0, x1, x2]) (.int .i64 0)).run Tryd.prog w = .ok x0 w) ∧ (∀ w, (Instr.index 102 (.agg #[x0, x1, x2]) (.int .i64 1)).run Tryd.prog w = .ok x1 w) ∧ (∀ w, (Instr.index 102 (.agg #[x0, x1, x2]) (.int .i64 2)).run Tryd.prog w = .ok x2 w) :=
  ⟨fun _ => by kernel_rfl, fun _ => by kernel_rfl, fun _ => by kernel_rfl⟩

def SYes (T : List S88) (x : S88) (w : World) (e : Ending) (w' : World) : Prop := ∃ i : Nat, T[i]? = some x ∧ e = .returned (.tuple #[.int .i64 i, .bool true]) ∧ Below w.heap.size w w'
def SNo (w : World) (e : Ending) (w' : World) : Prop := ∃ i : Nat, e = .returned (.tuple #[.int .i64 i, .bool false]) ∧ Below w.heap.size w w'
theorem search_yes {T : List S88} {r : Int} {x : S88} (hR : Rises T) (hx : T.find? (inU r) = some x) (g c : Nat) (w : World) (hT : RowsAt cells_u 8 w g T) (hg : g < w.heap.size) (hn : T.length ≤ 1000000) :
    Calls Tryd.prog 84 #[.slice (some ⟨g, 0, none⟩) T.length c, .int .i32 r, .func (.func 85) #[] #[]] w (SYes T x w) :=
  (search_calls T g c r w hT hg (hR.mono r) hn).mono fun e w' ⟨i, hE, he, hb⟩ => by
    cases hf : foundU T r i with
    | true =>
      obtain ⟨y, hy, hy2⟩ := hE.yes hf
      rw [hx] at hy2
      obtain rfl := Option.some.inj hy2
      rw [hf] at he
      exact ⟨i, hy, he, hb⟩
    | false => rw [hE.no hR hf] at hx; exact absurd hx (by simp)
theorem search_no {T : List S88} {r : Int} (hR : Rises T) (hx : T.find? (inU r) = none) (g c : Nat) (w : World) (hT : RowsAt cells_u 8 w g T) (hg : g < w.heap.size) (hn : T.length ≤ 1000000) :
    Calls Tryd.prog 84 #[.slice (some ⟨g, 0, none⟩) T.length c, .int .i32 r, .func (.func 85) #[] #[]] w (SNo w) :=
  (search_calls T g c r w hT hg (hR.mono r) hn).mono fun e w' ⟨i, hE, he, hb⟩ => by
    cases hf : foundU T r i with
    | true =>
      obtain ⟨y, hy, hy2⟩ := hE.yes hf
      rw [hx] at hy2
      exact absurd hy2 (by simp)
    | false => rw [hf] at he; exact ⟨i, he, hb⟩
theorem row_size_a (x : S88) : (Tryd.prog.info? 88).map (·.size) = some (cells_u x).toArray.size := info_u
theorem th_u {W : World} {g : Nat} (h : W.there g 0 8) (x : S88) : W.there g 0 (cells_u x).toArray.size := h
theorem th_z {W : World} {g : Nat} (h : W.there g 0 8) : W.there g 0 (#[.int .i32 0, .int .i32 0, .int .u8 0, .int .u8 0, .int .u8 0, .int .u8 0, .int .u8 0, .bool false] : Array Value).size := h
theorem size_z : (Tryd.prog.info? 88).map (·.size) = some (#[.int .i32 0, .int .i32 0, .int .u8 0, .int .u8 0, .int .u8 0, .int .u8 0, .int .u8 0, .bool false] : Array Value).size := info_u
theorem one_z : (#[.int .i32 0, .int .i32 0, .int .u8 0, .int .u8 0, .int .u8 0, .int .u8 0, .int .u8 0, .bool false] : Array Value).all (·.oneCell') = true := by simp [Value.oneCell']
theorem row_one (x : S88) : (cells_u x).toArray.all (·.oneCell') = true := by simp [cells_u, Value.oneCell']

set_option maxHeartbeats 2000000 in
theorem find_0 (r : Int) (w : World) {x : S88} (h0 : uT0.find? (inU r) = some x) :
    Calls Tryd.prog 69 #[.int .i32 r] w fun e w' => e = .returned (.agg (cells_u x).toArray) ∧ Below w.heap.size w w' := by
  have H0 := Lib.hid h0
  clear h0
  obtain ⟨i0, i1, i2⟩ := index3 (.slice (some ⟨w.heap.size + 1, 0, none⟩) uT0.length uT0.length) (.slice (some ⟨w.heap.size + 1 + 1, 0, none⟩) uT1.length uT1.length) (.slice (some ⟨w.heap.size + 1 + 1 + 1, 0, none⟩) uT2.length uT2.length)
  go_enter Tryd.func69, Tryd.ntmps69
  go_wp2_with (first | (go_at_call 81; refine (unidata_rows0.run _).mono ?_; rintro e w1 ⟨rfl, rfl⟩) | (go_at_call 82; refine (unidata_rows1.run _).mono ?_; rintro e w1 ⟨rfl, rfl⟩) | (go_at_call 83; refine (unidata_rows2.run _).mono ?_; rintro e w1 ⟨rfl, rfl⟩))
  have hW := FW.start w #[.int .i32 0, .int .i32 0, .int .u8 0, .int .u8 0, .int .u8 0, .int .u8 0, .int .u8 0, .bool false] rfl
  generalize World.alloc (World.alloc (World.alloc (World.alloc w _) _) _) _ = W at hW ⊢
  refine wp_loop_rounds 4 ?_
  rw [rounds_succ]
  go_wp2_with (first | (go_at_call 84; refine (search_yes rises0 H0.out (w.heap.size + 1) _ _ hW.r0 (by have := hW.sz; omega) (by decide)).mono ?_; rintro e w2 ⟨i, hx, rfl, hb0⟩; have hW9 := hW.keep hb0; have hr := hW9.r0 i x hx; have hi1 := (List.getElem?_eq_some_iff.1 hx).1; have HX := Lib.hid hx; clear hx) | (with_reducible refine wpList_load_mid rfl 88 _ rfl (w.heap.size + 1) (i * 8) rfl (cells_u x) _ hr Tryd.underlying88 rfl (row_size x) ?_) | (with_reducible refine wpList_store_mid rfl 88 _ _ rfl w.heap.size 0 (cells_u x).toArray rfl rfl (th_u hW9.th x) (row_size_a x) (row_one x) ?_))
  refine bodyPost_ret (v := .agg (cells_u x).toArray) (results_cell_mid (g := w.heap.size) rfl _ _ (cells_u x) _ (by simp [Act.put]) (World.rangeAt_setCells_same _ _ _ _ (th_u hW9.th x)) Tryd.underlying88 rfl (row_size x)) rfl ⟨rfl, ?_⟩
  exact below_cells (Nat.le_refl _) _ _ hW9.bel
set_option maxHeartbeats 2000000 in
theorem find_1 (r : Int) (w : World) {x : S88} (h0 : uT0.find? (inU r) = none) (h1 : uT1.find? (inU r) = some x) :
    Calls Tryd.prog 69 #[.int .i32 r] w fun e w' => e = .returned (.agg (cells_u x).toArray) ∧ Below w.heap.size w w' := by
  have H0 := Lib.hid h0
  have H1 := Lib.hid h1
  clear h0 h1
  obtain ⟨i0, i1, i2⟩ := index3 (.slice (some ⟨w.heap.size + 1, 0, none⟩) uT0.length uT0.length) (.slice (some ⟨w.heap.size + 1 + 1, 0, none⟩) uT1.length uT1.length) (.slice (some ⟨w.heap.size + 1 + 1 + 1, 0, none⟩) uT2.length uT2.length)
  go_enter Tryd.func69, Tryd.ntmps69
  go_wp2_with (first | (go_at_call 81; refine (unidata_rows0.run _).mono ?_; rintro e w1 ⟨rfl, rfl⟩) | (go_at_call 82; refine (unidata_rows1.run _).mono ?_; rintro e w1 ⟨rfl, rfl⟩) | (go_at_call 83; refine (unidata_rows2.run _).mono ?_; rintro e w1 ⟨rfl, rfl⟩))
  have hW := FW.start w #[.int .i32 0, .int .i32 0, .int .u8 0, .int .u8 0, .int .u8 0, .int .u8 0, .int .u8 0, .bool false] rfl
  generalize World.alloc (World.alloc (World.alloc (World.alloc w _) _) _) _ = W at hW ⊢
  refine wp_loop_rounds 4 ?_
  rw [rounds_succ]
  go_wp2_with (first | (go_at_call 84; refine (search_no rises0 H0.out (w.heap.size + 1) _ _ hW.r0 (by have := hW.sz; omega) (by decide)).mono ?_; rintro e w2 ⟨i, rfl, hb0⟩))
  have hW1 := hW.keep hb0
  rw [rounds_succ]
  go_wp2_with (first | (go_at_call 84; refine (search_yes rises1 H1.out (w.heap.size + 1 + 1) _ _ hW1.r1 (by have := hW1.sz; omega) (by decide)).mono ?_; rintro e w3 ⟨i, hx, rfl, hb1⟩; have hW9 := hW1.keep hb1; have hr := hW9.r1 i x hx; have hi1 := (List.getElem?_eq_some_iff.1 hx).1; have HX := Lib.hid hx; clear hx) | (with_reducible refine wpList_load_mid rfl 88 _ rfl (w.heap.size + 1 + 1) (i * 8) rfl (cells_u x) _ hr Tryd.underlying88 rfl (row_size x) ?_) | (with_reducible refine wpList_store_mid rfl 88 _ _ rfl w.heap.size 0 (cells_u x).toArray rfl rfl (th_u hW9.th x) (row_size_a x) (row_one x) ?_))
  refine bodyPost_ret (v := .agg (cells_u x).toArray) (results_cell_mid (g := w.heap.size) rfl _ _ (cells_u x) _ (by simp [Act.put]) (World.rangeAt_setCells_same _ _ _ _ (th_u hW9.th x)) Tryd.underlying88 rfl (row_size x)) rfl ⟨rfl, ?_⟩
  exact below_cells (Nat.le_refl _) _ _ hW9.bel
set_option maxHeartbeats 2000000 in
theorem find_2 (r : Int) (w : World) {x : S88} (h0 : uT0.find? (inU r) = none) (h1 : uT1.find? (inU r) = none) (h2 : uT2.find? (inU r) = some x) :
    Calls Tryd.prog 69 #[.int .i32 r] w fun e w' => e = .returned (.agg (cells_u x).toArray) ∧ Below w.heap.size w w' := by
  have H0 := Lib.hid h0
  have H1 := Lib.hid h1
  have H2 := Lib.hid h2
  clear h0 h1 h2
  obtain ⟨i0, i1, i2⟩ := index3 (.slice (some ⟨w.heap.size + 1, 0, none⟩) uT0.length uT0.length) (.slice (some ⟨w.heap.size + 1 + 1, 0, none⟩) uT1.length uT1.length) (.slice (some ⟨w.heap.size + 1 + 1 + 1, 0, none⟩) uT2.length uT2.length)
  go_enter Tryd.func69, Tryd.ntmps69
  go_wp2_with (first | (go_at_call 81; refine (unidata_rows0.run _).mono ?_; rintro e w1 ⟨rfl, rfl⟩) | (go_at_call 82; refine (unidata_rows1.run _).mono ?_; rintro e w1 ⟨rfl, rfl⟩) | (go_at_call 83; refine (unidata_rows2.run _).mono ?_; rintro e w1 ⟨rfl, rfl⟩))
  have hW := FW.start w #[.int .i32 0, .int .i32 0, .int .u8 0, .int .u8 0, .int .u8 0, .int .u8 0, .int .u8 0, .bool false] rfl
  generalize World.alloc (World.alloc (World.alloc (World.alloc w _) _) _) _ = W at hW ⊢
  refine wp_loop_rounds 4 ?_
  rw [rounds_succ]
  go_wp2_with (first | (go_at_call 84; refine (search_no rises0 H0.out (w.heap.size + 1) _ _ hW.r0 (by have := hW.sz; omega) (by decide)).mono ?_; rintro e w2 ⟨i, rfl, hb0⟩))
  have hW1 := hW.keep hb0
  rw [rounds_succ]
  go_wp2_with (first | (go_at_call 84; refine (search_no rises1 H1.out (w.heap.size + 1 + 1) _ _ hW1.r1 (by have := hW1.sz; omega) (by decide)).mono ?_; rintro e w3 ⟨i, rfl, hb1⟩))
  have hW2 := hW1.keep hb1
  rw [rounds_succ]
  go_wp2_with (first | (go_at_call 84; refine (search_yes rises2 H2.out (w.heap.size + 1 + 1 + 1) _ _ hW2.r2 (by have := hW2.sz; omega) (by decide)).mono ?_; rintro e w4 ⟨i, hx, rfl, hb2⟩; have hW9 := hW2.keep hb2; have hr := hW9.r2 i x hx; have hi1 := (List.getElem?_eq_some_iff.1 hx).1; have HX := Lib.hid hx; clear hx) | (with_reducible refine wpList_load_mid rfl 88 _ rfl (w.heap.size + 1 + 1 + 1) (i * 8) rfl (cells_u x) _ hr Tryd.underlying88 rfl (row_size x) ?_) | (with_reducible refine wpList_store_mid rfl 88 _ _ rfl w.heap.size 0 (cells_u x).toArray rfl rfl (th_u hW9.th x) (row_size_a x) (row_one x) ?_))
  refine bodyPost_ret (v := .agg (cells_u x).toArray) (results_cell_mid (g := w.heap.size) rfl _ _ (cells_u x) _ (by simp [Act.put]) (World.rangeAt_setCells_same _ _ _ _ (th_u hW9.th x)) Tryd.underlying88 rfl (row_size x)) rfl ⟨rfl, ?_⟩
  exact below_cells (Nat.le_refl _) _ _ hW9.bel
set_option maxHeartbeats 2000000 in
theorem find_3 (r : Int) (w : World) (h0 : uT0.find? (inU r) = none) (h1 : uT1.find? (inU r) = none) (h2 : uT2.find? (inU r) = none) :
    Calls Tryd.prog 69 #[.int .i32 r] w fun e w' => e = .returned (.agg (cells_u z88).toArray) ∧ Below w.heap.size w w' := by
  have H0 := Lib.hid h0
  have H1 := Lib.hid h1
  have H2 := Lib.hid h2
  clear h0 h1 h2
  obtain ⟨i0, i1, i2⟩ := index3 (.slice (some ⟨w.heap.size + 1, 0, none⟩) uT0.length uT0.length) (.slice (some ⟨w.heap.size + 1 + 1, 0, none⟩) uT1.length uT1.length) (.slice (some ⟨w.heap.size + 1 + 1 + 1, 0, none⟩) uT2.length uT2.length)
  go_enter Tryd.func69, Tryd.ntmps69
  go_wp2_with (first | (go_at_call 81; refine (unidata_rows0.run _).mono ?_; rintro e w1 ⟨rfl, rfl⟩) | (go_at_call 82; refine (unidata_rows1.run _).mono ?_; rintro e w1 ⟨rfl, rfl⟩) | (go_at_call 83; refine (unidata_rows2.run _).mono ?_; rintro e w1 ⟨rfl, rfl⟩))
  have hW := FW.start w #[.int .i32 0, .int .i32 0, .int .u8 0, .int .u8 0, .int .u8 0, .int .u8 0, .int .u8 0, .bool false] rfl
  generalize World.alloc (World.alloc (World.alloc (World.alloc w _) _) _) _ = W at hW ⊢
  refine wp_loop_rounds 4 ?_
  rw [rounds_succ]
  go_wp2_with (first | (go_at_call 84; refine (search_no rises0 H0.out (w.heap.size + 1) _ _ hW.r0 (by have := hW.sz; omega) (by decide)).mono ?_; rintro e w2 ⟨i, rfl, hb0⟩))
  have hW1 := hW.keep hb0
  rw [rounds_succ]
  go_wp2_with (first | (go_at_call 84; refine (search_no rises1 H1.out (w.heap.size + 1 + 1) _ _ hW1.r1 (by have := hW1.sz; omega) (by decide)).mono ?_; rintro e w3 ⟨i, rfl, hb1⟩))
  have hW2 := hW1.keep hb1
  rw [rounds_succ]
  go_wp2_with (first | (go_at_call 84; refine (search_no rises2 H2.out (w.heap.size + 1 + 1 + 1) _ _ hW2.r2 (by have := hW2.sz; omega) (by decide)).mono ?_; rintro e w4 ⟨i, rfl, hb2⟩))
  have hW3 := hW2.keep hb2
  rw [rounds_succ]
  go_wp2_with (first | (with_reducible refine wpList_store_mid rfl 88 _ _ rfl w.heap.size 0 #[.int .i32 0, .int .i32 0, .int .u8 0, .int .u8 0, .int .u8 0, .int .u8 0, .int .u8 0, .bool false] rfl rfl (th_z hW3.th) size_z one_z ?_))
  refine bodyPost_ret (v := .agg (cells_u z88).toArray) (results_cell_mid (g := w.heap.size) rfl _ _ (cells_u z88) _ (by simp [Act.put]) (World.rangeAt_setCells_same _ _ _ _ (th_u hW3.th z88)) Tryd.underlying88 rfl (row_size z88)) rfl ⟨rfl, ?_⟩
  exact below_cells (Nat.le_refl _) _ _ hW3.bel
theorem find_any (r : Int) (w : World) :
    Calls Tryd.prog 69 #[.int .i32 r] w fun e w' => e = .returned (.agg (cells_u (findU r)).toArray) ∧ Below w.heap.size w w' := by
  cases h0 : uT0.find? (inU r) with
  | some x => rw [findU0 h0]; exact find_0 r w h0
  | none =>
    cases h1 : uT1.find? (inU r) with
    | some x => rw [findU1 h0 h1]; exact find_1 r w h0 h1
    | none =>
      cases h2 : uT2.find? (inU r) with
      | some x => rw [findU2 h0 h1 h2]; exact find_2 r w h0 h1 h2
      | none => rw [findU3 h0 h1 h2]; exact find_3 r w h0 h1 h2
theorem unidata_find.calls (a0 : Int) (r1 : Int) (r2 : Int) (r3 : Int) (r4 : Int) (r5 : Int) (r6 : Int) (r7 : Int) (r8 : Bool) (w : World) (h : unidata_find.f a0 = some (r1, r2, r3, r4, r5, r6, r7, r8)) :
    Calls Tryd.prog 69 #[.int .i32 a0] w fun e w' => e = .returned (.agg #[.int .i32 r1, .int .i32 r2, .int .u8 r3, .int .u8 r4, .int .u8 r5, .int .u8 r6, .int .u8 r7, .bool r8]) ∧ Below w.heap.size w w' := by
  have h := Option.some.inj h
  simp only [Prod.mk.injEq] at h
  obtain ⟨rfl, rfl, rfl, rfl, rfl, rfl, rfl, rfl⟩ := h
  exact find_any a0 w
end Go.Proofs.YtncbbgmhmofhnaaDoor.Pr
end

section
namespace Go.Proofs.YtncbbgmhmofhnaaDoor.Pr
open Go.RowKit Go.Proofs.YtncbbgmhmofhnaaDoorW.PrintWords Go.Proofs.YtncbbgmhmofhnaaDoorW.PrintLast Go.Proofs.YtncbbgmhmofhnaaDoorW.PrintMore
attribute [local go_sem] max2_int min2_int max_two min_two max_three min_three max_four min_four Instr.field asAgg   -- for this text's walks alone
set_option linter.unusedVariables false
set_option linter.unusedSimpArgs false

def unidata_Class.f (a0 : Int) : Option (Int) := (unidata_find.f a0).bind fun bt101 => (some bt101.2.2.2.2.2.1)
set_option maxHeartbeats 8000000 in
set_option maxRecDepth 100000 in
theorem unidata_Class.calls (a0 : Int) (r : Int) (w : World) (h : unidata_Class.f a0 = some r) :
  Calls Tryd.prog 60 #[.int .i32 a0] w fun e w' => e = .returned (.int .u8 r) ∧ Below w.heap.size w w' := by
 have HB := Aside0.mk (Below.refl w.heap.size w)
 have H : ((unidata_find.f a0).bind fun bt101 => (some bt101.2.2.2.2.2.1)) = some r := h
 clear h
 replace H := Option.bind_eq_some_iff.mp H
 obtain ⟨⟨t101, t102, t103, t104, t105, t106, t107, t108⟩, A20, H⟩ := H
 replace H : (some t106) = some r := H
 have A2 := Aside0.mk A20
 clear A20
 obtain rfl := Option.some.inj H
 go_enter Tryd.func60, Tryd.ntmps60
 go_wp2_with (first | ((with_reducible refine gate_callee (f := 69) rfl ?_); refine goesL_ (some 4) rfl rfl Tryd.func69 (by kernel_rfl) rfl #[.int .i32 a0] rfl (by (try simp only [List.map_toArray, List.map_cons, List.map_nil]); first | done | rfl | (simp only [List.length_drop, List.length_take]; rfl)) ?_; (with_reducible refine (unidata_find.calls a0 t101 t102 t103 t104 t105 t106 t107 t108 _ A2.out).mono ?_); rintro e w3 ⟨rfl, hb⟩; refine ⟨_, rfl, ?_⟩; have n0_ := Aside0.mk (below_step (by repeat (first | (with_reducible first | exact HB.out | apply below_alloc | apply pw_below_drewN | apply below_drew1) | exact HB.out)) hb); clear HB; have HB := n0_; clear n0_; (try clear hb); (try clear hb2); (try clear hk); (try clear hi)))
 go_ret
 exact ⟨by first | rfl | (simp [errW_none, errW_some] <;> rfl) | (simp [*, errW_none, errW_some] <;> rfl), by repeat (first | (with_reducible first | exact HB.out | apply below_alloc | apply pw_below_drewN | apply below_drew1) | exact HB.out)⟩

def unidata_Script.f (a0 : Int) : Option (Int) := (unidata_find.f a0).bind fun bt174 => (some bt174.2.2.2.1)
set_option maxHeartbeats 8000000 in
set_option maxRecDepth 100000 in
theorem unidata_Script.calls (a0 : Int) (r : Int) (w : World) (h : unidata_Script.f a0 = some r) :
  Calls Tryd.prog 51 #[.int .i32 a0] w fun e w' => e = .returned (.int .u8 r) ∧ Below w.heap.size w w' := by
 have HB := Aside0.mk (Below.refl w.heap.size w)
 have H : ((unidata_find.f a0).bind fun bt174 => (some bt174.2.2.2.1)) = some r := h
 clear h
 replace H := Option.bind_eq_some_iff.mp H
 obtain ⟨⟨t174, t175, t176, t177, t178, t179, t180, t181⟩, A20, H⟩ := H
 replace H : (some t177) = some r := H
 have A2 := Aside0.mk A20
 clear A20
 obtain rfl := Option.some.inj H
 go_enter Tryd.func51, Tryd.ntmps51
 go_wp2_with (first | ((with_reducible refine gate_callee (f := 69) rfl ?_); refine goesL_ (some 4) rfl rfl Tryd.func69 (by kernel_rfl) rfl #[.int .i32 a0] rfl (by (try simp only [List.map_toArray, List.map_cons, List.map_nil]); first | done | rfl | (simp only [List.length_drop, List.length_take]; rfl)) ?_; (with_reducible refine (unidata_find.calls a0 t174 t175 t176 t177 t178 t179 t180 t181 _ A2.out).mono ?_); rintro e w3 ⟨rfl, hb⟩; refine ⟨_, rfl, ?_⟩; have n0_ := Aside0.mk (below_step (by repeat (first | (with_reducible first | exact HB.out | apply below_alloc | apply pw_below_drewN | apply below_drew1) | exact HB.out)) hb); clear HB; have HB := n0_; clear n0_; (try clear hb); (try clear hb2); (try clear hk); (try clear hi)))
 go_ret
 exact ⟨by first | rfl | (simp [errW_none, errW_some] <;> rfl) | (simp [*, errW_none, errW_some] <;> rfl), by repeat (first | (with_reducible first | exact HB.out | apply below_alloc | apply pw_below_drewN | apply below_drew1) | exact HB.out)⟩

end Go.Proofs.YtncbbgmhmofhnaaDoor.Pr
end

section
namespace Go.Proofs.YtncbbgmhmofhnaaDoor.Pr
open Go.RowKit Go.Proofs.YtncbbgmhmofhnaaDoorW.PrintWords Go.Proofs.YtncbbgmhmofhnaaDoorW.PrintLast Go.Proofs.YtncbbgmhmofhnaaDoorW.PrintMore
attribute [local go_sem] max2_int min2_int max_two min_two max_three min_three max_four min_four Instr.field asAgg   -- for this text's walks alone
set_option linter.unusedVariables false
set_option linter.unusedSimpArgs false

mutual
def portcullisref01_value.j0 : Nat → ByteArray → Int → Option (Int)
 | 0, _, _ => none
 | k + 1, x0, x3 => portcullisref01_value.l0 k x0 x3 1
def portcullisref01_value.l0 : Nat → ByteArray → Int → Int → Option (Int)
 | 0, _, _, _ => none
 | k + 1, x0, x3, x4 => if x4 < (x0.size : Int) then (if 0 ≤ x4 then (portcullisref01_value.l0 k x0 (wrap32 ((wrap32 ((wrap32 (x3 * 64)) + (wrap32 (bt x0 x4)))) - 128)) (wrap64 (x4 + 1))) else (none)) else (some x3)
end
def portcullisref01_value.f (k : Nat) (a0 : ByteArray) : Option (Int) := if 0 < (a0.size : Int) then (if (a0.size : Int) = 2 then (portcullisref01_value.j0 k a0 (wrap32 ((wrap32 (bt a0 0)) - 192))) else (if (a0.size : Int) = 3 then (portcullisref01_value.j0 k a0 (wrap32 ((wrap32 (bt a0 0)) - 224))) else (if (a0.size : Int) = 4 then (portcullisref01_value.j0 k a0 (wrap32 ((wrap32 (bt a0 0)) - 240))) else (portcullisref01_value.j0 k a0 (wrap32 (bt a0 0)))))) else (none)
set_option maxHeartbeats 8000000 in
set_option maxRecDepth 100000 in
theorem portcullisref01_value.calls (k : Nat) (a0 : ByteArray) (r : Int) (w : World) (h : portcullisref01_value.f k a0 = some r) :
  Calls Tryd.prog 55 #[.string a0] w fun e w' => e = .returned (.int .i32 r) ∧ Drawn0 w w' := by
 have H : (if 0 < (a0.size : Int) then (if (a0.size : Int) = 2 then (portcullisref01_value.j0 k a0 (wrap32 ((wrap32 (bt a0 0)) - 192))) else (if (a0.size : Int) = 3 then (portcullisref01_value.j0 k a0 (wrap32 ((wrap32 (bt a0 0)) - 224))) else (if (a0.size : Int) = 4 then (portcullisref01_value.j0 k a0 (wrap32 ((wrap32 (bt a0 0)) - 240))) else (portcullisref01_value.j0 k a0 (wrap32 (bt a0 0)))))) else (none)) = some r := h
 clear h
 by_cases c2 : 0 < (a0.size : Int)
 ·rw [if_pos c2] at H
  have c2b0 : decide (0 < (a0.size : Int)) = true := decide_eq_true c2
  have c2b1 : decide (0 < a0.size) = true := decide_eq_true (by omega)
  clear c2
  have HC4 := Aside0.mk H
  clear H
  have p3 : 0 ≤ (0 : Int) := (by omega)
  have q3 : 0 < a0.size := (by have : (0 : Int) < (a0.size : Int) := of_decide_eq_true (by first | (with_reducible assumption) | assumption); omega)
  have hx3 : ∀ h : 0 < a0.size, ((a0[0]'h).toNat : Int) = bt a0 0 := bt_at a0 0
  clear p3
  have qi3 : (0 < (a0.size : Int)) = True := eq_true (of_decide_eq_true (by first | (with_reducible assumption) | assumption))
  replace q3 := eq_true q3
  go_enter Tryd.func55, Tryd.ntmps55
  go_upto_block 0 with (fail)
  go_cut [3] (fun v3 wc => ∃ (kq : Nat) (x3_3 : Int), v3 = .int .i32 x3_3 ∧ Aside0 (portcullisref01_value.j0 kq a0 x3_3 = some r) ∧ Aside0 (kq ≤ k) ∧ Drawn0 w wc)
  case first =>
   have H := HC4.out
   clear HC4
   by_cases c5 : (a0.size : Int) = 2
   ·rw [if_pos c5] at H
    have c5b0 : ((a0.size : Int) == 2) = true := beq_iff_eq.mpr c5
    have c5b1 : ((a0.size : Int) != 2) = false := bne_eq_false_iff_eq.mpr c5
    clear c5
    (first | rw [c5b0] | (simp only [i64_w, i32_w]; rw [c5b0]) | skip)
    have H' := Aside0.mk H
    clear H
    go_wp2
    go_meet
    case rel => exact ⟨_, (wrap32 ((wrap32 (bt a0 0)) - 192)), (by first | rfl | (simp; done) | (simp [*]; done)), H', ⟨by first | omega | exact Nat.le_refl _⟩, by repeat (first | exact Drawn0.refl _ | apply Drawn0.step)⟩
   ·rw [if_neg c5] at H
    have c5b0 : ((a0.size : Int) == 2) = false := beq_eq_false_iff_ne.mpr c5
    have c5b1 : ((a0.size : Int) != 2) = true := bne_iff_ne.mpr c5
    (first | rw [c5b0] | (simp only [i64_w, i32_w]; rw [c5b0]) | skip)
    by_cases c6 : (a0.size : Int) = 3
    ·rw [if_pos c6] at H
     have c6b0 : ((a0.size : Int) == 3) = true := beq_iff_eq.mpr c6
     have c6b1 : ((a0.size : Int) != 3) = false := bne_eq_false_iff_eq.mpr c6
     clear c6
     have H' := Aside0.mk H
     clear H
     go_wp2
     go_meet
     case rel => exact ⟨_, (wrap32 ((wrap32 (bt a0 0)) - 224)), (by first | rfl | (simp; done) | (simp [*]; done)), H', ⟨by first | omega | exact Nat.le_refl _⟩, by repeat (first | exact Drawn0.refl _ | apply Drawn0.step)⟩
    ·rw [if_neg c6] at H
     have c6b0 : ((a0.size : Int) == 3) = false := beq_eq_false_iff_ne.mpr c6
     have c6b1 : ((a0.size : Int) != 3) = true := bne_iff_ne.mpr c6
     by_cases c7 : (a0.size : Int) = 4
     ·rw [if_pos c7] at H
      have c7b0 : ((a0.size : Int) == 4) = true := beq_iff_eq.mpr c7
      have c7b1 : ((a0.size : Int) != 4) = false := bne_eq_false_iff_eq.mpr c7
      clear c7
      have H' := Aside0.mk H
      clear H
      go_wp2
      go_meet
      case rel => exact ⟨_, (wrap32 ((wrap32 (bt a0 0)) - 240)), (by first | rfl | (simp; done) | (simp [*]; done)), H', ⟨by first | omega | exact Nat.le_refl _⟩, by repeat (first | exact Drawn0.refl _ | apply Drawn0.step)⟩
     ·rw [if_neg c7] at H
      have c7b0 : ((a0.size : Int) == 4) = false := beq_eq_false_iff_ne.mpr c7
      have c7b1 : ((a0.size : Int) != 4) = true := bne_iff_ne.mpr c7
      have H' := Aside0.mk H
      clear H
      go_wp2
      go_meet
      case rel => exact ⟨_, (wrap32 (bt a0 0)), (by first | rfl | (simp; done) | (simp [*]; done)), H', ⟨by first | omega | exact Nat.le_refl _⟩, by repeat (first | exact Drawn0.refl _ | apply Drawn0.step)⟩
  case rest =>
   clear HC4
   try clear c2
   try clear c2b0
   try clear c2b1
   try clear p2
   try clear p3
   try clear q3
   try clear hx3
   try clear qi3
   try clear c5
   try clear c5b0
   try clear c5b1
   try clear c6
   try clear c6b0
   try clear c6b1
   try clear c7
   try clear c7b0
   try clear c7b1
   try clear p3
   try clear q3
   obtain ⟨kq, x3_3, rfl, HA, HJ3, ⟨mc3, rfl⟩⟩ := hcut
   cases kq with
   | zero => exact absurd HA.out (by simp [portcullisref01_value.j0])
   | succ kj3 =>
    have H := HA.out
    clear HA
    simp only [portcullisref01_value.j0] at H
    have H' := Aside0.mk H
    clear H
    go_wp2
    go_loopg [3, 4] kj3 (fun kq v3 v4 w' => ∃ (x3_2 : Int) (x4_2 : Int), v3 = .int .i32 x3_2 ∧ v4 = .int .i64 x4_2 ∧ Aside0 (portcullisref01_value.l0 kq a0 x3_2 x4_2 = some r) ∧ Aside0 (kq ≤ kj3) ∧ Drawn0 w w')
    case atStart => exact ⟨(x3_3), (1), (by first | rfl | (simp; done) | (simp [*]; done)), (by first | rfl | (simp; done) | (simp [*]; done)), H', ⟨Nat.le_refl _⟩, by repeat (first | exact Drawn0.refl _ | apply Drawn0.step)⟩
    case round =>
     clear H'
     try clear c2
     try clear c2b0
     try clear c2b1
     try clear p2
     try clear c3
     try clear p3
     try clear q3
     try clear hx3
     try clear qi3
     try clear c5
     try clear c5b0
     try clear c5b1
     try clear c6
     try clear c6b0
     try clear c6b1
     try clear c7
     try clear c7b0
     try clear c7b1
     try clear p2
     try clear p3
     try clear q3
     obtain ⟨x3_2, x4_2, rfl, rfl, HA, HK2, ⟨m2, rfl⟩⟩ := hrel
     cases gk with
     | zero => exact absurd HA.out (by simp [portcullisref01_value.l0])
     | succ k2 =>
      have H := HA.out
      clear HA
      simp only [portcullisref01_value.l0] at H
      by_cases c8 : x4_2 < (a0.size : Int)
      ·rw [if_pos c8] at H
       have c8b0 : decide (x4_2 < (a0.size : Int)) = true := decide_eq_true c8
       clear c8
       by_cases c9 : 0 ≤ x4_2
       ·rw [if_pos c9] at H
        have c9b0 : decide (0 ≤ x4_2) = true := decide_eq_true c9
        clear c9
        have H' := Aside0.mk H
        clear H
        have p10 : 0 ≤ (x4_2 : Int) := of_decide_eq_true (by first | (with_reducible assumption) | assumption)
        have q10 : x4_2 < (a0.size : Int) := of_decide_eq_true (by first | (with_reducible assumption) | assumption)
        have hx10 := bt_at a0 x4_2
        replace p10 := eq_true p10
        replace q10 := eq_true q10
        go_wp2
        go_roundg k2
        case measure => have := HJ3.out; have := HK2.out; omega
        case rel => exact ⟨(wrap32 ((wrap32 ((wrap32 (x3_2 * 64)) + (wrap32 (bt a0 x4_2)))) - 128)), (wrap64 (x4_2 + 1)), (by first | rfl | (simp; done) | (simp [*]; done)), (by first | rfl | (simp; done) | (simp [*]; done)), H', ⟨by have := HJ3.out; have := HK2.out; omega⟩, by repeat (first | exact Drawn0.refl _ | apply Drawn0.step)⟩
       ·rw [if_neg c9] at H
        exact absurd H (by simp)
      ·rw [if_neg c8] at H
       have c8b0 : decide (x4_2 < (a0.size : Int)) = false := decide_eq_false c8
       clear c8
       obtain rfl := Option.some.inj H
       go_wp2
       go_ret
       exact ⟨by first | rfl | (simp; done) | (simp [*]; done), by repeat (first | exact Drawn0.refl _ | apply Drawn0.step)⟩
 ·rw [if_neg c2] at H
  exact absurd H (by simp)

def portcullisref01_whole.f (k : Nat) (a0 : ByteArray) : Option (Bool) := (portcullisref01_value.f k a0).bind fun t356 => ((portcullisref01_Scalar.f t356).bind fun t357 => (if t357 = true then ((portcullisref01_Bytes.f t356).bind fun t358 => (some (t358.toList == a0.toList))) else (some false)))
set_option maxHeartbeats 8000000 in
set_option maxRecDepth 100000 in
theorem portcullisref01_whole.calls (k : Nat) (a0 : ByteArray) (r : Bool) (w : World) (h : portcullisref01_whole.f k a0 = some r) :
  Calls Tryd.prog 54 #[.string a0] w fun e w' => e = .returned (.bool r) ∧ Below w.heap.size w w' := by
 have HB := Aside0.mk (Below.refl w.heap.size w)
 have H : ((portcullisref01_value.f k a0).bind fun t356 => ((portcullisref01_Scalar.f t356).bind fun t357 => (if t357 = true then ((portcullisref01_Bytes.f t356).bind fun t358 => (some (t358.toList == a0.toList))) else (some false)))) = some r := h
 clear h
 replace H := Option.bind_eq_some_iff.mp H
 obtain ⟨t356, A20, H⟩ := H
 replace H : ((portcullisref01_Scalar.f t356).bind fun t357 => (if t357 = true then ((portcullisref01_Bytes.f t356).bind fun t358 => (some (t358.toList == a0.toList))) else (some false))) = some r := H
 have A2 := Aside0.mk A20
 clear A20
 replace H := Option.bind_eq_some_iff.mp H
 obtain ⟨t357, A30, H⟩ := H
 replace H : (if t357 = true then ((portcullisref01_Bytes.f t356).bind fun t358 => (some (t358.toList == a0.toList))) else (some false)) = some r := H
 have A3 := Aside0.mk A30
 clear A30
 by_cases c4 : t357 = true
 ·subst c4
  have H1 : ((portcullisref01_Bytes.f t356).bind fun t358 => (some (t358.toList == a0.toList))) = some r := by rw [if_pos rfl] at H; exact H
  clear H
  have H := H1
  clear H1
  replace H := Option.bind_eq_some_iff.mp H
  obtain ⟨t358, A50, H⟩ := H
  replace H : (some (t358.toList == a0.toList)) = some r := H
  have A5 := Aside0.mk A50
  clear A50
  obtain rfl := Option.some.inj H
  go_enter Tryd.func54, Tryd.ntmps54
  go_wp2_with (first | ((with_reducible refine gate_callee (f := 55) rfl ?_); refine goesL_ (some 5) rfl rfl Tryd.func55 (by kernel_rfl) rfl #[.string a0] rfl (by (try simp only [List.map_toArray, List.map_cons, List.map_nil]); first | done | rfl | (simp only [List.length_drop, List.length_take]; rfl)) ?_; (with_reducible refine (portcullisref01_value.calls k a0 t356 _ A2.out).mono ?_); rintro e w' ⟨rfl, ⟨nd, rfl⟩⟩; refine ⟨_, rfl, ?_⟩) | ((with_reducible refine gate_callee (f := 44) rfl ?_); refine goesL_ (some 7) rfl rfl Tryd.func44 (by kernel_rfl) rfl #[.int .i32 t356] rfl (by (try simp only [List.map_toArray, List.map_cons, List.map_nil]); first | done | rfl | (simp only [List.length_drop, List.length_take]; rfl)) ?_; (with_reducible refine (portcullisref01_Scalar.calls t356 true _ A3.out).mono ?_); rintro e w' ⟨rfl, ⟨nd, rfl⟩⟩; refine ⟨_, rfl, ?_⟩) | (go_at_call 45; (with_reducible refine (portcullisref01_Bytes.calls t356 t358 _ A5.out).mono ?_); rintro e w6 ⟨rfl, hb⟩; have n0_ := Aside0.mk (below_step (by repeat (first | (with_reducible first | exact HB.out | apply below_alloc | apply pw_below_drewN | apply below_drew1) | exact HB.out)) hb); clear HB; have HB := n0_; clear n0_; (try clear hb); (try clear hb2); (try clear hk); (try clear hi)))
  go_ret
  exact ⟨by first | rfl | (simp [errW_none, errW_some] <;> rfl) | (simp [*, errW_none, errW_some] <;> rfl), by repeat (first | (with_reducible first | exact HB.out | apply below_alloc | apply pw_below_drewN | apply below_drew1) | exact HB.out)⟩
 ·replace c4 := Bool.eq_false_iff.mpr c4
  subst c4
  have H1 : (some false) = some r := by rw [if_neg (show ¬ (false = true) by decide)] at H; exact H
  clear H
  have H := H1
  clear H1
  obtain rfl := Option.some.inj H
  go_enter Tryd.func54, Tryd.ntmps54
  go_wp2_with (first | ((with_reducible refine gate_callee (f := 55) rfl ?_); refine goesL_ (some 5) rfl rfl Tryd.func55 (by kernel_rfl) rfl #[.string a0] rfl (by (try simp only [List.map_toArray, List.map_cons, List.map_nil]); first | done | rfl | (simp only [List.length_drop, List.length_take]; rfl)) ?_; (with_reducible refine (portcullisref01_value.calls k a0 t356 _ A2.out).mono ?_); rintro e w' ⟨rfl, ⟨nd, rfl⟩⟩; refine ⟨_, rfl, ?_⟩) | ((with_reducible refine gate_callee (f := 44) rfl ?_); refine goesL_ (some 7) rfl rfl Tryd.func44 (by kernel_rfl) rfl #[.int .i32 t356] rfl (by (try simp only [List.map_toArray, List.map_cons, List.map_nil]); first | done | rfl | (simp only [List.length_drop, List.length_take]; rfl)) ?_; (with_reducible refine (portcullisref01_Scalar.calls t356 false _ A3.out).mono ?_); rintro e w' ⟨rfl, ⟨nd, rfl⟩⟩; refine ⟨_, rfl, ?_⟩))
  go_ret
  exact ⟨by first | rfl | (simp [errW_none, errW_some] <;> rfl) | (simp [*, errW_none, errW_some] <;> rfl), by repeat (first | (with_reducible first | exact HB.out | apply below_alloc | apply pw_below_drewN | apply below_drew1) | exact HB.out)⟩

end Go.Proofs.YtncbbgmhmofhnaaDoor.Pr
end

section
namespace Go.Proofs.YtncbbgmhmofhnaaDoor.Pr
open Go.RowKit Go.Proofs.YtncbbgmhmofhnaaDoorW.PrintWords Go.Proofs.YtncbbgmhmofhnaaDoorW.PrintLast Go.Proofs.YtncbbgmhmofhnaaDoorW.PrintMore
attribute [local go_sem] max2_int min2_int max_two min_two max_three min_three max_four min_four Instr.field asAgg   -- for this text's walks alone
set_option linter.unusedVariables false
set_option linter.unusedSimpArgs false

mutual
def portcullisref01_begins.j0 : Nat → ByteArray → Int → Int → Bool → Bool → Option (Bool)
 | 0, _, _, _, _, _ => none
 | k + 1, x0, x3, x4, x5, x10 => if x10 = true then (if (x0.size : Int) = 2 then (if x4 ≥ 128 then (if x4 ≤ 191 then (some true) else (some false)) else (some false)) else (some false)) else (if x3 = 224 then (if x4 ≥ 160 then (if x4 ≤ 191 then (if (x0.size : Int) = 2 then (some true) else (if 2 < (x0.size : Int) then (if (bt x0 2) ≥ 128 then (some (decide ((bt x0 2) ≤ 191))) else (some false)) else (none))) else (some false)) else (some false)) else (if x3 = 237 then (if x4 ≥ 128 then (if x4 ≤ 159 then (if (x0.size : Int) = 2 then (some true) else (if 2 < (x0.size : Int) then (if (bt x0 2) ≥ 128 then (some (decide ((bt x0 2) ≤ 191))) else (some false)) else (none))) else (some false)) else (some false)) else (if x3 ≥ 225 then (portcullisref01_begins.j1 k x0 x3 x4 x5 (decide (x3 ≤ 239))) else (portcullisref01_begins.j1 k x0 x3 x4 x5 false))))
def portcullisref01_begins.j1 : Nat → ByteArray → Int → Int → Bool → Bool → Option (Bool)
 | 0, _, _, _, _, _ => none
 | k + 1, x0, x3, x4, x5, x46 => if x46 = true then (if x4 ≥ 128 then (if x4 ≤ 191 then (if (x0.size : Int) = 2 then (some true) else (if 2 < (x0.size : Int) then (if (bt x0 2) ≥ 128 then (some (decide ((bt x0 2) ≤ 191))) else (some false)) else (none))) else (some false)) else (some false)) else (if x3 = 240 then (if x4 ≥ 144 then (if x4 ≤ 191 then (if (x0.size : Int) = 2 then (some true) else (if 2 < (x0.size : Int) then (if (bt x0 2) ≥ 128 then (some (decide ((bt x0 2) ≤ 191))) else (some false)) else (none))) else (some false)) else (some false)) else (if x3 ≥ 241 then (portcullisref01_begins.j2 k x0 x3 x4 x5 (decide (x3 ≤ 243))) else (portcullisref01_begins.j2 k x0 x3 x4 x5 false)))
def portcullisref01_begins.j2 : Nat → ByteArray → Int → Int → Bool → Bool → Option (Bool)
 | 0, _, _, _, _, _ => none
 | k + 1, x0, x3, x4, x5, x68 => if x68 = true then (if x4 ≥ 128 then (if x4 ≤ 191 then (if (x0.size : Int) = 2 then (some true) else (if 2 < (x0.size : Int) then (if (bt x0 2) ≥ 128 then (some (decide ((bt x0 2) ≤ 191))) else (some false)) else (none))) else (some false)) else (some false)) else (if x3 = 244 then (if x4 ≥ 128 then (if x4 ≤ 143 then (if (x0.size : Int) = 2 then (some true) else (if 2 < (x0.size : Int) then (if (bt x0 2) ≥ 128 then (some (decide ((bt x0 2) ≤ 191))) else (some false)) else (none))) else (some false)) else (some false)) else (if x5 = true then (if (x0.size : Int) = 2 then (some true) else (if 2 < (x0.size : Int) then (if (bt x0 2) ≥ 128 then (some (decide ((bt x0 2) ≤ 191))) else (some false)) else (none))) else (some false)))
end
def portcullisref01_begins.f (k : Nat) (a0 : ByteArray) : Option (Bool) := if 0 < (a0.size : Int) then (if 1 < (a0.size : Int) then (if (bt a0 0) ≥ 194 then (portcullisref01_begins.j0 k a0 (bt a0 0) (bt a0 1) false (decide ((bt a0 0) ≤ 223))) else (portcullisref01_begins.j0 k a0 (bt a0 0) (bt a0 1) false false)) else (none)) else (none)
set_option maxHeartbeats 8000000 in
set_option maxRecDepth 100000 in
theorem portcullisref01_begins.calls (k : Nat) (a0 : ByteArray) (r : Bool) (w : World) (h : portcullisref01_begins.f k a0 = some r) :
  Calls Tryd.prog 56 #[.string a0] w fun e w' => e = .returned (.bool r) ∧ Drawn0 w w' := by
 have H : (if 0 < (a0.size : Int) then (if 1 < (a0.size : Int) then (if (bt a0 0) ≥ 194 then (portcullisref01_begins.j0 k a0 (bt a0 0) (bt a0 1) false (decide ((bt a0 0) ≤ 223))) else (portcullisref01_begins.j0 k a0 (bt a0 0) (bt a0 1) false false)) else (none)) else (none)) = some r := h
 clear h
 by_cases c2 : 0 < (a0.size : Int)
 ·rw [if_pos c2] at H
  have c2b0 : decide (0 < (a0.size : Int)) = true := decide_eq_true c2
  have c2b1 : decide (0 < a0.size) = true := decide_eq_true (by omega)
  clear c2
  by_cases c4 : 1 < (a0.size : Int)
  ·rw [if_pos c4] at H
   have c4b0 : decide (1 < (a0.size : Int)) = true := decide_eq_true c4
   have c4b1 : decide (1 < a0.size) = true := decide_eq_true (by omega)
   clear c4
   have HC6 := Aside0.mk H
   clear H
   have p3 : 0 ≤ (0 : Int) := (by omega)
   have q3 : 0 < a0.size := (by have : (0 : Int) < (a0.size : Int) := of_decide_eq_true (by first | (with_reducible assumption) | assumption); omega)
   have hx3 : ∀ h : 0 < a0.size, ((a0[0]'h).toNat : Int) = bt a0 0 := bt_at a0 0
   clear p3
   have qi3 : (0 < (a0.size : Int)) = True := eq_true (of_decide_eq_true (by first | (with_reducible assumption) | assumption))
   replace q3 := eq_true q3
   have p5 : 0 ≤ (1 : Int) := (by omega)
   have q5 : 1 < a0.size := (by have : (1 : Int) < (a0.size : Int) := of_decide_eq_true (by first | (with_reducible assumption) | assumption); omega)
   have hx5 : ∀ h : 1 < a0.size, ((a0[1]'h).toNat : Int) = bt a0 1 := bt_at a0 1
   clear p5
   have qi5 : (1 < (a0.size : Int)) = True := eq_true (of_decide_eq_true (by first | (with_reducible assumption) | assumption))
   replace q5 := eq_true q5
   go_enter Tryd.func56, Tryd.ntmps56
   go_upto_region 3 with (fail)
   repeat (go_quiet (fail); go_upto_region 3 with (fail))
   go_cut [10] (fun v10 wc => ∃ (kq : Nat) (x10_5 : Bool), v10 = .bool x10_5 ∧ Aside0 (portcullisref01_begins.j0 kq a0 (bt a0 0) (bt a0 1) false x10_5 = some r) ∧ Aside0 (kq ≤ k) ∧ Drawn0 w wc)
   case first =>
    have H := HC6.out
    clear HC6
    by_cases c7 : (bt a0 0) ≥ 194
    ·rw [if_pos c7] at H
     have c7b0 : decide (194 ≤ (bt a0 0)) = true := decide_eq_true c7
     clear c7
     (first | rw [c7b0] | (simp only [i64_w, i32_w]; rw [c7b0]) | skip)
     have H' := Aside0.mk H
     clear H
     go_wp2
     repeat (go_quiet (fail); try go_wp2)
     go_meet
     case rel => exact ⟨_, (decide ((bt a0 0) ≤ 223)), (by first | rfl | (simp; done) | (simp [*]; done)), H', ⟨by first | omega | exact Nat.le_refl _⟩, by repeat (first | exact Drawn0.refl _ | apply Drawn0.step)⟩
    ·rw [if_neg c7] at H
     have c7b0 : decide (194 ≤ (bt a0 0)) = false := decide_eq_false c7
     clear c7
     (first | rw [c7b0] | (simp only [i64_w, i32_w]; rw [c7b0]) | skip)
     have H' := Aside0.mk H
     clear H
     go_wp2
     repeat (go_quiet (fail); try go_wp2)
     go_meet
     case rel => exact ⟨_, (false), (by first | rfl | (simp; done) | (simp [*]; done)), H', ⟨by first | omega | exact Nat.le_refl _⟩, by repeat (first | exact Drawn0.refl _ | apply Drawn0.step)⟩
   case rest =>
    clear HC6
    try clear c2
    try clear c2b0
    try clear c2b1
    try clear p2
    try clear p3
    try clear q3
    try clear hx3
    try clear qi3
    try clear c4
    try clear c4b0
    try clear c4b1
    try clear c5
    try clear p5
    try clear q5
    try clear hx5
    try clear qi5
    try clear c7
    try clear c7b0
    try clear p3
    try clear p5
    try clear q3
    try clear q5
    obtain ⟨kq, x10_5, rfl, HA, HJ5, ⟨mc5, rfl⟩⟩ := hcut
    cases kq with
    | zero => exact absurd HA.out (by simp [portcullisref01_begins.j0])
    | succ kj5 =>
     have H := HA.out
     clear HA
     simp only [portcullisref01_begins.j0] at H
     by_cases c8 : x10_5 = true
     ·subst c8
      have H1 : (if (a0.size : Int) = 2 then (if (bt a0 1) ≥ 128 then (if (bt a0 1) ≤ 191 then (some true) else (some false)) else (some false)) else (some false)) = some r := by rw [if_pos rfl] at H; exact H
      clear H
      have H := H1
      clear H1
      by_cases c9 : (a0.size : Int) = 2
      ·rw [if_pos c9] at H
       have c9b0 : ((a0.size : Int) == 2) = true := beq_iff_eq.mpr c9
       have c9b1 : ((a0.size : Int) != 2) = false := bne_eq_false_iff_eq.mpr c9
       clear c9
       by_cases c10 : (bt a0 1) ≥ 128
       ·rw [if_pos c10] at H
        have c10b0 : decide (128 ≤ (bt a0 1)) = true := decide_eq_true c10
        clear c10
        by_cases c11 : (bt a0 1) ≤ 191
        ·rw [if_pos c11] at H
         have c11b0 : decide ((bt a0 1) ≤ 191) = true := decide_eq_true c11
         clear c11
         obtain rfl := Option.some.inj H
         go_wp2
         repeat (go_quiet (fail); try go_wp2)
         go_ret
         exact ⟨by first | rfl | (simp; done) | (simp [*]; done), by repeat (first | exact Drawn0.refl _ | apply Drawn0.step)⟩
        ·rw [if_neg c11] at H
         have c11b0 : decide ((bt a0 1) ≤ 191) = false := decide_eq_false c11
         clear c11
         obtain rfl := Option.some.inj H
         go_wp2
         repeat (go_quiet (fail); try go_wp2)
         go_ret
         exact ⟨by first | rfl | (simp; done) | (simp [*]; done), by repeat (first | exact Drawn0.refl _ | apply Drawn0.step)⟩
       ·rw [if_neg c10] at H
        have c10b0 : decide (128 ≤ (bt a0 1)) = false := decide_eq_false c10
        clear c10
        obtain rfl := Option.some.inj H
        go_wp2
        repeat (go_quiet (fail); try go_wp2)
        go_ret
        exact ⟨by first | rfl | (simp; done) | (simp [*]; done), by repeat (first | exact Drawn0.refl _ | apply Drawn0.step)⟩
      ·rw [if_neg c9] at H
       have c9b0 : ((a0.size : Int) == 2) = false := beq_eq_false_iff_ne.mpr c9
       have c9b1 : ((a0.size : Int) != 2) = true := bne_iff_ne.mpr c9
       obtain rfl := Option.some.inj H
       go_wp2
       repeat (go_quiet (fail); try go_wp2)
       go_ret
       exact ⟨by first | rfl | (simp; done) | (simp [*]; done), by repeat (first | exact Drawn0.refl _ | apply Drawn0.step)⟩
     ·replace c8 := Bool.eq_false_iff.mpr c8
      subst c8
      have H1 : (if (bt a0 0) = 224 then (if (bt a0 1) ≥ 160 then (if (bt a0 1) ≤ 191 then (if (a0.size : Int) = 2 then (some true) else (if 2 < (a0.size : Int) then (if (bt a0 2) ≥ 128 then (some (decide ((bt a0 2) ≤ 191))) else (some false)) else (none))) else (some false)) else (some false)) else (if (bt a0 0) = 237 then (if (bt a0 1) ≥ 128 then (if (bt a0 1) ≤ 159 then (if (a0.size : Int) = 2 then (some true) else (if 2 < (a0.size : Int) then (if (bt a0 2) ≥ 128 then (some (decide ((bt a0 2) ≤ 191))) else (some false)) else (none))) else (some false)) else (some false)) else (if (bt a0 0) ≥ 225 then (portcullisref01_begins.j1 kj5 a0 (bt a0 0) (bt a0 1) false (decide ((bt a0 0) ≤ 239))) else (portcullisref01_begins.j1 kj5 a0 (bt a0 0) (bt a0 1) false false)))) = some r := by rw [if_neg (show ¬ (false = true) by decide)] at H; exact H
      clear H
      have H := H1
      clear H1
      by_cases c12 : (bt a0 0) = 224
      ·rw [if_pos c12] at H
       have c12b0 : ((bt a0 0) == 224) = true := beq_iff_eq.mpr c12
       have c12b1 : ((bt a0 0) != 224) = false := bne_eq_false_iff_eq.mpr c12
       clear c12
       by_cases c13 : (bt a0 1) ≥ 160
       ·rw [if_pos c13] at H
        have c13b0 : decide (160 ≤ (bt a0 1)) = true := decide_eq_true c13
        clear c13
        by_cases c14 : (bt a0 1) ≤ 191
        ·rw [if_pos c14] at H
         have c14b0 : decide ((bt a0 1) ≤ 191) = true := decide_eq_true c14
         clear c14
         by_cases c15 : (a0.size : Int) = 2
         ·rw [if_pos c15] at H
          have c15b0 : ((a0.size : Int) == 2) = true := beq_iff_eq.mpr c15
          have c15b1 : ((a0.size : Int) != 2) = false := bne_eq_false_iff_eq.mpr c15
          clear c15
          obtain rfl := Option.some.inj H
          go_wp2
          repeat (go_quiet (fail); try go_wp2)
          go_ret
          exact ⟨by first | rfl | (simp; done) | (simp [*]; done), by repeat (first | exact Drawn0.refl _ | apply Drawn0.step)⟩
         ·rw [if_neg c15] at H
          have c15b0 : ((a0.size : Int) == 2) = false := beq_eq_false_iff_ne.mpr c15
          have c15b1 : ((a0.size : Int) != 2) = true := bne_iff_ne.mpr c15
          by_cases c16 : 2 < (a0.size : Int)
          ·rw [if_pos c16] at H
           have c16b0 : decide (2 < (a0.size : Int)) = true := decide_eq_true c16
           have c16b1 : decide (2 < a0.size) = true := decide_eq_true (by omega)
           clear c16
           by_cases c18 : (bt a0 2) ≥ 128
           ·rw [if_pos c18] at H
            have c18b0 : decide (128 ≤ (bt a0 2)) = true := decide_eq_true c18
            clear c18
            obtain rfl := Option.some.inj H
            have p17 : 0 ≤ (2 : Int) := (by omega)
            have q17 : 2 < a0.size := (by have : (2 : Int) < (a0.size : Int) := of_decide_eq_true (by first | (with_reducible assumption) | assumption); omega)
            have hx17 : ∀ h : 2 < a0.size, ((a0[2]'h).toNat : Int) = bt a0 2 := bt_at a0 2
            clear p17
            have qi17 : (2 < (a0.size : Int)) = True := eq_true (of_decide_eq_true (by first | (with_reducible assumption) | assumption))
            replace q17 := eq_true q17
            have p19 : 0 ≤ (2 : Int) := (by omega)
            have q19 : 2 < a0.size := (by have : (2 : Int) < (a0.size : Int) := of_decide_eq_true (by first | (with_reducible assumption) | assumption); omega)
            have hx19 : ∀ h : 2 < a0.size, ((a0[2]'h).toNat : Int) = bt a0 2 := bt_at a0 2
            clear p19
            have qi19 : (2 < (a0.size : Int)) = True := eq_true (of_decide_eq_true (by first | (with_reducible assumption) | assumption))
            replace q19 := eq_true q19
            go_wp2
            repeat (go_quiet (fail); try go_wp2)
            go_ret
            exact ⟨by first | rfl | (simp; done) | (simp [*]; done), by repeat (first | exact Drawn0.refl _ | apply Drawn0.step)⟩
           ·rw [if_neg c18] at H
            have c18b0 : decide (128 ≤ (bt a0 2)) = false := decide_eq_false c18
            clear c18
            obtain rfl := Option.some.inj H
            have p17 : 0 ≤ (2 : Int) := (by omega)
            have q17 : 2 < a0.size := (by have : (2 : Int) < (a0.size : Int) := of_decide_eq_true (by first | (with_reducible assumption) | assumption); omega)
            have hx17 : ∀ h : 2 < a0.size, ((a0[2]'h).toNat : Int) = bt a0 2 := bt_at a0 2
            clear p17
            have qi17 : (2 < (a0.size : Int)) = True := eq_true (of_decide_eq_true (by first | (with_reducible assumption) | assumption))
            replace q17 := eq_true q17
            go_wp2
            repeat (go_quiet (fail); try go_wp2)
            go_ret
            exact ⟨by first | rfl | (simp; done) | (simp [*]; done), by repeat (first | exact Drawn0.refl _ | apply Drawn0.step)⟩
          ·rw [if_neg c16] at H
           exact absurd H (by simp)
        ·rw [if_neg c14] at H
         have c14b0 : decide ((bt a0 1) ≤ 191) = false := decide_eq_false c14
         clear c14
         obtain rfl := Option.some.inj H
         go_wp2
         repeat (go_quiet (fail); try go_wp2)
         go_ret
         exact ⟨by first | rfl | (simp; done) | (simp [*]; done), by repeat (first | exact Drawn0.refl _ | apply Drawn0.step)⟩
       ·rw [if_neg c13] at H
        have c13b0 : decide (160 ≤ (bt a0 1)) = false := decide_eq_false c13
        clear c13
        obtain rfl := Option.some.inj H
        go_wp2
        repeat (go_quiet (fail); try go_wp2)
        go_ret
        exact ⟨by first | rfl | (simp; done) | (simp [*]; done), by repeat (first | exact Drawn0.refl _ | apply Drawn0.step)⟩
      ·rw [if_neg c12] at H
       have c12b0 : ((bt a0 0) == 224) = false := beq_eq_false_iff_ne.mpr c12
       have c12b1 : ((bt a0 0) != 224) = true := bne_iff_ne.mpr c12
       by_cases c20 : (bt a0 0) = 237
       ·rw [if_pos c20] at H
        have c20b0 : ((bt a0 0) == 237) = true := beq_iff_eq.mpr c20
        have c20b1 : ((bt a0 0) != 237) = false := bne_eq_false_iff_eq.mpr c20
        clear c20
        by_cases c21 : (bt a0 1) ≥ 128
        ·rw [if_pos c21] at H
         have c21b0 : decide (128 ≤ (bt a0 1)) = true := decide_eq_true c21
         clear c21
         by_cases c22 : (bt a0 1) ≤ 159
         ·rw [if_pos c22] at H
          have c22b0 : decide ((bt a0 1) ≤ 159) = true := decide_eq_true c22
          clear c22
          by_cases c23 : (a0.size : Int) = 2
          ·rw [if_pos c23] at H
           have c23b0 : ((a0.size : Int) == 2) = true := beq_iff_eq.mpr c23
           have c23b1 : ((a0.size : Int) != 2) = false := bne_eq_false_iff_eq.mpr c23
           clear c23
           obtain rfl := Option.some.inj H
           go_wp2
           repeat (go_quiet (fail); try go_wp2)
           go_ret
           exact ⟨by first | rfl | (simp; done) | (simp [*]; done), by repeat (first | exact Drawn0.refl _ | apply Drawn0.step)⟩
          ·rw [if_neg c23] at H
           have c23b0 : ((a0.size : Int) == 2) = false := beq_eq_false_iff_ne.mpr c23
           have c23b1 : ((a0.size : Int) != 2) = true := bne_iff_ne.mpr c23
           by_cases c24 : 2 < (a0.size : Int)
           ·rw [if_pos c24] at H
            have c24b0 : decide (2 < (a0.size : Int)) = true := decide_eq_true c24
            have c24b1 : decide (2 < a0.size) = true := decide_eq_true (by omega)
            clear c24
            by_cases c26 : (bt a0 2) ≥ 128
            ·rw [if_pos c26] at H
             have c26b0 : decide (128 ≤ (bt a0 2)) = true := decide_eq_true c26
             clear c26
             obtain rfl := Option.some.inj H
             have p25 : 0 ≤ (2 : Int) := (by omega)
             have q25 : 2 < a0.size := (by have : (2 : Int) < (a0.size : Int) := of_decide_eq_true (by first | (with_reducible assumption) | assumption); omega)
             have hx25 : ∀ h : 2 < a0.size, ((a0[2]'h).toNat : Int) = bt a0 2 := bt_at a0 2
             clear p25
             have qi25 : (2 < (a0.size : Int)) = True := eq_true (of_decide_eq_true (by first | (with_reducible assumption) | assumption))
             replace q25 := eq_true q25
             have p27 : 0 ≤ (2 : Int) := (by omega)
             have q27 : 2 < a0.size := (by have : (2 : Int) < (a0.size : Int) := of_decide_eq_true (by first | (with_reducible assumption) | assumption); omega)
             have hx27 : ∀ h : 2 < a0.size, ((a0[2]'h).toNat : Int) = bt a0 2 := bt_at a0 2
             clear p27
             have qi27 : (2 < (a0.size : Int)) = True := eq_true (of_decide_eq_true (by first | (with_reducible assumption) | assumption))
             replace q27 := eq_true q27
             go_wp2
             repeat (go_quiet (fail); try go_wp2)
             go_ret
             exact ⟨by first | rfl | (simp; done) | (simp [*]; done), by repeat (first | exact Drawn0.refl _ | apply Drawn0.step)⟩
            ·rw [if_neg c26] at H
             have c26b0 : decide (128 ≤ (bt a0 2)) = false := decide_eq_false c26
             clear c26
             obtain rfl := Option.some.inj H
             have p25 : 0 ≤ (2 : Int) := (by omega)
             have q25 : 2 < a0.size := (by have : (2 : Int) < (a0.size : Int) := of_decide_eq_true (by first | (with_reducible assumption) | assumption); omega)
             have hx25 : ∀ h : 2 < a0.size, ((a0[2]'h).toNat : Int) = bt a0 2 := bt_at a0 2
             clear p25
             have qi25 : (2 < (a0.size : Int)) = True := eq_true (of_decide_eq_true (by first | (with_reducible assumption) | assumption))
             replace q25 := eq_true q25
             go_wp2
             repeat (go_quiet (fail); try go_wp2)
             go_ret
             exact ⟨by first | rfl | (simp; done) | (simp [*]; done), by repeat (first | exact Drawn0.refl _ | apply Drawn0.step)⟩
           ·rw [if_neg c24] at H
            exact absurd H (by simp)
         ·rw [if_neg c22] at H
          have c22b0 : decide ((bt a0 1) ≤ 159) = false := decide_eq_false c22
          clear c22
          obtain rfl := Option.some.inj H
          go_wp2
          repeat (go_quiet (fail); try go_wp2)
          go_ret
          exact ⟨by first | rfl | (simp; done) | (simp [*]; done), by repeat (first | exact Drawn0.refl _ | apply Drawn0.step)⟩
        ·rw [if_neg c21] at H
         have c21b0 : decide (128 ≤ (bt a0 1)) = false := decide_eq_false c21
         clear c21
         obtain rfl := Option.some.inj H
         go_wp2
         repeat (go_quiet (fail); try go_wp2)
         go_ret
         exact ⟨by first | rfl | (simp; done) | (simp [*]; done), by repeat (first | exact Drawn0.refl _ | apply Drawn0.step)⟩
       ·rw [if_neg c20] at H
        have c20b0 : ((bt a0 0) == 237) = false := beq_eq_false_iff_ne.mpr c20
        have c20b1 : ((bt a0 0) != 237) = true := bne_iff_ne.mpr c20
        have HC28 := Aside0.mk H
        clear H
        go_upto_region 9 with (fail)
        repeat (go_quiet (fail); go_upto_region 9 with (fail))
        go_cut [46] (fun v46 wc => ∃ (kq : Nat) (x46_27 : Bool), v46 = .bool x46_27 ∧ Aside0 (portcullisref01_begins.j1 kq a0 (bt a0 0) (bt a0 1) false x46_27 = some r) ∧ Aside0 (kq ≤ kj5) ∧ Drawn0 w wc)
        case first =>
         have H := HC28.out
         clear HC28
         by_cases c29 : (bt a0 0) ≥ 225
         ·rw [if_pos c29] at H
          have c29b0 : decide (225 ≤ (bt a0 0)) = true := decide_eq_true c29
          clear c29
          (first | rw [c29b0] | (simp only [i64_w, i32_w]; rw [c29b0]) | skip)
          have H' := Aside0.mk H
          clear H
          go_wp2
          repeat (go_quiet (fail); try go_wp2)
          go_meet
          case rel => exact ⟨_, (decide ((bt a0 0) ≤ 239)), (by first | rfl | (simp; done) | (simp [*]; done)), H', ⟨by have := HJ5.out; first | omega | exact Nat.le_refl _⟩, by repeat (first | exact Drawn0.refl _ | apply Drawn0.step)⟩
         ·rw [if_neg c29] at H
          have c29b0 : decide (225 ≤ (bt a0 0)) = false := decide_eq_false c29
          clear c29
          (first | rw [c29b0] | (simp only [i64_w, i32_w]; rw [c29b0]) | skip)
          have H' := Aside0.mk H
          clear H
          go_wp2
          repeat (go_quiet (fail); try go_wp2)
          go_meet
          case rel => exact ⟨_, (false), (by first | rfl | (simp; done) | (simp [*]; done)), H', ⟨by have := HJ5.out; first | omega | exact Nat.le_refl _⟩, by repeat (first | exact Drawn0.refl _ | apply Drawn0.step)⟩
        case rest =>
         clear HC28
         try clear c1
         try clear p1
         try clear q1
         try clear hx1
         try clear qi1
         try clear c2
         try clear c2b0
         try clear c2b1
         try clear p2
         try clear q2
         try clear hx2
         try clear qi2
         try clear p3
         try clear q3
         try clear hx3
         try clear qi3
         try clear c4
         try clear c4b0
         try clear c4b1
         try clear c5
         try clear p5
         try clear q5
         try clear hx5
         try clear qi5
         try clear c7
         try clear c7b0
         try clear c8
         try clear c9
         try clear c9b0
         try clear c9b1
         try clear c10
         try clear c10b0
         try clear c11
         try clear c11b0
         try clear c12
         try clear c12b0
         try clear c12b1
         try clear c13
         try clear c13b0
         try clear c14
         try clear c14b0
         try clear c15
         try clear c15b0
         try clear c15b1
         try clear c16
         try clear c16b0
         try clear c16b1
         try clear p17
         try clear q17
         try clear hx17
         try clear qi17
         try clear c18
         try clear c18b0
         try clear p19
         try clear q19
         try clear hx19
         try clear qi19
         try clear c20
         try clear c20b0
         try clear c20b1
         try clear c21
         try clear c21b0
         try clear c22
         try clear c22b0
         try clear c23
         try clear c23b0
         try clear c23b1
         try clear c24
         try clear c24b0
         try clear c24b1
         try clear p25
         try clear q25
         try clear hx25
         try clear qi25
         try clear c26
         try clear c26b0
         try clear p27
         try clear q27
         try clear hx27
         try clear qi27
         try clear c29
         try clear c29b0
         try clear p17
         try clear p19
         try clear p2
         try clear p25
         try clear p27
         try clear p3
         try clear p5
         try clear q17
         try clear q19
         try clear q25
         try clear q27
         try clear q3
         try clear q5
         obtain ⟨kq, x46_27, rfl, HA, HJ27, ⟨mc27, rfl⟩⟩ := hcut
         cases kq with
         | zero => exact absurd HA.out (by simp [portcullisref01_begins.j1])
         | succ kj27 =>
          have H := HA.out
          clear HA
          simp only [portcullisref01_begins.j1] at H
          by_cases c30 : x46_27 = true
          ·subst c30
           have H1 : (if (bt a0 1) ≥ 128 then (if (bt a0 1) ≤ 191 then (if (a0.size : Int) = 2 then (some true) else (if 2 < (a0.size : Int) then (if (bt a0 2) ≥ 128 then (some (decide ((bt a0 2) ≤ 191))) else (some false)) else (none))) else (some false)) else (some false)) = some r := by rw [if_pos rfl] at H; exact H
           clear H
           have H := H1
           clear H1
           by_cases c31 : (bt a0 1) ≥ 128
           ·rw [if_pos c31] at H
            have c31b0 : decide (128 ≤ (bt a0 1)) = true := decide_eq_true c31
            clear c31
            by_cases c32 : (bt a0 1) ≤ 191
            ·rw [if_pos c32] at H
             have c32b0 : decide ((bt a0 1) ≤ 191) = true := decide_eq_true c32
             clear c32
             by_cases c33 : (a0.size : Int) = 2
             ·rw [if_pos c33] at H
              have c33b0 : ((a0.size : Int) == 2) = true := beq_iff_eq.mpr c33
              have c33b1 : ((a0.size : Int) != 2) = false := bne_eq_false_iff_eq.mpr c33
              clear c33
              obtain rfl := Option.some.inj H
              go_wp2
              repeat (go_quiet (fail); try go_wp2)
              go_ret
              exact ⟨by first | rfl | (simp; done) | (simp [*]; done), by repeat (first | exact Drawn0.refl _ | apply Drawn0.step)⟩
             ·rw [if_neg c33] at H
              have c33b0 : ((a0.size : Int) == 2) = false := beq_eq_false_iff_ne.mpr c33
              have c33b1 : ((a0.size : Int) != 2) = true := bne_iff_ne.mpr c33
              by_cases c34 : 2 < (a0.size : Int)
              ·rw [if_pos c34] at H
               have c34b0 : decide (2 < (a0.size : Int)) = true := decide_eq_true c34
               have c34b1 : decide (2 < a0.size) = true := decide_eq_true (by omega)
               clear c34
               by_cases c36 : (bt a0 2) ≥ 128
               ·rw [if_pos c36] at H
                have c36b0 : decide (128 ≤ (bt a0 2)) = true := decide_eq_true c36
                clear c36
                obtain rfl := Option.some.inj H
                have p35 : 0 ≤ (2 : Int) := (by omega)
                have q35 : 2 < a0.size := (by have : (2 : Int) < (a0.size : Int) := of_decide_eq_true (by first | (with_reducible assumption) | assumption); omega)
                have hx35 : ∀ h : 2 < a0.size, ((a0[2]'h).toNat : Int) = bt a0 2 := bt_at a0 2
                clear p35
                have qi35 : (2 < (a0.size : Int)) = True := eq_true (of_decide_eq_true (by first | (with_reducible assumption) | assumption))
                replace q35 := eq_true q35
                have p37 : 0 ≤ (2 : Int) := (by omega)
                have q37 : 2 < a0.size := (by have : (2 : Int) < (a0.size : Int) := of_decide_eq_true (by first | (with_reducible assumption) | assumption); omega)
                have hx37 : ∀ h : 2 < a0.size, ((a0[2]'h).toNat : Int) = bt a0 2 := bt_at a0 2
                clear p37
                have qi37 : (2 < (a0.size : Int)) = True := eq_true (of_decide_eq_true (by first | (with_reducible assumption) | assumption))
                replace q37 := eq_true q37
                go_wp2
                repeat (go_quiet (fail); try go_wp2)
                go_ret
                exact ⟨by first | rfl | (simp; done) | (simp [*]; done), by repeat (first | exact Drawn0.refl _ | apply Drawn0.step)⟩
               ·rw [if_neg c36] at H
                have c36b0 : decide (128 ≤ (bt a0 2)) = false := decide_eq_false c36
                clear c36
                obtain rfl := Option.some.inj H
                have p35 : 0 ≤ (2 : Int) := (by omega)
                have q35 : 2 < a0.size := (by have : (2 : Int) < (a0.size : Int) := of_decide_eq_true (by first | (with_reducible assumption) | assumption); omega)
                have hx35 : ∀ h : 2 < a0.size, ((a0[2]'h).toNat : Int) = bt a0 2 := bt_at a0 2
                clear p35
                have qi35 : (2 < (a0.size : Int)) = True := eq_true (of_decide_eq_true (by first | (with_reducible assumption) | assumption))
                replace q35 := eq_true q35
                go_wp2
                repeat (go_quiet (fail); try go_wp2)
                go_ret
                exact ⟨by first | rfl | (simp; done) | (simp [*]; done), by repeat (first | exact Drawn0.refl _ | apply Drawn0.step)⟩
              ·rw [if_neg c34] at H
               exact absurd H (by simp)
            ·rw [if_neg c32] at H
             have c32b0 : decide ((bt a0 1) ≤ 191) = false := decide_eq_false c32
             clear c32
             obtain rfl := Option.some.inj H
             go_wp2
             repeat (go_quiet (fail); try go_wp2)
             go_ret
             exact ⟨by first | rfl | (simp; done) | (simp [*]; done), by repeat (first | exact Drawn0.refl _ | apply Drawn0.step)⟩
           ·rw [if_neg c31] at H
            have c31b0 : decide (128 ≤ (bt a0 1)) = false := decide_eq_false c31
            clear c31
            obtain rfl := Option.some.inj H
            go_wp2
            repeat (go_quiet (fail); try go_wp2)
            go_ret
            exact ⟨by first | rfl | (simp; done) | (simp [*]; done), by repeat (first | exact Drawn0.refl _ | apply Drawn0.step)⟩
          ·replace c30 := Bool.eq_false_iff.mpr c30
           subst c30
           have H1 : (if (bt a0 0) = 240 then (if (bt a0 1) ≥ 144 then (if (bt a0 1) ≤ 191 then (if (a0.size : Int) = 2 then (some true) else (if 2 < (a0.size : Int) then (if (bt a0 2) ≥ 128 then (some (decide ((bt a0 2) ≤ 191))) else (some false)) else (none))) else (some false)) else (some false)) else (if (bt a0 0) ≥ 241 then (portcullisref01_begins.j2 kj27 a0 (bt a0 0) (bt a0 1) false (decide ((bt a0 0) ≤ 243))) else (portcullisref01_begins.j2 kj27 a0 (bt a0 0) (bt a0 1) false false))) = some r := by rw [if_neg (show ¬ (false = true) by decide)] at H; exact H
           clear H
           have H := H1
           clear H1
           by_cases c38 : (bt a0 0) = 240
           ·rw [if_pos c38] at H
            have c38b0 : ((bt a0 0) == 240) = true := beq_iff_eq.mpr c38
            have c38b1 : ((bt a0 0) != 240) = false := bne_eq_false_iff_eq.mpr c38
            clear c38
            by_cases c39 : (bt a0 1) ≥ 144
            ·rw [if_pos c39] at H
             have c39b0 : decide (144 ≤ (bt a0 1)) = true := decide_eq_true c39
             clear c39
             by_cases c40 : (bt a0 1) ≤ 191
             ·rw [if_pos c40] at H
              have c40b0 : decide ((bt a0 1) ≤ 191) = true := decide_eq_true c40
              clear c40
              by_cases c41 : (a0.size : Int) = 2
              ·rw [if_pos c41] at H
               have c41b0 : ((a0.size : Int) == 2) = true := beq_iff_eq.mpr c41
               have c41b1 : ((a0.size : Int) != 2) = false := bne_eq_false_iff_eq.mpr c41
               clear c41
               obtain rfl := Option.some.inj H
               go_wp2
               repeat (go_quiet (fail); try go_wp2)
               go_ret
               exact ⟨by first | rfl | (simp; done) | (simp [*]; done), by repeat (first | exact Drawn0.refl _ | apply Drawn0.step)⟩
              ·rw [if_neg c41] at H
               have c41b0 : ((a0.size : Int) == 2) = false := beq_eq_false_iff_ne.mpr c41
               have c41b1 : ((a0.size : Int) != 2) = true := bne_iff_ne.mpr c41
               by_cases c42 : 2 < (a0.size : Int)
               ·rw [if_pos c42] at H
                have c42b0 : decide (2 < (a0.size : Int)) = true := decide_eq_true c42
                have c42b1 : decide (2 < a0.size) = true := decide_eq_true (by omega)
                clear c42
                by_cases c44 : (bt a0 2) ≥ 128
                ·rw [if_pos c44] at H
                 have c44b0 : decide (128 ≤ (bt a0 2)) = true := decide_eq_true c44
                 clear c44
                 obtain rfl := Option.some.inj H
                 have p43 : 0 ≤ (2 : Int) := (by omega)
                 have q43 : 2 < a0.size := (by have : (2 : Int) < (a0.size : Int) := of_decide_eq_true (by first | (with_reducible assumption) | assumption); omega)
                 have hx43 : ∀ h : 2 < a0.size, ((a0[2]'h).toNat : Int) = bt a0 2 := bt_at a0 2
                 clear p43
                 have qi43 : (2 < (a0.size : Int)) = True := eq_true (of_decide_eq_true (by first | (with_reducible assumption) | assumption))
                 replace q43 := eq_true q43
                 have p45 : 0 ≤ (2 : Int) := (by omega)
                 have q45 : 2 < a0.size := (by have : (2 : Int) < (a0.size : Int) := of_decide_eq_true (by first | (with_reducible assumption) | assumption); omega)
                 have hx45 : ∀ h : 2 < a0.size, ((a0[2]'h).toNat : Int) = bt a0 2 := bt_at a0 2
                 clear p45
                 have qi45 : (2 < (a0.size : Int)) = True := eq_true (of_decide_eq_true (by first | (with_reducible assumption) | assumption))
                 replace q45 := eq_true q45
                 go_wp2
                 repeat (go_quiet (fail); try go_wp2)
                 go_ret
                 exact ⟨by first | rfl | (simp; done) | (simp [*]; done), by repeat (first | exact Drawn0.refl _ | apply Drawn0.step)⟩
                ·rw [if_neg c44] at H
                 have c44b0 : decide (128 ≤ (bt a0 2)) = false := decide_eq_false c44
                 clear c44
                 obtain rfl := Option.some.inj H
                 have p43 : 0 ≤ (2 : Int) := (by omega)
                 have q43 : 2 < a0.size := (by have : (2 : Int) < (a0.size : Int) := of_decide_eq_true (by first | (with_reducible assumption) | assumption); omega)
                 have hx43 : ∀ h : 2 < a0.size, ((a0[2]'h).toNat : Int) = bt a0 2 := bt_at a0 2
                 clear p43
                 have qi43 : (2 < (a0.size : Int)) = True := eq_true (of_decide_eq_true (by first | (with_reducible assumption) | assumption))
                 replace q43 := eq_true q43
                 go_wp2
                 repeat (go_quiet (fail); try go_wp2)
                 go_ret
                 exact ⟨by first | rfl | (simp; done) | (simp [*]; done), by repeat (first | exact Drawn0.refl _ | apply Drawn0.step)⟩
               ·rw [if_neg c42] at H
                exact absurd H (by simp)
             ·rw [if_neg c40] at H
              have c40b0 : decide ((bt a0 1) ≤ 191) = false := decide_eq_false c40
              clear c40
              obtain rfl := Option.some.inj H
              go_wp2
              repeat (go_quiet (fail); try go_wp2)
              go_ret
              exact ⟨by first | rfl | (simp; done) | (simp [*]; done), by repeat (first | exact Drawn0.refl _ | apply Drawn0.step)⟩
            ·rw [if_neg c39] at H
             have c39b0 : decide (144 ≤ (bt a0 1)) = false := decide_eq_false c39
             clear c39
             obtain rfl := Option.some.inj H
             go_wp2
             repeat (go_quiet (fail); try go_wp2)
             go_ret
             exact ⟨by first | rfl | (simp; done) | (simp [*]; done), by repeat (first | exact Drawn0.refl _ | apply Drawn0.step)⟩
           ·rw [if_neg c38] at H
            have c38b0 : ((bt a0 0) == 240) = false := beq_eq_false_iff_ne.mpr c38
            have c38b1 : ((bt a0 0) != 240) = true := bne_iff_ne.mpr c38
            have HC46 := Aside0.mk H
            clear H
            go_upto_region 13 with (fail)
            repeat (go_quiet (fail); go_upto_region 13 with (fail))
            go_cut [68] (fun v68 wc => ∃ (kq : Nat) (x68_45 : Bool), v68 = .bool x68_45 ∧ Aside0 (portcullisref01_begins.j2 kq a0 (bt a0 0) (bt a0 1) false x68_45 = some r) ∧ Aside0 (kq ≤ kj27) ∧ Drawn0 w wc)
            case first =>
             have H := HC46.out
             clear HC46
             by_cases c47 : (bt a0 0) ≥ 241
             ·rw [if_pos c47] at H
              have c47b0 : decide (241 ≤ (bt a0 0)) = true := decide_eq_true c47
              clear c47
              (first | rw [c47b0] | (simp only [i64_w, i32_w]; rw [c47b0]) | skip)
              have H' := Aside0.mk H
              clear H
              go_wp2
              repeat (go_quiet (fail); try go_wp2)
              go_meet
              case rel => exact ⟨_, (decide ((bt a0 0) ≤ 243)), (by first | rfl | (simp; done) | (simp [*]; done)), H', ⟨by have := HJ5.out; have := HJ27.out; first | omega | exact Nat.le_refl _⟩, by repeat (first | exact Drawn0.refl _ | apply Drawn0.step)⟩
             ·rw [if_neg c47] at H
              have c47b0 : decide (241 ≤ (bt a0 0)) = false := decide_eq_false c47
              clear c47
              (first | rw [c47b0] | (simp only [i64_w, i32_w]; rw [c47b0]) | skip)
              have H' := Aside0.mk H
              clear H
              go_wp2
              repeat (go_quiet (fail); try go_wp2)
              go_meet
              case rel => exact ⟨_, (false), (by first | rfl | (simp; done) | (simp [*]; done)), H', ⟨by have := HJ5.out; have := HJ27.out; first | omega | exact Nat.le_refl _⟩, by repeat (first | exact Drawn0.refl _ | apply Drawn0.step)⟩
            case rest =>
             clear HC46
             try clear c1
             try clear p1
             try clear q1
             try clear hx1
             try clear qi1
             try clear c2
             try clear c2b0
             try clear c2b1
             try clear p2
             try clear q2
             try clear hx2
             try clear qi2
             try clear c3
             try clear p3
             try clear q3
             try clear hx3
             try clear qi3
             try clear c4
             try clear c4b0
             try clear c4b1
             try clear p4
             try clear q4
             try clear hx4
             try clear qi4
             try clear c5
             try clear p5
             try clear q5
             try clear hx5
             try clear qi5
             try clear c7
             try clear c7b0
             try clear c8
             try clear c9
             try clear c9b0
             try clear c9b1
             try clear c10
             try clear c10b0
             try clear c11
             try clear c11b0
             try clear c12
             try clear c12b0
             try clear c12b1
             try clear c13
             try clear c13b0
             try clear c14
             try clear c14b0
             try clear c15
             try clear c15b0
             try clear c15b1
             try clear c16
             try clear c16b0
             try clear c16b1
             try clear p17
             try clear q17
             try clear hx17
             try clear qi17
             try clear c18
             try clear c18b0
             try clear p19
             try clear q19
             try clear hx19
             try clear qi19
             try clear c20
             try clear c20b0
             try clear c20b1
             try clear c21
             try clear c21b0
             try clear c22
             try clear c22b0
             try clear c23
             try clear c23b0
             try clear c23b1
             try clear c24
             try clear c24b0
             try clear c24b1
             try clear p25
             try clear q25
             try clear hx25
             try clear qi25
             try clear c26
             try clear c26b0
             try clear c27
             try clear p27
             try clear q27
             try clear hx27
             try clear qi27
             try clear c29
             try clear c29b0
             try clear c30
             try clear c31
             try clear c31b0
             try clear c32
             try clear c32b0
             try clear c33
             try clear c33b0
             try clear c33b1
             try clear c34
             try clear c34b0
             try clear c34b1
             try clear p35
             try clear q35
             try clear hx35
             try clear qi35
             try clear c36
             try clear c36b0
             try clear p37
             try clear q37
             try clear hx37
             try clear qi37
             try clear c38
             try clear c38b0
             try clear c38b1
             try clear c39
             try clear c39b0
             try clear c40
             try clear c40b0
             try clear c41
             try clear c41b0
             try clear c41b1
             try clear c42
             try clear c42b0
             try clear c42b1
             try clear p43
             try clear q43
             try clear hx43
             try clear qi43
             try clear c44
             try clear c44b0
             try clear p45
             try clear q45
             try clear hx45
             try clear qi45
             try clear c47
             try clear c47b0
             try clear p1
             try clear p17
             try clear p19
             try clear p2
             try clear p25
             try clear p27
             try clear p3
             try clear p35
             try clear p37
             try clear p43
             try clear p45
             try clear p5
             try clear q1
             try clear q17
             try clear q19
             try clear q2
             try clear q25
             try clear q27
             try clear q3
             try clear q35
             try clear q37
             try clear q43
             try clear q45
             try clear q5
             obtain ⟨kq, x68_45, rfl, HA, HJ45, ⟨mc45, rfl⟩⟩ := hcut
             cases kq with
             | zero => exact absurd HA.out (by simp [portcullisref01_begins.j2])
             | succ kj45 =>
              have H := HA.out
              clear HA
              simp only [portcullisref01_begins.j2] at H
              by_cases c48 : x68_45 = true
              ·subst c48
               have H1 : (if (bt a0 1) ≥ 128 then (if (bt a0 1) ≤ 191 then (if (a0.size : Int) = 2 then (some true) else (if 2 < (a0.size : Int) then (if (bt a0 2) ≥ 128 then (some (decide ((bt a0 2) ≤ 191))) else (some false)) else (none))) else (some false)) else (some false)) = some r := by rw [if_pos rfl] at H; exact H
               clear H
               have H := H1
               clear H1
               by_cases c49 : (bt a0 1) ≥ 128
               ·rw [if_pos c49] at H
                have c49b0 : decide (128 ≤ (bt a0 1)) = true := decide_eq_true c49
                clear c49
                by_cases c50 : (bt a0 1) ≤ 191
                ·rw [if_pos c50] at H
                 have c50b0 : decide ((bt a0 1) ≤ 191) = true := decide_eq_true c50
                 clear c50
                 by_cases c51 : (a0.size : Int) = 2
                 ·rw [if_pos c51] at H
                  have c51b0 : ((a0.size : Int) == 2) = true := beq_iff_eq.mpr c51
                  have c51b1 : ((a0.size : Int) != 2) = false := bne_eq_false_iff_eq.mpr c51
                  clear c51
                  obtain rfl := Option.some.inj H
                  go_wp2
                  repeat (go_quiet (fail); try go_wp2)
                  go_ret
                  exact ⟨by first | rfl | (simp; done) | (simp [*]; done), by repeat (first | exact Drawn0.refl _ | apply Drawn0.step)⟩
                 ·rw [if_neg c51] at H
                  have c51b0 : ((a0.size : Int) == 2) = false := beq_eq_false_iff_ne.mpr c51
                  have c51b1 : ((a0.size : Int) != 2) = true := bne_iff_ne.mpr c51
                  by_cases c52 : 2 < (a0.size : Int)
                  ·rw [if_pos c52] at H
                   have c52b0 : decide (2 < (a0.size : Int)) = true := decide_eq_true c52
                   have c52b1 : decide (2 < a0.size) = true := decide_eq_true (by omega)
                   clear c52
                   by_cases c54 : (bt a0 2) ≥ 128
                   ·rw [if_pos c54] at H
                    have c54b0 : decide (128 ≤ (bt a0 2)) = true := decide_eq_true c54
                    clear c54
                    obtain rfl := Option.some.inj H
                    have p53 : 0 ≤ (2 : Int) := (by omega)
                    have q53 : 2 < a0.size := (by have : (2 : Int) < (a0.size : Int) := of_decide_eq_true (by first | (with_reducible assumption) | assumption); omega)
                    have hx53 : ∀ h : 2 < a0.size, ((a0[2]'h).toNat : Int) = bt a0 2 := bt_at a0 2
                    clear p53
                    have qi53 : (2 < (a0.size : Int)) = True := eq_true (of_decide_eq_true (by first | (with_reducible assumption) | assumption))
                    replace q53 := eq_true q53
                    have p55 : 0 ≤ (2 : Int) := (by omega)
                    have q55 : 2 < a0.size := (by have : (2 : Int) < (a0.size : Int) := of_decide_eq_true (by first | (with_reducible assumption) | assumption); omega)
                    have hx55 : ∀ h : 2 < a0.size, ((a0[2]'h).toNat : Int) = bt a0 2 := bt_at a0 2
                    clear p55
                    have qi55 : (2 < (a0.size : Int)) = True := eq_true (of_decide_eq_true (by first | (with_reducible assumption) | assumption))
                    replace q55 := eq_true q55
                    go_wp2
                    repeat (go_quiet (fail); try go_wp2)
                    go_ret
                    exact ⟨by first | rfl | (simp; done) | (simp [*]; done), by repeat (first | exact Drawn0.refl _ | apply Drawn0.step)⟩
                   ·rw [if_neg c54] at H
                    have c54b0 : decide (128 ≤ (bt a0 2)) = false := decide_eq_false c54
                    clear c54
                    obtain rfl := Option.some.inj H
                    have p53 : 0 ≤ (2 : Int) := (by omega)
                    have q53 : 2 < a0.size := (by have : (2 : Int) < (a0.size : Int) := of_decide_eq_true (by first | (with_reducible assumption) | assumption); omega)
                    have hx53 : ∀ h : 2 < a0.size, ((a0[2]'h).toNat : Int) = bt a0 2 := bt_at a0 2
                    clear p53
                    have qi53 : (2 < (a0.size : Int)) = True := eq_true (of_decide_eq_true (by first | (with_reducible assumption) | assumption))
                    replace q53 := eq_true q53
                    go_wp2
                    repeat (go_quiet (fail); try go_wp2)
                    go_ret
                    exact ⟨by first | rfl | (simp; done) | (simp [*]; done), by repeat (first | exact Drawn0.refl _ | apply Drawn0.step)⟩
                  ·rw [if_neg c52] at H
                   exact absurd H (by simp)
                ·rw [if_neg c50] at H
                 have c50b0 : decide ((bt a0 1) ≤ 191) = false := decide_eq_false c50
                 clear c50
                 obtain rfl := Option.some.inj H
                 go_wp2
                 repeat (go_quiet (fail); try go_wp2)
                 go_ret
                 exact ⟨by first | rfl | (simp; done) | (simp [*]; done), by repeat (first | exact Drawn0.refl _ | apply Drawn0.step)⟩
               ·rw [if_neg c49] at H
                have c49b0 : decide (128 ≤ (bt a0 1)) = false := decide_eq_false c49
                clear c49
                obtain rfl := Option.some.inj H
                go_wp2
                repeat (go_quiet (fail); try go_wp2)
                go_ret
                exact ⟨by first | rfl | (simp; done) | (simp [*]; done), by repeat (first | exact Drawn0.refl _ | apply Drawn0.step)⟩
              ·replace c48 := Bool.eq_false_iff.mpr c48
               subst c48
               have H1 : (if (bt a0 0) = 244 then (if (bt a0 1) ≥ 128 then (if (bt a0 1) ≤ 143 then (if (a0.size : Int) = 2 then (some true) else (if 2 < (a0.size : Int) then (if (bt a0 2) ≥ 128 then (some (decide ((bt a0 2) ≤ 191))) else (some false)) else (none))) else (some false)) else (some false)) else (if false = true then (if (a0.size : Int) = 2 then (some true) else (if 2 < (a0.size : Int) then (if (bt a0 2) ≥ 128 then (some (decide ((bt a0 2) ≤ 191))) else (some false)) else (none))) else (some false))) = some r := by rw [if_neg (show ¬ (false = true) by decide)] at H; exact H
               clear H
               have H := H1
               clear H1
               by_cases c56 : (bt a0 0) = 244
               ·rw [if_pos c56] at H
                have c56b0 : ((bt a0 0) == 244) = true := beq_iff_eq.mpr c56
                have c56b1 : ((bt a0 0) != 244) = false := bne_eq_false_iff_eq.mpr c56
                clear c56
                by_cases c57 : (bt a0 1) ≥ 128
                ·rw [if_pos c57] at H
                 have c57b0 : decide (128 ≤ (bt a0 1)) = true := decide_eq_true c57
                 clear c57
                 by_cases c58 : (bt a0 1) ≤ 143
                 ·rw [if_pos c58] at H
                  have c58b0 : decide ((bt a0 1) ≤ 143) = true := decide_eq_true c58
                  clear c58
                  by_cases c59 : (a0.size : Int) = 2
                  ·rw [if_pos c59] at H
                   have c59b0 : ((a0.size : Int) == 2) = true := beq_iff_eq.mpr c59
                   have c59b1 : ((a0.size : Int) != 2) = false := bne_eq_false_iff_eq.mpr c59
                   clear c59
                   obtain rfl := Option.some.inj H
                   go_wp2
                   repeat (go_quiet (fail); try go_wp2)
                   go_ret
                   exact ⟨by first | rfl | (simp; done) | (simp [*]; done), by repeat (first | exact Drawn0.refl _ | apply Drawn0.step)⟩
                  ·rw [if_neg c59] at H
                   have c59b0 : ((a0.size : Int) == 2) = false := beq_eq_false_iff_ne.mpr c59
                   have c59b1 : ((a0.size : Int) != 2) = true := bne_iff_ne.mpr c59
                   by_cases c60 : 2 < (a0.size : Int)
                   ·rw [if_pos c60] at H
                    have c60b0 : decide (2 < (a0.size : Int)) = true := decide_eq_true c60
                    have c60b1 : decide (2 < a0.size) = true := decide_eq_true (by omega)
                    clear c60
                    by_cases c62 : (bt a0 2) ≥ 128
                    ·rw [if_pos c62] at H
                     have c62b0 : decide (128 ≤ (bt a0 2)) = true := decide_eq_true c62
                     clear c62
                     obtain rfl := Option.some.inj H
                     have p61 : 0 ≤ (2 : Int) := (by omega)
                     have q61 : 2 < a0.size := (by have : (2 : Int) < (a0.size : Int) := of_decide_eq_true (by first | (with_reducible assumption) | assumption); omega)
                     have hx61 : ∀ h : 2 < a0.size, ((a0[2]'h).toNat : Int) = bt a0 2 := bt_at a0 2
                     clear p61
                     have qi61 : (2 < (a0.size : Int)) = True := eq_true (of_decide_eq_true (by first | (with_reducible assumption) | assumption))
                     replace q61 := eq_true q61
                     have p63 : 0 ≤ (2 : Int) := (by omega)
                     have q63 : 2 < a0.size := (by have : (2 : Int) < (a0.size : Int) := of_decide_eq_true (by first | (with_reducible assumption) | assumption); omega)
                     have hx63 : ∀ h : 2 < a0.size, ((a0[2]'h).toNat : Int) = bt a0 2 := bt_at a0 2
                     clear p63
                     have qi63 : (2 < (a0.size : Int)) = True := eq_true (of_decide_eq_true (by first | (with_reducible assumption) | assumption))
                     replace q63 := eq_true q63
                     go_wp2
                     repeat (go_quiet (fail); try go_wp2)
                     go_ret
                     exact ⟨by first | rfl | (simp; done) | (simp [*]; done), by repeat (first | exact Drawn0.refl _ | apply Drawn0.step)⟩
                    ·rw [if_neg c62] at H
                     have c62b0 : decide (128 ≤ (bt a0 2)) = false := decide_eq_false c62
                     clear c62
                     obtain rfl := Option.some.inj H
                     have p61 : 0 ≤ (2 : Int) := (by omega)
                     have q61 : 2 < a0.size := (by have : (2 : Int) < (a0.size : Int) := of_decide_eq_true (by first | (with_reducible assumption) | assumption); omega)
                     have hx61 : ∀ h : 2 < a0.size, ((a0[2]'h).toNat : Int) = bt a0 2 := bt_at a0 2
                     clear p61
                     have qi61 : (2 < (a0.size : Int)) = True := eq_true (of_decide_eq_true (by first | (with_reducible assumption) | assumption))
                     replace q61 := eq_true q61
                     go_wp2
                     repeat (go_quiet (fail); try go_wp2)
                     go_ret
                     exact ⟨by first | rfl | (simp; done) | (simp [*]; done), by repeat (first | exact Drawn0.refl _ | apply Drawn0.step)⟩
                   ·rw [if_neg c60] at H
                    exact absurd H (by simp)
                 ·rw [if_neg c58] at H
                  have c58b0 : decide ((bt a0 1) ≤ 143) = false := decide_eq_false c58
                  clear c58
                  obtain rfl := Option.some.inj H
                  go_wp2
                  repeat (go_quiet (fail); try go_wp2)
                  go_ret
                  exact ⟨by first | rfl | (simp; done) | (simp [*]; done), by repeat (first | exact Drawn0.refl _ | apply Drawn0.step)⟩
                ·rw [if_neg c57] at H
                 have c57b0 : decide (128 ≤ (bt a0 1)) = false := decide_eq_false c57
                 clear c57
                 obtain rfl := Option.some.inj H
                 go_wp2
                 repeat (go_quiet (fail); try go_wp2)
                 go_ret
                 exact ⟨by first | rfl | (simp; done) | (simp [*]; done), by repeat (first | exact Drawn0.refl _ | apply Drawn0.step)⟩
               ·rw [if_neg c56] at H
                have c56b0 : ((bt a0 0) == 244) = false := beq_eq_false_iff_ne.mpr c56
                have c56b1 : ((bt a0 0) != 244) = true := bne_iff_ne.mpr c56
                by_cases c64 : false = true
                ·exact absurd c64 (by decide)
                ·replace c64 := Bool.eq_false_iff.mpr c64
                 clear c64
                 have H1 : (some false) = some r := by rw [if_neg (show ¬ (false = true) by decide)] at H; exact H
                 clear H
                 have H := H1
                 clear H1
                 obtain rfl := Option.some.inj H
                 go_wp2
                 repeat (go_quiet (fail); try go_wp2)
                 go_ret
                 exact ⟨by first | rfl | (simp; done) | (simp [*]; done), by repeat (first | exact Drawn0.refl _ | apply Drawn0.step)⟩
  ·rw [if_neg c4] at H
   exact absurd H (by simp)
 ·rw [if_neg c2] at H
  exact absurd H (by simp)

end Go.Proofs.YtncbbgmhmofhnaaDoor.Pr
end

section
namespace Go.Proofs.YtncbbgmhmofhnaaDoor.Pr
open Go.RowKit Go.Proofs.YtncbbgmhmofhnaaDoorW.PrintWords Go.Proofs.YtncbbgmhmofhnaaDoorW.PrintLast Go.Proofs.YtncbbgmhmofhnaaDoorW.PrintMore
attribute [local go_sem] max2_int min2_int max_two min_two max_three min_three max_four min_four Instr.field asAgg   -- for this text's walks alone
set_option linter.unusedVariables false
set_option linter.unusedSimpArgs false

mutual
def portcullisref01_Next.l0 : Nat → ByteArray → Int → Option (Int × Int × Bool)
 | 0, _, _ => none
 | k + 1, x0, x5 => if x5 ≤ 4 then (portcullisref01_Next.j1 k x0 x5 (decide (x5 ≤ (x0.size : Int)))) else (portcullisref01_Next.j1 k x0 x5 false)
def portcullisref01_Next.j1 : Nat → ByteArray → Int → Bool → Option (Int × Int × Bool)
 | 0, _, _, _ => none
 | k + 1, x0, x5, x16 => if x16 = true then (if 0 ≤ x5 then (if x5 ≤ (x0.size : Int) then ((portcullisref01_whole.f k (x0.extract 0 (x5 : Int).toNat)).bind fun t359 => (if t359 = true then ((portcullisref01_value.f k (x0.extract 0 (x5 : Int).toNat)).bind fun t360 => (some (t360, x5, true))) else (portcullisref01_Next.l0 k x0 (wrap64 (x5 + 1))))) else (none)) else (none)) else (portcullisref01_Next.l1 k x0 1)
def portcullisref01_Next.l1 : Nat → ByteArray → Int → Option (Int × Int × Bool)
 | 0, _, _ => none
 | k + 1, x0, x6 => if x6 < (x0.size : Int) then (if x6 < 3 then (if 0 ≤ (wrap64 (x6 + 1)) then (if (wrap64 (x6 + 1)) ≤ (x0.size : Int) then ((portcullisref01_begins.f k (x0.extract 0 ((wrap64 (x6 + 1)) : Int).toNat)).bind fun t361 => (if t361 = true then (portcullisref01_Next.l1 k x0 (wrap64 (x6 + 1))) else (some (65533, x6, false)))) else (none)) else (none)) else (some (65533, x6, false))) else (some (65533, x6, false))
end
def portcullisref01_Next.f (k : Nat) (a0 : ByteArray) : Option (Int × Int × Bool) := if a0.toList = ([] : List UInt8) then (some (0, 0, false)) else (portcullisref01_Next.l0 k a0 1)
set_option maxHeartbeats 8000000 in
set_option maxRecDepth 100000 in
theorem portcullisref01_Next.calls (k : Nat) (a0 : ByteArray) (r1 : Int) (r2 : Int) (r3 : Bool) (w : World) (h : portcullisref01_Next.f k a0 = some (r1, r2, r3)) :
  Calls Tryd.prog 37 #[.string a0] w fun e w' => e = .returned (.tuple #[.int .i32 r1, .int .i64 r2, .bool r3]) ∧ Below w.heap.size w w' := by
 have HB := Aside0.mk (Below.refl w.heap.size w)
 have H : (if a0.toList = ([] : List UInt8) then (some (0, 0, false)) else (portcullisref01_Next.l0 k a0 1)) = some (r1, r2, r3) := h
 clear h
 by_cases c2 : a0.toList = ([] : List UInt8)
 ·rw [if_pos c2] at H
  have c2b0 : (a0.toList == ([] : List UInt8)) = true := beq_iff_eq.mpr c2
  have c2b1 : (a0.toList != ([] : List UInt8)) = false := bne_eq_false_iff_eq.mpr c2
  clear c2
  simp only [Option.some.injEq, Prod.mk.injEq] at H
  obtain ⟨rfl, rfl, rfl⟩ := H
  go_enter Tryd.func37, Tryd.ntmps37
  go_wp2
  go_ret3
  exact ⟨by first | rfl | (simp [errW_none, errW_some] <;> rfl) | (simp [*, errW_none, errW_some] <;> rfl), by repeat (first | (with_reducible first | exact HB.out | apply below_alloc | apply pw_below_drewN | apply below_drew1) | exact HB.out)⟩
 ·rw [if_neg c2] at H
  have c2b0 : (a0.toList == ([] : List UInt8)) = false := beq_eq_false_iff_ne.mpr c2
  have c2b1 : (a0.toList != ([] : List UInt8)) = true := bne_iff_ne.mpr c2
  have H' := Aside0.mk H
  clear H
  go_enter Tryd.func37, Tryd.ntmps37
  go_wp2
  go_loopg [5] k (fun kq v5 w' => ∃ (x5_1 : Int), v5 = .int .i64 x5_1 ∧ Aside0 (portcullisref01_Next.l0 kq a0 x5_1 = some (r1, r2, r3)) ∧ Aside0 (kq ≤ k) ∧ Aside0 (Below w.heap.size w w'))
  case atStart => exact ⟨(1), (by first | rfl | (simp; done) | (simp [*]; done)), H', ⟨Nat.le_refl _⟩, ⟨by repeat (first | (with_reducible first | exact HB.out | apply below_alloc | apply pw_below_drewN | apply below_drew1) | exact HB.out)⟩⟩
  case round =>
   clear H'
   try clear c2
   try clear c2b0
   try clear c2b1
   try clear p2
   obtain ⟨x5_1, rfl, HA, HK1, HB⟩ := hrel
   cases gk with
   | zero => exact absurd HA.out (by simp [portcullisref01_Next.l0])
   | succ k1 =>
    have H := HA.out
    clear HA
    simp only [portcullisref01_Next.l0] at H
    have HC3 := Aside0.mk H
    clear H
    go_upto_region 4 with (fail)
    go_cut [16] (fun v16 wc => ∃ (kq : Nat) (x16_2 : Bool), v16 = .bool x16_2 ∧ Aside0 (portcullisref01_Next.j1 kq a0 x5_1 x16_2 = some (r1, r2, r3)) ∧ Aside0 (kq ≤ k1) ∧ Aside0 (Below w.heap.size w wc))
    case first =>
     have H := HC3.out
     clear HC3
     by_cases c4 : x5_1 ≤ 4
     ·rw [if_pos c4] at H
      have c4b0 : decide (x5_1 ≤ 4) = true := decide_eq_true c4
      clear c4
      (first | rw [c4b0] | (simp only [i64_w, i32_w]; rw [c4b0]) | skip)
      have H' := Aside0.mk H
      clear H
      go_wp2
      go_meet
      case rel => exact ⟨_, (decide (x5_1 ≤ (a0.size : Int))), (by first | rfl | (simp; done) | (simp [*]; done)), H', ⟨by have := HK1.out; first | omega | exact Nat.le_refl _⟩, ⟨by repeat (first | (with_reducible first | exact HB.out | apply below_alloc | apply pw_below_drewN | apply below_drew1) | exact HB.out)⟩⟩
     ·rw [if_neg c4] at H
      have c4b0 : decide (x5_1 ≤ 4) = false := decide_eq_false c4
      clear c4
      (first | rw [c4b0] | (simp only [i64_w, i32_w]; rw [c4b0]) | skip)
      have H' := Aside0.mk H
      clear H
      go_wp2
      go_meet
      case rel => exact ⟨_, (false), (by first | rfl | (simp; done) | (simp [*]; done)), H', ⟨by have := HK1.out; first | omega | exact Nat.le_refl _⟩, ⟨by repeat (first | (with_reducible first | exact HB.out | apply below_alloc | apply pw_below_drewN | apply below_drew1) | exact HB.out)⟩⟩
    case rest =>
     clear HC3
     try clear c2
     try clear c2b0
     try clear c2b1
     try clear p2
     try clear c3
     try clear c4
     try clear c4b0
     try clear p2
     obtain ⟨kq, x16_2, rfl, HA, HJ2, HB⟩ := hcut
     cases kq with
     | zero => exact absurd HA.out (by simp [portcullisref01_Next.j1])
     | succ kj2 =>
      have H := HA.out
      clear HA
      simp only [portcullisref01_Next.j1] at H
      by_cases c5 : x16_2 = true
      ·subst c5
       have H1 : (if 0 ≤ x5_1 then (if x5_1 ≤ (a0.size : Int) then ((portcullisref01_whole.f kj2 (a0.extract 0 (x5_1 : Int).toNat)).bind fun t359 => (if t359 = true then ((portcullisref01_value.f kj2 (a0.extract 0 (x5_1 : Int).toNat)).bind fun t360 => (some (t360, x5_1, true))) else (portcullisref01_Next.l0 kj2 a0 (wrap64 (x5_1 + 1))))) else (none)) else (none)) = some (r1, r2, r3) := by rw [if_pos rfl] at H; exact H
       clear H
       have H := H1
       clear H1
       by_cases c6 : 0 ≤ x5_1
       ·rw [if_pos c6] at H
        have c6b0 := eq_true c6
        have c6b1 : decide (0 ≤ x5_1) = true := decide_eq_true c6
        clear c6
        by_cases c7 : x5_1 ≤ (a0.size : Int)
        ·rw [if_pos c7] at H
         have c7b0 := eq_true c7
         have c7b1 : decide (x5_1 ≤ (a0.size : Int)) = true := decide_eq_true c7
         clear c7
         replace H := Option.bind_eq_some_iff.mp H
         obtain ⟨t359, A80, H⟩ := H
         replace H : (if t359 = true then ((portcullisref01_value.f kj2 (a0.extract 0 (x5_1 : Int).toNat)).bind fun t360 => (some (t360, x5_1, true))) else (portcullisref01_Next.l0 kj2 a0 (wrap64 (x5_1 + 1)))) = some (r1, r2, r3) := H
         have A8 := Aside0.mk A80
         clear A80
         by_cases c9 : t359 = true
         ·subst c9
          have H1 : ((portcullisref01_value.f kj2 (a0.extract 0 (x5_1 : Int).toNat)).bind fun t360 => (some (t360, x5_1, true))) = some (r1, r2, r3) := by rw [if_pos rfl] at H; exact H
          clear H
          have H := H1
          clear H1
          have c10b0 := eq_true (of_decide_eq_true (by first | (with_reducible assumption) | assumption) : 0 ≤ x5_1)
          have c11b0 := eq_true (of_decide_eq_true (by first | (with_reducible assumption) | assumption) : x5_1 ≤ (a0.size : Int))
          replace H := Option.bind_eq_some_iff.mp H
          obtain ⟨t360, A120, H⟩ := H
          replace H : (some (t360, x5_1, true)) = some (r1, r2, r3) := H
          have A12 := Aside0.mk A120
          clear A120
          simp only [Option.some.injEq, Prod.mk.injEq] at H
          obtain ⟨rfl, rfl, rfl⟩ := H
          go_wp2_with (first | ((with_reducible refine gate_callee (f := 54) rfl ?_); refine goesL_ (some 22) rfl rfl Tryd.func54 (by kernel_rfl) rfl #[.string (a0.extract 0 (x5_1 : Int).toNat)] rfl (by (try simp only [List.map_toArray, List.map_cons, List.map_nil]); first | done | rfl | (simp only [List.length_drop, List.length_take]; rfl)) ?_; (with_reducible refine (portcullisref01_whole.calls kj2 (a0.extract 0 (x5_1 : Int).toNat) true _ A8.out).mono ?_); rintro e w13 ⟨rfl, hb⟩; refine ⟨_, rfl, ?_⟩; have n0_ := Aside0.mk (below_step (by repeat (first | (with_reducible first | exact HB.out | apply below_alloc | apply pw_below_drewN | apply below_drew1) | exact HB.out)) hb); clear HB; have HB := n0_; clear n0_; (try clear hb); (try clear hb2); (try clear hk); (try clear hi)) | ((with_reducible refine gate_callee (f := 55) rfl ?_); refine goesL_ (some 26) rfl rfl Tryd.func55 (by kernel_rfl) rfl #[.string (a0.extract 0 (x5_1 : Int).toNat)] rfl (by (try simp only [List.map_toArray, List.map_cons, List.map_nil]); first | done | rfl | (simp only [List.length_drop, List.length_take]; rfl)) ?_; (with_reducible refine (portcullisref01_value.calls kj2 (a0.extract 0 (x5_1 : Int).toNat) t360 _ A12.out).mono ?_); rintro e w' ⟨rfl, ⟨nd, rfl⟩⟩; refine ⟨_, rfl, ?_⟩))
          go_ret3
          exact ⟨by first | rfl | (simp [errW_none, errW_some] <;> rfl) | (simp [*, errW_none, errW_some] <;> rfl), by repeat (first | (with_reducible first | exact HB.out | apply below_alloc | apply pw_below_drewN | apply below_drew1) | exact HB.out)⟩
         ·replace c9 := Bool.eq_false_iff.mpr c9
          subst c9
          have H1 : (portcullisref01_Next.l0 kj2 a0 (wrap64 (x5_1 + 1))) = some (r1, r2, r3) := by rw [if_neg (show ¬ (false = true) by decide)] at H; exact H
          clear H
          have H := H1
          clear H1
          have H' := Aside0.mk H
          clear H
          go_wp2_with (first | ((with_reducible refine gate_callee (f := 54) rfl ?_); refine goesL_ (some 22) rfl rfl Tryd.func54 (by kernel_rfl) rfl #[.string (a0.extract 0 (x5_1 : Int).toNat)] rfl (by (try simp only [List.map_toArray, List.map_cons, List.map_nil]); first | done | rfl | (simp only [List.length_drop, List.length_take]; rfl)) ?_; (with_reducible refine (portcullisref01_whole.calls kj2 (a0.extract 0 (x5_1 : Int).toNat) false _ A8.out).mono ?_); rintro e w14 ⟨rfl, hb⟩; refine ⟨_, rfl, ?_⟩; have n0_ := Aside0.mk (below_step (by repeat (first | (with_reducible first | exact HB.out | apply below_alloc | apply pw_below_drewN | apply below_drew1) | exact HB.out)) hb); clear HB; have HB := n0_; clear n0_; (try clear hb); (try clear hb2); (try clear hk); (try clear hi)))
          go_roundg kj2
          case measure => have := HK1.out; have := HJ2.out; omega
          case rel => exact ⟨(wrap64 (x5_1 + 1)), (by first | rfl | (simp; done) | (simp [*]; done)), H', ⟨by have := HK1.out; have := HJ2.out; omega⟩, ⟨by repeat (first | (with_reducible first | exact HB.out | apply below_alloc | apply pw_below_drewN | apply below_drew1) | exact HB.out)⟩⟩
        ·rw [if_neg c7] at H
         exact absurd H (by simp)
       ·rw [if_neg c6] at H
        exact absurd H (by simp)
      ·replace c5 := Bool.eq_false_iff.mpr c5
       subst c5
       have H1 : (portcullisref01_Next.l1 kj2 a0 1) = some (r1, r2, r3) := by rw [if_neg (show ¬ (false = true) by decide)] at H; exact H
       clear H
       have H := H1
       clear H1
       have H' := Aside0.mk H
       clear H
       go_wp2
       go_loopg [6] kj2 (fun kq v6 w' => ∃ (x6_3 : Int), v6 = .int .i64 x6_3 ∧ Aside0 (portcullisref01_Next.l1 kq a0 x6_3 = some (r1, r2, r3)) ∧ Aside0 (kq ≤ kj2) ∧ Aside0 (Below w.heap.size w w'))
       case atStart => exact ⟨(1), (by first | rfl | (simp; done) | (simp [*]; done)), H', ⟨Nat.le_refl _⟩, ⟨by repeat (first | (with_reducible first | exact HB.out | apply below_alloc | apply pw_below_drewN | apply below_drew1) | exact HB.out)⟩⟩
       case round =>
        clear H'
        try clear c1
        try clear c2
        try clear c2b0
        try clear c2b1
        try clear p2
        try clear c3
        try clear c4
        try clear c4b0
        try clear c5
        try clear c6
        try clear c6b0
        try clear c6b1
        try clear p6
        try clear c7
        try clear c7b0
        try clear c7b1
        try clear c9
        try clear c10
        try clear c10b0
        try clear c11
        try clear c11b0
        try clear p2
        obtain ⟨x6_3, rfl, HA, HK3, HB⟩ := hrel
        cases gk with
        | zero => exact absurd HA.out (by simp [portcullisref01_Next.l1])
        | succ k3 =>
         have H := HA.out
         clear HA
         simp only [portcullisref01_Next.l1] at H
         by_cases c15 : x6_3 < (a0.size : Int)
         ·rw [if_pos c15] at H
          have c15b0 : decide (x6_3 < (a0.size : Int)) = true := decide_eq_true c15
          clear c15
          by_cases c16 : x6_3 < 3
          ·rw [if_pos c16] at H
           have c16b0 : decide (x6_3 < 3) = true := decide_eq_true c16
           clear c16
           obtain ⟨ji17, hji17⟩ : ∃ j_ : Int, (wrap64 (x6_3 + 1)) = j_ := ⟨_, rfl⟩
           replace H : (if 0 ≤ (ji17) then (if (ji17) ≤ (a0.size : Int) then ((portcullisref01_begins.f k3 (a0.extract 0 ((ji17) : Int).toNat)).bind fun t361 => (if t361 = true then (portcullisref01_Next.l1 k3 a0 ji17) else (some (65533, x6_3, false)))) else (none)) else (none)) = some (r1, r2, r3) := by first | (rw [hji17] at H; exact H) | (simp only [hji17] at H ⊢; exact H)
           have hji17w : (IntKind.i64.wrap (x6_3 + 1)) = ji17 := (i64_w _).trans hji17
           by_cases c18 : 0 ≤ (ji17)
           ·rw [if_pos c18] at H
            have c18b0 := eq_true c18
            have c18b1 : decide (0 ≤ (ji17)) = true := decide_eq_true c18
            clear c18
            by_cases c19 : (ji17) ≤ (a0.size : Int)
            ·rw [if_pos c19] at H
             have c19b0 := eq_true c19
             have c19b1 : decide ((ji17) ≤ (a0.size : Int)) = true := decide_eq_true c19
             clear c19
             replace H := Option.bind_eq_some_iff.mp H
             obtain ⟨t361, A200, H⟩ := H
             replace H : (if t361 = true then (portcullisref01_Next.l1 k3 a0 ji17) else (some (65533, x6_3, false))) = some (r1, r2, r3) := H
             have A20 := Aside0.mk A200
             clear A200
             by_cases c21 : t361 = true
             ·subst c21
              have H1 : (portcullisref01_Next.l1 k3 a0 ji17) = some (r1, r2, r3) := by rw [if_pos rfl] at H; exact H
              clear H
              have H := H1
              clear H1
              have H' := Aside0.mk H
              clear H
              go_wp2_with (first | (go_at_call 56; (with_reducible refine (portcullisref01_begins.calls k3 (a0.extract 0 ((ji17) : Int).toNat) true _ A20.out).mono ?_); rintro e w' ⟨rfl, ⟨nd, rfl⟩⟩))
              go_roundg k3
              case measure => have := HK1.out; have := HJ2.out; have := HK3.out; omega
              case rel => exact ⟨(ji17), (by first | rfl | (simp; done) | (simp only [← hji17] <;> (first | rfl | exact congrArg Value.bool (nE_ne _) | (simp; done))) | (simp [*]; done)), H', ⟨by have := HK1.out; have := HJ2.out; have := HK3.out; omega⟩, ⟨by repeat (first | (with_reducible first | exact HB.out | apply below_alloc | apply pw_below_drewN | apply below_drew1) | exact HB.out)⟩⟩
             ·replace c21 := Bool.eq_false_iff.mpr c21
              subst c21
              have H1 : (some (65533, x6_3, false)) = some (r1, r2, r3) := by rw [if_neg (show ¬ (false = true) by decide)] at H; exact H
              clear H
              have H := H1
              clear H1
              simp only [Option.some.injEq, Prod.mk.injEq] at H
              obtain ⟨rfl, rfl, rfl⟩ := H
              go_wp2_with (first | (go_at_call 56; (with_reducible refine (portcullisref01_begins.calls k3 (a0.extract 0 ((ji17) : Int).toNat) false _ A20.out).mono ?_); rintro e w' ⟨rfl, ⟨nd, rfl⟩⟩))
              go_ret3
              exact ⟨by first | rfl | (simp [errW_none, errW_some] <;> rfl) | (simp only [← hji17]; first | rfl | (simp [errW_none, errW_some] <;> rfl)) | (simp [*, errW_none, errW_some] <;> rfl), by repeat (first | (with_reducible first | exact HB.out | apply below_alloc | apply pw_below_drewN | apply below_drew1) | exact HB.out)⟩
            ·rw [if_neg c19] at H
             exact absurd H (by simp)
           ·rw [if_neg c18] at H
            exact absurd H (by simp)
          ·rw [if_neg c16] at H
           have c16b0 : decide (x6_3 < 3) = false := decide_eq_false c16
           clear c16
           simp only [Option.some.injEq, Prod.mk.injEq] at H
           obtain ⟨rfl, rfl, rfl⟩ := H
           go_wp2
           go_ret3
           exact ⟨by first | rfl | (simp [errW_none, errW_some] <;> rfl) | (simp [*, errW_none, errW_some] <;> rfl), by repeat (first | (with_reducible first | exact HB.out | apply below_alloc | apply pw_below_drewN | apply below_drew1) | exact HB.out)⟩
         ·rw [if_neg c15] at H
          have c15b0 : decide (x6_3 < (a0.size : Int)) = false := decide_eq_false c15
          clear c15
          simp only [Option.some.injEq, Prod.mk.injEq] at H
          obtain ⟨rfl, rfl, rfl⟩ := H
          go_wp2
          go_ret3
          exact ⟨by first | rfl | (simp [errW_none, errW_some] <;> rfl) | (simp [*, errW_none, errW_some] <;> rfl), by repeat (first | (with_reducible first | exact HB.out | apply below_alloc | apply pw_below_drewN | apply below_drew1) | exact HB.out)⟩

def portcullisref03_Like.f (a0 : Int) : Option (List Int) := if a0 = 48 then (some (([111] : List Int))) else (if a0 = 49 then (some (([108] : List Int))) else (if a0 = 109 then (some (([114, 110] : List Int))) else (if a0 = 945 then (some (([97] : List Int))) else (if a0 = 957 then (some (([118] : List Int))) else (if a0 = 959 then (some (([111] : List Int))) else (if a0 = 961 then (some (([112] : List Int))) else (if a0 = 1072 then (some (([97] : List Int))) else (if a0 = 1077 then (some (([101] : List Int))) else (if a0 = 1086 then (some (([111] : List Int))) else (if a0 = 1088 then (some (([112] : List Int))) else (if a0 = 1089 then (some (([99] : List Int))) else (if a0 = 1091 then (some (([121] : List Int))) else (if a0 = 1093 then (some (([120] : List Int))) else (if a0 = 1109 then (some (([115] : List Int))) else (if a0 = 1110 then (some (([105] : List Int))) else (if a0 = 1112 then (some (([106] : List Int))) else (if a0 = 1505 then (some (([111] : List Int))) else (if a0 = 1575 then (some (([108] : List Int))) else (if a0 = 12540 then (some (([19968] : List Int))) else (some (([a0] : List Int))))))))))))))))))))))
end Go.Proofs.YtncbbgmhmofhnaaDoor.Pr
end

section
namespace Go.Proofs.YtncbbgmhmofhnaaDoor.Pr
open Go.RowKit Go.Proofs.YtncbbgmhmofhnaaDoorW.PrintWords Go.Proofs.YtncbbgmhmofhnaaDoorW.PrintLast Go.Proofs.YtncbbgmhmofhnaaDoorW.PrintMore
attribute [local go_sem] max2_int min2_int max_two min_two max_three min_three max_four min_four Instr.field asAgg   -- for this text's walks alone
set_option linter.unusedVariables false
set_option linter.unusedSimpArgs false

end Go.Proofs.YtncbbgmhmofhnaaDoor.Pr
end

section
namespace Go.Proofs.YtncbbgmhmofhnaaDoor.Pr
open Go.RowKit Go.Proofs.YtncbbgmhmofhnaaDoorW.PrintWords Go.Proofs.YtncbbgmhmofhnaaDoorW.PrintLast Go.Proofs.YtncbbgmhmofhnaaDoorW.PrintMore
attribute [local go_sem] max2_int min2_int max_two min_two max_three min_three max_four min_four Instr.field asAgg   -- for this text's walks alone
set_option linter.unusedVariables false
set_option linter.unusedSimpArgs false

end Go.Proofs.YtncbbgmhmofhnaaDoor.Pr
end

section
namespace Go.Proofs.YtncbbgmhmofhnaaDoor.Pr
open Go.RowKit Go.Proofs.YtncbbgmhmofhnaaDoorW.PrintWords Go.Proofs.YtncbbgmhmofhnaaDoorW.PrintLast Go.Proofs.YtncbbgmhmofhnaaDoorW.PrintMore
attribute [local go_sem] max2_int min2_int max_two min_two max_three min_three max_four min_four Instr.field asAgg   -- for this text's walks alone
set_option linter.unusedVariables false
set_option linter.unusedSimpArgs false

end Go.Proofs.YtncbbgmhmofhnaaDoor.Pr
end

section
namespace Go.Proofs.YtncbbgmhmofhnaaDoor.Pr
open Go.RowKit Go.Proofs.YtncbbgmhmofhnaaDoorW.PrintWords Go.Proofs.YtncbbgmhmofhnaaDoorW.PrintLast Go.Proofs.YtncbbgmhmofhnaaDoorW.PrintMore
attribute [local go_sem] max2_int min2_int max_two min_two max_three min_three max_four min_four Instr.field asAgg   -- for this text's walks alone
set_option linter.unusedVariables false
set_option linter.unusedSimpArgs false

end Go.Proofs.YtncbbgmhmofhnaaDoor.Pr
end

section
namespace Go.Proofs.YtncbbgmhmofhnaaDoor.Pr
open Go.RowKit Go.Proofs.YtncbbgmhmofhnaaDoorW.PrintWords Go.Proofs.YtncbbgmhmofhnaaDoorW.PrintLast Go.Proofs.YtncbbgmhmofhnaaDoorW.PrintMore
attribute [local go_sem] max2_int min2_int max_two min_two max_three min_three max_four min_four Instr.field asAgg   -- for this text's walks alone
set_option linter.unusedVariables false
set_option linter.unusedSimpArgs false

def portcullisref01_Valid.l0 : Nat → ByteArray → Option (Bool)
 | 0, _ => none
 | k + 1, x0 => if x0.toList = ([] : List UInt8) then (some true) else ((portcullisref01_Next.f k x0).bind fun bt542 => (if bt542.2.2 = true then (if 0 ≤ bt542.2.1 then (if bt542.2.1 ≤ (x0.size : Int) then (portcullisref01_Valid.l0 k (x0.extract (bt542.2.1 : Int).toNat x0.size)) else (none)) else (none)) else (some false)))
def portcullisref01_Valid.f (k : Nat) (a0 : ByteArray) : Option (Bool) := portcullisref01_Valid.l0 k a0
set_option maxHeartbeats 8000000 in
set_option maxRecDepth 100000 in
theorem portcullisref01_Valid.calls (k : Nat) (a0 : ByteArray) (r : Bool) (w : World) (h : portcullisref01_Valid.f k a0 = some r) :
  Calls Tryd.prog 20 #[.string a0] w fun e w' => e = .returned (.bool r) ∧ Below w.heap.size w w' := by
 have HB := Aside0.mk (Below.refl w.heap.size w)
 have H : (portcullisref01_Valid.l0 k a0) = some r := h
 clear h
 have H' := Aside0.mk H
 clear H
 go_enter Tryd.func20, Tryd.ntmps20
 go_wp2
 go_loopg [0] k (fun kq v0 w' => ∃ (x0_1 : ByteArray), v0 = .string x0_1 ∧ Aside0 (portcullisref01_Valid.l0 kq x0_1 = some r) ∧ Aside0 (kq ≤ k) ∧ Aside0 (Below w.heap.size w w'))
 case atStart => exact ⟨(a0), (by first | rfl | (simp; done) | (simp [*]; done)), H', ⟨Nat.le_refl _⟩, ⟨by repeat (first | (with_reducible first | exact HB.out | apply below_alloc | apply pw_below_drewN | apply below_drew1) | exact HB.out)⟩⟩
 case round =>
  clear H'
  obtain ⟨x0_1, rfl, HA, HK1, HB⟩ := hrel
  cases gk with
  | zero => exact absurd HA.out (by simp [portcullisref01_Valid.l0])
  | succ k1 =>
   have H := HA.out
   clear HA
   simp only [portcullisref01_Valid.l0] at H
   by_cases c2 : x0_1.toList = ([] : List UInt8)
   ·rw [if_pos c2] at H
    have c2b0 : (x0_1.toList == ([] : List UInt8)) = true := beq_iff_eq.mpr c2
    have c2b1 : (x0_1.toList != ([] : List UInt8)) = false := bne_eq_false_iff_eq.mpr c2
    clear c2
    obtain rfl := Option.some.inj H
    go_wp2
    go_ret
    exact ⟨by first | rfl | (simp [errW_none, errW_some] <;> rfl) | (simp [*, errW_none, errW_some] <;> rfl), by repeat (first | (with_reducible first | exact HB.out | apply below_alloc | apply pw_below_drewN | apply below_drew1) | exact HB.out)⟩
   ·rw [if_neg c2] at H
    have c2b0 : (x0_1.toList == ([] : List UInt8)) = false := beq_eq_false_iff_ne.mpr c2
    have c2b1 : (x0_1.toList != ([] : List UInt8)) = true := bne_iff_ne.mpr c2
    replace H := Option.bind_eq_some_iff.mp H
    obtain ⟨⟨t542, t543, t544⟩, A30, H⟩ := H
    replace H : (if t544 = true then (if 0 ≤ t543 then (if t543 ≤ (x0_1.size : Int) then (portcullisref01_Valid.l0 k1 (x0_1.extract (t543 : Int).toNat x0_1.size)) else (none)) else (none)) else (some false)) = some r := H
    have A3 := Aside0.mk A30
    clear A30
    by_cases c4 : t544 = true
    ·subst c4
     have H1 : (if 0 ≤ t543 then (if t543 ≤ (x0_1.size : Int) then (portcullisref01_Valid.l0 k1 (x0_1.extract (t543 : Int).toNat x0_1.size)) else (none)) else (none)) = some r := by rw [if_pos rfl] at H; exact H
     clear H
     have H := H1
     clear H1
     by_cases c5 : 0 ≤ t543
     ·rw [if_pos c5] at H
      have c5b0 := eq_true c5
      have c5b1 : decide (0 ≤ t543) = true := decide_eq_true c5
      clear c5
      by_cases c6 : t543 ≤ (x0_1.size : Int)
      ·rw [if_pos c6] at H
       have c6b0 := eq_true c6
       have c6b1 : decide (t543 ≤ (x0_1.size : Int)) = true := decide_eq_true c6
       clear c6
       have H' := Aside0.mk H
       clear H
       go_wp2_with (first | ((with_reducible refine gate_callee (f := 37) rfl ?_); refine goesL_ (some 10) rfl rfl Tryd.func37 (by kernel_rfl) rfl #[.string x0_1] rfl (by (try simp only [List.map_toArray, List.map_cons, List.map_nil]); first | done | rfl | (simp only [List.length_drop, List.length_take]; rfl)) ?_; (with_reducible refine (portcullisref01_Next.calls k1 x0_1 t542 t543 true _ A3.out).mono ?_); rintro e w7 ⟨rfl, hb⟩; refine ⟨_, rfl, ?_⟩; have n0_ := Aside0.mk (below_step (by repeat (first | (with_reducible first | exact HB.out | apply below_alloc | apply pw_below_drewN | apply below_drew1) | exact HB.out)) hb); clear HB; have HB := n0_; clear n0_; (try clear hb); (try clear hb2); (try clear hk); (try clear hi)))
       go_roundg k1
       case measure => have := HK1.out; omega
       case rel => exact ⟨(x0_1.extract (t543 : Int).toNat x0_1.size), (by first | rfl | (simp; done) | (simp [*]; done)), H', ⟨by have := HK1.out; omega⟩, ⟨by repeat (first | (with_reducible first | exact HB.out | apply below_alloc | apply pw_below_drewN | apply below_drew1) | exact HB.out)⟩⟩
      ·rw [if_neg c6] at H
       exact absurd H (by simp)
     ·rw [if_neg c5] at H
      exact absurd H (by simp)
    ·replace c4 := Bool.eq_false_iff.mpr c4
     subst c4
     have H1 : (some false) = some r := by rw [if_neg (show ¬ (false = true) by decide)] at H; exact H
     clear H
     have H := H1
     clear H1
     obtain rfl := Option.some.inj H
     go_wp2_with (first | ((with_reducible refine gate_callee (f := 37) rfl ?_); refine goesL_ (some 10) rfl rfl Tryd.func37 (by kernel_rfl) rfl #[.string x0_1] rfl (by (try simp only [List.map_toArray, List.map_cons, List.map_nil]); first | done | rfl | (simp only [List.length_drop, List.length_take]; rfl)) ?_; (with_reducible refine (portcullisref01_Next.calls k1 x0_1 t542 t543 false _ A3.out).mono ?_); rintro e w8 ⟨rfl, hb⟩; refine ⟨_, rfl, ?_⟩; have n0_ := Aside0.mk (below_step (by repeat (first | (with_reducible first | exact HB.out | apply below_alloc | apply pw_below_drewN | apply below_drew1) | exact HB.out)) hb); clear HB; have HB := n0_; clear n0_; (try clear hb); (try clear hb2); (try clear hk); (try clear hi)))
     go_ret
     exact ⟨by first | rfl | (simp [errW_none, errW_some] <;> rfl) | (simp [*, errW_none, errW_some] <;> rfl), by repeat (first | (with_reducible first | exact HB.out | apply below_alloc | apply pw_below_drewN | apply below_drew1) | exact HB.out)⟩

mutual
def utf_room.j2 : Nat → Int → Int → Int → Option (Int × Int × Int)
 | 0, _, _, _ => none
 | k + 1, x0, x2, x3 => if x0 = 237 then (some (x2, 159, 3)) else (some (x2, x3, 3))
def utf_room.j0 : Nat → Int → Int → Int → Bool → Option (Int × Int × Int)
 | 0, _, _, _, _ => none
 | k + 1, x0, x2, x3, x8 => if x8 = true then (some (x2, x3, 2)) else (if x0 = 224 then (utf_room.j2 k x0 160 x3) else (if x0 ≥ 225 then (utf_room.j1 k x0 x2 x3 (decide (x0 ≤ 239))) else (utf_room.j1 k x0 x2 x3 false)))
def utf_room.j1 : Nat → Int → Int → Int → Bool → Option (Int × Int × Int)
 | 0, _, _, _, _ => none
 | k + 1, x0, x2, x3, x18 => if x18 = true then (utf_room.j2 k x0 x2 x3) else (if x0 = 240 then (if x0 = 244 then (some (144, 143, 4)) else (some (144, x3, 4))) else (if x0 ≥ 241 then (if x0 ≤ 244 then (if x0 = 244 then (some (x2, 143, 4)) else (some (x2, x3, 4))) else (some (0, 0, 0))) else (some (0, 0, 0))))
end
def utf_room.f (k : Nat) (a0 : Int) : Option (Int × Int × Int) := if a0 < 128 then (some (0, 0, 1)) else (if a0 ≥ 194 then (utf_room.j0 k a0 128 191 (decide (a0 ≤ 223))) else (utf_room.j0 k a0 128 191 false))
set_option maxHeartbeats 8000000 in
set_option maxRecDepth 100000 in
theorem utf_room.calls (k : Nat) (a0 : Int) (r1 : Int) (r2 : Int) (r3 : Int) (w : World) (h : utf_room.f k a0 = some (r1, r2, r3)) :
  Calls Tryd.prog 77 #[.int .u8 a0] w fun e w' => e = .returned (.tuple #[.int .u8 r1, .int .u8 r2, .int .i64 r3]) ∧ Drawn0 w w' := by
 have H : (if a0 < 128 then (some (0, 0, 1)) else (if a0 ≥ 194 then (utf_room.j0 k a0 128 191 (decide (a0 ≤ 223))) else (utf_room.j0 k a0 128 191 false))) = some (r1, r2, r3) := h
 clear h
 have HC2 := Aside0.mk H
 clear H
 go_enter Tryd.func77, Tryd.ntmps77
 go_upto_block 4 with (fail)
 go_cut [2, 3] (fun v2 v3 wc => ∃ (kq : Nat) (x2_1 : Int) (x3_1 : Int), v2 = .int .u8 x2_1 ∧ v3 = .int .u8 x3_1 ∧ Aside0 (utf_room.j2 kq a0 x2_1 x3_1 = some (r1, r2, r3)) ∧ Aside0 (kq ≤ k) ∧ Drawn0 w wc)
 case first =>
  have H := HC2.out
  clear HC2
  by_cases c3 : a0 < 128
  ·rw [if_pos c3] at H
   have c3b0 : decide (a0 < 128) = true := decide_eq_true c3
   clear c3
   (first | rw [c3b0] | (simp only [i64_w, i32_w]; rw [c3b0]) | skip)
   simp only [Option.some.injEq, Prod.mk.injEq] at H
   obtain ⟨rfl, rfl, rfl⟩ := H
   go_wp2
   go_ret3
   exact ⟨by first | rfl | (simp; done) | (simp [*]; done), by repeat (first | exact Drawn0.refl _ | apply Drawn0.step)⟩
  ·rw [if_neg c3] at H
   have c3b0 : decide (a0 < 128) = false := decide_eq_false c3
   clear c3
   (first | rw [c3b0] | (simp only [i64_w, i32_w]; rw [c3b0]) | skip)
   have HC4 := Aside0.mk H
   clear H
   go_upto_region 3 with (fail)
   go_cut [8] (fun v8 wc => ∃ (kq : Nat) (x8_3 : Bool), v8 = .bool x8_3 ∧ Aside0 (utf_room.j0 kq a0 128 191 x8_3 = some (r1, r2, r3)) ∧ Aside0 (kq ≤ k) ∧ Drawn0 w wc)
   case first =>
    have H := HC4.out
    clear HC4
    by_cases c5 : a0 ≥ 194
    ·rw [if_pos c5] at H
     have c5b0 : decide (194 ≤ a0) = true := decide_eq_true c5
     clear c5
     (first | rw [c5b0] | (simp only [i64_w, i32_w]; rw [c5b0]) | skip)
     have H' := Aside0.mk H
     clear H
     go_wp2
     go_meet
     case rel => exact ⟨_, (decide (a0 ≤ 223)), (by first | rfl | (simp; done) | (simp [*]; done)), H', ⟨by first | omega | exact Nat.le_refl _⟩, by repeat (first | exact Drawn0.refl _ | apply Drawn0.step)⟩
    ·rw [if_neg c5] at H
     have c5b0 : decide (194 ≤ a0) = false := decide_eq_false c5
     clear c5
     (first | rw [c5b0] | (simp only [i64_w, i32_w]; rw [c5b0]) | skip)
     have H' := Aside0.mk H
     clear H
     go_wp2
     go_meet
     case rel => exact ⟨_, (false), (by first | rfl | (simp; done) | (simp [*]; done)), H', ⟨by first | omega | exact Nat.le_refl _⟩, by repeat (first | exact Drawn0.refl _ | apply Drawn0.step)⟩
   case rest =>
    clear HC4
    try clear p2
    try clear c3
    try clear c3b0
    try clear c5
    try clear c5b0
    obtain ⟨kq, x8_3, rfl, HA, HJ3, ⟨mc3, rfl⟩⟩ := hcut
    cases kq with
    | zero => exact absurd HA.out (by simp [utf_room.j0])
    | succ kj3 =>
     have H := HA.out
     clear HA
     simp only [utf_room.j0] at H
     by_cases c6 : x8_3 = true
     ·subst c6
      have H1 : (some (128, 191, 2)) = some (r1, r2, r3) := by rw [if_pos rfl] at H; exact H
      clear H
      have H := H1
      clear H1
      simp only [Option.some.injEq, Prod.mk.injEq] at H
      obtain ⟨rfl, rfl, rfl⟩ := H
      go_wp2
      go_ret3
      exact ⟨by first | rfl | (simp; done) | (simp [*]; done), by repeat (first | exact Drawn0.refl _ | apply Drawn0.step)⟩
     ·replace c6 := Bool.eq_false_iff.mpr c6
      subst c6
      have H1 : (if a0 = 224 then (utf_room.j2 kj3 a0 160 191) else (if a0 ≥ 225 then (utf_room.j1 kj3 a0 128 191 (decide (a0 ≤ 239))) else (utf_room.j1 kj3 a0 128 191 false))) = some (r1, r2, r3) := by rw [if_neg (show ¬ (false = true) by decide)] at H; exact H
      clear H
      have H := H1
      clear H1
      by_cases c7 : a0 = 224
      ·rw [if_pos c7] at H
       have c7b0 : (a0 == 224) = true := beq_iff_eq.mpr c7
       have c7b1 : (a0 != 224) = false := bne_eq_false_iff_eq.mpr c7
       clear c7
       have H' := Aside0.mk H
       clear H
       go_wp2
       go_meet
       case rel => exact ⟨_, (160), (191), (by first | rfl | (simp; done) | (simp [*]; done)), (by first | rfl | (simp; done) | (simp [*]; done)), H', ⟨by have := HJ3.out; first | omega | exact Nat.le_refl _⟩, by repeat (first | exact Drawn0.refl _ | apply Drawn0.step)⟩
      ·rw [if_neg c7] at H
       have c7b0 : (a0 == 224) = false := beq_eq_false_iff_ne.mpr c7
       have c7b1 : (a0 != 224) = true := bne_iff_ne.mpr c7
       have HC8 := Aside0.mk H
       clear H
       go_upto_region 5 with (fail)
       go_cut [18] (fun v18 wc => ∃ (kq : Nat) (x18_7 : Bool), v18 = .bool x18_7 ∧ Aside0 (utf_room.j1 kq a0 128 191 x18_7 = some (r1, r2, r3)) ∧ Aside0 (kq ≤ kj3) ∧ Drawn0 w wc)
       case first =>
        have H := HC8.out
        clear HC8
        by_cases c9 : a0 ≥ 225
        ·rw [if_pos c9] at H
         have c9b0 : decide (225 ≤ a0) = true := decide_eq_true c9
         clear c9
         (first | rw [c9b0] | (simp only [i64_w, i32_w]; rw [c9b0]) | skip)
         have H' := Aside0.mk H
         clear H
         go_wp2
         go_meet
         case rel => exact ⟨_, (decide (a0 ≤ 239)), (by first | rfl | (simp; done) | (simp [*]; done)), H', ⟨by have := HJ3.out; first | omega | exact Nat.le_refl _⟩, by repeat (first | exact Drawn0.refl _ | apply Drawn0.step)⟩
        ·rw [if_neg c9] at H
         have c9b0 : decide (225 ≤ a0) = false := decide_eq_false c9
         clear c9
         (first | rw [c9b0] | (simp only [i64_w, i32_w]; rw [c9b0]) | skip)
         have H' := Aside0.mk H
         clear H
         go_wp2
         go_meet
         case rel => exact ⟨_, (false), (by first | rfl | (simp; done) | (simp [*]; done)), H', ⟨by have := HJ3.out; first | omega | exact Nat.le_refl _⟩, by repeat (first | exact Drawn0.refl _ | apply Drawn0.step)⟩
       case rest =>
        clear HC8
        try clear p2
        try clear c3
        try clear c3b0
        try clear c5
        try clear c5b0
        try clear c6
        try clear c7
        try clear c7b0
        try clear c7b1
        try clear c9
        try clear c9b0
        try clear p2
        obtain ⟨kq, x18_7, rfl, HA, HJ7, ⟨mc7, rfl⟩⟩ := hcut
        cases kq with
        | zero => exact absurd HA.out (by simp [utf_room.j1])
        | succ kj7 =>
         have H := HA.out
         clear HA
         simp only [utf_room.j1] at H
         by_cases c10 : x18_7 = true
         ·subst c10
          have H1 : (utf_room.j2 kj7 a0 128 191) = some (r1, r2, r3) := by rw [if_pos rfl] at H; exact H
          clear H
          have H := H1
          clear H1
          have H' := Aside0.mk H
          clear H
          go_wp2
          go_meet
          case rel => exact ⟨_, (128), (191), (by first | rfl | (simp; done) | (simp [*]; done)), (by first | rfl | (simp; done) | (simp [*]; done)), H', ⟨by have := HJ3.out; have := HJ7.out; first | omega | exact Nat.le_refl _⟩, by repeat (first | exact Drawn0.refl _ | apply Drawn0.step)⟩
         ·replace c10 := Bool.eq_false_iff.mpr c10
          subst c10
          have H1 : (if a0 = 240 then (if a0 = 244 then (some (144, 143, 4)) else (some (144, 191, 4))) else (if a0 ≥ 241 then (if a0 ≤ 244 then (if a0 = 244 then (some (128, 143, 4)) else (some (128, 191, 4))) else (some (0, 0, 0))) else (some (0, 0, 0)))) = some (r1, r2, r3) := by rw [if_neg (show ¬ (false = true) by decide)] at H; exact H
          clear H
          have H := H1
          clear H1
          by_cases c11 : a0 = 240
          ·rw [if_pos c11] at H
           have c11b0 : (a0 == 240) = true := beq_iff_eq.mpr c11
           have c11b1 : (a0 != 240) = false := bne_eq_false_iff_eq.mpr c11
           clear c11
           by_cases c12 : a0 = 244
           ·rw [if_pos c12] at H
            have c12b0 : (a0 == 244) = true := beq_iff_eq.mpr c12
            have c12b1 : (a0 != 244) = false := bne_eq_false_iff_eq.mpr c12
            clear c12
            simp only [Option.some.injEq, Prod.mk.injEq] at H
            obtain ⟨rfl, rfl, rfl⟩ := H
            go_wp2
            go_ret3
            exact ⟨by first | rfl | (simp; done) | (simp [*]; done), by repeat (first | exact Drawn0.refl _ | apply Drawn0.step)⟩
           ·rw [if_neg c12] at H
            have c12b0 : (a0 == 244) = false := beq_eq_false_iff_ne.mpr c12
            have c12b1 : (a0 != 244) = true := bne_iff_ne.mpr c12
            simp only [Option.some.injEq, Prod.mk.injEq] at H
            obtain ⟨rfl, rfl, rfl⟩ := H
            go_wp2
            go_ret3
            exact ⟨by first | rfl | (simp; done) | (simp [*]; done), by repeat (first | exact Drawn0.refl _ | apply Drawn0.step)⟩
          ·rw [if_neg c11] at H
           have c11b0 : (a0 == 240) = false := beq_eq_false_iff_ne.mpr c11
           have c11b1 : (a0 != 240) = true := bne_iff_ne.mpr c11
           by_cases c13 : a0 ≥ 241
           ·rw [if_pos c13] at H
            have c13b0 : decide (241 ≤ a0) = true := decide_eq_true c13
            clear c13
            by_cases c14 : a0 ≤ 244
            ·rw [if_pos c14] at H
             have c14b0 : decide (a0 ≤ 244) = true := decide_eq_true c14
             clear c14
             by_cases c15 : a0 = 244
             ·rw [if_pos c15] at H
              have c15b0 : (a0 == 244) = true := beq_iff_eq.mpr c15
              have c15b1 : (a0 != 244) = false := bne_eq_false_iff_eq.mpr c15
              clear c15
              simp only [Option.some.injEq, Prod.mk.injEq] at H
              obtain ⟨rfl, rfl, rfl⟩ := H
              go_wp2
              go_ret3
              exact ⟨by first | rfl | (simp; done) | (simp [*]; done), by repeat (first | exact Drawn0.refl _ | apply Drawn0.step)⟩
             ·rw [if_neg c15] at H
              have c15b0 : (a0 == 244) = false := beq_eq_false_iff_ne.mpr c15
              have c15b1 : (a0 != 244) = true := bne_iff_ne.mpr c15
              simp only [Option.some.injEq, Prod.mk.injEq] at H
              obtain ⟨rfl, rfl, rfl⟩ := H
              go_wp2
              go_ret3
              exact ⟨by first | rfl | (simp; done) | (simp [*]; done), by repeat (first | exact Drawn0.refl _ | apply Drawn0.step)⟩
            ·rw [if_neg c14] at H
             have c14b0 : decide (a0 ≤ 244) = false := decide_eq_false c14
             clear c14
             simp only [Option.some.injEq, Prod.mk.injEq] at H
             obtain ⟨rfl, rfl, rfl⟩ := H
             go_wp2
             go_ret3
             exact ⟨by first | rfl | (simp; done) | (simp [*]; done), by repeat (first | exact Drawn0.refl _ | apply Drawn0.step)⟩
           ·rw [if_neg c13] at H
            have c13b0 : decide (241 ≤ a0) = false := decide_eq_false c13
            clear c13
            simp only [Option.some.injEq, Prod.mk.injEq] at H
            obtain ⟨rfl, rfl, rfl⟩ := H
            go_wp2
            go_ret3
            exact ⟨by first | rfl | (simp; done) | (simp [*]; done), by repeat (first | exact Drawn0.refl _ | apply Drawn0.step)⟩
 case rest =>
  clear HC2
  try clear c1
  try clear p2
  try clear c3
  try clear c3b0
  try clear c5
  try clear c5b0
  try clear c6
  try clear c7
  try clear c7b0
  try clear c7b1
  try clear c9
  try clear c9b0
  try clear c10
  try clear c11
  try clear c11b0
  try clear c11b1
  try clear c12
  try clear c12b0
  try clear c12b1
  try clear c13
  try clear c13b0
  try clear c14
  try clear c14b0
  try clear c15
  try clear c15b0
  try clear c15b1
  try clear p2
  obtain ⟨kq, x2_1, x3_1, rfl, rfl, HA, HJ1, ⟨mc1, rfl⟩⟩ := hcut
  cases kq with
  | zero => exact absurd HA.out (by simp [utf_room.j2])
  | succ kj1 =>
   have H := HA.out
   clear HA
   simp only [utf_room.j2] at H
   by_cases c16 : a0 = 237
   ·rw [if_pos c16] at H
    have c16b0 : (a0 == 237) = true := beq_iff_eq.mpr c16
    have c16b1 : (a0 != 237) = false := bne_eq_false_iff_eq.mpr c16
    clear c16
    simp only [Option.some.injEq, Prod.mk.injEq] at H
    obtain ⟨rfl, rfl, rfl⟩ := H
    go_wp2
    go_ret3
    exact ⟨by first | rfl | (simp; done) | (simp [*]; done), by repeat (first | exact Drawn0.refl _ | apply Drawn0.step)⟩
   ·rw [if_neg c16] at H
    have c16b0 : (a0 == 237) = false := beq_eq_false_iff_ne.mpr c16
    have c16b1 : (a0 != 237) = true := bne_iff_ne.mpr c16
    simp only [Option.some.injEq, Prod.mk.injEq] at H
    obtain ⟨rfl, rfl, rfl⟩ := H
    go_wp2
    go_ret3
    exact ⟨by first | rfl | (simp; done) | (simp [*]; done), by repeat (first | exact Drawn0.refl _ | apply Drawn0.step)⟩

end Go.Proofs.YtncbbgmhmofhnaaDoor.Pr
end

section
namespace Go.Proofs.YtncbbgmhmofhnaaDoor.Pr
open Go.RowKit Go.Proofs.YtncbbgmhmofhnaaDoorW.PrintWords Go.Proofs.YtncbbgmhmofhnaaDoorW.PrintLast Go.Proofs.YtncbbgmhmofhnaaDoorW.PrintMore
attribute [local go_sem] max2_int min2_int max_two min_two max_three min_three max_four min_four Instr.field asAgg   -- for this text's walks alone
set_option linter.unusedVariables false
set_option linter.unusedSimpArgs false

def utf_Next.l0 : Nat → ByteArray → Int → Int → Int → Int → Option (Int × Int × Bool)
 | 0, _, _, _, _, _ => none
 | k + 1, x0, x5, x6, x7, x8 => if x8 < x7 then (if x8 < (x0.size : Int) then (if 0 ≤ x8 then (if (bt x0 x8) ≥ x5 then (if (bt x0 x8) ≤ x6 then (utf_Next.l0 k x0 128 191 x7 (wrap64 (x8 + 1))) else (if x8 = x7 then (if x8 ≤ (x0.size : Int) then ((utf8_DecodeRuneInString.f (x0.extract 0 (x8 : Int).toNat)).bind fun bt548 => (some (bt548.1, x8, true))) else (none)) else (some (65533, x8, false)))) else (if x8 = x7 then (if x8 ≤ (x0.size : Int) then ((utf8_DecodeRuneInString.f (x0.extract 0 (x8 : Int).toNat)).bind fun bt550 => (some (bt550.1, x8, true))) else (none)) else (some (65533, x8, false)))) else (none)) else (if x8 = x7 then (if 0 ≤ x8 then (if x8 ≤ (x0.size : Int) then ((utf8_DecodeRuneInString.f (x0.extract 0 (x8 : Int).toNat)).bind fun bt552 => (some (bt552.1, x8, true))) else (none)) else (none)) else (some (65533, x8, false)))) else (if x8 = x7 then (if 0 ≤ x8 then (if x8 ≤ (x0.size : Int) then ((utf8_DecodeRuneInString.f (x0.extract 0 (x8 : Int).toNat)).bind fun bt554 => (some (bt554.1, x8, true))) else (none)) else (none)) else (some (65533, x8, false)))
def utf_Next.f (k : Nat) (a0 : ByteArray) : Option (Int × Int × Bool) := if a0.toList = ([] : List UInt8) then (some (0, 0, false)) else (if 0 < (a0.size : Int) then ((utf_room.f k (bt a0 0)).bind fun bt545 => (utf_Next.l0 k a0 bt545.1 bt545.2.1 bt545.2.2 1)) else (none))
set_option maxHeartbeats 8000000 in
set_option maxRecDepth 100000 in
theorem utf_Next.calls (k : Nat) (a0 : ByteArray) (r1 : Int) (r2 : Int) (r3 : Bool) (w : World) (h : utf_Next.f k a0 = some (r1, r2, r3)) (hG : WG w) :
  Calls Tryd.prog 65 #[.string a0] w fun e w' => e = .returned (.tuple #[.int .i32 r1, .int .i64 r2, .bool r3]) ∧ Below w.heap.size w w' := by
 have HG := Aside0.mk hG
 clear hG
 have HB := Aside0.mk (Below.refl w.heap.size w)
 have H : (if a0.toList = ([] : List UInt8) then (some (0, 0, false)) else (if 0 < (a0.size : Int) then ((utf_room.f k (bt a0 0)).bind fun bt545 => (utf_Next.l0 k a0 bt545.1 bt545.2.1 bt545.2.2 1)) else (none))) = some (r1, r2, r3) := h
 clear h
 by_cases c2 : a0.toList = ([] : List UInt8)
 ·rw [if_pos c2] at H
  have c2b0 : (a0.toList == ([] : List UInt8)) = true := beq_iff_eq.mpr c2
  have c2b1 : (a0.toList != ([] : List UInt8)) = false := bne_eq_false_iff_eq.mpr c2
  clear c2
  simp only [Option.some.injEq, Prod.mk.injEq] at H
  obtain ⟨rfl, rfl, rfl⟩ := H
  go_enter Tryd.func65, Tryd.ntmps65
  go_wp2
  go_ret3
  exact ⟨by first | rfl | (simp [errW_none, errW_some] <;> rfl) | (simp [*, errW_none, errW_some] <;> rfl), by repeat (first | (with_reducible first | exact HB.out | apply below_alloc | apply pw_below_drewN | apply below_drew1) | exact HB.out)⟩
 ·rw [if_neg c2] at H
  have c2b0 : (a0.toList == ([] : List UInt8)) = false := beq_eq_false_iff_ne.mpr c2
  have c2b1 : (a0.toList != ([] : List UInt8)) = true := bne_iff_ne.mpr c2
  by_cases c3 : 0 < (a0.size : Int)
  ·rw [if_pos c3] at H
   have c3b0 : decide (0 < (a0.size : Int)) = true := decide_eq_true c3
   have c3b1 : decide (0 < a0.size) = true := decide_eq_true (by omega)
   clear c3
   replace H := Option.bind_eq_some_iff.mp H
   obtain ⟨⟨t545, t546, t547⟩, A50, H⟩ := H
   replace H : (utf_Next.l0 k a0 t545 t546 t547 1) = some (r1, r2, r3) := H
   have A5 := Aside0.mk A50
   clear A50
   have H' := Aside0.mk H
   clear H
   have p4 : 0 ≤ (0 : Int) := (by omega)
   have q4 : 0 < a0.size := (by have : (0 : Int) < (a0.size : Int) := of_decide_eq_true (by first | (with_reducible assumption) | assumption); omega)
   have hx4 : ∀ h : 0 < a0.size, ((a0[0]'h).toNat : Int) = bt a0 0 := bt_at a0 0
   clear p4
   have qi4 : (0 < (a0.size : Int)) = True := eq_true (of_decide_eq_true (by first | (with_reducible assumption) | assumption))
   replace q4 := eq_true q4
   go_enter Tryd.func65, Tryd.ntmps65
   go_wp2_with (first | ((with_reducible refine gate_callee (f := 77) rfl ?_); refine goesL_ (some 16) rfl rfl Tryd.func77 (by kernel_rfl) rfl #[.int .u8 (bt a0 0)] rfl (by (try simp only [List.map_toArray, List.map_cons, List.map_nil]); first | done | rfl | (simp only [List.length_drop, List.length_take]; rfl)) ?_; (with_reducible refine (utf_room.calls k (bt a0 0) t545 t546 t547 _ A5.out).mono ?_); rintro e w' ⟨rfl, ⟨nd, rfl⟩⟩; refine ⟨_, rfl, ?_⟩))
   go_loopg [5, 6, 8] k (fun kq v5 v6 v8 w' => ∃ (x5_1 : Int) (x6_1 : Int) (x8_1 : Int), v5 = .int .u8 x5_1 ∧ v6 = .int .u8 x6_1 ∧ v8 = .int .i64 x8_1 ∧ Aside0 (utf_Next.l0 kq a0 x5_1 x6_1 t547 x8_1 = some (r1, r2, r3)) ∧ Aside0 (kq ≤ k) ∧ Aside0 (Below w.heap.size w w'))
   case atStart => exact ⟨(t545), (t546), (1), (by first | rfl | (simp; done) | (simp [*]; done)), (by first | rfl | (simp; done) | (simp [*]; done)), (by first | rfl | (simp; done) | (simp [*]; done)), H', ⟨Nat.le_refl _⟩, ⟨by repeat (first | (with_reducible first | exact HB.out | apply below_alloc | apply pw_below_drewN | apply below_drew1) | exact HB.out)⟩⟩
   case round =>
    clear H'
    try clear c2
    try clear c2b0
    try clear c2b1
    try clear p2
    try clear c3
    try clear c3b0
    try clear c3b1
    try clear p4
    try clear q4
    try clear hx4
    try clear qi4
    try clear p4
    try clear q4
    obtain ⟨x5_1, x6_1, x8_1, rfl, rfl, rfl, HA, HK1, HB⟩ := hrel
    cases gk with
    | zero => exact absurd HA.out (by simp [utf_Next.l0])
    | succ k1 =>
     have H := HA.out
     clear HA
     simp only [utf_Next.l0] at H
     by_cases c6 : x8_1 < t547
     ·rw [if_pos c6] at H
      have c6b0 : decide (x8_1 < t547) = true := decide_eq_true c6
      clear c6
      by_cases c7 : x8_1 < (a0.size : Int)
      ·rw [if_pos c7] at H
       have c7b0 : decide (x8_1 < (a0.size : Int)) = true := decide_eq_true c7
       clear c7
       by_cases c8 : 0 ≤ x8_1
       ·rw [if_pos c8] at H
        have c8b0 : decide (0 ≤ x8_1) = true := decide_eq_true c8
        clear c8
        by_cases c10 : (bt a0 x8_1) ≥ x5_1
        ·rw [if_pos c10] at H
         have c10b0 : decide (x5_1 ≤ (bt a0 x8_1)) = true := decide_eq_true c10
         clear c10
         by_cases c12 : (bt a0 x8_1) ≤ x6_1
         ·rw [if_pos c12] at H
          have c12b0 : decide ((bt a0 x8_1) ≤ x6_1) = true := decide_eq_true c12
          clear c12
          have H' := Aside0.mk H
          clear H
          have p9 : 0 ≤ (x8_1 : Int) := of_decide_eq_true (by first | (with_reducible assumption) | assumption)
          have q9 : x8_1 < (a0.size : Int) := of_decide_eq_true (by first | (with_reducible assumption) | assumption)
          have hx9 := bt_at a0 x8_1
          replace p9 := eq_true p9
          replace q9 := eq_true q9
          have p11 : 0 ≤ (x8_1 : Int) := of_decide_eq_true (by first | (with_reducible assumption) | assumption)
          have q11 : x8_1 < (a0.size : Int) := of_decide_eq_true (by first | (with_reducible assumption) | assumption)
          have hx11 := bt_at a0 x8_1
          replace p11 := eq_true p11
          replace q11 := eq_true q11
          go_wp2
          go_roundg k1
          case measure => have := HK1.out; omega
          case rel => exact ⟨(128), (191), (wrap64 (x8_1 + 1)), (by first | rfl | (simp; done) | (simp [*]; done)), (by first | rfl | (simp; done) | (simp [*]; done)), (by first | rfl | (simp; done) | (simp [*]; done)), H', ⟨by have := HK1.out; omega⟩, ⟨by repeat (first | (with_reducible first | exact HB.out | apply below_alloc | apply pw_below_drewN | apply below_drew1) | exact HB.out)⟩⟩
         ·rw [if_neg c12] at H
          have c12b0 : decide ((bt a0 x8_1) ≤ x6_1) = false := decide_eq_false c12
          clear c12
          by_cases c13 : x8_1 = t547
          ·rw [if_pos c13] at H
           have c13b0 : (x8_1 == t547) = true := beq_iff_eq.mpr c13
           have c13b1 : (x8_1 != t547) = false := bne_eq_false_iff_eq.mpr c13
           clear c13
           have c14b0 := eq_true (of_decide_eq_true (by first | (with_reducible assumption) | assumption) : 0 ≤ x8_1)
           by_cases c15 : x8_1 ≤ (a0.size : Int)
           ·rw [if_pos c15] at H
            have c15b0 := eq_true c15
            have c15b1 : decide (x8_1 ≤ (a0.size : Int)) = true := decide_eq_true c15
            clear c15
            replace H := Option.bind_eq_some_iff.mp H
            obtain ⟨⟨t548, t549⟩, A160, H⟩ := H
            replace H : (some (t548, x8_1, true)) = some (r1, r2, r3) := H
            have A16 := Aside0.mk A160
            clear A160
            simp only [Option.some.injEq, Prod.mk.injEq] at H
            obtain ⟨rfl, rfl, rfl⟩ := H
            have p9 : 0 ≤ (x8_1 : Int) := of_decide_eq_true (by first | (with_reducible assumption) | assumption)
            have q9 : x8_1 < (a0.size : Int) := of_decide_eq_true (by first | (with_reducible assumption) | assumption)
            have hx9 := bt_at a0 x8_1
            replace p9 := eq_true p9
            replace q9 := eq_true q9
            have p11 : 0 ≤ (x8_1 : Int) := of_decide_eq_true (by first | (with_reducible assumption) | assumption)
            have q11 : x8_1 < (a0.size : Int) := of_decide_eq_true (by first | (with_reducible assumption) | assumption)
            have hx11 := bt_at a0 x8_1
            replace p11 := eq_true p11
            replace q11 := eq_true q11
            go_wp2_with (first | ((with_reducible refine gate_callee (f := 78) rfl ?_); refine goesL_ (some 53) rfl rfl Tryd.func78 (by kernel_rfl) rfl #[.string (a0.extract 0 (x8_1 : Int).toNat)] rfl (by (try simp only [List.map_toArray, List.map_cons, List.map_nil]); first | done | rfl | (simp only [List.length_drop, List.length_take]; rfl)) ?_; (with_reducible refine (utf8_DecodeRuneInString.calls (a0.extract 0 (x8_1 : Int).toNat) t548 t549 _ A16.out (WG.keep HG.out (by repeat (first | (with_reducible first | exact HB.out | apply below_alloc | apply pw_below_drewN | apply below_drew1) | exact HB.out)))).mono ?_); rintro e w17 ⟨rfl, hb⟩; refine ⟨_, rfl, ?_⟩; have n0_ := Aside0.mk (below_step (by repeat (first | (with_reducible first | exact HB.out | apply below_alloc | apply pw_below_drewN | apply below_drew1) | exact HB.out)) hb); clear HB; have HB := n0_; clear n0_; (try clear hb); (try clear hb2); (try clear hk); (try clear hi)))
            go_ret3
            exact ⟨by first | rfl | (simp [errW_none, errW_some] <;> rfl) | (simp [*, errW_none, errW_some] <;> rfl), by repeat (first | (with_reducible first | exact HB.out | apply below_alloc | apply pw_below_drewN | apply below_drew1) | exact HB.out)⟩
           ·rw [if_neg c15] at H
            exact absurd H (by simp)
          ·rw [if_neg c13] at H
           have c13b0 : (x8_1 == t547) = false := beq_eq_false_iff_ne.mpr c13
           have c13b1 : (x8_1 != t547) = true := bne_iff_ne.mpr c13
           simp only [Option.some.injEq, Prod.mk.injEq] at H
           obtain ⟨rfl, rfl, rfl⟩ := H
           have p9 : 0 ≤ (x8_1 : Int) := of_decide_eq_true (by first | (with_reducible assumption) | assumption)
           have q9 : x8_1 < (a0.size : Int) := of_decide_eq_true (by first | (with_reducible assumption) | assumption)
           have hx9 := bt_at a0 x8_1
           replace p9 := eq_true p9
           replace q9 := eq_true q9
           have p11 : 0 ≤ (x8_1 : Int) := of_decide_eq_true (by first | (with_reducible assumption) | assumption)
           have q11 : x8_1 < (a0.size : Int) := of_decide_eq_true (by first | (with_reducible assumption) | assumption)
           have hx11 := bt_at a0 x8_1
           replace p11 := eq_true p11
           replace q11 := eq_true q11
           go_wp2
           go_ret3
           exact ⟨by first | rfl | (simp [errW_none, errW_some] <;> rfl) | (simp [*, errW_none, errW_some] <;> rfl), by repeat (first | (with_reducible first | exact HB.out | apply below_alloc | apply pw_below_drewN | apply below_drew1) | exact HB.out)⟩
        ·rw [if_neg c10] at H
         have c10b0 : decide (x5_1 ≤ (bt a0 x8_1)) = false := decide_eq_false c10
         clear c10
         by_cases c18 : x8_1 = t547
         ·rw [if_pos c18] at H
          have c18b0 : (x8_1 == t547) = true := beq_iff_eq.mpr c18
          have c18b1 : (x8_1 != t547) = false := bne_eq_false_iff_eq.mpr c18
          clear c18
          have c19b0 := eq_true (of_decide_eq_true (by first | (with_reducible assumption) | assumption) : 0 ≤ x8_1)
          by_cases c20 : x8_1 ≤ (a0.size : Int)
          ·rw [if_pos c20] at H
           have c20b0 := eq_true c20
           have c20b1 : decide (x8_1 ≤ (a0.size : Int)) = true := decide_eq_true c20
           clear c20
           replace H := Option.bind_eq_some_iff.mp H
           obtain ⟨⟨t550, t551⟩, A210, H⟩ := H
           replace H : (some (t550, x8_1, true)) = some (r1, r2, r3) := H
           have A21 := Aside0.mk A210
           clear A210
           simp only [Option.some.injEq, Prod.mk.injEq] at H
           obtain ⟨rfl, rfl, rfl⟩ := H
           have p9 : 0 ≤ (x8_1 : Int) := of_decide_eq_true (by first | (with_reducible assumption) | assumption)
           have q9 : x8_1 < (a0.size : Int) := of_decide_eq_true (by first | (with_reducible assumption) | assumption)
           have hx9 := bt_at a0 x8_1
           replace p9 := eq_true p9
           replace q9 := eq_true q9
           go_wp2_with (first | ((with_reducible refine gate_callee (f := 78) rfl ?_); refine goesL_ (some 53) rfl rfl Tryd.func78 (by kernel_rfl) rfl #[.string (a0.extract 0 (x8_1 : Int).toNat)] rfl (by (try simp only [List.map_toArray, List.map_cons, List.map_nil]); first | done | rfl | (simp only [List.length_drop, List.length_take]; rfl)) ?_; (with_reducible refine (utf8_DecodeRuneInString.calls (a0.extract 0 (x8_1 : Int).toNat) t550 t551 _ A21.out (WG.keep HG.out (by repeat (first | (with_reducible first | exact HB.out | apply below_alloc | apply pw_below_drewN | apply below_drew1) | exact HB.out)))).mono ?_); rintro e w22 ⟨rfl, hb⟩; refine ⟨_, rfl, ?_⟩; have n0_ := Aside0.mk (below_step (by repeat (first | (with_reducible first | exact HB.out | apply below_alloc | apply pw_below_drewN | apply below_drew1) | exact HB.out)) hb); clear HB; have HB := n0_; clear n0_; (try clear hb); (try clear hb2); (try clear hk); (try clear hi)))
           go_ret3
           exact ⟨by first | rfl | (simp [errW_none, errW_some] <;> rfl) | (simp [*, errW_none, errW_some] <;> rfl), by repeat (first | (with_reducible first | exact HB.out | apply below_alloc | apply pw_below_drewN | apply below_drew1) | exact HB.out)⟩
          ·rw [if_neg c20] at H
           exact absurd H (by simp)
         ·rw [if_neg c18] at H
          have c18b0 : (x8_1 == t547) = false := beq_eq_false_iff_ne.mpr c18
          have c18b1 : (x8_1 != t547) = true := bne_iff_ne.mpr c18
          simp only [Option.some.injEq, Prod.mk.injEq] at H
          obtain ⟨rfl, rfl, rfl⟩ := H
          have p9 : 0 ≤ (x8_1 : Int) := of_decide_eq_true (by first | (with_reducible assumption) | assumption)
          have q9 : x8_1 < (a0.size : Int) := of_decide_eq_true (by first | (with_reducible assumption) | assumption)
          have hx9 := bt_at a0 x8_1
          replace p9 := eq_true p9
          replace q9 := eq_true q9
          go_wp2
          go_ret3
          exact ⟨by first | rfl | (simp [errW_none, errW_some] <;> rfl) | (simp [*, errW_none, errW_some] <;> rfl), by repeat (first | (with_reducible first | exact HB.out | apply below_alloc | apply pw_below_drewN | apply below_drew1) | exact HB.out)⟩
       ·rw [if_neg c8] at H
        exact absurd H (by simp)
      ·rw [if_neg c7] at H
       have c7b0 : decide (x8_1 < (a0.size : Int)) = false := decide_eq_false c7
       clear c7
       by_cases c23 : x8_1 = t547
       ·rw [if_pos c23] at H
        have c23b0 : (x8_1 == t547) = true := beq_iff_eq.mpr c23
        have c23b1 : (x8_1 != t547) = false := bne_eq_false_iff_eq.mpr c23
        clear c23
        by_cases c24 : 0 ≤ x8_1
        ·rw [if_pos c24] at H
         have c24b0 := eq_true c24
         have c24b1 : decide (0 ≤ x8_1) = true := decide_eq_true c24
         clear c24
         by_cases c25 : x8_1 ≤ (a0.size : Int)
         ·rw [if_pos c25] at H
          have c25b0 := eq_true c25
          have c25b1 : decide (x8_1 ≤ (a0.size : Int)) = true := decide_eq_true c25
          clear c25
          replace H := Option.bind_eq_some_iff.mp H
          obtain ⟨⟨t552, t553⟩, A260, H⟩ := H
          replace H : (some (t552, x8_1, true)) = some (r1, r2, r3) := H
          have A26 := Aside0.mk A260
          clear A260
          simp only [Option.some.injEq, Prod.mk.injEq] at H
          obtain ⟨rfl, rfl, rfl⟩ := H
          go_wp2_with (first | ((with_reducible refine gate_callee (f := 78) rfl ?_); refine goesL_ (some 53) rfl rfl Tryd.func78 (by kernel_rfl) rfl #[.string (a0.extract 0 (x8_1 : Int).toNat)] rfl (by (try simp only [List.map_toArray, List.map_cons, List.map_nil]); first | done | rfl | (simp only [List.length_drop, List.length_take]; rfl)) ?_; (with_reducible refine (utf8_DecodeRuneInString.calls (a0.extract 0 (x8_1 : Int).toNat) t552 t553 _ A26.out (WG.keep HG.out (by repeat (first | (with_reducible first | exact HB.out | apply below_alloc | apply pw_below_drewN | apply below_drew1) | exact HB.out)))).mono ?_); rintro e w27 ⟨rfl, hb⟩; refine ⟨_, rfl, ?_⟩; have n0_ := Aside0.mk (below_step (by repeat (first | (with_reducible first | exact HB.out | apply below_alloc | apply pw_below_drewN | apply below_drew1) | exact HB.out)) hb); clear HB; have HB := n0_; clear n0_; (try clear hb); (try clear hb2); (try clear hk); (try clear hi)))
          go_ret3
          exact ⟨by first | rfl | (simp [errW_none, errW_some] <;> rfl) | (simp [*, errW_none, errW_some] <;> rfl), by repeat (first | (with_reducible first | exact HB.out | apply below_alloc | apply pw_below_drewN | apply below_drew1) | exact HB.out)⟩
         ·rw [if_neg c25] at H
          exact absurd H (by simp)
        ·rw [if_neg c24] at H
         exact absurd H (by simp)
       ·rw [if_neg c23] at H
        have c23b0 : (x8_1 == t547) = false := beq_eq_false_iff_ne.mpr c23
        have c23b1 : (x8_1 != t547) = true := bne_iff_ne.mpr c23
        simp only [Option.some.injEq, Prod.mk.injEq] at H
        obtain ⟨rfl, rfl, rfl⟩ := H
        go_wp2
        go_ret3
        exact ⟨by first | rfl | (simp [errW_none, errW_some] <;> rfl) | (simp [*, errW_none, errW_some] <;> rfl), by repeat (first | (with_reducible first | exact HB.out | apply below_alloc | apply pw_below_drewN | apply below_drew1) | exact HB.out)⟩
     ·rw [if_neg c6] at H
      have c6b0 : decide (x8_1 < t547) = false := decide_eq_false c6
      clear c6
      by_cases c28 : x8_1 = t547
      ·rw [if_pos c28] at H
       have c28b0 : (x8_1 == t547) = true := beq_iff_eq.mpr c28
       have c28b1 : (x8_1 != t547) = false := bne_eq_false_iff_eq.mpr c28
       clear c28
       by_cases c29 : 0 ≤ x8_1
       ·rw [if_pos c29] at H
        have c29b0 := eq_true c29
        have c29b1 : decide (0 ≤ x8_1) = true := decide_eq_true c29
        clear c29
        by_cases c30 : x8_1 ≤ (a0.size : Int)
        ·rw [if_pos c30] at H
         have c30b0 := eq_true c30
         have c30b1 : decide (x8_1 ≤ (a0.size : Int)) = true := decide_eq_true c30
         clear c30
         replace H := Option.bind_eq_some_iff.mp H
         obtain ⟨⟨t554, t555⟩, A310, H⟩ := H
         replace H : (some (t554, x8_1, true)) = some (r1, r2, r3) := H
         have A31 := Aside0.mk A310
         clear A310
         simp only [Option.some.injEq, Prod.mk.injEq] at H
         obtain ⟨rfl, rfl, rfl⟩ := H
         go_wp2_with (first | ((with_reducible refine gate_callee (f := 78) rfl ?_); refine goesL_ (some 53) rfl rfl Tryd.func78 (by kernel_rfl) rfl #[.string (a0.extract 0 (x8_1 : Int).toNat)] rfl (by (try simp only [List.map_toArray, List.map_cons, List.map_nil]); first | done | rfl | (simp only [List.length_drop, List.length_take]; rfl)) ?_; (with_reducible refine (utf8_DecodeRuneInString.calls (a0.extract 0 (x8_1 : Int).toNat) t554 t555 _ A31.out (WG.keep HG.out (by repeat (first | (with_reducible first | exact HB.out | apply below_alloc | apply pw_below_drewN | apply below_drew1) | exact HB.out)))).mono ?_); rintro e w32 ⟨rfl, hb⟩; refine ⟨_, rfl, ?_⟩; have n0_ := Aside0.mk (below_step (by repeat (first | (with_reducible first | exact HB.out | apply below_alloc | apply pw_below_drewN | apply below_drew1) | exact HB.out)) hb); clear HB; have HB := n0_; clear n0_; (try clear hb); (try clear hb2); (try clear hk); (try clear hi)))
         go_ret3
         exact ⟨by first | rfl | (simp [errW_none, errW_some] <;> rfl) | (simp [*, errW_none, errW_some] <;> rfl), by repeat (first | (with_reducible first | exact HB.out | apply below_alloc | apply pw_below_drewN | apply below_drew1) | exact HB.out)⟩
        ·rw [if_neg c30] at H
         exact absurd H (by simp)
       ·rw [if_neg c29] at H
        exact absurd H (by simp)
      ·rw [if_neg c28] at H
       have c28b0 : (x8_1 == t547) = false := beq_eq_false_iff_ne.mpr c28
       have c28b1 : (x8_1 != t547) = true := bne_iff_ne.mpr c28
       simp only [Option.some.injEq, Prod.mk.injEq] at H
       obtain ⟨rfl, rfl, rfl⟩ := H
       go_wp2
       go_ret3
       exact ⟨by first | rfl | (simp [errW_none, errW_some] <;> rfl) | (simp [*, errW_none, errW_some] <;> rfl), by repeat (first | (with_reducible first | exact HB.out | apply below_alloc | apply pw_below_drewN | apply below_drew1) | exact HB.out)⟩
  ·rw [if_neg c3] at H
   exact absurd H (by simp)

end Go.Proofs.YtncbbgmhmofhnaaDoor.Pr
end
