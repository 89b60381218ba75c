import Derived.Shelf.Small.Utf8
import Derived.Shelf.Utf8.AppendRunePlain
import Derived.Shelf.Unicode.Decode
import Derived.Shelf.Unicode.DecodeSlow
import Derived.Shelf.Unicode.DecodeAny
import Derived.Test.YtanpephfnjnfoaaDoorProg
import Derived.Below
import Derived.Deep.Draws
import Derived.Deep.AppendLies
import Derived.Maps.AppendAt
import Derived.OwnWalk
import Derived.Laws.BytesArg
import Derived.Laws.MakeOwn
import Derived.Laws.OwnMore
import Derived.Deep.OwnRows
import Derived.Tactics
import Derived.Lib.ConvBytes
import Derived.Laws.Slices
import Derived.WalkKit
import Derived.KernelRfl
import Derived.RowKit3
import Derived.Deep.LoopGhost
import Derived.Deep.QuietTactic
import Derived.BigQuiet
import Derived.WideLaws
import Derived.Deep.DeepCutAuto
import Derived.Deep.CutBlock
import Derived.Deep.RegionHeld3
import Derived.Laws.Rows
import Derived.Lib.AppendStr
import Derived.ArgAppend
import Derived.Laws.IdiomCopy
import Derived.OrdersHeld
import Derived.Laws.BitsLemmas
import Derived.RowKit
import Derived.Test.YtanpephfnjnfoaaDoorZNMA
import Derived.Test.YtanpephfnjnfoaaDoorRows
import Derived.Lib.LaidU8
import Derived.WalkSpells
import Derived.Lib.Hide
import Derived.WalkLawsBesides
import Derived.Deep.MidRow
section
namespace Go.Proofs
open Go.Shelf
def Tryd.lays119_ren : Go.Shelf.Ren := ⟨fun | 119 => 46 | n => n, fun | 21 => 21 | 4 => 4 | n => n, fun | n => n⟩
theorem Tryd.lays119 : Go.Proofs.Lays.n119 Tryd.prog Tryd.lays119_ren := {
  mixed := by kernel_rfl
  f119 := Tryd.func46.trans (congrArg some (by kernel_rfl))
  t4 := Tryd.underlying4
  a4 := Tryd.isAgg4
  z4 := Tryd.sizeOf4
  v4 := Tryd.zeroValue4
  t21 := Tryd.underlying21
  a21 := Tryd.isAgg21
  z21 := Tryd.sizeOf21
  v21 := Tryd.zeroValue21 }
/-- utf8.ValidRune: "ValidRune reports whether r can be legally encoded as UTF-8. Code points that are out of range or a surrogate half are illegal.": IT RETURNS 'Lib.validRune r'; the world is as it was. (LAID: no walk: one application.) -/
theorem Tryd.utf8_ValidRune (r : Int) (w : World) :
    Calls Tryd.prog 46 #[.int .i32 r] w fun e w' => e = .returned (.bool (Lib.validRune r)) ∧ w' = w := Any.utf8_ValidRune Tryd.lays119 r w
def Tryd.lays242_ren : Go.Shelf.Ren := ⟨fun | 242 => 47 | 278 => 68 | n => n, fun | 37 => 65 | 21 => 21 | 51 => 85 | 4 => 4 | 5 => 5 | 46 => 89 | n => n, fun | n => n⟩
theorem Tryd.lays242 : Go.Proofs.Lays.n242 Tryd.prog Tryd.lays242_ren := {
  mixed := by kernel_rfl
  f242 := Tryd.func47.trans (congrArg some (by kernel_rfl))
  f278 := Tryd.func68.trans (congrArg some (by kernel_rfl))
  t4 := Tryd.underlying4
  a4 := Tryd.isAgg4
  z4 := Tryd.sizeOf4
  v4 := Tryd.zeroValue4
  t5 := Tryd.underlying5
  a5 := Tryd.isAgg5
  z5 := Tryd.sizeOf5
  v5 := Tryd.zeroValue5
  t21 := Tryd.underlying21
  a21 := Tryd.isAgg21
  z21 := Tryd.sizeOf21
  v21 := Tryd.zeroValue21
  t37 := Tryd.underlying65
  a37 := Tryd.isAgg65
  z37 := Tryd.sizeOf65
  v37 := Tryd.zeroValue65
  t46 := Tryd.underlying89
  a46 := Tryd.isAgg89
  z46 := Tryd.sizeOf89
  v46 := Tryd.zeroValue89
  t51 := Tryd.underlying85
  a51 := Tryd.isAgg85
  z51 := Tryd.sizeOf85
  v51 := Tryd.zeroValue85 }
open Go.RowKit in
/-- unicode/utf8.AppendRune: "AppendRune appends the UTF-8 encoding of r to the end of p and returns the extended buffer. If the rune is out of range, it appends the encoding of RuneError.": ONTO A ROW OF BYTES THAT THE CALL OWNS (its head frozen or not): EVERY int32: 'Lib.runeCells r' goes in behind what the row holds; the world: one new block (the bytes as the call's variadic argument), then what 'append' does to the row. (LAID: no walk: one application.) -/
theorem Tryd.utf8_AppendRune_plain (B : Nat) (v : Value) (n : Nat) (xs : List Value) (r : Int) (hr0 : -2147483648 ≤ r) (hr1 : r ≤ 2147483647) (w : World) (hown : w.ownsRow B 5 1 v n xs) (hlen : n + 4 ≤ 140737488355328) (hBw : B ≤ w.heap.size) :
    Calls Tryd.prog 47 #[v, .int .i32 r] w fun e w' => ∃ v', e = .returned v' ∧ w'.ownsRow B 5 1 v' (n + (Lib.runeCells r).length) (xs ++ Lib.runeCells r) ∧ ∃ o, (w.alloc o).grownBy w' v.ownBlock := Any.utf8_AppendRune_plain Tryd.lays242 (by kernel_rfl) B v n xs r hr0 hr1 w hown hlen hBw
def Tryd.lays197_ren : Go.Shelf.Ren := ⟨fun | 197 => 76 | 260 => 78 | n => n, fun | 9 => 9 | 21 => 21 | 3 => 3 | 4 => 4 | 5 => 5 | 105 => 92 | 119 => 94 | 0 => 0 | 46 => 89 | 139 => 97 | 138 => 96 | n => n, fun | 3 => 0 | 4 => 1 | n => n⟩
theorem Tryd.lays197 : Go.Proofs.Lays.n197 Tryd.prog Tryd.lays197_ren := {
  mixed := by kernel_rfl
  f197 := Tryd.func76.trans (congrArg some (by kernel_rfl))
  f260 := Tryd.func78.trans (congrArg some (by kernel_rfl))
  t0 := Tryd.underlying0
  a0 := Tryd.isAgg0
  z0 := Tryd.sizeOf0
  v0 := Tryd.zeroValue0
  t3 := Tryd.underlying3
  a3 := Tryd.isAgg3
  z3 := Tryd.sizeOf3
  v3 := Tryd.zeroValue3
  t4 := Tryd.underlying4
  a4 := Tryd.isAgg4
  z4 := Tryd.sizeOf4
  v4 := Tryd.zeroValue4
  t5 := Tryd.underlying5
  a5 := Tryd.isAgg5
  z5 := Tryd.sizeOf5
  v5 := Tryd.zeroValue5
  t9 := Tryd.underlying9
  a9 := Tryd.isAgg9
  z9 := Tryd.sizeOf9
  v9 := Tryd.zeroValue9
  t21 := Tryd.underlying21
  a21 := Tryd.isAgg21
  z21 := Tryd.sizeOf21
  v21 := Tryd.zeroValue21
  t46 := Tryd.underlying89
  a46 := Tryd.isAgg89
  z46 := Tryd.sizeOf89
  v46 := Tryd.zeroValue89
  t105 := Tryd.underlying92
  a105 := Tryd.isAgg92
  z105 := Tryd.sizeOf92
  v105 := Tryd.zeroValue92
  t119 := Tryd.underlying94
  a119 := Tryd.isAgg94
  z119 := Tryd.sizeOf94
  t138 := Tryd.underlying96
  a138 := Tryd.isAgg96
  z138 := Tryd.sizeOf96
  v138 := Tryd.zeroValue96
  t139 := Tryd.underlying97
  a139 := Tryd.isAgg97
  z139 := Tryd.sizeOf97
  v139 := Tryd.zeroValue97
  g3 := by kernel_rfl
  g4 := by kernel_rfl }
def Tryd.lays260_ren : Go.Shelf.Ren := ⟨fun | 260 => 78 | n => n, fun | 9 => 9 | 21 => 21 | 3 => 3 | 4 => 4 | 5 => 5 | 119 => 94 | 0 => 0 | 46 => 89 | 139 => 97 | 138 => 96 | n => n, fun | 3 => 0 | 4 => 1 | n => n⟩
theorem Tryd.lays260 : Go.Proofs.Lays.n260 Tryd.prog Tryd.lays260_ren := {
  mixed := by kernel_rfl
  f260 := Tryd.func78.trans (congrArg some (by kernel_rfl))
  t0 := Tryd.underlying0
  a0 := Tryd.isAgg0
  z0 := Tryd.sizeOf0
  v0 := Tryd.zeroValue0
  t3 := Tryd.underlying3
  a3 := Tryd.isAgg3
  z3 := Tryd.sizeOf3
  v3 := Tryd.zeroValue3
  t4 := Tryd.underlying4
  a4 := Tryd.isAgg4
  z4 := Tryd.sizeOf4
  v4 := Tryd.zeroValue4
  t5 := Tryd.underlying5
  a5 := Tryd.isAgg5
  z5 := Tryd.sizeOf5
  v5 := Tryd.zeroValue5
  t9 := Tryd.underlying9
  a9 := Tryd.isAgg9
  z9 := Tryd.sizeOf9
  v9 := Tryd.zeroValue9
  t21 := Tryd.underlying21
  a21 := Tryd.isAgg21
  z21 := Tryd.sizeOf21
  v21 := Tryd.zeroValue21
  t46 := Tryd.underlying89
  a46 := Tryd.isAgg89
  z46 := Tryd.sizeOf89
  v46 := Tryd.zeroValue89
  t119 := Tryd.underlying94
  a119 := Tryd.isAgg94
  z119 := Tryd.sizeOf94
  t138 := Tryd.underlying96
  a138 := Tryd.isAgg96
  z138 := Tryd.sizeOf96
  v138 := Tryd.zeroValue96
  t139 := Tryd.underlying97
  a139 := Tryd.isAgg97
  z139 := Tryd.sizeOf97
  v139 := Tryd.zeroValue97
  g3 := by kernel_rfl
  g4 := by kernel_rfl }
open Go.RowKit Go.Lib in
/-- **unicode/utf8.DecodeRuneInString AT EVERY STRING.** (LAID: no walk: one application.) -/
theorem Tryd.utf8_DecodeRuneInString (s : ByteArray) (w : World) (hT : Lib.Utf8Tabs 0 1 w) :
    Calls Tryd.prog 76 #[.string s] w fun e w' => e = .returned (.tuple #[.int .i32 (Lib.decodeGo s).1, .int .i64 (Lib.decodeGo s).2]) ∧ Below w.heap.size w w' := Any.utf8_DecodeRuneInString Tryd.lays197 s w hT
end Go.Proofs
end

section
namespace Go.Proofs.YtanpephfnjnfoaaDoor.Pr
open Go.RowKit Go.Proofs.YtanpephfnjnfoaaDoorW.PrintWords Go.Proofs.YtanpephfnjnfoaaDoorW.PrintLast Go.Proofs.YtanpephfnjnfoaaDoorW.PrintMore
attribute [local go_sem] max2_int min2_int max_two min_two max_three min_three max_four min_four Instr.field asAgg   -- for this text's walks alone
set_option linter.unusedVariables false
set_option linter.unusedSimpArgs false



def errW : Option Int → Value
  | none => .nilIface
  | some c => .iface 0 (.int .i64 c)
theorem errW_none : errW none = .nilIface := rfl
theorem errW_some (c : Int) : errW (some c) = .iface 0 (.int .i64 c) := rfl

theorem info5 : (Tryd.prog.info? 5).map (fun i => (i.zero, i.size, i.bytes)) = some (some (.int .u8 0), 1, 1) := by kernel_rfl
theorem info21 : (Tryd.prog.info? 21).map (fun i => (i.zero, i.size, i.bytes)) = some (some (.int .i32 0), 1, 4) := by kernel_rfl
theorem info30 : (Tryd.prog.info? 30).map (fun i => (i.zero, i.size, i.bytes)) = some (some (.agg #[(.int .i32 0), (.int .i32 0), (.int .u8 0), (.int .i32 0), (.int .i32 0), (.int .i32 0), (.int .u8 0), (.int .u8 0), (.int .u8 0), (.bool false), (.int .u8 0)]), 11, 32) := by kernel_rfl
theorem info53 : (Tryd.prog.info? 53).map (fun i => (i.zero, i.size, i.bytes)) = some (some (.agg #[(.int .i32 0), (.int .i32 0), (.int .i32 0)]), 3, 12) := by kernel_rfl
-- the values' own types
structure S55 where
  f0 : Int
  f1 : Int
  f2 : Int
  f3 : Int
  f4 : Int
  f5 : Int
  f6 : Int
  f7 : Bool
def z55 : S55 := ⟨(0 : Int), (0 : Int), (0 : Int), (0 : Int), (0 : Int), (0 : Int), (0 : Int), false⟩
structure S61 where
  f0 : Int
  f1 : Int
  f2 : Int
structure S30 where
  f0 : Int
  f1 : Int
  f2 : Int
  f3 : Int
  f4 : Int
  f5 : Int
  f6 : Int
  f7 : Int
  f8 : Int
  f9 : Bool
  f10 : Int
def z30 : S30 := ⟨(0 : Int), (0 : Int), (0 : Int), (0 : Int), (0 : Int), (0 : Int), (0 : Int), (0 : Int), (0 : Int), false, (0 : Int)⟩
def k30 : Kd S30 := Kd.iso (Kd.pair (Kd.int .i32) (Kd.pair (Kd.int .i32) (Kd.pair (Kd.int .u8) (Kd.pair (Kd.int .i32) (Kd.pair (Kd.int .i32) (Kd.pair (Kd.int .i32) (Kd.pair (Kd.int .u8) (Kd.pair (Kd.int .u8) (Kd.pair (Kd.int .u8) (Kd.pair Kd.bool (Kd.int .u8))))))))))) (fun x : S30 => (x.f0, x.f1, x.f2, x.f3, x.f4, x.f5, x.f6, x.f7, x.f8, x.f9, x.f10))
theorem k30_open {w : World} {x : S30} {cs : List Value} (h : k30.K w x cs) : cs = [.int .i32 x.f0, .int .i32 x.f1, .int .u8 x.f2, .int .i32 x.f3, .int .i32 x.f4, .int .i32 x.f5, .int .u8 x.f6, .int .u8 x.f7, .int .u8 x.f8, .bool x.f9, .int .u8 x.f10] := by
  obtain ⟨_, _, rfl, rfl, ⟨_, _, rfl, rfl, ⟨_, _, rfl, rfl, ⟨_, _, rfl, rfl, ⟨_, _, rfl, rfl, ⟨_, _, rfl, rfl, ⟨_, _, rfl, rfl, ⟨_, _, rfl, rfl, ⟨_, _, rfl, rfl, ⟨_, _, rfl, rfl, rfl⟩⟩⟩⟩⟩⟩⟩⟩⟩⟩ := h
  exact rfl
theorem k30_mkM (w : World) (base : Nat) (ok : Nat → Prop) (x : S30)  : k30.M w base ok x [.int .i32 x.f0, .int .i32 x.f1, .int .u8 x.f2, .int .i32 x.f3, .int .i32 x.f4, .int .i32 x.f5, .int .u8 x.f6, .int .u8 x.f7, .int .u8 x.f8, .bool x.f9, .int .u8 x.f10] := ⟨[.int .i32 x.f0], [.int .i32 x.f1, .int .u8 x.f2, .int .i32 x.f3, .int .i32 x.f4, .int .i32 x.f5, .int .u8 x.f6, .int .u8 x.f7, .int .u8 x.f8, .bool x.f9, .int .u8 x.f10], rfl, rfl, ⟨[.int .i32 x.f1], [.int .u8 x.f2, .int .i32 x.f3, .int .i32 x.f4, .int .i32 x.f5, .int .u8 x.f6, .int .u8 x.f7, .int .u8 x.f8, .bool x.f9, .int .u8 x.f10], rfl, rfl, ⟨[.int .u8 x.f2], [.int .i32 x.f3, .int .i32 x.f4, .int .i32 x.f5, .int .u8 x.f6, .int .u8 x.f7, .int .u8 x.f8, .bool x.f9, .int .u8 x.f10], rfl, rfl, ⟨[.int .i32 x.f3], [.int .i32 x.f4, .int .i32 x.f5, .int .u8 x.f6, .int .u8 x.f7, .int .u8 x.f8, .bool x.f9, .int .u8 x.f10], rfl, rfl, ⟨[.int .i32 x.f4], [.int .i32 x.f5, .int .u8 x.f6, .int .u8 x.f7, .int .u8 x.f8, .bool x.f9, .int .u8 x.f10], rfl, rfl, ⟨[.int .i32 x.f5], [.int .u8 x.f6, .int .u8 x.f7, .int .u8 x.f8, .bool x.f9, .int .u8 x.f10], rfl, rfl, ⟨[.int .u8 x.f6], [.int .u8 x.f7, .int .u8 x.f8, .bool x.f9, .int .u8 x.f10], rfl, rfl, ⟨[.int .u8 x.f7], [.int .u8 x.f8, .bool x.f9, .int .u8 x.f10], rfl, rfl, ⟨[.int .u8 x.f8], [.bool x.f9, .int .u8 x.f10], rfl, rfl, ⟨[.bool x.f9], [.int .u8 x.f10], rfl, rfl, rfl⟩⟩⟩⟩⟩⟩⟩⟩⟩⟩
def rd_T30 (xs : List S30) (i : Int) : S30 := xs.getD i.toNat z30
theorem at_T30 {w : World} {A : Option Addr} {n : Nat} {xs : List S30} (h : Kd.C k30 w A n xs) (i : Int) (h0 : 0 ≤ i) (h1 : i < n) : ∃ ad , A = some ad ∧ w.cell? (ad.add (i.toNat * 11)) = some (.int .i32 (rd_T30 xs i).f0) ∧ w.cell? ⟨(ad.add (i.toNat * 11)).block, (ad.add (i.toNat * 11)).off + 1, none⟩ = some (.int .i32 (rd_T30 xs i).f1) ∧ w.cell? ⟨(ad.add (i.toNat * 11)).block, (ad.add (i.toNat * 11)).off + 2, none⟩ = some (.int .u8 (rd_T30 xs i).f2) ∧ w.cell? ⟨(ad.add (i.toNat * 11)).block, (ad.add (i.toNat * 11)).off + 3, none⟩ = some (.int .i32 (rd_T30 xs i).f3) ∧ w.cell? ⟨(ad.add (i.toNat * 11)).block, (ad.add (i.toNat * 11)).off + 4, none⟩ = some (.int .i32 (rd_T30 xs i).f4) ∧ w.cell? ⟨(ad.add (i.toNat * 11)).block, (ad.add (i.toNat * 11)).off + 5, none⟩ = some (.int .i32 (rd_T30 xs i).f5) ∧ w.cell? ⟨(ad.add (i.toNat * 11)).block, (ad.add (i.toNat * 11)).off + 6, none⟩ = some (.int .u8 (rd_T30 xs i).f6) ∧ w.cell? ⟨(ad.add (i.toNat * 11)).block, (ad.add (i.toNat * 11)).off + 7, none⟩ = some (.int .u8 (rd_T30 xs i).f7) ∧ w.cell? ⟨(ad.add (i.toNat * 11)).block, (ad.add (i.toNat * 11)).off + 8, none⟩ = some (.int .u8 (rd_T30 xs i).f8) ∧ w.cell? ⟨(ad.add (i.toNat * 11)).block, (ad.add (i.toNat * 11)).off + 9, none⟩ = some (.bool (rd_T30 xs i).f9) ∧ w.cell? ⟨(ad.add (i.toNat * 11)).block, (ad.add (i.toNat * 11)).off + 10, none⟩ = some (.int .u8 (rd_T30 xs i).f10) := by
  obtain ⟨ad, c, e, _, hK, hc0⟩ := Kd.C_get h z30 i h0 h1
  have hc : ∀ j u, c[j]? = some u → w.cell? (ad.add (i.toNat * 11 + j)) = some u := hc0
  obtain rfl := k30_open hK
  exact ⟨ad, e, hc 0 _ rfl, by rw [← add_field _ _ 1 (by omega)]; exact hc 1 _ rfl, by rw [← add_field _ _ 2 (by omega)]; exact hc 2 _ rfl, by rw [← add_field _ _ 3 (by omega)]; exact hc 3 _ rfl, by rw [← add_field _ _ 4 (by omega)]; exact hc 4 _ rfl, by rw [← add_field _ _ 5 (by omega)]; exact hc 5 _ rfl, by rw [← add_field _ _ 6 (by omega)]; exact hc 6 _ rfl, by rw [← add_field _ _ 7 (by omega)]; exact hc 7 _ rfl, by rw [← add_field _ _ 8 (by omega)]; exact hc 8 _ rfl, by rw [← add_field _ _ 9 (by omega)]; exact hc 9 _ rfl, by rw [← add_field _ _ 10 (by omega)]; exact hc 10 _ rfl⟩

structure S53 where
  f0 : Int
  f1 : Int
  f2 : Int
def z53 : S53 := ⟨(0 : Int), (0 : Int), (0 : Int)⟩
def k53 : Kd S53 := Kd.iso (Kd.pair (Kd.int .i32) (Kd.pair (Kd.int .i32) (Kd.int .i32))) (fun x : S53 => (x.f0, x.f1, x.f2))
theorem k53_open {w : World} {x : S53} {cs : List Value} (h : k53.K w x cs) : cs = [.int .i32 x.f0, .int .i32 x.f1, .int .i32 x.f2] := by
  obtain ⟨_, _, rfl, rfl, ⟨_, _, rfl, rfl, rfl⟩⟩ := h
  exact rfl
theorem k53_mkM (w : World) (base : Nat) (ok : Nat → Prop) (x : S53)  : k53.M w base ok x [.int .i32 x.f0, .int .i32 x.f1, .int .i32 x.f2] := ⟨[.int .i32 x.f0], [.int .i32 x.f1, .int .i32 x.f2], rfl, rfl, ⟨[.int .i32 x.f1], [.int .i32 x.f2], rfl, rfl, rfl⟩⟩
def rd_T53 (xs : List S53) (i : Int) : S53 := xs.getD i.toNat z53
theorem at_T53 {w : World} {A : Option Addr} {n : Nat} {xs : List S53} (h : Kd.C k53 w A n xs) (i : Int) (h0 : 0 ≤ i) (h1 : i < n) : ∃ ad , A = some ad ∧ w.cell? (ad.add (i.toNat * 3)) = some (.int .i32 (rd_T53 xs i).f0) ∧ w.cell? ⟨(ad.add (i.toNat * 3)).block, (ad.add (i.toNat * 3)).off + 1, none⟩ = some (.int .i32 (rd_T53 xs i).f1) ∧ w.cell? ⟨(ad.add (i.toNat * 3)).block, (ad.add (i.toNat * 3)).off + 2, none⟩ = some (.int .i32 (rd_T53 xs i).f2) := by
  obtain ⟨ad, c, e, _, hK, hc0⟩ := Kd.C_get h z53 i h0 h1
  have hc : ∀ j u, c[j]? = some u → w.cell? (ad.add (i.toNat * 3 + j)) = some u := hc0
  obtain rfl := k53_open hK
  exact ⟨ad, e, hc 0 _ rfl, by rw [← add_field _ _ 1 (by omega)]; exact hc 1 _ rfl, by rw [← add_field _ _ 2 (by omega)]; exact hc 2 _ rfl⟩

end Go.Proofs.YtanpephfnjnfoaaDoor.Pr
end

section
namespace Go.Proofs.YtanpephfnjnfoaaDoor.Pr
open Go.RowKit Go.Proofs.YtanpephfnjnfoaaDoorW.PrintWords Go.Proofs.YtanpephfnjnfoaaDoorW.PrintLast Go.Proofs.YtanpephfnjnfoaaDoorW.PrintMore
set_option linter.unusedVariables false
set_option linter.unusedSimpArgs false

abbrev WG (w : World) : Prop := Lib.Utf8Tabs 0 1 w
theorem WG.keep {w w1 : World} (h : WG w) (hb : Below w.heap.size w w1) : WG w1 :=
  ⟨fun c hc => pw_cell_below hb (h.1 c hc), fun i hi => ⟨pw_cell_below hb (h.2 i hi).1, pw_cell_below hb (h.2 i hi).2⟩⟩
theorem WG.of {W : World} {l : List (String × DataW Unit)} (h : laidMet Tryd.prog l W) (h1 : ("unicode/utf8.first", Lib.firstData) ∈ l) (h2 : ("unicode/utf8.acceptRanges", Lib.acceptData) ∈ l) : WG W :=
  utf8Tabs_of_reads Tryd.lays260 ⟨by kernel_rfl, by kernel_rfl, by kernel_rfl, by kernel_rfl, by kernel_rfl, by kernel_rfl, by kernel_rfl⟩ (Lib.laidMet.reads h h1) (Lib.laidMet.reads h h2)
def utf8_DecodeRuneInString.f (a0 : ByteArray) : Option (Int × Int) := some (((Lib.decodeGo a0).1 : Int), ((Lib.decodeGo a0).2 : Int))
theorem utf8_DecodeRuneInString.calls (a0 : ByteArray) (r1 : Int) (r2 : Int) (w : World) (h : utf8_DecodeRuneInString.f a0 = some (r1, r2)) (hG : WG w) :
    Calls Tryd.prog 76 #[.string a0] w fun e w' => e = .returned (.tuple #[.int .i32 r1, .int .i64 r2]) ∧ Below w.heap.size w w' := by
  have h := Option.some.inj h
  simp only [Prod.mk.injEq] at h
  obtain ⟨rfl, rfl⟩ := h
  exact Tryd.utf8_DecodeRuneInString a0 w hG
end Go.Proofs.YtanpephfnjnfoaaDoor.Pr
end

section
namespace Go.Proofs.YtanpephfnjnfoaaDoor.Pr
open Go.RowKit Go.Proofs.YtanpephfnjnfoaaDoorW.PrintWords Go.Proofs.YtanpephfnjnfoaaDoorW.PrintLast Go.Proofs.YtanpephfnjnfoaaDoorW.PrintMore
attribute [local go_sem] max2_int min2_int max_two min_two max_three min_three max_four min_four Instr.field asAgg   -- for this text's walks alone
set_option linter.unusedVariables false
set_option linter.unusedSimpArgs false

def slices_Equal_rune_rune.l0 : Nat → List Int → List Int → Int → Int → Option (Bool)
  | 0, _, _, _, _ => none
  | k + 1, x0, x1, x12, x13 => if x13 < x12 then (if 0 ≤ x13 then (if x13 < (x0.length : Int) then (if x13 < (x1.length : Int) then (if (rd x0 x13) = (rd x1 x13) then (slices_Equal_rune_rune.l0 k x0 x1 x12 (wrap64 (x13 + 1))) else (some false)) else (none)) else (none)) else (none)) else (some true)
def slices_Equal_rune_rune.f (k : Nat) (l0 : List Int) (l1 : List Int) : Option (Bool) := if (l0.length : Int) = (l1.length : Int) then (slices_Equal_rune_rune.l0 k l0 l1 (l0.length : Int) 0) else (some false)
theorem slices_Equal_rune_rune.mono_l : ∀ k, (∀ y0 y1 y2 y3, LeO (slices_Equal_rune_rune.l0 k y0 y1 y2 y3) (slices_Equal_rune_rune.l0 (k + 1) y0 y1 y2 y3))
  | 0 => fun _ _ _ _ r h => by simp [slices_Equal_rune_rune.l0] at h
  | k + 1 => by
    have ih0 := slices_Equal_rune_rune.mono_l k
    · intro y0 y1 y2 y3
      unfold slices_Equal_rune_rune.l0
      repeat' first
      | (with_reducible exact ih0 _ _ _ _)
      | (with_reducible exact LeO.refl _)
      | (with_reducible exact LeO.none _)
      | (with_reducible refine LeO.ite ?_ ?_)
      | (with_reducible refine LeO.bind ?_ (fun _ => ?_))
      | exact ih0 _ _ _ _
      | exact LeO.none _
      | refine LeO.ite ?_ ?_
      | refine LeO.bind ?_ (fun _ => ?_)
theorem slices_Equal_rune_rune.mono : ∀ a0 a1 k, LeO (slices_Equal_rune_rune.f k a0 a1) (slices_Equal_rune_rune.f (k + 1) a0 a1) := by
  intro a0 a1 k
  have ih0 := slices_Equal_rune_rune.mono_l k
  unfold slices_Equal_rune_rune.f
  repeat' first
      | (with_reducible exact ih0 _ _ _ _)
      | (with_reducible exact LeO.refl _)
      | (with_reducible exact LeO.none _)
      | (with_reducible refine LeO.ite ?_ ?_)
      | (with_reducible refine LeO.bind ?_ (fun _ => ?_))
      | exact ih0 _ _ _ _
      | exact LeO.none _
      | refine LeO.ite ?_ ?_
      | refine LeO.bind ?_ (fun _ => ?_)
set_option maxHeartbeats 8000000 in
set_option maxRecDepth 100000 in
theorem slices_Equal_rune_rune.calls (k : Nat) (A0 : Option Addr) (c0 : Nat) (l0 : List Int) (A1 : Option Addr) (c1 : Nat) (l1 : List Int) (r : Bool) (w : World) (hr0 : Kd.C (Kd.int .i32) w A0 l0.length l0) (hc0 : l0.length ≤ c0) (hr1 : Kd.C (Kd.int .i32) w A1 l1.length l1) (hc1 : l1.length ≤ c1) (h : slices_Equal_rune_rune.f k l0 l1 = some r) :
    Calls Tryd.prog 31 #[.slice A0 l0.length c0, .slice A1 l1.length c1] w fun e w' => e = .returned (.bool r) ∧ Drawn0 w w' := by
  have HR0 := Aside0.mk hr0
  have HC0 := Aside0.mk hc0
  clear hr0 hc0
  have HR1 := Aside0.mk hr1
  have HC1 := Aside0.mk hc1
  clear hr1 hc1
  have H : (if (l0.length : Int) = (l1.length : Int) then (slices_Equal_rune_rune.l0 k l0 l1 (l0.length : Int) 0) else (some false)) = some r := h
  clear h
  by_cases c3 : (l0.length : Int) = (l1.length : Int)
  · rw [if_pos c3] at H
    have c3b0 : ((l0.length : Int) == (l1.length : Int)) = true := beq_iff_eq.mpr c3
    have c3b1 : ((l0.length : Int) != (l1.length : Int)) = false := bne_eq_false_iff_eq.mpr c3
    have c3b2 : (l0.length == l1.length) = true := by first | simpa using c3 | (simp at c3 ⊢; omega)
    clear c3
    have H' := Aside0.mk H
    clear H
    go_enter Tryd.func31, Tryd.ntmps31
    go_wp2
    repeat (go_quiet (fail); try go_wp2)
    go_loopg [13] k (fun kq v13 w' => ∃ (x13_1 : Int), v13 = .int .i64 x13_1 ∧ Aside0 (slices_Equal_rune_rune.l0 kq l0 l1 (l0.length : Int) x13_1 = some r) ∧ Aside0 (kq ≤ k) ∧ Drawn0 w w')
    case atStart => exact ⟨(0), (by first | rfl | (simp; done) | (simp [*]; done)), H', ⟨Nat.le_refl _⟩, by repeat (first | exact Drawn0.refl _ | apply Drawn0.step)⟩
    case round =>
      clear H'
      try clear c1
      try clear p2
      try clear c3
      try clear c3b0
      try clear c3b1
      try clear c3b2
      obtain ⟨x13_1, rfl, HA, HK1, ⟨m1, rfl⟩⟩ := hrel
      cases gk with
      | zero => exact absurd HA.out (by simp [slices_Equal_rune_rune.l0])
      | succ k1 =>
        have H := HA.out
        clear HA
        simp only [slices_Equal_rune_rune.l0] at H
        by_cases c4 : x13_1 < (l0.length : Int)
        · rw [if_pos c4] at H
          have c4b0 : decide (x13_1 < (l0.length : Int)) = true := decide_eq_true c4
          clear c4
          by_cases c5 : 0 ≤ x13_1
          · rw [if_pos c5] at H
            have c5b0 : decide (0 ≤ x13_1) = true := decide_eq_true c5
            clear c5
            by_cases c6 : x13_1 < (l0.length : Int)
            · rw [if_pos c6] at H
              have c6b0 : decide (x13_1 < (l0.length : Int)) = true := decide_eq_true c6
              clear c6
              by_cases c7 : x13_1 < (l1.length : Int)
              · rw [if_pos c7] at H
                have c7b0 : decide (x13_1 < (l1.length : Int)) = true := decide_eq_true c7
                clear c7
                by_cases c8 : (rd l0 x13_1) = (rd l1 x13_1)
                · rw [if_pos c8] at H
                  have c8b0 : ((rd l0 x13_1) == (rd l1 x13_1)) = true := beq_iff_eq.mpr c8
                  have c8b1 : ((rd l0 x13_1) != (rd l1 x13_1)) = false := bne_eq_false_iff_eq.mpr c8
                  clear c8
                  have H' := Aside0.mk H
                  clear H
                  have p130 : 0 ≤ (x13_1 : Int) := of_decide_eq_true (by first | (with_reducible assumption) | assumption)
                  have q130 : x13_1 < (l0.length : Int) := of_decide_eq_true (by first | (with_reducible assumption) | assumption)
                  obtain ⟨ad130, e130, hx130_0⟩ := Kd.at_int HR0.out x13_1 p130 q130
                  cases e130
                  replace p130 := eq_true p130
                  replace q130 := eq_true q130
                  have p131 : 0 ≤ (x13_1 : Int) := of_decide_eq_true (by first | (with_reducible assumption) | assumption)
                  have q131 : x13_1 < (l1.length : Int) := of_decide_eq_true (by first | (with_reducible assumption) | assumption)
                  obtain ⟨ad131, e131, hx131_0⟩ := Kd.at_int HR1.out x13_1 p131 q131
                  cases e131
                  replace p131 := eq_true p131
                  replace q131 := eq_true q131
                  go_wp2
                  repeat (go_quiet (fail); try go_wp2)
                  go_roundg k1
                  case measure => have := HK1.out; omega
                  case rel => exact ⟨(wrap64 (x13_1 + 1)), (by first | rfl | (simp; done) | (simp [*]; done)), H', ⟨by have := HK1.out; omega⟩, by repeat (first | exact Drawn0.refl _ | apply Drawn0.step)⟩
                · rw [if_neg c8] at H
                  have c8b0 : ((rd l0 x13_1) == (rd l1 x13_1)) = false := beq_eq_false_iff_ne.mpr c8
                  have c8b1 : ((rd l0 x13_1) != (rd l1 x13_1)) = true := bne_iff_ne.mpr c8
                  obtain rfl := Option.some.inj H
                  have p130 : 0 ≤ (x13_1 : Int) := of_decide_eq_true (by first | (with_reducible assumption) | assumption)
                  have q130 : x13_1 < (l0.length : Int) := of_decide_eq_true (by first | (with_reducible assumption) | assumption)
                  obtain ⟨ad130, e130, hx130_0⟩ := Kd.at_int HR0.out x13_1 p130 q130
                  cases e130
                  replace p130 := eq_true p130
                  replace q130 := eq_true q130
                  have p131 : 0 ≤ (x13_1 : Int) := of_decide_eq_true (by first | (with_reducible assumption) | assumption)
                  have q131 : x13_1 < (l1.length : Int) := of_decide_eq_true (by first | (with_reducible assumption) | assumption)
                  obtain ⟨ad131, e131, hx131_0⟩ := Kd.at_int HR1.out x13_1 p131 q131
                  cases e131
                  replace p131 := eq_true p131
                  replace q131 := eq_true q131
                  go_wp2
                  repeat (go_quiet (fail); try go_wp2)
                  go_ret
                  exact ⟨by first | rfl | (simp; done) | (simp [*]; done), by repeat (first | exact Drawn0.refl _ | apply Drawn0.step)⟩
              · rw [if_neg c7] at H
                exact absurd H (by simp)
            · rw [if_neg c6] at H
              exact absurd H (by simp)
          · rw [if_neg c5] at H
            exact absurd H (by simp)
        · rw [if_neg c4] at H
          have c4b0 : decide (x13_1 < (l0.length : Int)) = false := decide_eq_false c4
          clear c4
          obtain rfl := Option.some.inj H
          go_wp2
          repeat (go_quiet (fail); try go_wp2)
          go_ret
          exact ⟨by first | rfl | (simp; done) | (simp [*]; done), by repeat (first | exact Drawn0.refl _ | apply Drawn0.step)⟩
  · rw [if_neg c3] at H
    have c3b0 : ((l0.length : Int) == (l1.length : Int)) = false := beq_eq_false_iff_ne.mpr c3
    have c3b1 : ((l0.length : Int) != (l1.length : Int)) = true := bne_iff_ne.mpr c3
    have c3b2 : (l0.length == l1.length) = false := by first | simpa using c3 | (simp at c3 ⊢; omega)
    obtain rfl := Option.some.inj H
    go_enter Tryd.func31, Tryd.ntmps31
    go_wp2
    repeat (go_quiet (fail); try go_wp2)
    go_ret
    exact ⟨by first | rfl | (simp; done) | (simp [*]; done), by repeat (first | exact Drawn0.refl _ | apply Drawn0.step)⟩

def portcullisref04_Same.l0 : Nat → List Int → List Int → Int → Option (Bool)
  | 0, _, _, _ => none
  | k + 1, x0, x1, x5 => if x5 < (x0.length : Int) then (if 0 ≤ x5 then (if x5 < (x1.length : Int) then (if (rd x0 x5) = (rd x1 x5) then (portcullisref04_Same.l0 k x0 x1 (wrap64 (x5 + 1))) else (some false)) else (none)) else (none)) else (some true)
def portcullisref04_Same.f (k : Nat) (l0 : List Int) (l1 : List Int) : Option (Bool) := if (l0.length : Int) = (l1.length : Int) then (portcullisref04_Same.l0 k l0 l1 0) else (some false)
set_option maxHeartbeats 8000000 in
set_option maxRecDepth 100000 in
theorem portcullisref04_Same.calls (k : Nat) (A0 : Option Addr) (c0 : Nat) (l0 : List Int) (A1 : Option Addr) (c1 : Nat) (l1 : List Int) (r : Bool) (w : World) (hr0 : Kd.C (Kd.int .i32) w A0 l0.length l0) (hc0 : l0.length ≤ c0) (hr1 : Kd.C (Kd.int .i32) w A1 l1.length l1) (hc1 : l1.length ≤ c1) (h : portcullisref04_Same.f k l0 l1 = some r) :
    Calls Tryd.prog 10 #[.slice A0 l0.length c0, .slice A1 l1.length c1] w fun e w' => e = .returned (.bool r) ∧ Drawn0 w w' := by
  have HR0 := Aside0.mk hr0
  have HC0 := Aside0.mk hc0
  clear hr0 hc0
  have HR1 := Aside0.mk hr1
  have HC1 := Aside0.mk hc1
  clear hr1 hc1
  have H : (if (l0.length : Int) = (l1.length : Int) then (portcullisref04_Same.l0 k l0 l1 0) else (some false)) = some r := h
  clear h
  by_cases c3 : (l0.length : Int) = (l1.length : Int)
  · rw [if_pos c3] at H
    have c3b0 : ((l0.length : Int) == (l1.length : Int)) = true := beq_iff_eq.mpr c3
    have c3b1 : ((l0.length : Int) != (l1.length : Int)) = false := bne_eq_false_iff_eq.mpr c3
    have c3b2 : (l0.length == l1.length) = true := by first | simpa using c3 | (simp at c3 ⊢; omega)
    clear c3
    have H' := Aside0.mk H
    clear H
    go_enter Tryd.func10, Tryd.ntmps10
    go_wp2
    repeat (go_quiet (fail); try go_wp2)
    go_loopg [5] k (fun kq v5 w' => ∃ (x5_1 : Int), v5 = .int .i64 x5_1 ∧ Aside0 (portcullisref04_Same.l0 kq l0 l1 x5_1 = some r) ∧ Aside0 (kq ≤ k) ∧ Drawn0 w w')
    case atStart => exact ⟨(0), (by first | rfl | (simp; done) | (simp [*]; done)), H', ⟨Nat.le_refl _⟩, by repeat (first | exact Drawn0.refl _ | apply Drawn0.step)⟩
    case round =>
      clear H'
      try clear c1
      try clear p2
      try clear c3
      try clear c3b0
      try clear c3b1
      try clear c3b2
      obtain ⟨x5_1, rfl, HA, HK1, ⟨m1, rfl⟩⟩ := hrel
      cases gk with
      | zero => exact absurd HA.out (by simp [portcullisref04_Same.l0])
      | succ k1 =>
        have H := HA.out
        clear HA
        simp only [portcullisref04_Same.l0] at H
        by_cases c4 : x5_1 < (l0.length : Int)
        · rw [if_pos c4] at H
          have c4b0 : decide (x5_1 < (l0.length : Int)) = true := decide_eq_true c4
          clear c4
          by_cases c5 : 0 ≤ x5_1
          · rw [if_pos c5] at H
            have c5b0 : decide (0 ≤ x5_1) = true := decide_eq_true c5
            clear c5
            by_cases c6 : x5_1 < (l1.length : Int)
            · rw [if_pos c6] at H
              have c6b0 : decide (x5_1 < (l1.length : Int)) = true := decide_eq_true c6
              clear c6
              by_cases c7 : (rd l0 x5_1) = (rd l1 x5_1)
              · rw [if_pos c7] at H
                have c7b0 : ((rd l0 x5_1) == (rd l1 x5_1)) = true := beq_iff_eq.mpr c7
                have c7b1 : ((rd l0 x5_1) != (rd l1 x5_1)) = false := bne_eq_false_iff_eq.mpr c7
                clear c7
                have H' := Aside0.mk H
                clear H
                have p300 : 0 ≤ (x5_1 : Int) := of_decide_eq_true (by first | (with_reducible assumption) | assumption)
                have q300 : x5_1 < (l0.length : Int) := of_decide_eq_true (by first | (with_reducible assumption) | assumption)
                obtain ⟨ad300, e300, hx300_0⟩ := Kd.at_int HR0.out x5_1 p300 q300
                cases e300
                replace p300 := eq_true p300
                replace q300 := eq_true q300
                have p301 : 0 ≤ (x5_1 : Int) := of_decide_eq_true (by first | (with_reducible assumption) | assumption)
                have q301 : x5_1 < (l1.length : Int) := of_decide_eq_true (by first | (with_reducible assumption) | assumption)
                obtain ⟨ad301, e301, hx301_0⟩ := Kd.at_int HR1.out x5_1 p301 q301
                cases e301
                replace p301 := eq_true p301
                replace q301 := eq_true q301
                go_wp2
                repeat (go_quiet (fail); try go_wp2)
                go_roundg k1
                case measure => have := HK1.out; omega
                case rel => exact ⟨(wrap64 (x5_1 + 1)), (by first | rfl | (simp; done) | (simp [*]; done)), H', ⟨by have := HK1.out; omega⟩, by repeat (first | exact Drawn0.refl _ | apply Drawn0.step)⟩
              · rw [if_neg c7] at H
                have c7b0 : ((rd l0 x5_1) == (rd l1 x5_1)) = false := beq_eq_false_iff_ne.mpr c7
                have c7b1 : ((rd l0 x5_1) != (rd l1 x5_1)) = true := bne_iff_ne.mpr c7
                obtain rfl := Option.some.inj H
                have p300 : 0 ≤ (x5_1 : Int) := of_decide_eq_true (by first | (with_reducible assumption) | assumption)
                have q300 : x5_1 < (l0.length : Int) := of_decide_eq_true (by first | (with_reducible assumption) | assumption)
                obtain ⟨ad300, e300, hx300_0⟩ := Kd.at_int HR0.out x5_1 p300 q300
                cases e300
                replace p300 := eq_true p300
                replace q300 := eq_true q300
                have p301 : 0 ≤ (x5_1 : Int) := of_decide_eq_true (by first | (with_reducible assumption) | assumption)
                have q301 : x5_1 < (l1.length : Int) := of_decide_eq_true (by first | (with_reducible assumption) | assumption)
                obtain ⟨ad301, e301, hx301_0⟩ := Kd.at_int HR1.out x5_1 p301 q301
                cases e301
                replace p301 := eq_true p301
                replace q301 := eq_true q301
                go_wp2
                repeat (go_quiet (fail); try go_wp2)
                go_ret
                exact ⟨by first | rfl | (simp; done) | (simp [*]; done), by repeat (first | exact Drawn0.refl _ | apply Drawn0.step)⟩
            · rw [if_neg c6] at H
              exact absurd H (by simp)
          · rw [if_neg c5] at H
            exact absurd H (by simp)
        · rw [if_neg c4] at H
          have c4b0 : decide (x5_1 < (l0.length : Int)) = false := decide_eq_false c4
          clear c4
          obtain rfl := Option.some.inj H
          go_wp2
          repeat (go_quiet (fail); try go_wp2)
          go_ret
          exact ⟨by first | rfl | (simp; done) | (simp [*]; done), by repeat (first | exact Drawn0.refl _ | apply Drawn0.step)⟩
  · rw [if_neg c3] at H
    have c3b0 : ((l0.length : Int) == (l1.length : Int)) = false := beq_eq_false_iff_ne.mpr c3
    have c3b1 : ((l0.length : Int) != (l1.length : Int)) = true := bne_iff_ne.mpr c3
    have c3b2 : (l0.length == l1.length) = false := by first | simpa using c3 | (simp at c3 ⊢; omega)
    obtain rfl := Option.some.inj H
    go_enter Tryd.func10, Tryd.ntmps10
    go_wp2
    repeat (go_quiet (fail); try go_wp2)
    go_ret
    exact ⟨by first | rfl | (simp; done) | (simp [*]; done), by repeat (first | exact Drawn0.refl _ | apply Drawn0.step)⟩

def portcullisref01_Scalar.f (a0 : Int) : Option (Bool) := if a0 ≥ 0 then (if a0 ≤ 1114111 then (if a0 < 55296 then (some true) else (some (decide (a0 > 57343)))) else (some false)) else (some false)
set_option maxHeartbeats 8000000 in
set_option maxRecDepth 100000 in
theorem portcullisref01_Scalar.calls (a0 : Int) (r : Bool) (w : World) (h : portcullisref01_Scalar.f a0 = some r) :
    Calls Tryd.prog 49 #[.int .i32 a0] w fun e w' => e = .returned (.bool r) ∧ Drawn0 w w' := by
  have H : (if a0 ≥ 0 then (if a0 ≤ 1114111 then (if a0 < 55296 then (some true) else (some (decide (a0 > 57343)))) else (some false)) else (some false)) = some r := h
  clear h
  by_cases c2 : a0 ≥ 0
  · rw [if_pos c2] at H
    have c2b0 : decide (0 ≤ a0) = true := decide_eq_true c2
    clear c2
    by_cases c3 : a0 ≤ 1114111
    · rw [if_pos c3] at H
      have c3b0 : decide (a0 ≤ 1114111) = true := decide_eq_true c3
      clear c3
      by_cases c4 : a0 < 55296
      · rw [if_pos c4] at H
        have c4b0 : decide (a0 < 55296) = true := decide_eq_true c4
        clear c4
        obtain rfl := Option.some.inj H
        go_enter Tryd.func49, Tryd.ntmps49
        go_wp2
        go_ret
        exact ⟨by first | rfl | (simp; done) | (simp [*]; done), by repeat (first | exact Drawn0.refl _ | apply Drawn0.step)⟩
      · rw [if_neg c4] at H
        have c4b0 : decide (a0 < 55296) = false := decide_eq_false c4
        clear c4
        obtain rfl := Option.some.inj H
        go_enter Tryd.func49, Tryd.ntmps49
        go_wp2
        go_ret
        exact ⟨by first | rfl | (simp; done) | (simp [*]; done), by repeat (first | exact Drawn0.refl _ | apply Drawn0.step)⟩
    · rw [if_neg c3] at H
      have c3b0 : decide (a0 ≤ 1114111) = false := decide_eq_false c3
      clear c3
      obtain rfl := Option.some.inj H
      go_enter Tryd.func49, Tryd.ntmps49
      go_wp2
      go_ret
      exact ⟨by first | rfl | (simp; done) | (simp [*]; done), by repeat (first | exact Drawn0.refl _ | apply Drawn0.step)⟩
  · rw [if_neg c2] at H
    have c2b0 : decide (0 ≤ a0) = false := decide_eq_false c2
    clear c2
    obtain rfl := Option.some.inj H
    go_enter Tryd.func49, Tryd.ntmps49
    go_wp2
    go_ret
    exact ⟨by first | rfl | (simp; done) | (simp [*]; done), by repeat (first | exact Drawn0.refl _ | apply Drawn0.step)⟩

def portcullisref01_Bytes.f (a0 : Int) : Option (ByteArray) := if a0 < 128 then (if ([] : List Int).length < 140737488355328 then (some (strOfNums (([] : List Int) ++ [(a0) % 256]))) else (none)) else (if a0 < 2048 then ((some (([(wrap32 (192 + (wrap32 (Int.tdiv a0 64)))) % 256, (wrap32 (128 + (Int.tmod a0 64))) % 256] : List Int) : List Int)).bind fun y305 => (if ([] : List Int).length + y305.length < 140737488355328 then (some (strOfNums (([] : List Int) ++ y305))) else (none))) else (if a0 < 65536 then ((some (([(wrap32 (224 + (wrap32 (Int.tdiv a0 4096)))) % 256, (wrap32 (128 + (Int.tmod (wrap32 (Int.tdiv a0 64)) 64))) % 256, (wrap32 (128 + (Int.tmod a0 64))) % 256] : List Int) : List Int)).bind fun y311 => (if ([] : List Int).length + y311.length < 140737488355328 then (some (strOfNums (([] : List Int) ++ y311))) else (none))) else ((some (([(wrap32 (240 + (wrap32 (Int.tdiv a0 262144)))) % 256, (wrap32 (128 + (Int.tmod (wrap32 (Int.tdiv a0 4096)) 64))) % 256, (wrap32 (128 + (Int.tmod (wrap32 (Int.tdiv a0 64)) 64))) % 256, (wrap32 (128 + (Int.tmod a0 64))) % 256] : List Int) : List Int)).bind fun y317 => (if ([] : List Int).length + y317.length < 140737488355328 then (some (strOfNums (([] : List Int) ++ y317))) else (none)))))
set_option maxHeartbeats 8000000 in
set_option maxRecDepth 100000 in
theorem portcullisref01_Bytes.calls (a0 : Int) (r : ByteArray) (w : World) (h : portcullisref01_Bytes.f a0 = some r) :
    Calls Tryd.prog 50 #[.int .i32 a0] w fun e w' => e = .returned (.string r) ∧ Below w.heap.size w w' := by
  have HB := Aside0.mk (Below.refl w.heap.size w)
  have H : (if a0 < 128 then (if ([] : List Int).length < 140737488355328 then (some (strOfNums (([] : List Int) ++ [(a0) % 256]))) else (none)) else (if a0 < 2048 then ((some (([(wrap32 (192 + (wrap32 (Int.tdiv a0 64)))) % 256, (wrap32 (128 + (Int.tmod a0 64))) % 256] : List Int) : List Int)).bind fun y305 => (if ([] : List Int).length + y305.length < 140737488355328 then (some (strOfNums (([] : List Int) ++ y305))) else (none))) else (if a0 < 65536 then ((some (([(wrap32 (224 + (wrap32 (Int.tdiv a0 4096)))) % 256, (wrap32 (128 + (Int.tmod (wrap32 (Int.tdiv a0 64)) 64))) % 256, (wrap32 (128 + (Int.tmod a0 64))) % 256] : List Int) : List Int)).bind fun y311 => (if ([] : List Int).length + y311.length < 140737488355328 then (some (strOfNums (([] : List Int) ++ y311))) else (none))) else ((some (([(wrap32 (240 + (wrap32 (Int.tdiv a0 262144)))) % 256, (wrap32 (128 + (Int.tmod (wrap32 (Int.tdiv a0 4096)) 64))) % 256, (wrap32 (128 + (Int.tmod (wrap32 (Int.tdiv a0 64)) 64))) % 256, (wrap32 (128 + (Int.tmod a0 64))) % 256] : List Int) : List Int)).bind fun y317 => (if ([] : List Int).length + y317.length < 140737488355328 then (some (strOfNums (([] : List Int) ++ y317))) else (none)))))) = some r := h
  clear h
  by_cases c2 : a0 < 128
  · rw [if_pos c2] at H
    have c2b0 : decide (a0 < 128) = true := decide_eq_true c2
    clear c2
    by_cases c3 : ([] : List Int).length < 140737488355328
    · rw [if_pos c3] at H
      have LMc3 := Aside0.mk c3
      clear c3
      obtain ⟨y302, hy302⟩ : ∃ y_ : List Int, y_ = (([] : List Int) ++ [(a0) % 256]) := ⟨_, rfl⟩
      replace H : (some (strOfNums y302)) = some r := by first | (rw [hy302]; with_reducible exact H) | (have H2_ := (Option.bind_some _ _).symm.trans H; rw [hy302]; with_reducible exact H2_) | (have H2_ := (Option.bind_some _ _).symm.trans H; with_reducible exact H2_) | with_reducible exact H | (rw [hy302]; exact H) | exact H
      have Ny302 := Aside0.mk hy302
      clear hy302
      obtain rfl := Option.some.inj H
      go_enter Tryd.func50, Tryd.ntmps50
      go_wp2_with (first | ((with_reducible refine gate_builtin (b := .append) (xs := #[.tmp 6, .tmp 9]) rfl ?_); at_builtin; refine Kd.R_append (Kd.int .u8) (w0 := w) w.heap.size rfl (.tmp 6) (.tmp 9) 65 5 (.int .u8 0) 1 rfl Tryd.underlying65 info5 rfl (by decide) (by omega) (.slice none 0 0) ([] : List Int) ((a0) % 256) [.int .u8 ((a0) % 256)] (fun _ => True) (fun _ => False) rfl rfl ?aP (fun _ hk => hk.elim) ?aF ?aO ?aB ?aS ?aL ?_; (case aP => exact rfl); (case aB => exact (by repeat (first | (with_reducible first | exact HB.out | apply below_alloc | apply pw_below_drewN | apply below_drew1) | exact HB.out))); (case aF => exact (fun _ _ => trivial)); (case aO => exact ((Kd.R_nil _ _ _ _ (fun _ => True)))); (case aS => exact (below_size (by repeat (first | (with_reducible first | exact HB.out | apply below_alloc | apply pw_below_drewN | apply below_drew1) | exact HB.out)))); (case aL => have := LMc3.out; omega); intro v303 w4 ho hb hg hat; rw [← Ny302.out] at ho; have n0_ := Aside0.mk (hb); have n1_ := Aside0.mk (ho); clear HB; have HB := n0_; have HO304 := n1_; clear n0_ n1_; clear ho hb hg hat; have hcv5 := own_string (P := Tryd.prog) Tryd.underlying65 Tryd.underlying5 Tryd.underlying9 (Kd.own_of_R HO304.out)))
      go_ret
      exact ⟨by first | rfl | (simp [errW_none, errW_some] <;> rfl) | (simp [*, errW_none, errW_some] <;> rfl), by repeat (first | (with_reducible first | exact HB.out | apply below_alloc | apply pw_below_drewN | apply below_drew1) | exact HB.out)⟩
    · rw [if_neg c3] at H
      exact absurd H (by simp)
  · rw [if_neg c2] at H
    have c2b0 : decide (a0 < 128) = false := decide_eq_false c2
    clear c2
    by_cases c6 : a0 < 2048
    · rw [if_pos c6] at H
      have c6b0 : decide (a0 < 2048) = true := decide_eq_true c6
      clear c6
      obtain ⟨y305, hy305⟩ : ∃ y_ : List Int, y_ = (([(wrap32 (192 + (wrap32 (Int.tdiv a0 64)))) % 256, (wrap32 (128 + (Int.tmod a0 64))) % 256] : List Int)) := ⟨_, rfl⟩
      replace H : (if ([] : List Int).length + y305.length < 140737488355328 then (some (strOfNums (([] : List Int) ++ y305))) else (none)) = some r := by first | (rw [hy305]; with_reducible exact H) | (have H2_ := (Option.bind_some _ _).symm.trans H; rw [hy305]; with_reducible exact H2_) | (have H2_ := (Option.bind_some _ _).symm.trans H; with_reducible exact H2_) | with_reducible exact H | (rw [hy305]; exact H) | exact H
      have Ny305 := Aside0.mk hy305
      clear hy305
      by_cases c7 : ([] : List Int).length + y305.length < 140737488355328
      · rw [if_pos c7] at H
        have LMc7 := Aside0.mk c7
        clear c7
        obtain ⟨y308, hy308⟩ : ∃ y_ : List Int, y_ = (([] : List Int) ++ y305) := ⟨_, rfl⟩
        replace H : (some (strOfNums y308)) = some r := by first | (rw [hy308]; with_reducible exact H) | (have H2_ := (Option.bind_some _ _).symm.trans H; rw [hy308]; with_reducible exact H2_) | (have H2_ := (Option.bind_some _ _).symm.trans H; with_reducible exact H2_) | with_reducible exact H | (rw [hy308]; exact H) | exact H
        have Ny308 := Aside0.mk hy308
        clear hy308
        obtain rfl := Option.some.inj H
        go_enter Tryd.func50, Tryd.ntmps50
        go_wp2_with (first | ((with_reducible refine gate_dst (N := 22) rfl ?_); refine Kd.R_lit (Kd.int .u8) _ 5 ?hg (N := 22) ?hd (xs := ([(wrap32 (192 + (wrap32 (Int.tdiv a0 64)))) % 256, (wrap32 (128 + (Int.tmod a0 64))) % 256] : List Int)) (inner := [.int .u8 ((wrap32 (192 + (wrap32 (Int.tdiv a0 64)))) % 256), .int .u8 ((wrap32 (128 + (Int.tmod a0 64))) % 256)]) (ok := fun _ => True) (okp := fun _ => True) ?hr ?hp (fun _ hk => hk) trivial (Below.refl _ _) (Nat.le_refl _) (by simp) ?_; (case hd => rfl); (case hg => rfl); (case hr => first | (go_simp; done) | (go_simp; rfl)); (case hp => exact (Reps.one (show Kd.M (Kd.int .u8) _ _ _ ((wrap32 (192 + (wrap32 (Int.tdiv a0 64)))) % 256) [.int .u8 ((wrap32 (192 + (wrap32 (Int.tdiv a0 64)))) % 256)] from rfl) (Reps.one (show Kd.M (Kd.int .u8) _ _ _ ((wrap32 (128 + (Int.tmod a0 64))) % 256) [.int .u8 ((wrap32 (128 + (Int.tmod a0 64))) % 256)] from rfl) (Reps.none _ _)))); intro v306 w8 ho9 hb hg_ hnew_; clear hg_ hnew_; (first | rw [← Ny305.out] at ho9 | (simp only [Int.reduceToNat] at ho9; rw [← Ny305.out] at ho9)); have n0_ := Aside0.mk (Kd.R_lower ho9 (below_size (by repeat (first | (with_reducible first | exact HB.out | apply below_alloc | apply pw_below_drewN | apply below_drew1) | exact HB.out)))); have n1_ := Aside0.mk (below_step (by repeat (first | (with_reducible first | exact HB.out | apply below_alloc | apply pw_below_drewN | apply below_drew1) | exact HB.out)) hb); clear HB; have HO307 := n0_; have HB := n1_; clear n0_ n1_; clear hb ho9; obtain ⟨Ao11, co11, eo11⟩ := Kd.R_slice HO307.out; subst eo11) | ((with_reducible refine gate_builtin (b := .append) (xs := #[.tmp 13, .tmp 22]) rfl ?_); at_builtin; refine Kd.R_append_rows (Kd.int .u8) (w0 := w) w.heap.size rfl (.tmp 13) (.tmp 22) 65 5 (.int .u8 0) 1 rfl Tryd.underlying65 info5 rfl (by decide) (by omega) (.slice none 0 0) ([] : List Int) y305 _ _ _ (fun k_ => some k_ ≠ (.slice Ao11 y305.length co11 : Value).ownBlock) (fun _ => False) rfl rfl ?aO ?aR (fun _ _ h => h) (fun _ h => h.elim) ?aF ?aB ?aS ?aL ?_; (case aR => repeat (first | exact (Kd.R_reads' HO307.out).2.2 | (with_reducible refine Kd.C_alloc ?_ _) | (with_reducible refine Kd.C_drewN ?_ _) | (with_reducible refine Kd.C_drew ?_))); (case aB => exact (by repeat (first | (with_reducible first | exact HB.out | apply below_alloc | apply pw_below_drewN | apply below_drew1) | exact HB.out))); (case aF => exact (fun k_ hk => Kd.fresh' (Kd.R_lt (by (with_reducible repeat (first | apply Kd.R_alloc | apply Kd.R_drewN | apply Kd.R_drew)); exact HO307.out)) k_ hk)); (case aO => exact ((Kd.R_nil _ _ _ _ (fun k_ => some k_ ≠ (.slice Ao11 y305.length co11 : Value).ownBlock)))); (case aS => exact (below_size (by repeat (first | (with_reducible first | exact HB.out | apply below_alloc | apply pw_below_drewN | apply below_drew1) | exact HB.out)))); (case aL => have := LMc7.out; omega); intro v309 w10 ho hb hg hat; rw [← Ny308.out] at ho; have n0_ := Aside0.mk (Kd.R_after (Kd.R_apart_nil (by (with_reducible repeat (first | apply Kd.R_alloc | apply Kd.R_drewN | apply Kd.R_drew)); exact HO307.out)) hg hat); have n1_ := Aside0.mk (hb); have n2_ := Aside0.mk (ho); clear HO307; clear HB; have HO307 := n0_; have HB := n1_; have HO310 := n2_; clear n0_ n1_ n2_; clear ho hb hg hat; have hcv12 := own_string (P := Tryd.prog) Tryd.underlying65 Tryd.underlying5 Tryd.underlying9 (Kd.own_of_R HO310.out)))
        go_ret
        exact ⟨by first | rfl | (simp [errW_none, errW_some] <;> rfl) | (simp [*, errW_none, errW_some] <;> rfl), by repeat (first | (with_reducible first | exact HB.out | apply below_alloc | apply pw_below_drewN | apply below_drew1) | exact HB.out)⟩
      · rw [if_neg c7] at H
        exact absurd H (by simp)
    · rw [if_neg c6] at H
      have c6b0 : decide (a0 < 2048) = false := decide_eq_false c6
      clear c6
      by_cases c13 : a0 < 65536
      · rw [if_pos c13] at H
        have c13b0 : decide (a0 < 65536) = true := decide_eq_true c13
        clear c13
        obtain ⟨y311, hy311⟩ : ∃ y_ : List Int, y_ = (([(wrap32 (224 + (wrap32 (Int.tdiv a0 4096)))) % 256, (wrap32 (128 + (Int.tmod (wrap32 (Int.tdiv a0 64)) 64))) % 256, (wrap32 (128 + (Int.tmod a0 64))) % 256] : List Int)) := ⟨_, rfl⟩
        replace H : (if ([] : List Int).length + y311.length < 140737488355328 then (some (strOfNums (([] : List Int) ++ y311))) else (none)) = some r := by first | (rw [hy311]; with_reducible exact H) | (have H2_ := (Option.bind_some _ _).symm.trans H; rw [hy311]; with_reducible exact H2_) | (have H2_ := (Option.bind_some _ _).symm.trans H; with_reducible exact H2_) | with_reducible exact H | (rw [hy311]; exact H) | exact H
        have Ny311 := Aside0.mk hy311
        clear hy311
        by_cases c14 : ([] : List Int).length + y311.length < 140737488355328
        · rw [if_pos c14] at H
          have LMc14 := Aside0.mk c14
          clear c14
          obtain ⟨y314, hy314⟩ : ∃ y_ : List Int, y_ = (([] : List Int) ++ y311) := ⟨_, rfl⟩
          replace H : (some (strOfNums y314)) = some r := by first | (rw [hy314]; with_reducible exact H) | (have H2_ := (Option.bind_some _ _).symm.trans H; rw [hy314]; with_reducible exact H2_) | (have H2_ := (Option.bind_some _ _).symm.trans H; with_reducible exact H2_) | with_reducible exact H | (rw [hy314]; exact H) | exact H
          have Ny314 := Aside0.mk hy314
          clear hy314
          obtain rfl := Option.some.inj H
          go_enter Tryd.func50, Tryd.ntmps50
          go_wp2_with (first | ((with_reducible refine gate_dst (N := 40) rfl ?_); refine Kd.R_lit (Kd.int .u8) _ 5 ?hg (N := 40) ?hd (xs := ([(wrap32 (224 + (wrap32 (Int.tdiv a0 4096)))) % 256, (wrap32 (128 + (Int.tmod (wrap32 (Int.tdiv a0 64)) 64))) % 256, (wrap32 (128 + (Int.tmod a0 64))) % 256] : List Int)) (inner := [.int .u8 ((wrap32 (224 + (wrap32 (Int.tdiv a0 4096)))) % 256), .int .u8 ((wrap32 (128 + (Int.tmod (wrap32 (Int.tdiv a0 64)) 64))) % 256), .int .u8 ((wrap32 (128 + (Int.tmod a0 64))) % 256)]) (ok := fun _ => True) (okp := fun _ => True) ?hr ?hp (fun _ hk => hk) trivial (Below.refl _ _) (Nat.le_refl _) (by simp) ?_; (case hd => rfl); (case hg => rfl); (case hr => first | (go_simp; done) | (go_simp; rfl)); (case hp => exact (Reps.one (show Kd.M (Kd.int .u8) _ _ _ ((wrap32 (224 + (wrap32 (Int.tdiv a0 4096)))) % 256) [.int .u8 ((wrap32 (224 + (wrap32 (Int.tdiv a0 4096)))) % 256)] from rfl) (Reps.one (show Kd.M (Kd.int .u8) _ _ _ ((wrap32 (128 + (Int.tmod (wrap32 (Int.tdiv a0 64)) 64))) % 256) [.int .u8 ((wrap32 (128 + (Int.tmod (wrap32 (Int.tdiv a0 64)) 64))) % 256)] from rfl) (Reps.one (show Kd.M (Kd.int .u8) _ _ _ ((wrap32 (128 + (Int.tmod a0 64))) % 256) [.int .u8 ((wrap32 (128 + (Int.tmod a0 64))) % 256)] from rfl) (Reps.none _ _))))); intro v312 w15 ho16 hb hg_ hnew_; clear hg_ hnew_; (first | rw [← Ny311.out] at ho16 | (simp only [Int.reduceToNat] at ho16; rw [← Ny311.out] at ho16)); have n0_ := Aside0.mk (Kd.R_lower ho16 (below_size (by repeat (first | (with_reducible first | exact HB.out | apply below_alloc | apply pw_below_drewN | apply below_drew1) | exact HB.out)))); have n1_ := Aside0.mk (below_step (by repeat (first | (with_reducible first | exact HB.out | apply below_alloc | apply pw_below_drewN | apply below_drew1) | exact HB.out)) hb); clear HB; have HO313 := n0_; have HB := n1_; clear n0_ n1_; clear hb ho16; obtain ⟨Ao18, co18, eo18⟩ := Kd.R_slice HO313.out; subst eo18) | ((with_reducible refine gate_builtin (b := .append) (xs := #[.tmp 26, .tmp 40]) rfl ?_); at_builtin; refine Kd.R_append_rows (Kd.int .u8) (w0 := w) w.heap.size rfl (.tmp 26) (.tmp 40) 65 5 (.int .u8 0) 1 rfl Tryd.underlying65 info5 rfl (by decide) (by omega) (.slice none 0 0) ([] : List Int) y311 _ _ _ (fun k_ => some k_ ≠ (.slice Ao18 y311.length co18 : Value).ownBlock) (fun _ => False) rfl rfl ?aO ?aR (fun _ _ h => h) (fun _ h => h.elim) ?aF ?aB ?aS ?aL ?_; (case aR => repeat (first | exact (Kd.R_reads' HO313.out).2.2 | (with_reducible refine Kd.C_alloc ?_ _) | (with_reducible refine Kd.C_drewN ?_ _) | (with_reducible refine Kd.C_drew ?_))); (case aB => exact (by repeat (first | (with_reducible first | exact HB.out | apply below_alloc | apply pw_below_drewN | apply below_drew1) | exact HB.out))); (case aF => exact (fun k_ hk => Kd.fresh' (Kd.R_lt (by (with_reducible repeat (first | apply Kd.R_alloc | apply Kd.R_drewN | apply Kd.R_drew)); exact HO313.out)) k_ hk)); (case aO => exact ((Kd.R_nil _ _ _ _ (fun k_ => some k_ ≠ (.slice Ao18 y311.length co18 : Value).ownBlock)))); (case aS => exact (below_size (by repeat (first | (with_reducible first | exact HB.out | apply below_alloc | apply pw_below_drewN | apply below_drew1) | exact HB.out)))); (case aL => have := LMc14.out; omega); intro v315 w17 ho hb hg hat; rw [← Ny314.out] at ho; have n0_ := Aside0.mk (Kd.R_after (Kd.R_apart_nil (by (with_reducible repeat (first | apply Kd.R_alloc | apply Kd.R_drewN | apply Kd.R_drew)); exact HO313.out)) hg hat); have n1_ := Aside0.mk (hb); have n2_ := Aside0.mk (ho); clear HO313; clear HB; have HO313 := n0_; have HB := n1_; have HO316 := n2_; clear n0_ n1_ n2_; clear ho hb hg hat; have hcv19 := own_string (P := Tryd.prog) Tryd.underlying65 Tryd.underlying5 Tryd.underlying9 (Kd.own_of_R HO316.out)))
          go_ret
          exact ⟨by first | rfl | (simp [errW_none, errW_some] <;> rfl) | (simp [*, errW_none, errW_some] <;> rfl), by repeat (first | (with_reducible first | exact HB.out | apply below_alloc | apply pw_below_drewN | apply below_drew1) | exact HB.out)⟩
        · rw [if_neg c14] at H
          exact absurd H (by simp)
      · rw [if_neg c13] at H
        have c13b0 : decide (a0 < 65536) = false := decide_eq_false c13
        clear c13
        obtain ⟨y317, hy317⟩ : ∃ y_ : List Int, y_ = (([(wrap32 (240 + (wrap32 (Int.tdiv a0 262144)))) % 256, (wrap32 (128 + (Int.tmod (wrap32 (Int.tdiv a0 4096)) 64))) % 256, (wrap32 (128 + (Int.tmod (wrap32 (Int.tdiv a0 64)) 64))) % 256, (wrap32 (128 + (Int.tmod a0 64))) % 256] : List Int)) := ⟨_, rfl⟩
        replace H : (if ([] : List Int).length + y317.length < 140737488355328 then (some (strOfNums (([] : List Int) ++ y317))) else (none)) = some r := by first | (rw [hy317]; with_reducible exact H) | (have H2_ := (Option.bind_some _ _).symm.trans H; rw [hy317]; with_reducible exact H2_) | (have H2_ := (Option.bind_some _ _).symm.trans H; with_reducible exact H2_) | with_reducible exact H | (rw [hy317]; exact H) | exact H
        have Ny317 := Aside0.mk hy317
        clear hy317
        by_cases c20 : ([] : List Int).length + y317.length < 140737488355328
        · rw [if_pos c20] at H
          have LMc20 := Aside0.mk c20
          clear c20
          obtain ⟨y320, hy320⟩ : ∃ y_ : List Int, y_ = (([] : List Int) ++ y317) := ⟨_, rfl⟩
          replace H : (some (strOfNums y320)) = some r := by first | (rw [hy320]; with_reducible exact H) | (have H2_ := (Option.bind_some _ _).symm.trans H; rw [hy320]; with_reducible exact H2_) | (have H2_ := (Option.bind_some _ _).symm.trans H; with_reducible exact H2_) | with_reducible exact H | (rw [hy320]; exact H) | exact H
          have Ny320 := Aside0.mk hy320
          clear hy320
          obtain rfl := Option.some.inj H
          go_enter Tryd.func50, Tryd.ntmps50
          go_wp2_with (first | ((with_reducible refine gate_dst (N := 61) rfl ?_); refine Kd.R_lit (Kd.int .u8) _ 5 ?hg (N := 61) ?hd (xs := ([(wrap32 (240 + (wrap32 (Int.tdiv a0 262144)))) % 256, (wrap32 (128 + (Int.tmod (wrap32 (Int.tdiv a0 4096)) 64))) % 256, (wrap32 (128 + (Int.tmod (wrap32 (Int.tdiv a0 64)) 64))) % 256, (wrap32 (128 + (Int.tmod a0 64))) % 256] : List Int)) (inner := [.int .u8 ((wrap32 (240 + (wrap32 (Int.tdiv a0 262144)))) % 256), .int .u8 ((wrap32 (128 + (Int.tmod (wrap32 (Int.tdiv a0 4096)) 64))) % 256), .int .u8 ((wrap32 (128 + (Int.tmod (wrap32 (Int.tdiv a0 64)) 64))) % 256), .int .u8 ((wrap32 (128 + (Int.tmod a0 64))) % 256)]) (ok := fun _ => True) (okp := fun _ => True) ?hr ?hp (fun _ hk => hk) trivial (Below.refl _ _) (Nat.le_refl _) (by simp) ?_; (case hd => rfl); (case hg => rfl); (case hr => first | (go_simp; done) | (go_simp; rfl)); (case hp => exact (Reps.one (show Kd.M (Kd.int .u8) _ _ _ ((wrap32 (240 + (wrap32 (Int.tdiv a0 262144)))) % 256) [.int .u8 ((wrap32 (240 + (wrap32 (Int.tdiv a0 262144)))) % 256)] from rfl) (Reps.one (show Kd.M (Kd.int .u8) _ _ _ ((wrap32 (128 + (Int.tmod (wrap32 (Int.tdiv a0 4096)) 64))) % 256) [.int .u8 ((wrap32 (128 + (Int.tmod (wrap32 (Int.tdiv a0 4096)) 64))) % 256)] from rfl) (Reps.one (show Kd.M (Kd.int .u8) _ _ _ ((wrap32 (128 + (Int.tmod (wrap32 (Int.tdiv a0 64)) 64))) % 256) [.int .u8 ((wrap32 (128 + (Int.tmod (wrap32 (Int.tdiv a0 64)) 64))) % 256)] from rfl) (Reps.one (show Kd.M (Kd.int .u8) _ _ _ ((wrap32 (128 + (Int.tmod a0 64))) % 256) [.int .u8 ((wrap32 (128 + (Int.tmod a0 64))) % 256)] from rfl) (Reps.none _ _)))))); intro v318 w21 ho22 hb hg_ hnew_; clear hg_ hnew_; (first | rw [← Ny317.out] at ho22 | (simp only [Int.reduceToNat] at ho22; rw [← Ny317.out] at ho22)); have n0_ := Aside0.mk (Kd.R_lower ho22 (below_size (by repeat (first | (with_reducible first | exact HB.out | apply below_alloc | apply pw_below_drewN | apply below_drew1) | exact HB.out)))); have n1_ := Aside0.mk (below_step (by repeat (first | (with_reducible first | exact HB.out | apply below_alloc | apply pw_below_drewN | apply below_drew1) | exact HB.out)) hb); clear HB; have HO319 := n0_; have HB := n1_; clear n0_ n1_; clear hb ho22; obtain ⟨Ao24, co24, eo24⟩ := Kd.R_slice HO319.out; subst eo24) | ((with_reducible refine gate_builtin (b := .append) (xs := #[.tmp 42, .tmp 61]) rfl ?_); at_builtin; refine Kd.R_append_rows (Kd.int .u8) (w0 := w) w.heap.size rfl (.tmp 42) (.tmp 61) 65 5 (.int .u8 0) 1 rfl Tryd.underlying65 info5 rfl (by decide) (by omega) (.slice none 0 0) ([] : List Int) y317 _ _ _ (fun k_ => some k_ ≠ (.slice Ao24 y317.length co24 : Value).ownBlock) (fun _ => False) rfl rfl ?aO ?aR (fun _ _ h => h) (fun _ h => h.elim) ?aF ?aB ?aS ?aL ?_; (case aR => repeat (first | exact (Kd.R_reads' HO319.out).2.2 | (with_reducible refine Kd.C_alloc ?_ _) | (with_reducible refine Kd.C_drewN ?_ _) | (with_reducible refine Kd.C_drew ?_))); (case aB => exact (by repeat (first | (with_reducible first | exact HB.out | apply below_alloc | apply pw_below_drewN | apply below_drew1) | exact HB.out))); (case aF => exact (fun k_ hk => Kd.fresh' (Kd.R_lt (by (with_reducible repeat (first | apply Kd.R_alloc | apply Kd.R_drewN | apply Kd.R_drew)); exact HO319.out)) k_ hk)); (case aO => exact ((Kd.R_nil _ _ _ _ (fun k_ => some k_ ≠ (.slice Ao24 y317.length co24 : Value).ownBlock)))); (case aS => exact (below_size (by repeat (first | (with_reducible first | exact HB.out | apply below_alloc | apply pw_below_drewN | apply below_drew1) | exact HB.out)))); (case aL => have := LMc20.out; omega); intro v321 w23 ho hb hg hat; rw [← Ny320.out] at ho; have n0_ := Aside0.mk (Kd.R_after (Kd.R_apart_nil (by (with_reducible repeat (first | apply Kd.R_alloc | apply Kd.R_drewN | apply Kd.R_drew)); exact HO319.out)) hg hat); have n1_ := Aside0.mk (hb); have n2_ := Aside0.mk (ho); clear HO319; clear HB; have HO319 := n0_; have HB := n1_; have HO322 := n2_; clear n0_ n1_ n2_; clear ho hb hg hat; have hcv25 := own_string (P := Tryd.prog) Tryd.underlying65 Tryd.underlying5 Tryd.underlying9 (Kd.own_of_R HO322.out)))
          go_ret
          exact ⟨by first | rfl | (simp [errW_none, errW_some] <;> rfl) | (simp [*, errW_none, errW_some] <;> rfl), by repeat (first | (with_reducible first | exact HB.out | apply below_alloc | apply pw_below_drewN | apply below_drew1) | exact HB.out)⟩
        · rw [if_neg c20] at H
          exact absurd H (by simp)

def portcullisref01_Encode.l0 : Nat → List Int → ByteArray → Int → Option (ByteArray × Bool)
  | 0, _, _, _ => none
  | k + 1, x0, x4, x5 => if x5 < (x0.length : Int) then (if 0 ≤ x5 then ((portcullisref01_Scalar.f (rd x0 x5)).bind fun t324 => (if t324 = true then ((portcullisref01_Bytes.f (rd x0 x5)).bind fun t326 => (if x4.size + t326.size ≤ 9223372036854775807 then (portcullisref01_Encode.l0 k x0 (x4 ++ t326) (wrap64 (x5 + 1))) else (none))) else (some ((⟨#[]⟩ : ByteArray), false)))) else (none)) else (some (x4, true))
def portcullisref01_Encode.f (k : Nat) (l0 : List Int) : Option (ByteArray × Bool) := portcullisref01_Encode.l0 k l0 (⟨#[]⟩ : ByteArray) 0
set_option maxHeartbeats 8000000 in
set_option maxRecDepth 100000 in
theorem portcullisref01_Encode.calls (k : Nat) (A0 : Option Addr) (c0 : Nat) (l0 : List Int) (r1 : ByteArray) (r2 : Bool) (w : World) (hr0 : Kd.C (Kd.int .i32) w A0 l0.length l0) (hc0 : l0.length ≤ c0) (h : portcullisref01_Encode.f k l0 = some (r1, r2)) :
    Calls Tryd.prog 34 #[.slice A0 l0.length c0] w fun e w' => e = .returned (.tuple #[.string r1, .bool r2]) ∧ Below w.heap.size w w' := by
  have HR0 := Aside0.mk hr0
  have HC0 := Aside0.mk hc0
  clear hr0 hc0
  have HB := Aside0.mk (Below.refl w.heap.size w)
  have H : (portcullisref01_Encode.l0 k l0 (⟨#[]⟩ : ByteArray) 0) = some (r1, r2) := h
  clear h
  have H' := Aside0.mk H
  clear H
  go_enter Tryd.func34, Tryd.ntmps34
  go_wp2
  go_loopg [4, 5] k (fun kq v4 v5 w' => ∃ (x4_1 : ByteArray) (x5_1 : Int), v4 = .string x4_1 ∧ v5 = .int .i64 x5_1 ∧ Aside0 (portcullisref01_Encode.l0 kq l0 x4_1 x5_1 = some (r1, r2)) ∧ Aside0 (kq ≤ k) ∧ Aside0 (Below w.heap.size w w'))
  case atStart => exact ⟨((⟨#[]⟩ : ByteArray)), (0), (by first | rfl | (simp; done) | (simp [*]; done)), (by first | rfl | (simp; done) | (simp [*]; done)), H', ⟨Nat.le_refl _⟩, ⟨by repeat (first | (with_reducible first | exact HB.out | apply below_alloc | apply pw_below_drewN | apply below_drew1) | exact HB.out)⟩⟩
  case round =>
    clear H'
    obtain ⟨x4_1, x5_1, rfl, rfl, HA, HK1, HB⟩ := hrel
    cases gk with
    | zero => exact absurd HA.out (by simp [portcullisref01_Encode.l0])
    | succ k1 =>
      have H := HA.out
      clear HA
      simp only [portcullisref01_Encode.l0] at H
      by_cases c2 : x5_1 < (l0.length : Int)
      · rw [if_pos c2] at H
        have c2b0 : decide (x5_1 < (l0.length : Int)) = true := decide_eq_true c2
        clear c2
        by_cases c3 : 0 ≤ x5_1
        · rw [if_pos c3] at H
          have c3b0 : decide (0 ≤ x5_1) = true := decide_eq_true c3
          clear c3
          replace H := Option.bind_eq_some_iff.mp H
          obtain ⟨t324, A40, H⟩ := H
          replace H : (if t324 = true then ((portcullisref01_Bytes.f (rd l0 x5_1)).bind fun t326 => (if x4_1.size + t326.size ≤ 9223372036854775807 then (portcullisref01_Encode.l0 k1 l0 (x4_1 ++ t326) (wrap64 (x5_1 + 1))) else (none))) else (some ((⟨#[]⟩ : ByteArray), false))) = some (r1, r2) := H
          have A4 := Aside0.mk A40
          clear A40
          by_cases c5 : t324 = true
          · subst c5
            have H1 : ((portcullisref01_Bytes.f (rd l0 x5_1)).bind fun t326 => (if x4_1.size + t326.size ≤ 9223372036854775807 then (portcullisref01_Encode.l0 k1 l0 (x4_1 ++ t326) (wrap64 (x5_1 + 1))) else (none))) = some (r1, r2) := by rw [if_pos rfl] at H; exact H
            clear H
            have H := H1
            clear H1
            replace H := Option.bind_eq_some_iff.mp H
            obtain ⟨t326, A60, H⟩ := H
            replace H : (if x4_1.size + t326.size ≤ 9223372036854775807 then (portcullisref01_Encode.l0 k1 l0 (x4_1 ++ t326) (wrap64 (x5_1 + 1))) else (none)) = some (r1, r2) := H
            have A6 := Aside0.mk A60
            clear A60
            by_cases c7 : x4_1.size + t326.size ≤ 9223372036854775807
            · rw [if_pos c7] at H
              have c7b0 := eq_true c7
              have c7b1 : decide (x4_1.size + t326.size ≤ 9223372036854775807) = true := decide_eq_true c7
              try have c7b2 : (9223372036854775807 < x4_1.size + t326.size) = False := eq_false (Nat.not_lt.2 c7)
              try (have c7s := c7; simp only [ByteArray.size_append] at c7s; have c7s0 := eq_true c7s; have c7s2 := eq_false (Nat.not_lt.2 c7s); clear c7s)
              have H' := Aside0.mk H
              clear H
              have p323 : 0 ≤ (x5_1 : Int) := of_decide_eq_true (by first | (with_reducible assumption) | assumption)
              have q323 : x5_1 < (l0.length : Int) := of_decide_eq_true (by first | (with_reducible assumption) | assumption)
              obtain ⟨ad323, e323, hx323_0⟩ := Kd.at_int HR0.out x5_1 p323 q323
              cases e323
              replace hx323_0 := (HB.out.cell (World.block_lt_of_cell? w _ hx323_0)).trans hx323_0
              replace p323 := eq_true p323
              replace q323 := eq_true q323
              go_wp2_with (first | ((with_reducible refine gate_callee (f := 49) rfl ?_); refine goesL_ (some 16) rfl rfl Tryd.func49 (by kernel_rfl) rfl #[.int .i32 (rd l0 x5_1)] rfl (by (try simp only [List.map_toArray, List.map_cons, List.map_nil]); first | done | rfl | (simp only [List.length_drop, List.length_take]; rfl)) ?_; (with_reducible refine (portcullisref01_Scalar.calls (rd l0 x5_1) true _ A4.out).mono ?_); rintro e w' ⟨rfl, ⟨nd, rfl⟩⟩; refine ⟨_, rfl, ?_⟩; have p325 : 0 ≤ (x5_1 : Int) := of_decide_eq_true (by first | (with_reducible assumption) | assumption); have q325 : x5_1 < (l0.length : Int) := of_decide_eq_true (by first | (with_reducible assumption) | assumption); obtain ⟨ad325, e325, hx325_0⟩ := Kd.at_int HR0.out x5_1 p325 q325; obtain rfl : ad323 = ad325 := (by injection e325); replace hx325_0 := (HB.out.cell (World.block_lt_of_cell? w _ hx325_0)).trans hx325_0; replace p325 := eq_true p325; replace q325 := eq_true q325) | ((with_reducible refine gate_callee (f := 50) rfl ?_); refine goesL_ (some 23) rfl rfl Tryd.func50 (by kernel_rfl) rfl #[.int .i32 (rd l0 x5_1)] rfl (by (try simp only [List.map_toArray, List.map_cons, List.map_nil]); first | done | rfl | (simp only [List.length_drop, List.length_take]; rfl)) ?_; (with_reducible refine (portcullisref01_Bytes.calls (rd l0 x5_1) t326 _ A6.out).mono ?_); rintro e w8 ⟨rfl, hb⟩; refine ⟨_, rfl, ?_⟩; have n0_ := Aside0.mk (below_step (by repeat (first | (with_reducible first | exact HB.out | apply below_alloc | apply pw_below_drewN | apply below_drew1) | exact HB.out)) hb); clear HB; have HB := n0_; clear n0_; (try clear hb); (try clear hb2); (try clear hk); (try clear hi)))
              go_roundg k1
              case measure => have := HK1.out; omega
              case rel => exact ⟨(x4_1 ++ t326), (wrap64 (x5_1 + 1)), (by first | rfl | (simp; done) | (simp [*]; done)), (by first | rfl | (simp; done) | (simp [*]; done)), H', ⟨by have := HK1.out; omega⟩, ⟨by repeat (first | (with_reducible first | exact HB.out | apply below_alloc | apply pw_below_drewN | apply below_drew1) | exact HB.out)⟩⟩
            · rw [if_neg c7] at H
              exact absurd H (by simp)
          · replace c5 := Bool.eq_false_iff.mpr c5
            subst c5
            have H1 : (some ((⟨#[]⟩ : ByteArray), false)) = some (r1, r2) := by rw [if_neg (show ¬ (false = true) by decide)] at H; exact H
            clear H
            have H := H1
            clear H1
            simp only [Option.some.injEq, Prod.mk.injEq] at H
            obtain ⟨rfl, rfl⟩ := H
            have p323 : 0 ≤ (x5_1 : Int) := of_decide_eq_true (by first | (with_reducible assumption) | assumption)
            have q323 : x5_1 < (l0.length : Int) := of_decide_eq_true (by first | (with_reducible assumption) | assumption)
            obtain ⟨ad323, e323, hx323_0⟩ := Kd.at_int HR0.out x5_1 p323 q323
            cases e323
            replace hx323_0 := (HB.out.cell (World.block_lt_of_cell? w _ hx323_0)).trans hx323_0
            replace p323 := eq_true p323
            replace q323 := eq_true q323
            go_wp2_with (first | ((with_reducible refine gate_callee (f := 49) rfl ?_); refine goesL_ (some 16) rfl rfl Tryd.func49 (by kernel_rfl) rfl #[.int .i32 (rd l0 x5_1)] rfl (by (try simp only [List.map_toArray, List.map_cons, List.map_nil]); first | done | rfl | (simp only [List.length_drop, List.length_take]; rfl)) ?_; (with_reducible refine (portcullisref01_Scalar.calls (rd l0 x5_1) false _ A4.out).mono ?_); rintro e w' ⟨rfl, ⟨nd, rfl⟩⟩; refine ⟨_, rfl, ?_⟩))
            go_ret2
            exact ⟨by first | rfl | (simp [errW_none, errW_some] <;> rfl) | (simp [*, errW_none, errW_some] <;> rfl), by repeat (first | (with_reducible first | exact HB.out | apply below_alloc | apply pw_below_drewN | apply below_drew1) | exact HB.out)⟩
        · rw [if_neg c3] at H
          exact absurd H (by simp)
      · rw [if_neg c2] at H
        have c2b0 : decide (x5_1 < (l0.length : Int)) = false := decide_eq_false c2
        clear c2
        simp only [Option.some.injEq, Prod.mk.injEq] at H
        obtain ⟨rfl, rfl⟩ := H
        go_wp2
        go_ret2
        exact ⟨by first | rfl | (simp [errW_none, errW_some] <;> rfl) | (simp [*, errW_none, errW_some] <;> rfl), by repeat (first | (with_reducible first | exact HB.out | apply below_alloc | apply pw_below_drewN | apply below_drew1) | exact HB.out)⟩

mutual
def portcullisref01_value.j0 : Nat → ByteArray → Int → Option (Int)
  | 0, _, _ => none
  | k + 1, x0, x3 => portcullisref01_value.l0 k x0 x3 1
def portcullisref01_value.l0 : Nat → ByteArray → Int → Int → Option (Int)
  | 0, _, _, _ => none
  | k + 1, x0, x3, x4 => if x4 < (x0.size : Int) then (if 0 ≤ x4 then (portcullisref01_value.l0 k x0 (wrap32 ((wrap32 ((wrap32 (x3 * 64)) + (wrap32 (bt x0 x4)))) - 128)) (wrap64 (x4 + 1))) else (none)) else (some x3)
end
def portcullisref01_value.f (k : Nat) (a0 : ByteArray) : Option (Int) := if 0 < (a0.size : Int) then (if (a0.size : Int) = 2 then (portcullisref01_value.j0 k a0 (wrap32 ((wrap32 (bt a0 0)) - 192))) else (if (a0.size : Int) = 3 then (portcullisref01_value.j0 k a0 (wrap32 ((wrap32 (bt a0 0)) - 224))) else (if (a0.size : Int) = 4 then (portcullisref01_value.j0 k a0 (wrap32 ((wrap32 (bt a0 0)) - 240))) else (portcullisref01_value.j0 k a0 (wrap32 (bt a0 0)))))) else (none)
set_option maxHeartbeats 8000000 in
set_option maxRecDepth 100000 in
theorem portcullisref01_value.calls (k : Nat) (a0 : ByteArray) (r : Int) (w : World) (h : portcullisref01_value.f k a0 = some r) :
    Calls Tryd.prog 72 #[.string a0] w fun e w' => e = .returned (.int .i32 r) ∧ Drawn0 w w' := by
  have H : (if 0 < (a0.size : Int) then (if (a0.size : Int) = 2 then (portcullisref01_value.j0 k a0 (wrap32 ((wrap32 (bt a0 0)) - 192))) else (if (a0.size : Int) = 3 then (portcullisref01_value.j0 k a0 (wrap32 ((wrap32 (bt a0 0)) - 224))) else (if (a0.size : Int) = 4 then (portcullisref01_value.j0 k a0 (wrap32 ((wrap32 (bt a0 0)) - 240))) else (portcullisref01_value.j0 k a0 (wrap32 (bt a0 0)))))) else (none)) = some r := h
  clear h
  by_cases c2 : 0 < (a0.size : Int)
  · rw [if_pos c2] at H
    have c2b0 : decide (0 < (a0.size : Int)) = true := decide_eq_true c2
    have c2b1 : decide (0 < a0.size) = true := decide_eq_true (by omega)
    clear c2
    have HC4 := Aside0.mk H
    clear H
    have p3 : 0 ≤ (0 : Int) := (by omega)
    have q3 : 0 < a0.size := (by have : (0 : Int) < (a0.size : Int) := of_decide_eq_true (by first | (with_reducible assumption) | assumption); omega)
    have hx3 : ∀ h : 0 < a0.size, ((a0[0]'h).toNat : Int) = bt a0 0 := bt_at a0 0
    clear p3
    have qi3 : (0 < (a0.size : Int)) = True := eq_true (of_decide_eq_true (by first | (with_reducible assumption) | assumption))
    replace q3 := eq_true q3
    go_enter Tryd.func72, Tryd.ntmps72
    go_upto_block 0 with (fail)
    go_cut [3] (fun v3 wc => ∃ (kq : Nat) (x3_3 : Int), v3 = .int .i32 x3_3 ∧ Aside0 (portcullisref01_value.j0 kq a0 x3_3 = some r) ∧ Aside0 (kq ≤ k) ∧ Drawn0 w wc)
    case first =>
      have H := HC4.out
      clear HC4
      by_cases c5 : (a0.size : Int) = 2
      · rw [if_pos c5] at H
        have c5b0 : ((a0.size : Int) == 2) = true := beq_iff_eq.mpr c5
        have c5b1 : ((a0.size : Int) != 2) = false := bne_eq_false_iff_eq.mpr c5
        clear c5
        (first | rw [c5b0] | (simp only [i64_w, i32_w]; rw [c5b0]) | skip)
        have H' := Aside0.mk H
        clear H
        go_wp2
        go_meet
        case rel => exact ⟨_, (wrap32 ((wrap32 (bt a0 0)) - 192)), (by first | rfl | (simp; done) | (simp [*]; done)), H', ⟨by first | omega | exact Nat.le_refl _⟩, by repeat (first | exact Drawn0.refl _ | apply Drawn0.step)⟩
      · rw [if_neg c5] at H
        have c5b0 : ((a0.size : Int) == 2) = false := beq_eq_false_iff_ne.mpr c5
        have c5b1 : ((a0.size : Int) != 2) = true := bne_iff_ne.mpr c5
        (first | rw [c5b0] | (simp only [i64_w, i32_w]; rw [c5b0]) | skip)
        by_cases c6 : (a0.size : Int) = 3
        · rw [if_pos c6] at H
          have c6b0 : ((a0.size : Int) == 3) = true := beq_iff_eq.mpr c6
          have c6b1 : ((a0.size : Int) != 3) = false := bne_eq_false_iff_eq.mpr c6
          clear c6
          have H' := Aside0.mk H
          clear H
          go_wp2
          go_meet
          case rel => exact ⟨_, (wrap32 ((wrap32 (bt a0 0)) - 224)), (by first | rfl | (simp; done) | (simp [*]; done)), H', ⟨by first | omega | exact Nat.le_refl _⟩, by repeat (first | exact Drawn0.refl _ | apply Drawn0.step)⟩
        · rw [if_neg c6] at H
          have c6b0 : ((a0.size : Int) == 3) = false := beq_eq_false_iff_ne.mpr c6
          have c6b1 : ((a0.size : Int) != 3) = true := bne_iff_ne.mpr c6
          by_cases c7 : (a0.size : Int) = 4
          · rw [if_pos c7] at H
            have c7b0 : ((a0.size : Int) == 4) = true := beq_iff_eq.mpr c7
            have c7b1 : ((a0.size : Int) != 4) = false := bne_eq_false_iff_eq.mpr c7
            clear c7
            have H' := Aside0.mk H
            clear H
            go_wp2
            go_meet
            case rel => exact ⟨_, (wrap32 ((wrap32 (bt a0 0)) - 240)), (by first | rfl | (simp; done) | (simp [*]; done)), H', ⟨by first | omega | exact Nat.le_refl _⟩, by repeat (first | exact Drawn0.refl _ | apply Drawn0.step)⟩
          · rw [if_neg c7] at H
            have c7b0 : ((a0.size : Int) == 4) = false := beq_eq_false_iff_ne.mpr c7
            have c7b1 : ((a0.size : Int) != 4) = true := bne_iff_ne.mpr c7
            have H' := Aside0.mk H
            clear H
            go_wp2
            go_meet
            case rel => exact ⟨_, (wrap32 (bt a0 0)), (by first | rfl | (simp; done) | (simp [*]; done)), H', ⟨by first | omega | exact Nat.le_refl _⟩, by repeat (first | exact Drawn0.refl _ | apply Drawn0.step)⟩
    case rest =>
      clear HC4
      try clear c2
      try clear c2b0
      try clear c2b1
      try clear p2
      try clear p3
      try clear q3
      try clear hx3
      try clear qi3
      try clear c5
      try clear c5b0
      try clear c5b1
      try clear c6
      try clear c6b0
      try clear c6b1
      try clear c7
      try clear c7b0
      try clear c7b1
      try clear p3
      try clear q3
      obtain ⟨kq, x3_3, rfl, HA, HJ3, ⟨mc3, rfl⟩⟩ := hcut
      cases kq with
      | zero => exact absurd HA.out (by simp [portcullisref01_value.j0])
      | succ kj3 =>
        have H := HA.out
        clear HA
        simp only [portcullisref01_value.j0] at H
        have H' := Aside0.mk H
        clear H
        go_wp2
        go_loopg [3, 4] kj3 (fun kq v3 v4 w' => ∃ (x3_2 : Int) (x4_2 : Int), v3 = .int .i32 x3_2 ∧ v4 = .int .i64 x4_2 ∧ Aside0 (portcullisref01_value.l0 kq a0 x3_2 x4_2 = some r) ∧ Aside0 (kq ≤ kj3) ∧ Drawn0 w w')
        case atStart => exact ⟨(x3_3), (1), (by first | rfl | (simp; done) | (simp [*]; done)), (by first | rfl | (simp; done) | (simp [*]; done)), H', ⟨Nat.le_refl _⟩, by repeat (first | exact Drawn0.refl _ | apply Drawn0.step)⟩
        case round =>
          clear H'
          try clear c2
          try clear c2b0
          try clear c2b1
          try clear p2
          try clear c3
          try clear p3
          try clear q3
          try clear hx3
          try clear qi3
          try clear c5
          try clear c5b0
          try clear c5b1
          try clear c6
          try clear c6b0
          try clear c6b1
          try clear c7
          try clear c7b0
          try clear c7b1
          try clear p2
          try clear p3
          try clear q3
          obtain ⟨x3_2, x4_2, rfl, rfl, HA, HK2, ⟨m2, rfl⟩⟩ := hrel
          cases gk with
          | zero => exact absurd HA.out (by simp [portcullisref01_value.l0])
          | succ k2 =>
            have H := HA.out
            clear HA
            simp only [portcullisref01_value.l0] at H
            by_cases c8 : x4_2 < (a0.size : Int)
            · rw [if_pos c8] at H
              have c8b0 : decide (x4_2 < (a0.size : Int)) = true := decide_eq_true c8
              clear c8
              by_cases c9 : 0 ≤ x4_2
              · rw [if_pos c9] at H
                have c9b0 : decide (0 ≤ x4_2) = true := decide_eq_true c9
                clear c9
                have H' := Aside0.mk H
                clear H
                have p10 : 0 ≤ (x4_2 : Int) := of_decide_eq_true (by first | (with_reducible assumption) | assumption)
                have q10 : x4_2 < (a0.size : Int) := of_decide_eq_true (by first | (with_reducible assumption) | assumption)
                have hx10 := bt_at a0 x4_2
                replace p10 := eq_true p10
                replace q10 := eq_true q10
                go_wp2
                go_roundg k2
                case measure => have := HJ3.out; have := HK2.out; omega
                case rel => exact ⟨(wrap32 ((wrap32 ((wrap32 (x3_2 * 64)) + (wrap32 (bt a0 x4_2)))) - 128)), (wrap64 (x4_2 + 1)), (by first | rfl | (simp; done) | (simp [*]; done)), (by first | rfl | (simp; done) | (simp [*]; done)), H', ⟨by have := HJ3.out; have := HK2.out; omega⟩, by repeat (first | exact Drawn0.refl _ | apply Drawn0.step)⟩
              · rw [if_neg c9] at H
                exact absurd H (by simp)
            · rw [if_neg c8] at H
              have c8b0 : decide (x4_2 < (a0.size : Int)) = false := decide_eq_false c8
              clear c8
              obtain rfl := Option.some.inj H
              go_wp2
              go_ret
              exact ⟨by first | rfl | (simp; done) | (simp [*]; done), by repeat (first | exact Drawn0.refl _ | apply Drawn0.step)⟩
  · rw [if_neg c2] at H
    exact absurd H (by simp)

def portcullisref01_whole.f (k : Nat) (a0 : ByteArray) : Option (Bool) := (portcullisref01_value.f k a0).bind fun t327 => ((portcullisref01_Scalar.f t327).bind fun t328 => (if t328 = true then ((portcullisref01_Bytes.f t327).bind fun t329 => (some (t329.toList == a0.toList))) else (some false)))
set_option maxHeartbeats 8000000 in
set_option maxRecDepth 100000 in
theorem portcullisref01_whole.calls (k : Nat) (a0 : ByteArray) (r : Bool) (w : World) (h : portcullisref01_whole.f k a0 = some r) :
    Calls Tryd.prog 71 #[.string a0] w fun e w' => e = .returned (.bool r) ∧ Below w.heap.size w w' := by
  have HB := Aside0.mk (Below.refl w.heap.size w)
  have H : ((portcullisref01_value.f k a0).bind fun t327 => ((portcullisref01_Scalar.f t327).bind fun t328 => (if t328 = true then ((portcullisref01_Bytes.f t327).bind fun t329 => (some (t329.toList == a0.toList))) else (some false)))) = some r := h
  clear h
  replace H := Option.bind_eq_some_iff.mp H
  obtain ⟨t327, A20, H⟩ := H
  replace H : ((portcullisref01_Scalar.f t327).bind fun t328 => (if t328 = true then ((portcullisref01_Bytes.f t327).bind fun t329 => (some (t329.toList == a0.toList))) else (some false))) = some r := H
  have A2 := Aside0.mk A20
  clear A20
  replace H := Option.bind_eq_some_iff.mp H
  obtain ⟨t328, A30, H⟩ := H
  replace H : (if t328 = true then ((portcullisref01_Bytes.f t327).bind fun t329 => (some (t329.toList == a0.toList))) else (some false)) = some r := H
  have A3 := Aside0.mk A30
  clear A30
  by_cases c4 : t328 = true
  · subst c4
    have H1 : ((portcullisref01_Bytes.f t327).bind fun t329 => (some (t329.toList == a0.toList))) = some r := by rw [if_pos rfl] at H; exact H
    clear H
    have H := H1
    clear H1
    replace H := Option.bind_eq_some_iff.mp H
    obtain ⟨t329, A50, H⟩ := H
    replace H : (some (t329.toList == a0.toList)) = some r := H
    have A5 := Aside0.mk A50
    clear A50
    obtain rfl := Option.some.inj H
    go_enter Tryd.func71, Tryd.ntmps71
    go_wp2_with (first | ((with_reducible refine gate_callee (f := 72) rfl ?_); refine goesL_ (some 5) rfl rfl Tryd.func72 (by kernel_rfl) rfl #[.string a0] rfl (by (try simp only [List.map_toArray, List.map_cons, List.map_nil]); first | done | rfl | (simp only [List.length_drop, List.length_take]; rfl)) ?_; (with_reducible refine (portcullisref01_value.calls k a0 t327 _ A2.out).mono ?_); rintro e w' ⟨rfl, ⟨nd, rfl⟩⟩; refine ⟨_, rfl, ?_⟩) | ((with_reducible refine gate_callee (f := 49) rfl ?_); refine goesL_ (some 7) rfl rfl Tryd.func49 (by kernel_rfl) rfl #[.int .i32 t327] rfl (by (try simp only [List.map_toArray, List.map_cons, List.map_nil]); first | done | rfl | (simp only [List.length_drop, List.length_take]; rfl)) ?_; (with_reducible refine (portcullisref01_Scalar.calls t327 true _ A3.out).mono ?_); rintro e w' ⟨rfl, ⟨nd, rfl⟩⟩; refine ⟨_, rfl, ?_⟩) | (go_at_call 50; (with_reducible refine (portcullisref01_Bytes.calls t327 t329 _ A5.out).mono ?_); rintro e w6 ⟨rfl, hb⟩; have n0_ := Aside0.mk (below_step (by repeat (first | (with_reducible first | exact HB.out | apply below_alloc | apply pw_below_drewN | apply below_drew1) | exact HB.out)) hb); clear HB; have HB := n0_; clear n0_; (try clear hb); (try clear hb2); (try clear hk); (try clear hi)))
    go_ret
    exact ⟨by first | rfl | (simp [errW_none, errW_some] <;> rfl) | (simp [*, errW_none, errW_some] <;> rfl), by repeat (first | (with_reducible first | exact HB.out | apply below_alloc | apply pw_below_drewN | apply below_drew1) | exact HB.out)⟩
  · replace c4 := Bool.eq_false_iff.mpr c4
    subst c4
    have H1 : (some false) = some r := by rw [if_neg (show ¬ (false = true) by decide)] at H; exact H
    clear H
    have H := H1
    clear H1
    obtain rfl := Option.some.inj H
    go_enter Tryd.func71, Tryd.ntmps71
    go_wp2_with (first | ((with_reducible refine gate_callee (f := 72) rfl ?_); refine goesL_ (some 5) rfl rfl Tryd.func72 (by kernel_rfl) rfl #[.string a0] rfl (by (try simp only [List.map_toArray, List.map_cons, List.map_nil]); first | done | rfl | (simp only [List.length_drop, List.length_take]; rfl)) ?_; (with_reducible refine (portcullisref01_value.calls k a0 t327 _ A2.out).mono ?_); rintro e w' ⟨rfl, ⟨nd, rfl⟩⟩; refine ⟨_, rfl, ?_⟩) | ((with_reducible refine gate_callee (f := 49) rfl ?_); refine goesL_ (some 7) rfl rfl Tryd.func49 (by kernel_rfl) rfl #[.int .i32 t327] rfl (by (try simp only [List.map_toArray, List.map_cons, List.map_nil]); first | done | rfl | (simp only [List.length_drop, List.length_take]; rfl)) ?_; (with_reducible refine (portcullisref01_Scalar.calls t327 false _ A3.out).mono ?_); rintro e w' ⟨rfl, ⟨nd, rfl⟩⟩; refine ⟨_, rfl, ?_⟩))
    go_ret
    exact ⟨by first | rfl | (simp [errW_none, errW_some] <;> rfl) | (simp [*, errW_none, errW_some] <;> rfl), by repeat (first | (with_reducible first | exact HB.out | apply below_alloc | apply pw_below_drewN | apply below_drew1) | exact HB.out)⟩

end Go.Proofs.YtanpephfnjnfoaaDoor.Pr
end

section
namespace Go.Proofs.YtanpephfnjnfoaaDoor.Pr
open Go.RowKit Go.Proofs.YtanpephfnjnfoaaDoorW.PrintWords Go.Proofs.YtanpephfnjnfoaaDoorW.PrintLast Go.Proofs.YtanpephfnjnfoaaDoorW.PrintMore
set_option linter.unusedVariables false
set_option linter.unusedSimpArgs false

section
variable {P : Program}
/-- The cells of a slice's literal. -/
def sliceCells (P : Program) (t : TypeId) (len : Nat) (parts : List (Nat × Value)) : Option (TypeId × Array Value) :=
  match P.underlying t with
  | some (.slice e) =>
    match P.info? e with
    | some i =>
      match i.zero with
      | some z => if len * i.size = 0 ∨ len * i.size > 2 ^ 24 then none else (Instr.fill (fun k => some (k * i.size, i.size)) ((Array.range (len * i.size)).map (z.cells[· % z.cells.size]!)) parts).map fun c => (e, c)
      | none => none
    | none => none
  | _ => none
theorem run_sliceCells (w : World) (t : TypeId) (len : Nat) (parts : Array (Nat × Value)) (e : TypeId) (cells : Array Value) (h : sliceCells P t len parts.toList = some (e, cells)) :
    (Instr.buildSlice t len parts).run P w = .ok (.slice (some ⟨w.heap.size, 0, none⟩) len len) (w.alloc (.cells cells e)) := by
  unfold sliceCells at h
  cases hu : P.underlying t with
  | none => simp [hu] at h
  | some d =>
    cases d <;> try (simp [hu] at h; done)
    case slice e' =>
      cases hi : P.info? e' with
      | none => simp [hu, hi] at h
      | some i =>
        cases hz : i.zero with
        | none => simp [hu, hi, hz] at h
        | some z =>
          simp only [hu, hi, hz] at h
          by_cases hc : len * i.size = 0 ∨ len * i.size > 2 ^ 24
          · rw [if_pos hc] at h; exact absurd h (by simp)
          · rw [if_neg hc] at h
            rw [not_or] at hc
            cases hf : Instr.fill (fun k => some (k * i.size, i.size)) ((Array.range (len * i.size)).map (z.cells[· % z.cells.size]!)) parts.toList with
            | none => rw [hf] at h; exact absurd h (by simp)
            | some c =>
              rw [hf] at h
              simp only [Option.map_some, Option.some.injEq, Prod.mk.injEq] at h
              obtain ⟨rfl, rfl⟩ := h
              simp [Instr.buildSlice, run_underlying hu, sizeOf, typeInfo, zeroValue, hi, hz, hc.1, hc.2, hf, newRow]
def worldLit (w : World) : Option (TypeId × Array Value) → World
  | none => w
  | some (e, c) => w.alloc (.cells c e)
/-- The operations of a literal: builds, one slice, moves. -/
def runLit (P : Program) (g : Nat) : List Oper → Act → Option (TypeId × Array Value) → Option (Act × Option (TypeId × Array Value))
  | [], a, m => some (a, m)
  | o :: os, a, m =>
    match o.guard, o.op with
    | none, .build t parts => (P.built t (parts.map fun (i, x) => (i, a.eval x)).toList).bind fun cells => runLit P g os (a.put o.dst (.agg cells)) m
    | none, .buildSlice t len parts =>
      match m with
      | none => (sliceCells P t len (parts.map fun (i, x) => (i, a.eval x)).toList).bind fun m' => runLit P g os (a.put o.dst (.slice (some ⟨g, 0, none⟩) len len)) (some m')
      | some _ => none
    | none, .assign x => runLit P g os (a.put o.dst (a.eval x)) m
    | _, _ => none
theorem wpList_runLit {ops : Array Oper} {Q : Exit → Act → World → Prop} {w : World} : ∀ (os : List Oper) (a : Act) (m : Option (TypeId × Array Value)) {a' : Act} {m' : Option (TypeId × Array Value)},
    runLit P w.heap.size os a m = some (a', m') → Q .normal a' (worldLit w m') → wpList P ops Q os a (worldLit w m)
  | [], a, m, a', m', h, hq => by
    simp only [runLit, Option.some.injEq, Prod.mk.injEq] at h
    obtain ⟨rfl, rfl⟩ := h
    exact hq
  | o :: os, a, m, a', m', h, hq => by
    rw [runLit] at h
    split at h
    · rename_i t parts hg ho
      cases hb : P.built t (parts.map fun (i, x) => (i, a.eval x)).toList with
      | none => rw [hb] at h; exact absurd h (by simp)
      | some cells =>
        rw [hb] at h
        refine wpList_build hg t parts ho (by rw [hb]; rfl) ?_
        rw [hb]
        exact wpList_runLit os _ m h hq
    · rename_i t len parts hg ho
      cases m with
      | some m => exact absurd h (by simp)
      | none =>
        dsimp only at h
        cases hb : sliceCells P t len (parts.map fun (i, x) => (i, a.eval x)).toList with
        | none => rw [hb] at h; exact absurd h (by simp)
        | some m1 =>
          rw [hb] at h
          refine wpList_plain hg fun K hK => ?_
          have hr := run_sliceCells (P := P) w t len (parts.map fun (i, x) => (i, a.eval x)) m1.1 m1.2 hb
          unfold Oper.wp execOp
          simp only [ho, Sem.run_bind, worldLit, hr, Result.andThen_ok]
          exact hK _ _ (wpList_runLit os _ (some m1) h hq)
    · rename_i x hg ho
      refine wpList_plain hg fun K hK => ?_
      unfold Oper.wp execOp
      simp only [ho]
      exact hK _ _ (wpList_runLit os _ m h hq)
    · exact absurd h (by simp)
theorem runLit_append {g : Nat} (os' : List Oper) : ∀ (os : List Oper) (a : Act) (m : Option (TypeId × Array Value)),
    runLit P g (os ++ os') a m = (runLit P g os a m).bind fun x => runLit P g os' x.1 x.2
  | [], a, m => rfl
  | o :: os, a, m => by
    simp only [List.cons_append, runLit]
    split
    · simp only [runLit_append os' os, Option.bind_assoc]
    · cases m with
      | none => simp only [runLit_append os' os, Option.bind_assoc]
      | some m => rfl
    · exact runLit_append os' os _ _
    · rfl
theorem lit_calls {f : FuncId} {fn : Func} (hf : P.funcs[f]? = some fn) {i0 i1 : Nat} {o0 : Oper} {ops : Array Oper} {r n : Nat} {e : TypeId} {cells : Array Value}
    (hb : fn.body = some ((Code.region i0 #[o0] false).seq ((Code.region i1 ops false).seq Code.ret))) (hr : fn.results = #[.tmp r])
    (h : ∀ g, (runLit P g (o0 :: ops.toList) { tmps := Array.replicate fn.ntmps undef, defers := [] } none).map (fun x => (x.1.tmps.getD r undef, x.1.defers.isEmpty, x.2)) = some (.slice (some ⟨g, 0, none⟩) n n, true, some (e, cells)))
    (w : World) : Calls P f #[] w fun e' w' => e' = .returned (.slice (some ⟨w.heap.size, 0, none⟩) n n) ∧ w' = w.alloc (.cells cells e) := by
  have h := h w.heap.size
  cases hx : runLit P w.heap.size (o0 :: ops.toList) { tmps := Array.replicate fn.ntmps undef, defers := [] } none with
  | none => rw [hx] at h; exact absurd h (by simp)
  | some x =>
    obtain ⟨a, m⟩ := x
    rw [hx] at h
    simp only [Option.map_some, Option.some.injEq, Prod.mk.injEq] at h
    obtain ⟨h1, h2, rfl⟩ := h
    have hd : a.defers = [] := by simpa using h2
    refine calls_of_wp hf hb ?_
    simp only [List.size_toArray, List.length_nil, Nat.sub_zero, Array.empty_append]
    refine wp_seq (wp_region_list ?_)
    rw [show o0 :: ops.toList = [o0] ++ ops.toList from rfl, runLit_append] at hx
    cases hrun : runLit P w.heap.size [o0] { tmps := Array.replicate fn.ntmps undef, defers := [] } none with
    | none => rw [hrun] at hx; exact absurd hx (by simp)
    | some y =>
      obtain ⟨a1, m1⟩ := y
      rw [hrun] at hx
      have hrest : runLit P w.heap.size ops.toList a1 m1 = some (a, some (e, cells)) := hx
      refine wpList_runLit (w := w) [o0] _ none hrun ?_
      show (Code.seq _ _).wp P _ a1 _
      refine wp_seq (wp_region_list ?_)
      refine wpList_runLit (w := w) ops.toList a1 m1 hrest ?_
      show Code.ret.wp P _ a _
      refine wp_ret ?_
      exact bodyPost_ret (results_tmp hr _ _ _) hd ⟨by rw [h1], rfl⟩
end
end Go.Proofs.YtanpephfnjnfoaaDoor.Pr
end

section
namespace Go.Proofs.YtanpephfnjnfoaaDoor.Pr
open Go.RowKit Go.Proofs.YtanpephfnjnfoaaDoorW.PrintWords Go.Proofs.YtanpephfnjnfoaaDoorW.PrintLast Go.Proofs.YtanpephfnjnfoaaDoorW.PrintMore
set_option linter.unusedVariables false
set_option linter.unusedSimpArgs false

theorem reps_flat {α : Type} {R : α → List Value → Prop} {size : Nat} {f : α → List Value} (hR : ∀ x, R x (f x)) (hs : ∀ x, (f x).length = size) : ∀ xs : List α, Reps R size xs (xs.flatMap f)
  | [] => Reps.none _ _
  | x :: xs => by
    have h := reps_flat hR hs xs
    refine ⟨by rw [List.flatMap_cons, List.length_append, h.1, hs, List.length_cons, Nat.add_mul, Nat.one_mul, Nat.add_comm], fun j p hp => ?_⟩
    rw [List.flatMap_cons]
    cases j with
    | zero =>
      obtain rfl : x = p := by simpa using hp
      rw [Nat.zero_mul, List.drop_zero, List.take_append_of_le_length (Nat.le_of_eq (hs x).symm), List.take_of_length_le (Nat.le_of_eq (hs x))]
      exact hR x
    | succ j =>
      rw [Nat.add_mul, Nat.one_mul, Nat.add_comm, ← List.drop_drop, List.drop_append_of_le_length (Nat.le_of_eq (hs x).symm), List.drop_of_length_le (Nat.le_of_eq (hs x)), List.nil_append]
      exact h.2 j p (by simpa using hp)
theorem lit_R {α : Type} (d : Kd α) {f : α → List Value} (hM : ∀ (w : World) (base : Nat) (ok : Nat → Prop) (x : α), d.M w base ok x (f x)) (hs : ∀ x, (f x).length = d.sz) (xs : List α) (hm : xs.length ≤ 9223372036854775807) (e : Nat) (w : World) :
    Kd.R d e (w.alloc (.cells (xs.flatMap f).toArray e)) w.heap.size (fun _ => True) (.slice (some ⟨w.heap.size, 0, none⟩) xs.length xs.length) xs :=
  ⟨fun _ _ => trivial, OwnRow.lit (R := d.M (w.alloc (.cells (xs.flatMap f).toArray e)) w.heap.size (fun k => True ∧ some k ≠ (Value.slice (some ⟨w.heap.size, 0, none⟩) xs.length xs.length).ownBlock)) w w.heap.size (reps_flat (fun x => hM _ _ _ x) hs xs) (Nat.le_refl _) hm⟩

def cells_u (x : S55) : List Value := [.int .i32 x.f0, .int .i32 x.f1, .int .u8 x.f2, .int .u8 x.f3, .int .u8 x.f4, .int .u8 x.f5, .int .u8 x.f6, .bool x.f7]
def cells_p (x : S61) : List Value := [.int .i32 x.f0, .int .i32 x.f1, .int .i32 x.f2]
def cells_r (x : S30) : List Value := [.int .i32 x.f0, .int .i32 x.f1, .int .u8 x.f2, .int .i32 x.f3, .int .i32 x.f4, .int .i32 x.f5, .int .u8 x.f6, .int .u8 x.f7, .int .u8 x.f8, .bool x.f9, .int .u8 x.f10]
theorem cells_r_lit {f : FuncId} {w : World} {xs : List S30} (hm : xs.length ≤ 9223372036854775807) (hc : Calls Tryd.prog f #[] w fun e w' => e = .returned (.slice (some ⟨w.heap.size, 0, none⟩) xs.length xs.length) ∧ w' = w.alloc (.cells (xs.flatMap cells_r).toArray 30)) :
    Calls Tryd.prog f #[] w fun e w' => ∃ v0_ : Value, e = .returned (v0_) ∧ Kd.R k30 30 w' w.heap.size (fun _ => True) v0_ xs ∧ Below w.heap.size w w' :=
  hc.mono fun e w' ⟨he, hw'⟩ => by
    subst hw'
    exact ⟨_, he, lit_R k30 (f := cells_r) (fun w base ok x => k30_mkM w base ok x) (fun _ => rfl) xs hm _ w, (Below.refl _ _).alloc (Nat.le_refl _) _⟩
def cells_a (x : S53) : List Value := [.int .i32 x.f0, .int .i32 x.f1, .int .i32 x.f2]
theorem cells_a_lit {f : FuncId} {w : World} {xs : List S53} (hm : xs.length ≤ 9223372036854775807) (hc : Calls Tryd.prog f #[] w fun e w' => e = .returned (.slice (some ⟨w.heap.size, 0, none⟩) xs.length xs.length) ∧ w' = w.alloc (.cells (xs.flatMap cells_a).toArray 53)) :
    Calls Tryd.prog f #[] w fun e w' => ∃ v0_ : Value, e = .returned (v0_) ∧ Kd.R k53 53 w' w.heap.size (fun _ => True) v0_ xs ∧ Below w.heap.size w w' :=
  hc.mono fun e w' ⟨he, hw'⟩ => by
    subst hw'
    exact ⟨_, he, lit_R k53 (f := cells_a) (fun w base ok x => k53_mkM w base ok x) (fun _ => rfl) xs hm _ w, (Below.refl _ _).alloc (Nat.le_refl _) _⟩
def uT0 : List S55 := [⟨45, 45, 1, 0, 5, 0, 0, false⟩,
  ⟨46, 46, 1, 0, 6, 0, 0, false⟩,
  ⟨48, 57, 1, 0, 4, 0, 0, false⟩,
  ⟨65, 90, 3, 2, 1, 0, 0, false⟩,
  ⟨95, 95, 1, 0, 0, 0, 0, false⟩,
  ⟨97, 122, 1, 2, 1, 0, 0, false⟩,
  ⟨170, 170, 3, 2, 1, 0, 0, false⟩,
  ⟨173, 173, 2, 0, 9, 0, 0, false⟩,
  ⟨178, 179, 3, 0, 4, 0, 0, false⟩,
  ⟨185, 185, 3, 0, 4, 0, 0, false⟩,
  ⟨186, 186, 3, 2, 1, 0, 0, false⟩,
  ⟨192, 214, 3, 2, 1, 0, 0, false⟩,
  ⟨216, 222, 3, 2, 1, 0, 0, false⟩,
  ⟨223, 223, 4, 2, 1, 0, 0, false⟩,
  ⟨224, 246, 1, 2, 1, 0, 0, false⟩,
  ⟨248, 255, 1, 2, 1, 0, 0, false⟩,
  ⟨376, 376, 3, 2, 1, 0, 0, false⟩,
  ⟨469, 469, 3, 2, 1, 0, 0, false⟩,
  ⟨470, 470, 1, 2, 1, 0, 0, false⟩,
  ⟨768, 772, 1, 1, 8, 230, 4, true⟩,
  ⟨774, 776, 1, 1, 8, 230, 4, true⟩,
  ⟨778, 778, 1, 1, 8, 230, 4, true⟩,
  ⟨803, 803, 1, 1, 8, 220, 4, true⟩,
  ⟨807, 808, 1, 1, 8, 202, 4, true⟩,
  ⟨902, 902, 3, 3, 1, 0, 0, false⟩,
  ⟨904, 906, 3, 3, 1, 0, 0, false⟩,
  ⟨908, 908, 3, 3, 1, 0, 0, false⟩,
  ⟨910, 911, 3, 3, 1, 0, 0, false⟩,
  ⟨913, 929, 3, 3, 1, 0, 0, false⟩,
  ⟨931, 937, 3, 3, 1, 0, 0, false⟩]
set_option maxRecDepth 100000 in
theorem unidata_rows0.run (w : World) : Calls Tryd.prog 57 #[] w fun e w' => e = .returned (.slice (some ⟨w.heap.size, 0, none⟩) uT0.length uT0.length) ∧ w' = w.alloc (.cells (uT0.flatMap cells_u).toArray 55) :=
  lit_calls Tryd.func57 rfl rfl (fun g => by kernel_rfl) w
def uT1 : List S55 := [⟨940, 943, 1, 3, 1, 0, 0, false⟩,
  ⟨945, 961, 1, 3, 1, 0, 0, false⟩,
  ⟨962, 962, 4, 3, 1, 0, 0, false⟩,
  ⟨963, 969, 1, 3, 1, 0, 0, false⟩,
  ⟨972, 974, 1, 3, 1, 0, 0, false⟩,
  ⟨1025, 1025, 3, 4, 1, 0, 0, false⟩,
  ⟨1029, 1030, 3, 4, 1, 0, 0, false⟩,
  ⟨1032, 1032, 3, 4, 1, 0, 0, false⟩,
  ⟨1040, 1071, 3, 4, 1, 0, 0, false⟩,
  ⟨1072, 1103, 1, 4, 1, 0, 0, false⟩,
  ⟨1105, 1105, 1, 4, 1, 0, 0, false⟩,
  ⟨1109, 1110, 1, 4, 1, 0, 0, false⟩,
  ⟨1112, 1112, 1, 4, 1, 0, 0, false⟩,
  ⟨1488, 1514, 1, 5, 2, 0, 0, false⟩,
  ⟨1575, 1575, 1, 6, 3, 0, 2, false⟩,
  ⟨1576, 1576, 1, 6, 3, 0, 3, false⟩,
  ⟨1578, 1578, 1, 6, 3, 0, 3, false⟩,
  ⟨1583, 1583, 1, 6, 3, 0, 2, false⟩,
  ⟨1587, 1587, 1, 6, 3, 0, 3, false⟩,
  ⟨1604, 1606, 1, 6, 3, 0, 3, false⟩,
  ⟨1608, 1608, 1, 6, 3, 0, 2, false⟩,
  ⟨1610, 1610, 1, 6, 3, 0, 3, false⟩,
  ⟨1611, 1611, 1, 1, 8, 27, 4, true⟩,
  ⟨1632, 1641, 1, 6, 7, 0, 0, false⟩,
  ⟨1776, 1785, 1, 6, 4, 0, 0, false⟩,
  ⟨2325, 2361, 1, 7, 1, 0, 0, false⟩,
  ⟨2367, 2367, 1, 7, 1, 0, 0, true⟩,
  ⟨2381, 2381, 1, 7, 8, 9, 4, true⟩,
  ⟨7776, 7776, 3, 2, 1, 0, 0, false⟩,
  ⟨7777, 7777, 1, 2, 1, 0, 0, false⟩]
set_option maxRecDepth 100000 in
theorem unidata_rows1.run (w : World) : Calls Tryd.prog 58 #[] w fun e w' => e = .returned (.slice (some ⟨w.heap.size, 0, none⟩) uT1.length uT1.length) ∧ w' = w.alloc (.cells (uT1.flatMap cells_u).toArray 55) :=
  lit_calls Tryd.func58 rfl rfl (fun g => by kernel_rfl) w
def uT2 : List S55 := [⟨7778, 7778, 3, 2, 1, 0, 0, false⟩,
  ⟨7779, 7779, 1, 2, 1, 0, 0, false⟩,
  ⟨7784, 7784, 3, 2, 1, 0, 0, false⟩,
  ⟨7785, 7785, 1, 2, 1, 0, 0, false⟩,
  ⟨7838, 7838, 3, 2, 1, 0, 0, false⟩,
  ⟨8204, 8204, 4, 1, 9, 0, 0, false⟩,
  ⟨8205, 8205, 4, 1, 9, 0, 5, false⟩,
  ⟨8486, 8486, 3, 3, 1, 0, 0, false⟩,
  ⟨8490, 8490, 3, 2, 1, 0, 0, false⟩,
  ⟨8491, 8491, 3, 2, 1, 0, 0, false⟩,
  ⟨9731, 9731, 1, 0, 0, 0, 0, false⟩,
  ⟨12290, 12290, 3, 0, 0, 0, 0, false⟩,
  ⟨12353, 12438, 1, 8, 1, 0, 0, false⟩,
  ⟨12449, 12538, 1, 9, 1, 0, 0, false⟩,
  ⟨12540, 12540, 1, 0, 1, 0, 0, false⟩,
  ⟨19968, 20108, 1, 10, 1, 0, 0, false⟩,
  ⟨64257, 64257, 3, 2, 1, 0, 0, false⟩,
  ⟨65285, 65285, 3, 0, 0, 0, 0, false⟩,
  ⟨65293, 65293, 3, 0, 5, 0, 0, false⟩,
  ⟨65294, 65294, 3, 0, 6, 0, 0, false⟩,
  ⟨65295, 65295, 3, 0, 6, 0, 0, false⟩,
  ⟨65296, 65305, 3, 0, 4, 0, 0, false⟩,
  ⟨65313, 65338, 3, 2, 1, 0, 0, false⟩,
  ⟨65345, 65370, 3, 2, 1, 0, 0, false⟩,
  ⟨65377, 65377, 3, 0, 0, 0, 0, false⟩,
  ⟨66560, 66599, 3, 11, 1, 0, 0, false⟩,
  ⟨66600, 66639, 1, 11, 1, 0, 0, false⟩,
  ⟨128512, 128512, 1, 0, 0, 0, 0, false⟩]
set_option maxRecDepth 100000 in
theorem unidata_rows2.run (w : World) : Calls Tryd.prog 59 #[] w fun e w' => e = .returned (.slice (some ⟨w.heap.size, 0, none⟩) uT2.length uT2.length) ∧ w' = w.alloc (.cells (uT2.flatMap cells_u).toArray 55) :=
  lit_calls Tryd.func59 rfl rfl (fun g => by kernel_rfl) w
def uP0 : List S61 := [⟨192, 65, 768⟩,
  ⟨193, 65, 769⟩,
  ⟨194, 65, 770⟩,
  ⟨195, 65, 771⟩,
  ⟨196, 65, 776⟩,
  ⟨197, 65, 778⟩,
  ⟨199, 67, 807⟩,
  ⟨200, 69, 768⟩,
  ⟨201, 69, 769⟩,
  ⟨202, 69, 770⟩,
  ⟨203, 69, 776⟩,
  ⟨204, 73, 768⟩,
  ⟨205, 73, 769⟩,
  ⟨206, 73, 770⟩,
  ⟨207, 73, 776⟩,
  ⟨209, 78, 771⟩,
  ⟨210, 79, 768⟩,
  ⟨211, 79, 769⟩,
  ⟨212, 79, 770⟩,
  ⟨213, 79, 771⟩,
  ⟨214, 79, 776⟩,
  ⟨217, 85, 768⟩,
  ⟨218, 85, 769⟩,
  ⟨219, 85, 770⟩,
  ⟨220, 85, 776⟩,
  ⟨221, 89, 769⟩,
  ⟨224, 97, 768⟩,
  ⟨225, 97, 769⟩,
  ⟨226, 97, 770⟩,
  ⟨227, 97, 771⟩,
  ⟨228, 97, 776⟩,
  ⟨229, 97, 778⟩,
  ⟨231, 99, 807⟩,
  ⟨232, 101, 768⟩,
  ⟨233, 101, 769⟩,
  ⟨234, 101, 770⟩,
  ⟨235, 101, 776⟩,
  ⟨236, 105, 768⟩,
  ⟨237, 105, 769⟩,
  ⟨238, 105, 770⟩]
set_option maxRecDepth 100000 in
theorem unidata_pairs0.run (w : World) : Calls Tryd.prog 65 #[] w fun e w' => e = .returned (.slice (some ⟨w.heap.size, 0, none⟩) uP0.length uP0.length) ∧ w' = w.alloc (.cells (uP0.flatMap cells_p).toArray 61) :=
  lit_calls Tryd.func65 rfl rfl (fun g => by kernel_rfl) w
def uP1 : List S61 := [⟨239, 105, 776⟩,
  ⟨241, 110, 771⟩,
  ⟨242, 111, 768⟩,
  ⟨243, 111, 769⟩,
  ⟨244, 111, 770⟩,
  ⟨245, 111, 771⟩,
  ⟨246, 111, 776⟩,
  ⟨249, 117, 768⟩,
  ⟨250, 117, 769⟩,
  ⟨251, 117, 770⟩,
  ⟨252, 117, 776⟩,
  ⟨253, 121, 769⟩,
  ⟨255, 121, 776⟩,
  ⟨376, 89, 776⟩,
  ⟨469, 220, 772⟩,
  ⟨470, 252, 772⟩,
  ⟨902, 913, 769⟩,
  ⟨904, 917, 769⟩,
  ⟨905, 919, 769⟩,
  ⟨906, 921, 769⟩,
  ⟨908, 927, 769⟩,
  ⟨910, 933, 769⟩,
  ⟨911, 937, 769⟩,
  ⟨940, 945, 769⟩,
  ⟨941, 949, 769⟩,
  ⟨942, 951, 769⟩,
  ⟨943, 953, 769⟩,
  ⟨972, 959, 769⟩,
  ⟨973, 965, 769⟩,
  ⟨974, 969, 769⟩,
  ⟨1025, 1045, 776⟩,
  ⟨1049, 1048, 774⟩,
  ⟨1081, 1080, 774⟩,
  ⟨1105, 1077, 776⟩,
  ⟨7776, 83, 775⟩,
  ⟨7777, 115, 775⟩,
  ⟨7778, 83, 803⟩,
  ⟨7779, 115, 803⟩,
  ⟨7784, 7778, 775⟩,
  ⟨7785, 7779, 775⟩]
set_option maxRecDepth 100000 in
theorem unidata_pairs1.run (w : World) : Calls Tryd.prog 66 #[] w fun e w' => e = .returned (.slice (some ⟨w.heap.size, 0, none⟩) uP1.length uP1.length) ∧ w' = w.alloc (.cells (uP1.flatMap cells_p).toArray 61) :=
  lit_calls Tryd.func66 rfl rfl (fun g => by kernel_rfl) w
def rT0 : List S30 := [⟨45, 45, 1, 0, 0, 0, 0, 5, 0, false, 0⟩,
  ⟨46, 46, 1, 0, 0, 0, 0, 6, 0, false, 0⟩,
  ⟨48, 57, 1, 0, 0, 0, 0, 4, 0, false, 0⟩,
  ⟨65, 90, 3, 32, 0, 0, 2, 1, 0, false, 0⟩,
  ⟨95, 95, 1, 0, 0, 0, 0, 0, 0, false, 0⟩,
  ⟨97, 122, 1, 0, 0, 0, 2, 1, 0, false, 0⟩,
  ⟨170, 170, 3, 0, 97, 0, 2, 1, 0, false, 0⟩,
  ⟨173, 173, 2, 0, 0, 0, 0, 9, 0, false, 0⟩,
  ⟨178, 179, 3, -128, 0, 0, 0, 4, 0, false, 0⟩,
  ⟨185, 185, 3, 0, 49, 0, 0, 4, 0, false, 0⟩,
  ⟨186, 186, 3, 0, 111, 0, 2, 1, 0, false, 0⟩,
  ⟨192, 214, 3, 32, 0, 0, 2, 1, 0, false, 0⟩,
  ⟨216, 222, 3, 32, 0, 0, 2, 1, 0, false, 0⟩,
  ⟨223, 223, 4, 0, 0, 0, 2, 1, 0, false, 0⟩,
  ⟨224, 246, 1, 0, 0, 0, 2, 1, 0, false, 0⟩,
  ⟨248, 255, 1, 0, 0, 0, 2, 1, 0, false, 0⟩,
  ⟨376, 376, 3, 0, 255, 0, 2, 1, 0, false, 0⟩,
  ⟨469, 469, 3, 0, 470, 0, 2, 1, 0, false, 0⟩,
  ⟨470, 470, 1, 0, 0, 0, 2, 1, 0, false, 0⟩,
  ⟨768, 772, 1, 0, 0, 0, 1, 8, 230, true, 4⟩,
  ⟨774, 776, 1, 0, 0, 0, 1, 8, 230, true, 4⟩,
  ⟨778, 778, 1, 0, 0, 0, 1, 8, 230, true, 4⟩,
  ⟨803, 803, 1, 0, 0, 0, 1, 8, 220, true, 4⟩,
  ⟨807, 808, 1, 0, 0, 0, 1, 8, 202, true, 4⟩,
  ⟨902, 902, 3, 0, 940, 0, 3, 1, 0, false, 0⟩,
  ⟨904, 906, 3, 37, 0, 0, 3, 1, 0, false, 0⟩,
  ⟨908, 908, 3, 0, 972, 0, 3, 1, 0, false, 0⟩,
  ⟨910, 911, 3, 63, 0, 0, 3, 1, 0, false, 0⟩,
  ⟨913, 929, 3, 32, 0, 0, 3, 1, 0, false, 0⟩,
  ⟨931, 937, 3, 32, 0, 0, 3, 1, 0, false, 0⟩]
def portcullisref03_rows0.f : Option (List (S30)) := some rT0
set_option maxRecDepth 100000 in
theorem portcullisref03_rows0.run (w : World) : Calls Tryd.prog 52 #[] w fun e w' => e = .returned (.slice (some ⟨w.heap.size, 0, none⟩) rT0.length rT0.length) ∧ w' = w.alloc (.cells (rT0.flatMap cells_r).toArray 30) :=
  lit_calls Tryd.func52 rfl rfl (fun g => by kernel_rfl) w
theorem portcullisref03_rows0.calls (r : List (S30)) (w : World) (h : portcullisref03_rows0.f = some r) :
    Calls Tryd.prog 52 #[] w fun e w' => ∃ v0_ : Value, e = .returned (v0_) ∧ Kd.R k30 30 w' w.heap.size (fun _ => True) v0_ r ∧ Below w.heap.size w w' := by
  obtain rfl : rT0 = r := Option.some.inj h
  exact cells_r_lit (by decide) (portcullisref03_rows0.run w)
def rT1 : List S30 := [⟨940, 943, 1, 0, 0, 0, 3, 1, 0, false, 0⟩,
  ⟨945, 961, 1, 0, 0, 0, 3, 1, 0, false, 0⟩,
  ⟨962, 962, 4, 0, 0, 0, 3, 1, 0, false, 0⟩,
  ⟨963, 969, 1, 0, 0, 0, 3, 1, 0, false, 0⟩,
  ⟨972, 974, 1, 0, 0, 0, 3, 1, 0, false, 0⟩,
  ⟨1025, 1025, 3, 0, 1105, 0, 4, 1, 0, false, 0⟩,
  ⟨1029, 1030, 3, 80, 0, 0, 4, 1, 0, false, 0⟩,
  ⟨1032, 1032, 3, 0, 1112, 0, 4, 1, 0, false, 0⟩,
  ⟨1040, 1071, 3, 32, 0, 0, 4, 1, 0, false, 0⟩,
  ⟨1072, 1103, 1, 0, 0, 0, 4, 1, 0, false, 0⟩,
  ⟨1105, 1105, 1, 0, 0, 0, 4, 1, 0, false, 0⟩,
  ⟨1109, 1110, 1, 0, 0, 0, 4, 1, 0, false, 0⟩,
  ⟨1112, 1112, 1, 0, 0, 0, 4, 1, 0, false, 0⟩,
  ⟨1488, 1514, 1, 0, 0, 0, 5, 2, 0, false, 0⟩,
  ⟨1575, 1575, 1, 0, 0, 0, 6, 3, 0, false, 2⟩,
  ⟨1576, 1576, 1, 0, 0, 0, 6, 3, 0, false, 3⟩,
  ⟨1578, 1578, 1, 0, 0, 0, 6, 3, 0, false, 3⟩,
  ⟨1583, 1583, 1, 0, 0, 0, 6, 3, 0, false, 2⟩,
  ⟨1587, 1587, 1, 0, 0, 0, 6, 3, 0, false, 3⟩,
  ⟨1604, 1606, 1, 0, 0, 0, 6, 3, 0, false, 3⟩,
  ⟨1608, 1608, 1, 0, 0, 0, 6, 3, 0, false, 2⟩,
  ⟨1610, 1610, 1, 0, 0, 0, 6, 3, 0, false, 3⟩,
  ⟨1611, 1611, 1, 0, 0, 0, 1, 8, 27, true, 4⟩,
  ⟨1632, 1641, 1, 0, 0, 0, 6, 7, 0, false, 0⟩,
  ⟨1776, 1785, 1, 0, 0, 0, 6, 4, 0, false, 0⟩,
  ⟨2325, 2361, 1, 0, 0, 0, 7, 1, 0, false, 0⟩,
  ⟨2367, 2367, 1, 0, 0, 0, 7, 1, 0, true, 0⟩,
  ⟨2381, 2381, 1, 0, 0, 0, 7, 8, 9, true, 4⟩,
  ⟨7776, 7776, 3, 0, 7777, 0, 2, 1, 0, false, 0⟩,
  ⟨7777, 7777, 1, 0, 0, 0, 2, 1, 0, false, 0⟩]
def portcullisref03_rows1.f : Option (List (S30)) := some rT1
set_option maxRecDepth 100000 in
theorem portcullisref03_rows1.run (w : World) : Calls Tryd.prog 53 #[] w fun e w' => e = .returned (.slice (some ⟨w.heap.size, 0, none⟩) rT1.length rT1.length) ∧ w' = w.alloc (.cells (rT1.flatMap cells_r).toArray 30) :=
  lit_calls Tryd.func53 rfl rfl (fun g => by kernel_rfl) w
theorem portcullisref03_rows1.calls (r : List (S30)) (w : World) (h : portcullisref03_rows1.f = some r) :
    Calls Tryd.prog 53 #[] w fun e w' => ∃ v0_ : Value, e = .returned (v0_) ∧ Kd.R k30 30 w' w.heap.size (fun _ => True) v0_ r ∧ Below w.heap.size w w' := by
  obtain rfl : rT1 = r := Option.some.inj h
  exact cells_r_lit (by decide) (portcullisref03_rows1.run w)
def rT2 : List S30 := [⟨7778, 7778, 3, 0, 7779, 0, 2, 1, 0, false, 0⟩,
  ⟨7779, 7779, 1, 0, 0, 0, 2, 1, 0, false, 0⟩,
  ⟨7784, 7784, 3, 0, 7785, 0, 2, 1, 0, false, 0⟩,
  ⟨7785, 7785, 1, 0, 0, 0, 2, 1, 0, false, 0⟩,
  ⟨7838, 7838, 3, 0, 115, 115, 2, 1, 0, false, 0⟩,
  ⟨8204, 8204, 4, 0, 0, 0, 1, 9, 0, false, 0⟩,
  ⟨8205, 8205, 4, 0, 0, 0, 1, 9, 0, false, 5⟩,
  ⟨8486, 8486, 3, 0, 969, 0, 3, 1, 0, false, 0⟩,
  ⟨8490, 8490, 3, 0, 107, 0, 2, 1, 0, false, 0⟩,
  ⟨8491, 8491, 3, 0, 229, 0, 2, 1, 0, false, 0⟩,
  ⟨9731, 9731, 1, 0, 0, 0, 0, 0, 0, false, 0⟩,
  ⟨12290, 12290, 3, 0, 46, 0, 0, 0, 0, false, 0⟩,
  ⟨12353, 12438, 1, 0, 0, 0, 8, 1, 0, false, 0⟩,
  ⟨12449, 12538, 1, 0, 0, 0, 9, 1, 0, false, 0⟩,
  ⟨12540, 12540, 1, 0, 0, 0, 0, 1, 0, false, 0⟩,
  ⟨19968, 20108, 1, 0, 0, 0, 10, 1, 0, false, 0⟩,
  ⟨64257, 64257, 3, 0, 102, 105, 2, 1, 0, false, 0⟩,
  ⟨65285, 65285, 3, 0, 37, 0, 0, 0, 0, false, 0⟩,
  ⟨65293, 65293, 3, 0, 45, 0, 0, 5, 0, false, 0⟩,
  ⟨65294, 65294, 3, 0, 46, 0, 0, 6, 0, false, 0⟩,
  ⟨65295, 65295, 3, 0, 47, 0, 0, 6, 0, false, 0⟩,
  ⟨65296, 65305, 3, -65248, 0, 0, 0, 4, 0, false, 0⟩,
  ⟨65313, 65338, 3, -65216, 0, 0, 2, 1, 0, false, 0⟩,
  ⟨65345, 65370, 3, -65248, 0, 0, 2, 1, 0, false, 0⟩,
  ⟨65377, 65377, 3, 0, 46, 0, 0, 0, 0, false, 0⟩,
  ⟨66560, 66599, 3, 40, 0, 0, 11, 1, 0, false, 0⟩,
  ⟨66600, 66639, 1, 0, 0, 0, 11, 1, 0, false, 0⟩,
  ⟨128512, 128512, 1, 0, 0, 0, 0, 0, 0, false, 0⟩]
def portcullisref03_rows2.f : Option (List (S30)) := some rT2
set_option maxRecDepth 100000 in
theorem portcullisref03_rows2.run (w : World) : Calls Tryd.prog 54 #[] w fun e w' => e = .returned (.slice (some ⟨w.heap.size, 0, none⟩) rT2.length rT2.length) ∧ w' = w.alloc (.cells (rT2.flatMap cells_r).toArray 30) :=
  lit_calls Tryd.func54 rfl rfl (fun g => by kernel_rfl) w
theorem portcullisref03_rows2.calls (r : List (S30)) (w : World) (h : portcullisref03_rows2.f = some r) :
    Calls Tryd.prog 54 #[] w fun e w' => ∃ v0_ : Value, e = .returned (v0_) ∧ Kd.R k30 30 w' w.heap.size (fun _ => True) v0_ r ∧ Below w.heap.size w w' := by
  obtain rfl : rT2 = r := Option.some.inj h
  exact cells_r_lit (by decide) (portcullisref03_rows2.run w)
def rP0 : List S53 := [⟨192, 65, 768⟩,
  ⟨193, 65, 769⟩,
  ⟨194, 65, 770⟩,
  ⟨195, 65, 771⟩,
  ⟨196, 65, 776⟩,
  ⟨197, 65, 778⟩,
  ⟨199, 67, 807⟩,
  ⟨200, 69, 768⟩,
  ⟨201, 69, 769⟩,
  ⟨202, 69, 770⟩,
  ⟨203, 69, 776⟩,
  ⟨204, 73, 768⟩,
  ⟨205, 73, 769⟩,
  ⟨206, 73, 770⟩,
  ⟨207, 73, 776⟩,
  ⟨209, 78, 771⟩,
  ⟨210, 79, 768⟩,
  ⟨211, 79, 769⟩,
  ⟨212, 79, 770⟩,
  ⟨213, 79, 771⟩,
  ⟨214, 79, 776⟩,
  ⟨217, 85, 768⟩,
  ⟨218, 85, 769⟩,
  ⟨219, 85, 770⟩,
  ⟨220, 85, 776⟩,
  ⟨221, 89, 769⟩,
  ⟨224, 97, 768⟩,
  ⟨225, 97, 769⟩,
  ⟨226, 97, 770⟩,
  ⟨227, 97, 771⟩,
  ⟨228, 97, 776⟩,
  ⟨229, 97, 778⟩,
  ⟨231, 99, 807⟩,
  ⟨232, 101, 768⟩,
  ⟨233, 101, 769⟩,
  ⟨234, 101, 770⟩,
  ⟨235, 101, 776⟩,
  ⟨236, 105, 768⟩,
  ⟨237, 105, 769⟩,
  ⟨238, 105, 770⟩]
def portcullisref03_pairs0.f : Option (List (S53)) := some rP0
set_option maxRecDepth 100000 in
theorem portcullisref03_pairs0.run (w : World) : Calls Tryd.prog 55 #[] w fun e w' => e = .returned (.slice (some ⟨w.heap.size, 0, none⟩) rP0.length rP0.length) ∧ w' = w.alloc (.cells (rP0.flatMap cells_a).toArray 53) :=
  lit_calls Tryd.func55 rfl rfl (fun g => by kernel_rfl) w
theorem portcullisref03_pairs0.calls (r : List (S53)) (w : World) (h : portcullisref03_pairs0.f = some r) :
    Calls Tryd.prog 55 #[] w fun e w' => ∃ v0_ : Value, e = .returned (v0_) ∧ Kd.R k53 53 w' w.heap.size (fun _ => True) v0_ r ∧ Below w.heap.size w w' := by
  obtain rfl : rP0 = r := Option.some.inj h
  exact cells_a_lit (by decide) (portcullisref03_pairs0.run w)
def rP1 : List S53 := [⟨239, 105, 776⟩,
  ⟨241, 110, 771⟩,
  ⟨242, 111, 768⟩,
  ⟨243, 111, 769⟩,
  ⟨244, 111, 770⟩,
  ⟨245, 111, 771⟩,
  ⟨246, 111, 776⟩,
  ⟨249, 117, 768⟩,
  ⟨250, 117, 769⟩,
  ⟨251, 117, 770⟩,
  ⟨252, 117, 776⟩,
  ⟨253, 121, 769⟩,
  ⟨255, 121, 776⟩,
  ⟨376, 89, 776⟩,
  ⟨469, 220, 772⟩,
  ⟨470, 252, 772⟩,
  ⟨902, 913, 769⟩,
  ⟨904, 917, 769⟩,
  ⟨905, 919, 769⟩,
  ⟨906, 921, 769⟩,
  ⟨908, 927, 769⟩,
  ⟨910, 933, 769⟩,
  ⟨911, 937, 769⟩,
  ⟨940, 945, 769⟩,
  ⟨941, 949, 769⟩,
  ⟨942, 951, 769⟩,
  ⟨943, 953, 769⟩,
  ⟨972, 959, 769⟩,
  ⟨973, 965, 769⟩,
  ⟨974, 969, 769⟩,
  ⟨1025, 1045, 776⟩,
  ⟨1049, 1048, 774⟩,
  ⟨1081, 1080, 774⟩,
  ⟨1105, 1077, 776⟩,
  ⟨7776, 83, 775⟩,
  ⟨7777, 115, 775⟩,
  ⟨7778, 83, 803⟩,
  ⟨7779, 115, 803⟩,
  ⟨7784, 7778, 775⟩,
  ⟨7785, 7779, 775⟩]
def portcullisref03_pairs1.f : Option (List (S53)) := some rP1
set_option maxRecDepth 100000 in
theorem portcullisref03_pairs1.run (w : World) : Calls Tryd.prog 56 #[] w fun e w' => e = .returned (.slice (some ⟨w.heap.size, 0, none⟩) rP1.length rP1.length) ∧ w' = w.alloc (.cells (rP1.flatMap cells_a).toArray 53) :=
  lit_calls Tryd.func56 rfl rfl (fun g => by kernel_rfl) w
theorem portcullisref03_pairs1.calls (r : List (S53)) (w : World) (h : portcullisref03_pairs1.f = some r) :
    Calls Tryd.prog 56 #[] w fun e w' => ∃ v0_ : Value, e = .returned (v0_) ∧ Kd.R k53 53 w' w.heap.size (fun _ => True) v0_ r ∧ Below w.heap.size w w' := by
  obtain rfl : rP1 = r := Option.some.inj h
  exact cells_a_lit (by decide) (portcullisref03_pairs1.run w)
end Go.Proofs.YtanpephfnjnfoaaDoor.Pr
end

section
namespace Go.Proofs.YtanpephfnjnfoaaDoor.Pr
open Go.RowKit Go.Proofs.YtanpephfnjnfoaaDoorW.PrintWords Go.Proofs.YtanpephfnjnfoaaDoorW.PrintLast Go.Proofs.YtanpephfnjnfoaaDoorW.PrintMore
set_option linter.unusedVariables false
set_option linter.unusedSimpArgs false

theorem rangeAt_below {B b o : Nat} {cs : List Value} {w w' : World} (h : w.rangeAt b o cs) (hb : Below B w w') (hB : b < B) : w'.rangeAt b o cs := fun j v hv => (hb.cell (p := ⟨b, o + j, none⟩) hB).trans (h j v hv)
theorem there_below {B b o n : Nat} {w w' : World} (h : w.there b o n) (hb : Below B w w') (hB : b < B) : w'.there b o n := fun j hj => by
  rw [hb.cell (p := ⟨b, o + j, none⟩) hB, hb.frozen (p := ⟨b, o + j, none⟩) hB]; exact h j hj
theorem below_cells {B b : Nat} {a : World} (hb : B ≤ b) : ∀ (vs : List Value) (o : Nat) {w : World}, Below B a w → Below B a (w.setCells b o vs)
  | [], _, _, h => h
  | v :: vs, o, w, h => by
    simp only [World.setCells]
    exact below_cells hb vs (o + 1) (h.setCell (by simpa using hb) v)
theorem size_cells (b : Nat) : ∀ (vs : List Value) (o : Nat) (w : World), (w.setCells b o vs).heap.size = w.heap.size
  | [], _, _ => rfl
  | v :: vs, o, w => by
    simp only [World.setCells]
    rw [size_cells b vs (o + 1)]
    simp
theorem results_cell_mid {fn : Func} {p : Tmp} {ty : TypeId} (h : fn.results = #[.cell p ty]) (tmps : Array Value) (w : World) (g : Nat) (cs : List Value) (d : TypeDesc)
    (hp : tmps.getD p undef = .pointer (some ⟨g, 0, none⟩)) (hc : w.rangeAt g 0 cs)
    (hu : Tryd.prog.underlying ty = some d) (hd : d.isRow = true) (hi : (Tryd.prog.info? ty).map (·.size) = some cs.length) :
    (results fn tmps).run Tryd.prog w = .ok (.agg cs.toArray) w := by
  have hp' : tmps[p]?.getD undef = .pointer (some ⟨g, 0, none⟩) := by simpa using hp
  simp [results, h, hp', asAddr, run_loadVar_mid w g 0 ty cs d hc hu hd hi]
theorem range_new (w : World) (cs : List Value) (e : TypeId) : (w.alloc (.cells cs.toArray e)).rangeAt w.heap.size 0 cs := fun j v hv => by
  rw [cell_of_row _ _ _ _ _ _ (heap_alloc_new w _)]
  simpa using hv
theorem there_new (w : World) (cs : Array Value) (e : TypeId) : (w.alloc (.cells cs e)).there w.heap.size 0 cs.size := fun j hj => by
  rw [cell_of_row _ _ _ _ _ _ (heap_alloc_new w _), frozen_of_row _ _ _ _ _ (heap_alloc_new w _)]
  simp [hj]
theorem range_later {w : World} {b o : Nat} {cs : List Value} (h : w.rangeAt b o cs) (ob : Obj) : (w.alloc ob).rangeAt b o cs := World.rangeAt_alloc h ob
/-- A slice of structs as it lies in a block: element i's cells from i * n on. -/
def RowsAt {α : Type} (f : α → List Value) (n : Nat) (w : World) (g : Nat) (T : List α) : Prop := ∀ i x, T[i]? = some x → w.rangeAt g (i * n) (f x)
theorem RowsAt.below {α : Type} {f : α → List Value} {n g : Nat} {w w' : World} {T : List α} (h : RowsAt f n w g T) {B : Nat} (hb : Below B w w') (hB : g < B) : RowsAt f n w' g T := fun i x hx => rangeAt_below (h i x hx) hb hB
theorem RowsAt.later {α : Type} {f : α → List Value} {n g : Nat} {w : World} {T : List α} (h : RowsAt f n w g T) (ob : Obj) : RowsAt f n (w.alloc ob) g T := fun i x hx => range_later (h i x hx) ob
theorem RowsAt.new {α : Type} {f : α → List Value} {n : Nat} (hf : ∀ x, (f x).length = n) (w : World) (T : List α) (e : TypeId) : RowsAt f n (w.alloc (.cells (T.flatMap f).toArray e)) w.heap.size T := fun i x hx j v hv => by
  have hr := (flat_at hf T i x hx)
  have h0 := range_new w (T.flatMap f) e (i * n + j) v (by
    rw [← hr] at hv
    rw [List.getElem?_take] at hv
    split at hv
    · rwa [List.getElem?_drop] at hv
    · exact absurd hv (by simp))
  rwa [Nat.zero_add] at h0
where flat_at {α : Type} {f : α → List Value} {n : Nat} (hf : ∀ x, (f x).length = n) : ∀ (T : List α) (i : Nat) (x : α), T[i]? = some x → ((T.flatMap f).drop (i * n)).take n = f x
  | [], i, x, h => by simp at h
  | y :: T, 0, x, h => by
    obtain rfl : y = x := by simpa using h
    rw [Nat.zero_mul, List.drop_zero, List.flatMap_cons, List.take_append_of_le_length (Nat.le_of_eq (hf y).symm), List.take_of_length_le (Nat.le_of_eq (hf y))]
  | y :: T, i + 1, x, h => by
    rw [Nat.add_mul, Nat.one_mul, Nat.add_comm, ← List.drop_drop, List.flatMap_cons, List.drop_append_of_le_length (Nat.le_of_eq (hf y).symm), List.drop_of_length_le (Nat.le_of_eq (hf y)), List.nil_append]
    exact flat_at hf T i x (by simpa using h)
end Go.Proofs.YtanpephfnjnfoaaDoor.Pr
end

section
namespace Go.Proofs.YtanpephfnjnfoaaDoor.Pr
open Go.RowKit Go.Proofs.YtanpephfnjnfoaaDoorW.PrintWords Go.Proofs.YtanpephfnjnfoaaDoorW.PrintLast Go.Proofs.YtanpephfnjnfoaaDoorW.PrintMore
set_option linter.unusedVariables false
set_option linter.unusedSimpArgs false

theorem info_u : (Tryd.prog.info? 55).map (·.size) = some 8 := by kernel_rfl
/-- What the search's closure answers. -/
def cmpU (x : S55) (r : Int) : Int := if x.f1 < r then -1 else if r < x.f0 then 1 else 0

set_option maxHeartbeats 400000 in
theorem cmp_calls (x : S55) (r : Int) (w : World) :
    Calls Tryd.prog 61 #[.agg (cells_u x).toArray, .int .i32 r] w fun e w' => e = .returned (.int .i64 (cmpU x r)) ∧ Below w.heap.size w w' := by
  unfold cells_u cmpU
  by_cases h1 : x.f1 < r
  · rw [if_pos h1]
    go_enter Tryd.func61, Tryd.ntmps61
    go_wp2
    go_ret
    exact ⟨rfl, (Below.refl _ _).alloc (Nat.le_refl _) _⟩
  · rw [if_neg h1]
    by_cases h2 : r < x.f0
    · rw [if_pos h2]
      go_enter Tryd.func61, Tryd.ntmps61
      go_wp2
      go_ret
      exact ⟨rfl, (Below.refl _ _).alloc (Nat.le_refl _) _⟩
    · rw [if_neg h2]
      go_enter Tryd.func61, Tryd.ntmps61
      go_wp2
      go_ret
      exact ⟨rfl, (Below.refl _ _).alloc (Nat.le_refl _) _⟩

/-- Where the search ends. -/
def Ends (T : List S55) (r : Int) (i : Nat) : Prop := i ≤ T.length ∧ (∀ m x, m < i → T[m]? = some x → cmpU x r < 0) ∧ (∀ m x, i ≤ m → T[m]? = some x → 0 ≤ cmpU x r)
def foundU (T : List S55) (r : Int) (i : Nat) : Bool := match T[i]? with | some x => cmpU x r == 0 | none => false
def Mono (T : List S55) (r : Int) : Prop := ∀ (a b : Nat) (x y : S55), a ≤ b → T[a]? = some x → T[b]? = some y → cmpU y r < 0 → cmpU x r < 0
/-- What the search answers: behind a name. -/
def Searched (T : List S55) (r : Int) (w : World) (e : Ending) (w' : World) : Prop := ∃ i : Nat, Ends T r i ∧ e = .returned (.tuple #[.int .i64 i, .bool (foundU T r i)]) ∧ Below w.heap.size w w'

structure SInv (T : List S55) (r : Int) (w wr : World) (a b : Nat) : Prop where
  le : a ≤ b
  top : b ≤ T.length
  lo : ∀ m x, m < a → T[m]? = some x → cmpU x r < 0
  hi : ∀ m x, b ≤ m → T[m]? = some x → 0 ≤ cmpU x r
  bel : Below w.heap.size w wr
theorem SInv.up {T : List S55} {r : Int} {w wr w1 : World} {a b h : Nat} {x : S55} (I : SInv T r w wr a b) (hm : Mono T r) (h2 : h < b) (hx : T[h]? = some x) (hc : cmpU x r < 0) (hb : Below wr.heap.size wr w1) : SInv T r w w1 (h + 1) b :=
  ⟨by omega, I.top, fun m y hmh hy => hm m h y x (by omega) hy hx hc, I.hi, below_then I.bel I.bel.size hb⟩
theorem SInv.down {T : List S55} {r : Int} {w wr w1 : World} {a b h : Nat} {x : S55} (I : SInv T r w wr a b) (hm : Mono T r) (h1 : a ≤ h) (h2 : h < b) (hx : T[h]? = some x) (hc : ¬ cmpU x r < 0) (hb : Below wr.heap.size wr w1) : SInv T r w w1 a h :=
  ⟨h1, by have := I.top; omega, I.lo, fun m y hmh hy => by
    by_cases e : cmpU y r < 0
    · exact absurd (hm h m x y hmh hx hy e) hc
    · omega, below_then I.bel I.bel.size hb⟩
theorem row_size (x : S55) : (Tryd.prog.info? 55).map (·.size) = some (cells_u x).length := info_u

set_option maxHeartbeats 1000000 in
theorem search_calls (T : List S55) (g c : Nat) (r : Int) (w : World) (hT : RowsAt cells_u 8 w g T) (hg : g < w.heap.size) (hm : Mono T r) (hn : T.length ≤ 1000000) :
    Calls Tryd.prog 60 #[.slice (some ⟨g, 0, none⟩) T.length c, .int .i32 r, .func (.func 61) #[] #[]] w (Searched T r w) := by
  have HM := Lib.hid hm
  clear hm
  go_enter Tryd.func60, Tryd.ntmps60
  go_wp2_with fail
  go_loopw [9, 10] (fun i j wr => ∃ a b : Nat, i = .int .i64 a ∧ j = .int .i64 b ∧ SInv T r w wr a b) (fun i j _ => (intOf j).toNat - (intOf i).toNat)
  case atStart => exact ⟨0, T.length, rfl, rfl, ⟨Nat.zero_le _, Nat.le_refl _, fun m x h => absurd h (Nat.not_lt_zero _), fun m x h hx => by rw [List.getElem?_eq_none h] at hx; exact absurd hx (by simp), Below.refl _ _⟩⟩
  case round =>
    obtain ⟨a, b, rfl, rfl, I⟩ := hrel
    have h1 := I.le
    have h2 := I.top
    by_cases hlt : a < b
    · obtain ⟨x, hx⟩ : ∃ x, T[(a + b) / 2]? = some x := ⟨_, List.getElem?_eq_getElem (by omega)⟩
      have hr : wr.rangeAt g ((a + b) / 2 * 8) (cells_u x) := hT.below I.bel hg _ _ hx
      have HX := Lib.hid hx
      have HR := Lib.hid hr
      clear hx hr
      by_cases hc : cmpU x r < 0
      · have J := fun w1 hb => I.up (w1 := w1) HM.out (show (a + b) / 2 < b by omega) HX.out hc hb
        go_wp2_with (first | (with_reducible refine wpList_load_mid rfl 55 _ rfl g (((a + b) / 2) * 8) rfl (cells_u x) _ HR.out Tryd.underlying55 rfl (row_size x) ?_) | (go_at_call 61; refine (cmp_calls x r _).mono ?_; rintro e w1 ⟨rfl, hb1⟩))
        go_roundw
        case rel => exact ⟨(a + b) / 2 + 1, b, by go_num, rfl, J _ hb1⟩
        case measure => simp [intOf]; omega
      · have J := fun w1 hb => I.down (w1 := w1) HM.out (show a ≤ (a + b) / 2 by omega) (show (a + b) / 2 < b by omega) HX.out hc hb
        have hc' : 0 ≤ cmpU x r := by omega
        clear hc
        go_wp2_with (first | (with_reducible refine wpList_load_mid rfl 55 _ rfl g (((a + b) / 2) * 8) rfl (cells_u x) _ HR.out Tryd.underlying55 rfl (row_size x) ?_) | (go_at_call 61; refine (cmp_calls x r _).mono ?_; rintro e w1 ⟨rfl, hb1⟩))
        go_roundw
        case rel => exact ⟨a, (a + b) / 2, rfl, by go_num, J _ hb1⟩
        case measure => simp [intOf]; omega
    · obtain rfl : a = b := by omega
      have E : Ends T r a := ⟨h2, I.lo, I.hi⟩
      by_cases ha : a < T.length
      · obtain ⟨x, hx⟩ : ∃ x, T[a]? = some x := ⟨_, List.getElem?_eq_getElem ha⟩
        have hr : wr.rangeAt g (a * 8) (cells_u x) := hT.below I.bel hg _ _ hx
        have hf : foundU T r a = (cmpU x r == 0) := by unfold foundU; rw [hx]
        have HF := Lib.hid hf
        have HR := Lib.hid hr
        have HB := I.bel
        have c0 := hr 0 _ rfl
        have c1 := hr 1 _ rfl
        have c2 := hr 2 _ rfl
        have c3 := hr 3 _ rfl
        have c4 := hr 4 _ rfl
        have c5 := hr 5 _ rfl
        have c6 := hr 6 _ rfl
        have c7 := hr 7 _ rfl
        rw [Nat.add_zero] at c0
        have hd2 : decide (a < T.length) = true := decide_eq_true ha
        have hd1 : decide ((a : Int) < (T.length : Int)) = true := decide_eq_true (by omega)
        clear hx hr hf I
        go_wp2_with (first | (go_at_call 61; refine (cmp_calls x r _).mono ?_; rintro e w1 ⟨rfl, hb1⟩))
        go_ret2
        exact ⟨a, E, by rw [HF.out]; rfl, below_then HB HB.size hb1⟩
      · have hf : foundU T r a = false := by unfold foundU; rw [List.getElem?_eq_none (by omega)]
        have HF := Lib.hid hf
        have HB := I.bel
        clear hf I
        go_wp2_with fail
        go_ret2
        exact ⟨a, E, by rw [HF.out]; rfl, HB⟩

def inU (r : Int) (x : S55) : Bool := decide (x.f0 ≤ r) && decide (r ≤ x.f1)
theorem cmp_zero {x : S55} {r : Int} (h : (cmpU x r == 0) = true) : inU r x = true := by
  unfold cmpU at h
  unfold inU
  by_cases h1 : x.f1 < r
  · rw [if_pos h1] at h; exact absurd h (by decide)
  · rw [if_neg h1] at h
    by_cases h2 : r < x.f0
    · rw [if_pos h2] at h; exact absurd h (by decide)
    · simp; omega
theorem cmp_in {x : S55} {r : Int} (h : inU r x = true) : cmpU x r = 0 := by
  unfold inU at h
  simp at h
  unfold cmpU
  rw [if_neg (by omega), if_neg (by omega)]
/-- A table whose rows rise. -/
def Rises (T : List S55) : Prop := T.Pairwise fun x y => x.f0 ≤ y.f0 ∧ x.f1 ≤ y.f1
theorem Rises.at_ {T : List S55} (h : Rises T) {a b : Nat} {x y : S55} (hab : a ≤ b) (hx : T[a]? = some x) (hy : T[b]? = some y) : x.f0 ≤ y.f0 ∧ x.f1 ≤ y.f1 := by
  rcases Nat.lt_or_eq_of_le hab with hlt | rfl
  · obtain ⟨ha, rfl⟩ := List.getElem?_eq_some_iff.1 hx
    obtain ⟨hb, rfl⟩ := List.getElem?_eq_some_iff.1 hy
    exact List.pairwise_iff_getElem.1 h a b ha hb hlt
  · rw [hx] at hy
    obtain rfl := Option.some.inj hy
    exact ⟨Int.le_refl _, Int.le_refl _⟩
theorem Rises.mono {T : List S55} (h : Rises T) (r : Int) : Mono T r := by
  intro a b x y hab hx hy hc
  have := (h.at_ hab hx hy).2
  unfold cmpU at hc ⊢
  by_cases h1 : y.f1 < r
  · rw [if_pos (show x.f1 < r by omega)]; decide
  · rw [if_neg h1] at hc
    split at hc
    · exact absurd hc (by decide)
    · exact absurd hc (by decide)
theorem find_first {α : Type} {p : α → Bool} : ∀ {T : List α} {i : Nat} {x : α}, T[i]? = some x → p x = true → (∀ m y, m < i → T[m]? = some y → p y = false) → T.find? p = some x
  | [], i, x, h, _, _ => by simp at h
  | y :: T, 0, x, h, hp, _ => by
    obtain rfl : y = x := by simpa using h
    simp [List.find?_cons, hp]
  | y :: T, i + 1, x, h, hp, hm => by
    have h0 := hm 0 y (by omega) rfl
    simp only [List.find?_cons, h0]
    exact find_first (by simpa using h) hp (fun m z hmi hz => hm (m + 1) z (by omega) (by simpa using hz))
theorem find_nowhere {α : Type} {p : α → Bool} {T : List α} (h : ∀ (m : Nat) (x : α), T[m]? = some x → p x = false) : T.find? p = none := by
  rw [List.find?_eq_none]
  intro x hx
  obtain ⟨m, hm⟩ := List.mem_iff_getElem?.1 hx
  rw [h m x hm]
  decide
theorem Ends.yes {T : List S55} {r : Int} {i : Nat} (h : Ends T r i) (hf : foundU T r i = true) : ∃ x, T[i]? = some x ∧ T.find? (inU r) = some x := by
  unfold foundU at hf
  cases hx : T[i]? with
  | none => rw [hx] at hf; exact absurd hf Bool.false_ne_true
  | some x =>
    rw [hx] at hf
    refine ⟨x, rfl, find_first hx (cmp_zero hf) fun m y hm hy => ?_⟩
    have := h.2.1 m y hm hy
    cases hb : inU r y with
    | false => rfl
    | true => have := cmp_in hb; omega
theorem Ends.no {T : List S55} {r : Int} {i : Nat} (hT : Rises T) (h : Ends T r i) (hf : foundU T r i = false) : T.find? (inU r) = none := by
  refine find_nowhere fun m y hy => ?_
  cases hb : inU r y with
  | false => rfl
  | true =>
    exfalso
    have h0 := cmp_in hb
    rcases Nat.lt_or_ge m i with hm | hm
    · have := h.2.1 m y hm hy; omega
    · have hi : i < T.length := by have := (List.getElem?_eq_some_iff.1 hy).1; omega
      have hx : T[i]? = some T[i] := List.getElem?_eq_getElem hi
      have hs := hT.at_ hm hx hy
      have hc := h.2.2 i T[i] (Nat.le_refl _) hx
      unfold foundU at hf
      rw [hx] at hf
      simp only [beq_eq_false_iff_ne] at hf
      unfold inU at hb
      simp at hb
      unfold cmpU at hc hf
      split at hc
      · exact absurd hc (by decide)
      · rename_i h1
        rw [if_neg h1] at hf
        split at hf
        · omega
        · exact hf rfl
theorem rises0 : Rises uT0 := by unfold Rises; decide +kernel
theorem rises1 : Rises uT1 := by unfold Rises; decide +kernel
theorem rises2 : Rises uT2 := by unfold Rises; decide +kernel
/-- The line of a code point. -/
def findU (r : Int) : S55 := ((uT0 ++ uT1 ++ uT2).find? (inU r)).getD z55
def unidata_find.f (r : Int) : Option (Int × Int × Int × Int × Int × Int × Int × Bool) := some ((findU r).f0, (findU r).f1, (findU r).f2, (findU r).f3, (findU r).f4, (findU r).f5, (findU r).f6, (findU r).f7)
theorem findU0 {r : Int} {x : S55} (h : uT0.find? (inU r) = some x) : findU r = x := by unfold findU; rw [List.find?_append, List.find?_append, h]; rfl
theorem findU1 {r : Int} {x : S55} (h0 : uT0.find? (inU r) = none) (h : uT1.find? (inU r) = some x) : findU r = x := by unfold findU; rw [List.find?_append, List.find?_append, h0, h]; rfl
theorem findU2 {r : Int} {x : S55} (h0 : uT0.find? (inU r) = none) (h1 : uT1.find? (inU r) = none) (h : uT2.find? (inU r) = some x) : findU r = x := by unfold findU; rw [List.find?_append, List.find?_append, h0, h1, h]; rfl
theorem findU3 {r : Int} (h0 : uT0.find? (inU r) = none) (h1 : uT1.find? (inU r) = none) (h : uT2.find? (inU r) = none) : findU r = z55 := by unfold findU; rw [List.find?_append, List.find?_append, h0, h1, h]; rfl

structure FW (w W : World) : Prop where
  r0 : RowsAt cells_u 8 W (w.heap.size + 1) uT0
  r1 : RowsAt cells_u 8 W (w.heap.size + 1 + 1) uT1
  r2 : RowsAt cells_u 8 W (w.heap.size + 1 + 1 + 1) uT2
  th : W.there w.heap.size 0 8
  sz : w.heap.size + 1 + 1 + 1 < W.heap.size
  bel : Below w.heap.size w W
theorem FW.keep {w W W1 : World} (h : FW w W) (hb : Below W.heap.size W W1) : FW w W1 :=
  ⟨h.r0.below hb (by have := h.sz; omega), h.r1.below hb (by have := h.sz; omega), h.r2.below hb h.sz, there_below h.th hb (by have := h.sz; omega), Nat.lt_of_lt_of_le h.sz hb.size, below_then h.bel (by have := h.sz; omega) hb⟩
theorem len0 : uT0.length = 30 := rfl
theorem FW.start (w : World) (c : Array Value) (hc : c.size = 8) : FW w ((((w.alloc (.cells c 55)).alloc (.cells (uT0.flatMap cells_u).toArray 55)).alloc (.cells (uT1.flatMap cells_u).toArray 55)).alloc (.cells (uT2.flatMap cells_u).toArray 55)) := by
  have h0 := RowsAt.new (f := cells_u) (n := 8) (fun _ => rfl) (w.alloc (.cells c 55)) uT0 55
  have h1 := RowsAt.new (f := cells_u) (n := 8) (fun _ => rfl) ((w.alloc (.cells c 55)).alloc (.cells (uT0.flatMap cells_u).toArray 55)) uT1 55
  have h2 := RowsAt.new (f := cells_u) (n := 8) (fun _ => rfl) (((w.alloc (.cells c 55)).alloc (.cells (uT0.flatMap cells_u).toArray 55)).alloc (.cells (uT1.flatMap cells_u).toArray 55)) uT2 55
  simp only [World.size_alloc] at h0 h1 h2
  have ht := there_new w c 55
  rw [hc] at ht
  exact ⟨(h0.later _).later _, h1.later _, h2, World.there_alloc (World.there_alloc (World.there_alloc ht _) _) _, by simp, ((((Below.refl _ _).alloc (Nat.le_refl _) _).alloc (by simp) _).alloc (by simp; omega) _).alloc (by simp; omega) _⟩
theorem index3 (x0 x1 x2 : Value) : (∀ w, (Instr.index 75 (.agg #[x0, x1, x2]) (.int .i64 0)).run Tryd.prog w = .ok x0 w) ∧ (∀ w, (Instr.index 75 (.agg #[x0, x1, x2]) (.int .i64 1)).run Tryd.prog w = .ok x1 w) ∧ (∀ w, (Instr.index 75 (.agg #[x0, x1, x2]) (.int .i64 2)).run Tryd.prog w = .ok x2 w) :=
  ⟨fun _ => by kernel_rfl, fun _ => by kernel_rfl, fun _ => by kernel_rfl⟩

def SYes (T : List S55) (x : S55) (w : World) (e : Ending) (w' : World) : Prop := ∃ i : Nat, T[i]? = some x ∧ e = .returned (.tuple #[.int .i64 i, .bool true]) ∧ Below w.heap.size w w'
def SNo (w : World) (e : Ending) (w' : World) : Prop := ∃ i : Nat, e = .returned (.tuple #[.int .i64 i, .bool false]) ∧ Below w.heap.size w w'
theorem search_yes {T : List S55} {r : Int} {x : S55} (hR : Rises T) (hx : T.find? (inU r) = some x) (g c : Nat) (w : World) (hT : RowsAt cells_u 8 w g T) (hg : g < w.heap.size) (hn : T.length ≤ 1000000) :
    Calls Tryd.prog 60 #[.slice (some ⟨g, 0, none⟩) T.length c, .int .i32 r, .func (.func 61) #[] #[]] w (SYes T x w) :=
  (search_calls T g c r w hT hg (hR.mono r) hn).mono fun e w' ⟨i, hE, he, hb⟩ => by
    cases hf : foundU T r i with
    | true =>
      obtain ⟨y, hy, hy2⟩ := hE.yes hf
      rw [hx] at hy2
      obtain rfl := Option.some.inj hy2
      rw [hf] at he
      exact ⟨i, hy, he, hb⟩
    | false => rw [hE.no hR hf] at hx; exact absurd hx (by simp)
theorem search_no {T : List S55} {r : Int} (hR : Rises T) (hx : T.find? (inU r) = none) (g c : Nat) (w : World) (hT : RowsAt cells_u 8 w g T) (hg : g < w.heap.size) (hn : T.length ≤ 1000000) :
    Calls Tryd.prog 60 #[.slice (some ⟨g, 0, none⟩) T.length c, .int .i32 r, .func (.func 61) #[] #[]] w (SNo w) :=
  (search_calls T g c r w hT hg (hR.mono r) hn).mono fun e w' ⟨i, hE, he, hb⟩ => by
    cases hf : foundU T r i with
    | true =>
      obtain ⟨y, hy, hy2⟩ := hE.yes hf
      rw [hx] at hy2
      exact absurd hy2 (by simp)
    | false => rw [hf] at he; exact ⟨i, he, hb⟩
theorem row_size_a (x : S55) : (Tryd.prog.info? 55).map (·.size) = some (cells_u x).toArray.size := info_u
theorem th_u {W : World} {g : Nat} (h : W.there g 0 8) (x : S55) : W.there g 0 (cells_u x).toArray.size := h
theorem th_z {W : World} {g : Nat} (h : W.there g 0 8) : W.there g 0 (#[.int .i32 0, .int .i32 0, .int .u8 0, .int .u8 0, .int .u8 0, .int .u8 0, .int .u8 0, .bool false] : Array Value).size := h
theorem size_z : (Tryd.prog.info? 55).map (·.size) = some (#[.int .i32 0, .int .i32 0, .int .u8 0, .int .u8 0, .int .u8 0, .int .u8 0, .int .u8 0, .bool false] : Array Value).size := info_u
theorem one_z : (#[.int .i32 0, .int .i32 0, .int .u8 0, .int .u8 0, .int .u8 0, .int .u8 0, .int .u8 0, .bool false] : Array Value).all (·.oneCell') = true := by simp [Value.oneCell']
theorem row_one (x : S55) : (cells_u x).toArray.all (·.oneCell') = true := by simp [cells_u, Value.oneCell']

set_option maxHeartbeats 2000000 in
theorem find_0 (r : Int) (w : World) {x : S55} (h0 : uT0.find? (inU r) = some x) :
    Calls Tryd.prog 38 #[.int .i32 r] w fun e w' => e = .returned (.agg (cells_u x).toArray) ∧ Below w.heap.size w w' := by
  have H0 := Lib.hid h0
  clear h0
  obtain ⟨i0, i1, i2⟩ := index3 (.slice (some ⟨w.heap.size + 1, 0, none⟩) uT0.length uT0.length) (.slice (some ⟨w.heap.size + 1 + 1, 0, none⟩) uT1.length uT1.length) (.slice (some ⟨w.heap.size + 1 + 1 + 1, 0, none⟩) uT2.length uT2.length)
  go_enter Tryd.func38, Tryd.ntmps38
  go_wp2_with (first | (go_at_call 57; refine (unidata_rows0.run _).mono ?_; rintro e w1 ⟨rfl, rfl⟩) | (go_at_call 58; refine (unidata_rows1.run _).mono ?_; rintro e w1 ⟨rfl, rfl⟩) | (go_at_call 59; refine (unidata_rows2.run _).mono ?_; rintro e w1 ⟨rfl, rfl⟩))
  have hW := FW.start w #[.int .i32 0, .int .i32 0, .int .u8 0, .int .u8 0, .int .u8 0, .int .u8 0, .int .u8 0, .bool false] rfl
  generalize World.alloc (World.alloc (World.alloc (World.alloc w _) _) _) _ = W at hW ⊢
  refine wp_loop_rounds 4 ?_
  rw [rounds_succ]
  go_wp2_with (first | (go_at_call 60; refine (search_yes rises0 H0.out (w.heap.size + 1) _ _ hW.r0 (by have := hW.sz; omega) (by decide)).mono ?_; rintro e w2 ⟨i, hx, rfl, hb0⟩; have hW9 := hW.keep hb0; have hr := hW9.r0 i x hx; have hi1 := (List.getElem?_eq_some_iff.1 hx).1; have HX := Lib.hid hx; clear hx) | (with_reducible refine wpList_load_mid rfl 55 _ rfl (w.heap.size + 1) (i * 8) rfl (cells_u x) _ hr Tryd.underlying55 rfl (row_size x) ?_) | (with_reducible refine wpList_store_mid rfl 55 _ _ rfl w.heap.size 0 (cells_u x).toArray rfl rfl (th_u hW9.th x) (row_size_a x) (row_one x) ?_))
  refine bodyPost_ret (v := .agg (cells_u x).toArray) (results_cell_mid (g := w.heap.size) rfl _ _ (cells_u x) _ (by simp [Act.put]) (World.rangeAt_setCells_same _ _ _ _ (th_u hW9.th x)) Tryd.underlying55 rfl (row_size x)) rfl ⟨rfl, ?_⟩
  exact below_cells (Nat.le_refl _) _ _ hW9.bel
set_option maxHeartbeats 2000000 in
theorem find_1 (r : Int) (w : World) {x : S55} (h0 : uT0.find? (inU r) = none) (h1 : uT1.find? (inU r) = some x) :
    Calls Tryd.prog 38 #[.int .i32 r] w fun e w' => e = .returned (.agg (cells_u x).toArray) ∧ Below w.heap.size w w' := by
  have H0 := Lib.hid h0
  have H1 := Lib.hid h1
  clear h0 h1
  obtain ⟨i0, i1, i2⟩ := index3 (.slice (some ⟨w.heap.size + 1, 0, none⟩) uT0.length uT0.length) (.slice (some ⟨w.heap.size + 1 + 1, 0, none⟩) uT1.length uT1.length) (.slice (some ⟨w.heap.size + 1 + 1 + 1, 0, none⟩) uT2.length uT2.length)
  go_enter Tryd.func38, Tryd.ntmps38
  go_wp2_with (first | (go_at_call 57; refine (unidata_rows0.run _).mono ?_; rintro e w1 ⟨rfl, rfl⟩) | (go_at_call 58; refine (unidata_rows1.run _).mono ?_; rintro e w1 ⟨rfl, rfl⟩) | (go_at_call 59; refine (unidata_rows2.run _).mono ?_; rintro e w1 ⟨rfl, rfl⟩))
  have hW := FW.start w #[.int .i32 0, .int .i32 0, .int .u8 0, .int .u8 0, .int .u8 0, .int .u8 0, .int .u8 0, .bool false] rfl
  generalize World.alloc (World.alloc (World.alloc (World.alloc w _) _) _) _ = W at hW ⊢
  refine wp_loop_rounds 4 ?_
  rw [rounds_succ]
  go_wp2_with (first | (go_at_call 60; refine (search_no rises0 H0.out (w.heap.size + 1) _ _ hW.r0 (by have := hW.sz; omega) (by decide)).mono ?_; rintro e w2 ⟨i, rfl, hb0⟩))
  have hW1 := hW.keep hb0
  rw [rounds_succ]
  go_wp2_with (first | (go_at_call 60; refine (search_yes rises1 H1.out (w.heap.size + 1 + 1) _ _ hW1.r1 (by have := hW1.sz; omega) (by decide)).mono ?_; rintro e w3 ⟨i, hx, rfl, hb1⟩; have hW9 := hW1.keep hb1; have hr := hW9.r1 i x hx; have hi1 := (List.getElem?_eq_some_iff.1 hx).1; have HX := Lib.hid hx; clear hx) | (with_reducible refine wpList_load_mid rfl 55 _ rfl (w.heap.size + 1 + 1) (i * 8) rfl (cells_u x) _ hr Tryd.underlying55 rfl (row_size x) ?_) | (with_reducible refine wpList_store_mid rfl 55 _ _ rfl w.heap.size 0 (cells_u x).toArray rfl rfl (th_u hW9.th x) (row_size_a x) (row_one x) ?_))
  refine bodyPost_ret (v := .agg (cells_u x).toArray) (results_cell_mid (g := w.heap.size) rfl _ _ (cells_u x) _ (by simp [Act.put]) (World.rangeAt_setCells_same _ _ _ _ (th_u hW9.th x)) Tryd.underlying55 rfl (row_size x)) rfl ⟨rfl, ?_⟩
  exact below_cells (Nat.le_refl _) _ _ hW9.bel
set_option maxHeartbeats 2000000 in
theorem find_2 (r : Int) (w : World) {x : S55} (h0 : uT0.find? (inU r) = none) (h1 : uT1.find? (inU r) = none) (h2 : uT2.find? (inU r) = some x) :
    Calls Tryd.prog 38 #[.int .i32 r] w fun e w' => e = .returned (.agg (cells_u x).toArray) ∧ Below w.heap.size w w' := by
  have H0 := Lib.hid h0
  have H1 := Lib.hid h1
  have H2 := Lib.hid h2
  clear h0 h1 h2
  obtain ⟨i0, i1, i2⟩ := index3 (.slice (some ⟨w.heap.size + 1, 0, none⟩) uT0.length uT0.length) (.slice (some ⟨w.heap.size + 1 + 1, 0, none⟩) uT1.length uT1.length) (.slice (some ⟨w.heap.size + 1 + 1 + 1, 0, none⟩) uT2.length uT2.length)
  go_enter Tryd.func38, Tryd.ntmps38
  go_wp2_with (first | (go_at_call 57; refine (unidata_rows0.run _).mono ?_; rintro e w1 ⟨rfl, rfl⟩) | (go_at_call 58; refine (unidata_rows1.run _).mono ?_; rintro e w1 ⟨rfl, rfl⟩) | (go_at_call 59; refine (unidata_rows2.run _).mono ?_; rintro e w1 ⟨rfl, rfl⟩))
  have hW := FW.start w #[.int .i32 0, .int .i32 0, .int .u8 0, .int .u8 0, .int .u8 0, .int .u8 0, .int .u8 0, .bool false] rfl
  generalize World.alloc (World.alloc (World.alloc (World.alloc w _) _) _) _ = W at hW ⊢
  refine wp_loop_rounds 4 ?_
  rw [rounds_succ]
  go_wp2_with (first | (go_at_call 60; refine (search_no rises0 H0.out (w.heap.size + 1) _ _ hW.r0 (by have := hW.sz; omega) (by decide)).mono ?_; rintro e w2 ⟨i, rfl, hb0⟩))
  have hW1 := hW.keep hb0
  rw [rounds_succ]
  go_wp2_with (first | (go_at_call 60; refine (search_no rises1 H1.out (w.heap.size + 1 + 1) _ _ hW1.r1 (by have := hW1.sz; omega) (by decide)).mono ?_; rintro e w3 ⟨i, rfl, hb1⟩))
  have hW2 := hW1.keep hb1
  rw [rounds_succ]
  go_wp2_with (first | (go_at_call 60; refine (search_yes rises2 H2.out (w.heap.size + 1 + 1 + 1) _ _ hW2.r2 (by have := hW2.sz; omega) (by decide)).mono ?_; rintro e w4 ⟨i, hx, rfl, hb2⟩; have hW9 := hW2.keep hb2; have hr := hW9.r2 i x hx; have hi1 := (List.getElem?_eq_some_iff.1 hx).1; have HX := Lib.hid hx; clear hx) | (with_reducible refine wpList_load_mid rfl 55 _ rfl (w.heap.size + 1 + 1 + 1) (i * 8) rfl (cells_u x) _ hr Tryd.underlying55 rfl (row_size x) ?_) | (with_reducible refine wpList_store_mid rfl 55 _ _ rfl w.heap.size 0 (cells_u x).toArray rfl rfl (th_u hW9.th x) (row_size_a x) (row_one x) ?_))
  refine bodyPost_ret (v := .agg (cells_u x).toArray) (results_cell_mid (g := w.heap.size) rfl _ _ (cells_u x) _ (by simp [Act.put]) (World.rangeAt_setCells_same _ _ _ _ (th_u hW9.th x)) Tryd.underlying55 rfl (row_size x)) rfl ⟨rfl, ?_⟩
  exact below_cells (Nat.le_refl _) _ _ hW9.bel
set_option maxHeartbeats 2000000 in
theorem find_3 (r : Int) (w : World) (h0 : uT0.find? (inU r) = none) (h1 : uT1.find? (inU r) = none) (h2 : uT2.find? (inU r) = none) :
    Calls Tryd.prog 38 #[.int .i32 r] w fun e w' => e = .returned (.agg (cells_u z55).toArray) ∧ Below w.heap.size w w' := by
  have H0 := Lib.hid h0
  have H1 := Lib.hid h1
  have H2 := Lib.hid h2
  clear h0 h1 h2
  obtain ⟨i0, i1, i2⟩ := index3 (.slice (some ⟨w.heap.size + 1, 0, none⟩) uT0.length uT0.length) (.slice (some ⟨w.heap.size + 1 + 1, 0, none⟩) uT1.length uT1.length) (.slice (some ⟨w.heap.size + 1 + 1 + 1, 0, none⟩) uT2.length uT2.length)
  go_enter Tryd.func38, Tryd.ntmps38
  go_wp2_with (first | (go_at_call 57; refine (unidata_rows0.run _).mono ?_; rintro e w1 ⟨rfl, rfl⟩) | (go_at_call 58; refine (unidata_rows1.run _).mono ?_; rintro e w1 ⟨rfl, rfl⟩) | (go_at_call 59; refine (unidata_rows2.run _).mono ?_; rintro e w1 ⟨rfl, rfl⟩))
  have hW := FW.start w #[.int .i32 0, .int .i32 0, .int .u8 0, .int .u8 0, .int .u8 0, .int .u8 0, .int .u8 0, .bool false] rfl
  generalize World.alloc (World.alloc (World.alloc (World.alloc w _) _) _) _ = W at hW ⊢
  refine wp_loop_rounds 4 ?_
  rw [rounds_succ]
  go_wp2_with (first | (go_at_call 60; refine (search_no rises0 H0.out (w.heap.size + 1) _ _ hW.r0 (by have := hW.sz; omega) (by decide)).mono ?_; rintro e w2 ⟨i, rfl, hb0⟩))
  have hW1 := hW.keep hb0
  rw [rounds_succ]
  go_wp2_with (first | (go_at_call 60; refine (search_no rises1 H1.out (w.heap.size + 1 + 1) _ _ hW1.r1 (by have := hW1.sz; omega) (by decide)).mono ?_; rintro e w3 ⟨i, rfl, hb1⟩))
  have hW2 := hW1.keep hb1
  rw [rounds_succ]
  go_wp2_with (first | (go_at_call 60; refine (search_no rises2 H2.out (w.heap.size + 1 + 1 + 1) _ _ hW2.r2 (by have := hW2.sz; omega) (by decide)).mono ?_; rintro e w4 ⟨i, rfl, hb2⟩))
  have hW3 := hW2.keep hb2
  rw [rounds_succ]
  go_wp2_with (first | (with_reducible refine wpList_store_mid rfl 55 _ _ rfl w.heap.size 0 #[.int .i32 0, .int .i32 0, .int .u8 0, .int .u8 0, .int .u8 0, .int .u8 0, .int .u8 0, .bool false] rfl rfl (th_z hW3.th) size_z one_z ?_))
  refine bodyPost_ret (v := .agg (cells_u z55).toArray) (results_cell_mid (g := w.heap.size) rfl _ _ (cells_u z55) _ (by simp [Act.put]) (World.rangeAt_setCells_same _ _ _ _ (th_u hW3.th z55)) Tryd.underlying55 rfl (row_size z55)) rfl ⟨rfl, ?_⟩
  exact below_cells (Nat.le_refl _) _ _ hW3.bel
theorem find_any (r : Int) (w : World) :
    Calls Tryd.prog 38 #[.int .i32 r] w fun e w' => e = .returned (.agg (cells_u (findU r)).toArray) ∧ Below w.heap.size w w' := by
  cases h0 : uT0.find? (inU r) with
  | some x => rw [findU0 h0]; exact find_0 r w h0
  | none =>
    cases h1 : uT1.find? (inU r) with
    | some x => rw [findU1 h0 h1]; exact find_1 r w h0 h1
    | none =>
      cases h2 : uT2.find? (inU r) with
      | some x => rw [findU2 h0 h1 h2]; exact find_2 r w h0 h1 h2
      | none => rw [findU3 h0 h1 h2]; exact find_3 r w h0 h1 h2
theorem unidata_find.calls (a0 : Int) (r1 : Int) (r2 : Int) (r3 : Int) (r4 : Int) (r5 : Int) (r6 : Int) (r7 : Int) (r8 : Bool) (w : World) (h : unidata_find.f a0 = some (r1, r2, r3, r4, r5, r6, r7, r8)) :
    Calls Tryd.prog 38 #[.int .i32 a0] w fun e w' => e = .returned (.agg #[.int .i32 r1, .int .i32 r2, .int .u8 r3, .int .u8 r4, .int .u8 r5, .int .u8 r6, .int .u8 r7, .bool r8]) ∧ Below w.heap.size w w' := by
  have h := Option.some.inj h
  simp only [Prod.mk.injEq] at h
  obtain ⟨rfl, rfl, rfl, rfl, rfl, rfl, rfl, rfl⟩ := h
  exact find_any a0 w
end Go.Proofs.YtanpephfnjnfoaaDoor.Pr
end

section
namespace Go.Proofs.YtanpephfnjnfoaaDoor.Pr
open Go.RowKit Go.Proofs.YtanpephfnjnfoaaDoorW.PrintWords Go.Proofs.YtanpephfnjnfoaaDoorW.PrintLast Go.Proofs.YtanpephfnjnfoaaDoorW.PrintMore
attribute [local go_sem] max2_int min2_int max_two min_two max_three min_three max_four min_four Instr.field asAgg   -- for this text's walks alone
set_option linter.unusedVariables false
set_option linter.unusedSimpArgs false

def unidata_Class.f (a0 : Int) : Option (Int) := (unidata_find.f a0).bind fun bt101 => (some bt101.2.2.2.2.2.1)
set_option maxHeartbeats 8000000 in
set_option maxRecDepth 100000 in
theorem unidata_Class.calls (a0 : Int) (r : Int) (w : World) (h : unidata_Class.f a0 = some r) :
    Calls Tryd.prog 23 #[.int .i32 a0] w fun e w' => e = .returned (.int .u8 r) ∧ Below w.heap.size w w' := by
  have HB := Aside0.mk (Below.refl w.heap.size w)
  have H : ((unidata_find.f a0).bind fun bt101 => (some bt101.2.2.2.2.2.1)) = some r := h
  clear h
  replace H := Option.bind_eq_some_iff.mp H
  obtain ⟨⟨t101, t102, t103, t104, t105, t106, t107, t108⟩, A20, H⟩ := H
  replace H : (some t106) = some r := H
  have A2 := Aside0.mk A20
  clear A20
  obtain rfl := Option.some.inj H
  go_enter Tryd.func23, Tryd.ntmps23
  go_wp2_with (first | ((with_reducible refine gate_callee (f := 38) rfl ?_); refine goesL_ (some 4) rfl rfl Tryd.func38 (by kernel_rfl) rfl #[.int .i32 a0] rfl (by (try simp only [List.map_toArray, List.map_cons, List.map_nil]); first | done | rfl | (simp only [List.length_drop, List.length_take]; rfl)) ?_; (with_reducible refine (unidata_find.calls a0 t101 t102 t103 t104 t105 t106 t107 t108 _ A2.out).mono ?_); rintro e w3 ⟨rfl, hb⟩; refine ⟨_, rfl, ?_⟩; have n0_ := Aside0.mk (below_step (by repeat (first | (with_reducible first | exact HB.out | apply below_alloc | apply pw_below_drewN | apply below_drew1) | exact HB.out)) hb); clear HB; have HB := n0_; clear n0_; (try clear hb); (try clear hb2); (try clear hk); (try clear hi)))
  go_ret
  exact ⟨by first | rfl | (simp [errW_none, errW_some] <;> rfl) | (simp [*, errW_none, errW_some] <;> rfl), by repeat (first | (with_reducible first | exact HB.out | apply below_alloc | apply pw_below_drewN | apply below_drew1) | exact HB.out)⟩

def portcullisref03_Rows.f  : Option ((List (S30))) := (portcullisref03_rows0.f).bind fun t170 => ((portcullisref03_rows1.f).bind fun t173 => (if t170.length + t173.length < 4398046511104 then ((some (t170 ++ t173 : List (S30))).bind fun y176 => ((portcullisref03_rows2.f).bind fun t179 => (if y176.length + t179.length < 4398046511104 then (some (y176 ++ t179)) else (none)))) else (none)))
set_option maxHeartbeats 8000000 in
set_option maxRecDepth 100000 in
theorem portcullisref03_Rows.calls  (r : List (S30)) (w : World) (h : portcullisref03_Rows.f  = some r) :
    Calls Tryd.prog 36 #[] w fun e w' => ∃ v0_ : Value, e = .returned (v0_) ∧ Kd.R k30 30 w' w.heap.size (fun _ => True) v0_ r ∧ Below w.heap.size w w' := by
  have HB := Aside0.mk (Below.refl w.heap.size w)
  have H : ((portcullisref03_rows0.f).bind fun t170 => ((portcullisref03_rows1.f).bind fun t173 => (if t170.length + t173.length < 4398046511104 then ((some (t170 ++ t173 : List (S30))).bind fun y176 => ((portcullisref03_rows2.f).bind fun t179 => (if y176.length + t179.length < 4398046511104 then (some (y176 ++ t179)) else (none)))) else (none)))) = some r := h
  clear h
  replace H := Option.bind_eq_some_iff.mp H
  obtain ⟨t170, A10, H⟩ := H
  replace H : ((portcullisref03_rows1.f).bind fun t173 => (if t170.length + t173.length < 4398046511104 then ((some (t170 ++ t173 : List (S30))).bind fun y176 => ((portcullisref03_rows2.f).bind fun t179 => (if y176.length + t179.length < 4398046511104 then (some (y176 ++ t179)) else (none)))) else (none))) = some r := H
  have A1 := Aside0.mk A10
  clear A10
  replace H := Option.bind_eq_some_iff.mp H
  obtain ⟨t173, A20, H⟩ := H
  replace H : (if t170.length + t173.length < 4398046511104 then ((some (t170 ++ t173 : List (S30))).bind fun y176 => ((portcullisref03_rows2.f).bind fun t179 => (if y176.length + t179.length < 4398046511104 then (some (y176 ++ t179)) else (none)))) else (none)) = some r := H
  have A2 := Aside0.mk A20
  clear A20
  by_cases c3 : t170.length + t173.length < 4398046511104
  · rw [if_pos c3] at H
    have LMc3 := Aside0.mk c3
    clear c3
    obtain ⟨y176, hy176⟩ : ∃ y_ : List (S30), y_ = (t170 ++ t173) := ⟨_, rfl⟩
    replace H : ((portcullisref03_rows2.f).bind fun t179 => (if y176.length + t179.length < 4398046511104 then (some (y176 ++ t179)) else (none))) = some r := by first | (rw [hy176]; with_reducible exact H) | (have H2_ := (Option.bind_some _ _).symm.trans H; rw [hy176]; with_reducible exact H2_) | (have H2_ := (Option.bind_some _ _).symm.trans H; with_reducible exact H2_) | with_reducible exact H | (rw [hy176]; exact H) | exact H
    have Ny176 := Aside0.mk hy176
    clear hy176
    replace H := Option.bind_eq_some_iff.mp H
    obtain ⟨t179, A40, H⟩ := H
    replace H : (if y176.length + t179.length < 4398046511104 then (some (y176 ++ t179)) else (none)) = some r := H
    have A4 := Aside0.mk A40
    clear A40
    by_cases c5 : y176.length + t179.length < 4398046511104
    · rw [if_pos c5] at H
      have LMc5 := Aside0.mk c5
      clear c5
      obtain ⟨y182, hy182⟩ : ∃ y_ : List (S30), y_ = (y176 ++ t179) := ⟨_, rfl⟩
      replace H : (some y182) = some r := by first | (rw [hy182]; with_reducible exact H) | (have H2_ := (Option.bind_some _ _).symm.trans H; rw [hy182]; with_reducible exact H2_) | (have H2_ := (Option.bind_some _ _).symm.trans H; with_reducible exact H2_) | with_reducible exact H | (rw [hy182]; exact H) | exact H
      have Ny182 := Aside0.mk hy182
      clear hy182
      obtain rfl := Option.some.inj H
      go_enter Tryd.func36, Tryd.ntmps36
      go_wp2_with (first | ((with_reducible refine gate_callee (f := 52) rfl ?_); refine goesL_ (some 2) rfl rfl Tryd.func52 (by kernel_rfl) rfl #[] rfl (by (try simp only [List.map_toArray, List.map_cons, List.map_nil]); first | done | rfl | (simp only [List.length_drop, List.length_take]; rfl)) ?_; (with_reducible refine (portcullisref03_rows0.calls  t170 _ A1.out).mono ?_); rintro e w6 ⟨v171, rfl, ho0, hb⟩; refine ⟨_, rfl, ?_⟩; have n0_ := Aside0.mk (Kd.R_lower ho0 (below_size (by repeat (first | (with_reducible first | exact HB.out | apply below_alloc | apply pw_below_drewN | apply below_drew1) | exact HB.out)))); have n1_ := Aside0.mk (below_step (by repeat (first | (with_reducible first | exact HB.out | apply below_alloc | apply pw_below_drewN | apply below_drew1) | exact HB.out)) hb); clear HB; have HO172 := n0_; have HB := n1_; clear n0_ n1_; (try clear hb); (try clear hb2); (try clear hk); (try clear hi); (try clear ho0)) | ((with_reducible refine gate_callee (f := 53) rfl ?_); refine goesL_ (some 4) rfl rfl Tryd.func53 (by kernel_rfl) rfl #[] rfl (by (try simp only [List.map_toArray, List.map_cons, List.map_nil]); first | done | rfl | (simp only [List.length_drop, List.length_take]; rfl)) ?_; (with_reducible refine (portcullisref03_rows1.calls  t173 _ A2.out).mono ?_); rintro e w7 ⟨v174, rfl, ho0, hb⟩; refine ⟨_, rfl, ?_⟩; have n0_ := Aside0.mk (Kd.R_elder' (by (with_reducible repeat (first | apply Kd.R_alloc | apply Kd.R_drewN | apply Kd.R_drew)); exact HO172.out) (Kd.R_base ho0) hb); have n1_ := Aside0.mk (Kd.R_lower (Kd.R_new' ho0 (Kd.R_lt (by (with_reducible repeat (first | apply Kd.R_alloc | apply Kd.R_drewN | apply Kd.R_drew)); exact HO172.out))) (below_size (by repeat (first | (with_reducible first | exact HB.out | apply below_alloc | apply pw_below_drewN | apply below_drew1) | exact HB.out)))); have n2_ := Aside0.mk (below_step (by repeat (first | (with_reducible first | exact HB.out | apply below_alloc | apply pw_below_drewN | apply below_drew1) | exact HB.out)) hb); clear HO172; clear HB; have HO172 := n0_; have HO175 := n1_; have HB := n2_; clear n0_ n1_ n2_; (try clear hb); (try clear hb2); (try clear hk); (try clear hi); (try clear ho0); obtain ⟨Ao9, co9, eo9⟩ := Kd.R_slice HO175.out; subst eo9) | ((with_reducible refine gate_builtin (b := .append) (xs := #[.tmp 3, .tmp 4]) rfl ?_); at_builtin; refine Kd.R_append_rows k30 (w0 := w) w.heap.size rfl (.tmp 3) (.tmp 4) 49 30 (.agg #[(.int .i32 0), (.int .i32 0), (.int .u8 0), (.int .i32 0), (.int .i32 0), (.int .i32 0), (.int .u8 0), (.int .u8 0), (.int .u8 0), (.bool false), (.int .u8 0)]) 32 rfl Tryd.underlying49 info30 rfl (by decide) (by omega) v171 t170 t173 _ _ _ (fun k_ => some k_ ≠ (.slice Ao9 t173.length co9 : Value).ownBlock) (fun _ => False) rfl rfl ?aO ?aR (fun _ _ h => h) (fun _ h => h.elim) ?aF ?aB ?aS ?aL ?_; (case aR => repeat (first | exact (Kd.R_reads' HO175.out).2.2 | (with_reducible refine Kd.C_alloc ?_ _) | (with_reducible refine Kd.C_drewN ?_ _) | (with_reducible refine Kd.C_drew ?_))); (case aB => exact (by repeat (first | (with_reducible first | exact HB.out | apply below_alloc | apply pw_below_drewN | apply below_drew1) | exact HB.out))); (case aF => exact (fun k_ hk => Kd.fresh' (Kd.R_lt (by (with_reducible repeat (first | apply Kd.R_alloc | apply Kd.R_drewN | apply Kd.R_drew)); exact HO175.out)) k_ hk)); (case aO => exact (by (with_reducible repeat (first | apply Kd.R_alloc | apply Kd.R_drewN | apply Kd.R_drew)); exact Kd.R_mono HO172.out (fun _ hk => hk.2))); (case aS => exact (below_size (by repeat (first | (with_reducible first | exact HB.out | apply below_alloc | apply pw_below_drewN | apply below_drew1) | exact HB.out)))); (case aL => have := LMc3.out; omega); intro v177 w8 ho hb hg hat; rw [← Ny176.out] at ho; have n0_ := Aside0.mk (Kd.R_after (ok := (fun _ => True)) (by (with_reducible repeat (first | apply Kd.R_alloc | apply Kd.R_drewN | apply Kd.R_drew)); exact HO175.out) hg hat); have n1_ := Aside0.mk (hb); have n2_ := Aside0.mk (ho); clear HO175; clear HB; clear HO172; have HO175 := n0_; have HB := n1_; have HO178 := n2_; clear n0_ n1_ n2_; clear ho hb hg hat) | ((with_reducible refine gate_callee (f := 54) rfl ?_); refine goesL_ (some 7) rfl rfl Tryd.func54 (by kernel_rfl) rfl #[] rfl (by (try simp only [List.map_toArray, List.map_cons, List.map_nil]); first | done | rfl | (simp only [List.length_drop, List.length_take]; rfl)) ?_; (with_reducible refine (portcullisref03_rows2.calls  t179 _ A4.out).mono ?_); rintro e w10 ⟨v180, rfl, ho0, hb⟩; refine ⟨_, rfl, ?_⟩; have n0_ := Aside0.mk (Kd.R_elder' (by (with_reducible repeat (first | apply Kd.R_alloc | apply Kd.R_drewN | apply Kd.R_drew)); exact HO175.out) (Kd.R_base ho0) hb); have n1_ := Aside0.mk (Kd.R_elder' (by (with_reducible repeat (first | apply Kd.R_alloc | apply Kd.R_drewN | apply Kd.R_drew)); exact HO178.out) (Kd.R_base ho0) hb); have n2_ := Aside0.mk (Kd.R_lower (Kd.R_new' (Kd.R_new' ho0 (Kd.R_lt (by (with_reducible repeat (first | apply Kd.R_alloc | apply Kd.R_drewN | apply Kd.R_drew)); exact HO175.out))) (Kd.R_lt (by (with_reducible repeat (first | apply Kd.R_alloc | apply Kd.R_drewN | apply Kd.R_drew)); exact HO178.out))) (below_size (by repeat (first | (with_reducible first | exact HB.out | apply below_alloc | apply pw_below_drewN | apply below_drew1) | exact HB.out)))); have n3_ := Aside0.mk (below_step (by repeat (first | (with_reducible first | exact HB.out | apply below_alloc | apply pw_below_drewN | apply below_drew1) | exact HB.out)) hb); clear HO175; clear HO178; clear HB; have HO175 := n0_; have HO178 := n1_; have HO181 := n2_; have HB := n3_; clear n0_ n1_ n2_ n3_; (try clear hb); (try clear hb2); (try clear hk); (try clear hi); (try clear ho0); obtain ⟨Ao12, co12, eo12⟩ := Kd.R_slice HO181.out; subst eo12) | ((with_reducible refine gate_builtin (b := .append) (xs := #[.tmp 6, .tmp 7]) rfl ?_); at_builtin; refine Kd.R_append_rows k30 (w0 := w) w.heap.size rfl (.tmp 6) (.tmp 7) 49 30 (.agg #[(.int .i32 0), (.int .i32 0), (.int .u8 0), (.int .i32 0), (.int .i32 0), (.int .i32 0), (.int .u8 0), (.int .u8 0), (.int .u8 0), (.bool false), (.int .u8 0)]) 32 rfl Tryd.underlying49 info30 rfl (by decide) (by omega) v177 y176 t179 _ _ _ (fun k_ => some k_ ≠ (.slice Ao9 t173.length co9 : Value).ownBlock ∧ some k_ ≠ (.slice Ao12 t179.length co12 : Value).ownBlock) (fun _ => False) rfl rfl ?aO ?aR (fun _ _ h => h) (fun _ h => h.elim) ?aF ?aB ?aS ?aL ?_; (case aR => repeat (first | exact (Kd.R_reads' HO181.out).2.2 | (with_reducible refine Kd.C_alloc ?_ _) | (with_reducible refine Kd.C_drewN ?_ _) | (with_reducible refine Kd.C_drew ?_))); (case aB => exact (by repeat (first | (with_reducible first | exact HB.out | apply below_alloc | apply pw_below_drewN | apply below_drew1) | exact HB.out))); (case aF => exact (fun k_ hk => ⟨Kd.fresh' (Kd.R_lt (by (with_reducible repeat (first | apply Kd.R_alloc | apply Kd.R_drewN | apply Kd.R_drew)); exact HO175.out)) k_ hk, Kd.fresh' (Kd.R_lt (by (with_reducible repeat (first | apply Kd.R_alloc | apply Kd.R_drewN | apply Kd.R_drew)); exact HO181.out)) k_ hk⟩)); (case aO => exact (by (with_reducible repeat (first | apply Kd.R_alloc | apply Kd.R_drewN | apply Kd.R_drew)); exact HO178.out)); (case aS => exact (below_size (by repeat (first | (with_reducible first | exact HB.out | apply below_alloc | apply pw_below_drewN | apply below_drew1) | exact HB.out)))); (case aL => have := LMc5.out; omega); intro v183 w11 ho hb hg hat; rw [← Ny182.out] at ho; have n0_ := Aside0.mk (Kd.R_after (ok := (fun k_ => some k_ ≠ (.slice Ao12 t179.length co12 : Value).ownBlock)) (by (with_reducible repeat (first | apply Kd.R_alloc | apply Kd.R_drewN | apply Kd.R_drew)); exact Kd.R_mono HO175.out (fun _ hk => ⟨hk.2, hk.1.2⟩)) hg hat); have n1_ := Aside0.mk (Kd.R_after (ok := (fun k_ => some k_ ≠ (.slice Ao9 t173.length co9 : Value).ownBlock)) (by (with_reducible repeat (first | apply Kd.R_alloc | apply Kd.R_drewN | apply Kd.R_drew)); exact Kd.R_mono HO181.out (fun _ hk => ⟨hk.1.2, hk.2⟩)) hg hat); have n2_ := Aside0.mk (hb); have n3_ := Aside0.mk (ho); clear HO175; clear HO181; clear HB; clear HO178; have HO175 := n0_; have HO181 := n1_; have HB := n2_; have HO184 := n3_; clear n0_ n1_ n2_ n3_; clear ho hb hg hat))
      go_ret
      exact ⟨_, by first | rfl | (simp [errW_none, errW_some] <;> rfl) | (simp [*, errW_none, errW_some] <;> rfl), by (with_reducible repeat (first | apply Kd.R_alloc | apply Kd.R_drewN | apply Kd.R_drew)); exact Kd.R_mono HO184.out (fun _ hk => trivial), by repeat (first | (with_reducible first | exact HB.out | apply below_alloc | apply pw_below_drewN | apply below_drew1) | exact HB.out)⟩
    · rw [if_neg c5] at H
      exact absurd H (by simp)
  · rw [if_neg c3] at H
    exact absurd H (by simp)

def portcullisref03_Find.l0 : Nat → Int → List (S30) → Int → Option (Int × Int × Int × Int × Int × Int × Int × Int × Int × Bool × Int)
  | 0, _, _, _ => none
  | k + 1, x0, x3, x4 => if x4 < (x3.length : Int) then (if 0 ≤ x4 then (if ((rd_T30 x3 x4).f0) ≤ x0 then (if x0 ≤ ((rd_T30 x3 x4).f1) then (some ((rd_T30 x3 x4).f0, (rd_T30 x3 x4).f1, (rd_T30 x3 x4).f2, (rd_T30 x3 x4).f3, (rd_T30 x3 x4).f4, (rd_T30 x3 x4).f5, (rd_T30 x3 x4).f6, (rd_T30 x3 x4).f7, (rd_T30 x3 x4).f8, (rd_T30 x3 x4).f9, (rd_T30 x3 x4).f10)) else (portcullisref03_Find.l0 k x0 x3 (wrap64 (x4 + 1)))) else (portcullisref03_Find.l0 k x0 x3 (wrap64 (x4 + 1)))) else (none)) else (some (0, 0, 0, 0, 0, 0, 0, 0, 0, false, 0))
def portcullisref03_Find.f (k : Nat) (a0 : Int) : Option (Int × Int × Int × Int × Int × Int × Int × Int × Int × Bool × Int) := (portcullisref03_Rows.f).bind fun t186 => (portcullisref03_Find.l0 k a0 t186 0)
set_option maxHeartbeats 8000000 in
set_option maxRecDepth 100000 in
theorem portcullisref03_Find.calls (k : Nat) (a0 : Int) (r1 : Int) (r2 : Int) (r3 : Int) (r4 : Int) (r5 : Int) (r6 : Int) (r7 : Int) (r8 : Int) (r9 : Int) (r10 : Bool) (r11 : Int) (w : World) (h : portcullisref03_Find.f k a0 = some (r1, r2, r3, r4, r5, r6, r7, r8, r9, r10, r11)) :
    Calls Tryd.prog 19 #[.int .i32 a0] w fun e w' => e = .returned (.agg #[.int .i32 r1, .int .i32 r2, .int .u8 r3, .int .i32 r4, .int .i32 r5, .int .i32 r6, .int .u8 r7, .int .u8 r8, .int .u8 r9, .bool r10, .int .u8 r11]) ∧ Below w.heap.size w w' := by
  have hu30 := Tryd.underlying30
  have HB := Aside0.mk (Below.refl w.heap.size w)
  have H : ((portcullisref03_Rows.f).bind fun t186 => (portcullisref03_Find.l0 k a0 t186 0)) = some (r1, r2, r3, r4, r5, r6, r7, r8, r9, r10, r11) := h
  clear h
  replace H := Option.bind_eq_some_iff.mp H
  obtain ⟨t186, A20, H⟩ := H
  replace H : (portcullisref03_Find.l0 k a0 t186 0) = some (r1, r2, r3, r4, r5, r6, r7, r8, r9, r10, r11) := H
  have A2 := Aside0.mk A20
  clear A20
  have H' := Aside0.mk H
  clear H
  go_enter Tryd.func19, Tryd.ntmps19
  go_wp2_with (first | ((with_reducible refine gate_dst (N := 2) rfl ?_); refine box_event ?hg (N := 2) ?hd (cs := #[.int .i32 0, .int .i32 0, .int .u8 0, .int .i32 0, .int .i32 0, .int .i32 0, .int .u8 0, .int .u8 0, .int .u8 0, .bool false, .int .u8 0]) (t := 30) ?hr ?_; (case hd => rfl); (case hg => rfl); (case hr => first | (go_simp; done) | (go_simp; rfl)); intro gb185 hg w3 hbox hb; have n0_ := Aside0.mk (below_step (by repeat (first | (with_reducible first | exact HB.out | apply below_alloc | apply pw_below_drewN | apply below_drew1) | exact HB.out)) hb); have n1_ := Aside0.mk (hbox); have n2_ := Aside0.mk ((by rw [hg]; exact (below_size (by repeat (first | (with_reducible first | exact HB.out | apply below_alloc | apply pw_below_drewN | apply below_drew1) | exact HB.out))) : w.heap.size ≤ gb185)); have n3_ := Aside0.mk ((by rw [hg]; exact (below_size (by repeat (first | (with_reducible first | exact HB.out | apply below_alloc | apply pw_below_drewN | apply below_drew1) | exact HB.out))) : w.heap.size ≤ gb185)); clear HB; have HB := n0_; have BK185 := n1_; have GW185 := n2_; have GE185 := n3_; clear n0_ n1_ n2_ n3_; clear hb hbox hg) | ((with_reducible refine gate_callee (f := 36) rfl ?_); refine goesL_ (some 5) rfl rfl Tryd.func36 (by kernel_rfl) rfl #[] rfl (by (try simp only [List.map_toArray, List.map_cons, List.map_nil]); first | done | rfl | (simp only [List.length_drop, List.length_take]; rfl)) ?_; (with_reducible refine (portcullisref03_Rows.calls  t186 _ A2.out).mono ?_); rintro e w4 ⟨v187, rfl, ho0, hb⟩; refine ⟨_, rfl, ?_⟩; have n0_ := Aside0.mk (Kd.R_lower (Kd.R_newB ho0 (g := gb185) (o := .cells #[.int .i32 0, .int .i32 0, .int .u8 0, .int .i32 0, .int .i32 0, .int .i32 0, .int .u8 0, .int .u8 0, .int .u8 0, .bool false, .int .u8 0] 30 (0, 0)) (by (with_reducible repeat (first | refine blk_drewN ?_ _ | refine blk_drew ?_ | refine blk_alloc ?_ _)); exact BK185.out)) (below_size (by repeat (first | (with_reducible first | exact HB.out | apply below_alloc | apply pw_below_drewN | apply below_drew1 | refine below_set ?_ GE185.out) | exact HB.out)))); have n1_ := Aside0.mk (blk_below (g := gb185) (o := .cells #[.int .i32 0, .int .i32 0, .int .u8 0, .int .i32 0, .int .i32 0, .int .i32 0, .int .u8 0, .int .u8 0, .int .u8 0, .bool false, .int .u8 0] 30 (0, 0)) (by (with_reducible repeat (first | refine blk_drewN ?_ _ | refine blk_drew ?_ | refine blk_alloc ?_ _)); exact BK185.out) hb); have n2_ := Aside0.mk (below_step (by repeat (first | (with_reducible first | exact HB.out | apply below_alloc | apply pw_below_drewN | apply below_drew1 | refine below_set ?_ GE185.out) | exact HB.out)) hb); clear BK185; clear HB; have HO188 := n0_; have BK185 := n1_; have HB := n2_; clear n0_ n1_ n2_; (try clear hb); (try clear hb2); (try clear hk); (try clear hi); (try clear ho0)))
  go_loopg [4] k (fun kq v4 w' => ∃ (x4_1 : Int) (x186000_1 : Int) (x186001_1 : Int) (x186002_1 : Int) (x186003_1 : Int) (x186004_1 : Int) (x186005_1 : Int) (x186006_1 : Int) (x186007_1 : Int) (x186008_1 : Int) (x186009_1 : Bool) (x186010_1 : Int), v4 = .int .i64 x4_1 ∧ Aside0 (portcullisref03_Find.l0 kq a0 t186 x4_1 = some (r1, r2, r3, r4, r5, r6, r7, r8, r9, r10, r11)) ∧ Aside0 (kq ≤ k) ∧ Aside0 (Kd.R k30 30 w' w.heap.size (fun k_ => k_ ≠ gb185) v187 t186) ∧ Aside0 (w'.heap[gb185]? = some (.cells #[.int .i32 x186000_1, .int .i32 x186001_1, .int .u8 x186002_1, .int .i32 x186003_1, .int .i32 x186004_1, .int .i32 x186005_1, .int .u8 x186006_1, .int .u8 x186007_1, .int .u8 x186008_1, .bool x186009_1, .int .u8 x186010_1] 30 (0, 0))) ∧ Aside0 (Below w.heap.size w w'))
  case atStart => exact ⟨(0), (0), (0), (0), (0), (0), (0), (0), (0), (0), (false), (0), (by first | rfl | (simp; done) | (simp [*]; done)), H', ⟨Nat.le_refl _⟩, ⟨by (with_reducible repeat (first | apply Kd.R_alloc | apply Kd.R_drewN | apply Kd.R_drew)); exact Kd.R_mono HO188.out (fun _ hk => hk.2)⟩, ⟨by (with_reducible repeat (first | refine blk_drewN ?_ _ | refine blk_drew ?_ | refine blk_alloc ?_ _)); exact BK185.out⟩, ⟨by repeat (first | (with_reducible first | exact HB.out | apply below_alloc | apply pw_below_drewN | apply below_drew1 | refine below_set ?_ GE185.out) | exact HB.out)⟩⟩
  case round =>
    clear H'
    try clear c1
    try clear p2
    try clear c3
    obtain ⟨x4_1, x186000_1, x186001_1, x186002_1, x186003_1, x186004_1, x186005_1, x186006_1, x186007_1, x186008_1, x186009_1, x186010_1, rfl, HA, HK1, HO_3, BK185, HB⟩ := hrel
    cases gk with
    | zero => exact absurd HA.out (by simp [portcullisref03_Find.l0])
    | succ k1 =>
      have H := HA.out
      clear HA
      simp only [portcullisref03_Find.l0] at H
      by_cases c5 : x4_1 < (t186.length : Int)
      · rw [if_pos c5] at H
        have c5b0 : decide (x4_1 < (t186.length : Int)) = true := decide_eq_true c5
        clear c5
        by_cases c6 : 0 ≤ x4_1
        · rw [if_pos c6] at H
          have c6b0 : decide (0 ≤ x4_1) = true := decide_eq_true c6
          clear c6
          by_cases c7 : ((rd_T30 t186 x4_1).f0) ≤ a0
          · rw [if_pos c7] at H
            have c7b0 : decide (((rd_T30 t186 x4_1).f0) ≤ a0) = true := decide_eq_true c7
            clear c7
            by_cases c8 : a0 ≤ ((rd_T30 t186 x4_1).f1)
            · rw [if_pos c8] at H
              have c8b0 : decide (a0 ≤ ((rd_T30 t186 x4_1).f1)) = true := decide_eq_true c8
              clear c8
              simp only [Option.some.injEq, Prod.mk.injEq] at H
              obtain ⟨rfl, rfl, rfl, rfl, rfl, rfl, rfl, rfl, rfl, rfl, rfl⟩ := H
              obtain ⟨Ao9, co9, eo9⟩ := Kd.R_slice HO_3.out
              subst eo9
              have p189 : 0 ≤ (x4_1 : Int) := of_decide_eq_true (by first | (with_reducible assumption) | assumption)
              have q189 : x4_1 < (t186.length : Int) := of_decide_eq_true (by first | (with_reducible assumption) | assumption)
              obtain ⟨ad189, e189, hx189_0, hx189_1, hx189_2, hx189_3, hx189_4, hx189_5, hx189_6, hx189_7, hx189_8, hx189_9, hx189_10⟩ := at_T30 (Kd.R_reads' HO_3.out).2.2 x4_1 p189 q189
              cases e189
              replace p189 := eq_true p189
              replace q189 := eq_true q189
              have p190 : 0 ≤ (x4_1 : Int) := of_decide_eq_true (by first | (with_reducible assumption) | assumption)
              have q190 : x4_1 < (t186.length : Int) := of_decide_eq_true (by first | (with_reducible assumption) | assumption)
              obtain ⟨ad190, e190, hx190_0, hx190_1, hx190_2, hx190_3, hx190_4, hx190_5, hx190_6, hx190_7, hx190_8, hx190_9, hx190_10⟩ := at_T30 (Kd.R_reads' HO_3.out).2.2 x4_1 p190 q190
              obtain rfl : ad189 = ad190 := (by injection e190)
              replace p190 := eq_true p190
              replace q190 := eq_true q190
              have p191 : 0 ≤ (x4_1 : Int) := of_decide_eq_true (by first | (with_reducible assumption) | assumption)
              have q191 : x4_1 < (t186.length : Int) := of_decide_eq_true (by first | (with_reducible assumption) | assumption)
              obtain ⟨ad191, e191, hx191_0, hx191_1, hx191_2, hx191_3, hx191_4, hx191_5, hx191_6, hx191_7, hx191_8, hx191_9, hx191_10⟩ := at_T30 (Kd.R_reads' HO_3.out).2.2 x4_1 p191 q191
              obtain rfl : ad189 = ad191 := (by injection e191)
              replace p191 := eq_true p191
              replace q191 := eq_true q191
              have hcz10_0 : wr.cell? ⟨gb185, 0, none⟩ = some (.int .i32 x186000_1) := (blk_cell BK185.out 0).trans rfl
              have hcz10_1 : wr.cell? ⟨gb185, 1, none⟩ = some (.int .i32 x186001_1) := (blk_cell BK185.out 1).trans rfl
              have hcz10_2 : wr.cell? ⟨gb185, 2, none⟩ = some (.int .u8 x186002_1) := (blk_cell BK185.out 2).trans rfl
              have hcz10_3 : wr.cell? ⟨gb185, 3, none⟩ = some (.int .i32 x186003_1) := (blk_cell BK185.out 3).trans rfl
              have hcz10_4 : wr.cell? ⟨gb185, 4, none⟩ = some (.int .i32 x186004_1) := (blk_cell BK185.out 4).trans rfl
              have hcz10_5 : wr.cell? ⟨gb185, 5, none⟩ = some (.int .i32 x186005_1) := (blk_cell BK185.out 5).trans rfl
              have hcz10_6 : wr.cell? ⟨gb185, 6, none⟩ = some (.int .u8 x186006_1) := (blk_cell BK185.out 6).trans rfl
              have hcz10_7 : wr.cell? ⟨gb185, 7, none⟩ = some (.int .u8 x186007_1) := (blk_cell BK185.out 7).trans rfl
              have hcz10_8 : wr.cell? ⟨gb185, 8, none⟩ = some (.int .u8 x186008_1) := (blk_cell BK185.out 8).trans rfl
              have hcz10_9 : wr.cell? ⟨gb185, 9, none⟩ = some (.bool x186009_1) := (blk_cell BK185.out 9).trans rfl
              have hcz10_10 : wr.cell? ⟨gb185, 10, none⟩ = some (.int .u8 x186010_1) := (blk_cell BK185.out 10).trans rfl
              have hfz10_0 := blk_frozen BK185.out 0
              have hfz10_1 := blk_frozen BK185.out 1
              have hfz10_2 := blk_frozen BK185.out 2
              have hfz10_3 := blk_frozen BK185.out 3
              have hfz10_4 := blk_frozen BK185.out 4
              have hfz10_5 := blk_frozen BK185.out 5
              have hfz10_6 := blk_frozen BK185.out 6
              have hfz10_7 := blk_frozen BK185.out 7
              have hfz10_8 := blk_frozen BK185.out 8
              have hfz10_9 := blk_frozen BK185.out 9
              have hfz10_10 := blk_frozen BK185.out 10
              go_wp2
              refine bodyPost_ret (results_cell_row rfl _ _ gb185 30 #[.int .i32 ((rd_T30 t186 x4_1).f0), .int .i32 ((rd_T30 t186 x4_1).f1), .int .u8 ((rd_T30 t186 x4_1).f2), .int .i32 ((rd_T30 t186 x4_1).f3), .int .i32 ((rd_T30 t186 x4_1).f4), .int .i32 ((rd_T30 t186 x4_1).f5), .int .u8 ((rd_T30 t186 x4_1).f6), .int .u8 ((rd_T30 t186 x4_1).f7), .int .u8 ((rd_T30 t186 x4_1).f8), .bool ((rd_T30 t186 x4_1).f9), .int .u8 ((rd_T30 t186 x4_1).f10)] (0, 0) _ rfl (by (with_reducible repeat (first | refine blk_drewN ?_ _ | refine blk_drew ?_ | refine blk_alloc ?_ _)); refine blk_put (cs := #[.int .i32 ((rd_T30 t186 x4_1).f0), .int .i32 ((rd_T30 t186 x4_1).f1), .int .u8 ((rd_T30 t186 x4_1).f2), .int .i32 ((rd_T30 t186 x4_1).f3), .int .i32 ((rd_T30 t186 x4_1).f4), .int .i32 ((rd_T30 t186 x4_1).f5), .int .u8 ((rd_T30 t186 x4_1).f6), .int .u8 ((rd_T30 t186 x4_1).f7), .int .u8 ((rd_T30 t186 x4_1).f8), .bool ((rd_T30 t186 x4_1).f9), .int .u8 x186010_1]) ?_ 10 _ rfl; (with_reducible repeat (first | refine blk_drewN ?_ _ | refine blk_drew ?_ | refine blk_alloc ?_ _)); refine blk_put (cs := #[.int .i32 ((rd_T30 t186 x4_1).f0), .int .i32 ((rd_T30 t186 x4_1).f1), .int .u8 ((rd_T30 t186 x4_1).f2), .int .i32 ((rd_T30 t186 x4_1).f3), .int .i32 ((rd_T30 t186 x4_1).f4), .int .i32 ((rd_T30 t186 x4_1).f5), .int .u8 ((rd_T30 t186 x4_1).f6), .int .u8 ((rd_T30 t186 x4_1).f7), .int .u8 ((rd_T30 t186 x4_1).f8), .bool x186009_1, .int .u8 x186010_1]) ?_ 9 _ rfl; (with_reducible repeat (first | refine blk_drewN ?_ _ | refine blk_drew ?_ | refine blk_alloc ?_ _)); refine blk_put (cs := #[.int .i32 ((rd_T30 t186 x4_1).f0), .int .i32 ((rd_T30 t186 x4_1).f1), .int .u8 ((rd_T30 t186 x4_1).f2), .int .i32 ((rd_T30 t186 x4_1).f3), .int .i32 ((rd_T30 t186 x4_1).f4), .int .i32 ((rd_T30 t186 x4_1).f5), .int .u8 ((rd_T30 t186 x4_1).f6), .int .u8 ((rd_T30 t186 x4_1).f7), .int .u8 x186008_1, .bool x186009_1, .int .u8 x186010_1]) ?_ 8 _ rfl; (with_reducible repeat (first | refine blk_drewN ?_ _ | refine blk_drew ?_ | refine blk_alloc ?_ _)); refine blk_put (cs := #[.int .i32 ((rd_T30 t186 x4_1).f0), .int .i32 ((rd_T30 t186 x4_1).f1), .int .u8 ((rd_T30 t186 x4_1).f2), .int .i32 ((rd_T30 t186 x4_1).f3), .int .i32 ((rd_T30 t186 x4_1).f4), .int .i32 ((rd_T30 t186 x4_1).f5), .int .u8 ((rd_T30 t186 x4_1).f6), .int .u8 x186007_1, .int .u8 x186008_1, .bool x186009_1, .int .u8 x186010_1]) ?_ 7 _ rfl; (with_reducible repeat (first | refine blk_drewN ?_ _ | refine blk_drew ?_ | refine blk_alloc ?_ _)); refine blk_put (cs := #[.int .i32 ((rd_T30 t186 x4_1).f0), .int .i32 ((rd_T30 t186 x4_1).f1), .int .u8 ((rd_T30 t186 x4_1).f2), .int .i32 ((rd_T30 t186 x4_1).f3), .int .i32 ((rd_T30 t186 x4_1).f4), .int .i32 ((rd_T30 t186 x4_1).f5), .int .u8 x186006_1, .int .u8 x186007_1, .int .u8 x186008_1, .bool x186009_1, .int .u8 x186010_1]) ?_ 6 _ rfl; (with_reducible repeat (first | refine blk_drewN ?_ _ | refine blk_drew ?_ | refine blk_alloc ?_ _)); refine blk_put (cs := #[.int .i32 ((rd_T30 t186 x4_1).f0), .int .i32 ((rd_T30 t186 x4_1).f1), .int .u8 ((rd_T30 t186 x4_1).f2), .int .i32 ((rd_T30 t186 x4_1).f3), .int .i32 ((rd_T30 t186 x4_1).f4), .int .i32 x186005_1, .int .u8 x186006_1, .int .u8 x186007_1, .int .u8 x186008_1, .bool x186009_1, .int .u8 x186010_1]) ?_ 5 _ rfl; (with_reducible repeat (first | refine blk_drewN ?_ _ | refine blk_drew ?_ | refine blk_alloc ?_ _)); refine blk_put (cs := #[.int .i32 ((rd_T30 t186 x4_1).f0), .int .i32 ((rd_T30 t186 x4_1).f1), .int .u8 ((rd_T30 t186 x4_1).f2), .int .i32 ((rd_T30 t186 x4_1).f3), .int .i32 x186004_1, .int .i32 x186005_1, .int .u8 x186006_1, .int .u8 x186007_1, .int .u8 x186008_1, .bool x186009_1, .int .u8 x186010_1]) ?_ 4 _ rfl; (with_reducible repeat (first | refine blk_drewN ?_ _ | refine blk_drew ?_ | refine blk_alloc ?_ _)); refine blk_put (cs := #[.int .i32 ((rd_T30 t186 x4_1).f0), .int .i32 ((rd_T30 t186 x4_1).f1), .int .u8 ((rd_T30 t186 x4_1).f2), .int .i32 x186003_1, .int .i32 x186004_1, .int .i32 x186005_1, .int .u8 x186006_1, .int .u8 x186007_1, .int .u8 x186008_1, .bool x186009_1, .int .u8 x186010_1]) ?_ 3 _ rfl; (with_reducible repeat (first | refine blk_drewN ?_ _ | refine blk_drew ?_ | refine blk_alloc ?_ _)); refine blk_put (cs := #[.int .i32 ((rd_T30 t186 x4_1).f0), .int .i32 ((rd_T30 t186 x4_1).f1), .int .u8 x186002_1, .int .i32 x186003_1, .int .i32 x186004_1, .int .i32 x186005_1, .int .u8 x186006_1, .int .u8 x186007_1, .int .u8 x186008_1, .bool x186009_1, .int .u8 x186010_1]) ?_ 2 _ rfl; (with_reducible repeat (first | refine blk_drewN ?_ _ | refine blk_drew ?_ | refine blk_alloc ?_ _)); refine blk_put (cs := #[.int .i32 ((rd_T30 t186 x4_1).f0), .int .i32 x186001_1, .int .u8 x186002_1, .int .i32 x186003_1, .int .i32 x186004_1, .int .i32 x186005_1, .int .u8 x186006_1, .int .u8 x186007_1, .int .u8 x186008_1, .bool x186009_1, .int .u8 x186010_1]) ?_ 1 _ rfl; (with_reducible repeat (first | refine blk_drewN ?_ _ | refine blk_drew ?_ | refine blk_alloc ?_ _)); refine blk_put (cs := #[.int .i32 x186000_1, .int .i32 x186001_1, .int .u8 x186002_1, .int .i32 x186003_1, .int .i32 x186004_1, .int .i32 x186005_1, .int .u8 x186006_1, .int .u8 x186007_1, .int .u8 x186008_1, .bool x186009_1, .int .u8 x186010_1]) ?_ 0 _ rfl; (with_reducible repeat (first | refine blk_drewN ?_ _ | refine blk_drew ?_ | refine blk_alloc ?_ _)); exact BK185.out) Tryd.underlying30 rfl (by kernel_rfl)) rfl ?_
              exact ⟨by first | rfl | (simp [errW_none, errW_some] <;> rfl) | (simp [*, errW_none, errW_some] <;> rfl), by repeat (first | (with_reducible first | exact HB.out | apply below_alloc | apply pw_below_drewN | apply below_drew1 | refine below_set ?_ GE185.out) | exact HB.out)⟩
            · rw [if_neg c8] at H
              have c8b0 : decide (a0 ≤ ((rd_T30 t186 x4_1).f1)) = false := decide_eq_false c8
              clear c8
              have H' := Aside0.mk H
              clear H
              obtain ⟨Ao11, co11, eo11⟩ := Kd.R_slice HO_3.out
              subst eo11
              have p189 : 0 ≤ (x4_1 : Int) := of_decide_eq_true (by first | (with_reducible assumption) | assumption)
              have q189 : x4_1 < (t186.length : Int) := of_decide_eq_true (by first | (with_reducible assumption) | assumption)
              obtain ⟨ad189, e189, hx189_0, hx189_1, hx189_2, hx189_3, hx189_4, hx189_5, hx189_6, hx189_7, hx189_8, hx189_9, hx189_10⟩ := at_T30 (Kd.R_reads' HO_3.out).2.2 x4_1 p189 q189
              cases e189
              replace p189 := eq_true p189
              replace q189 := eq_true q189
              have p190 : 0 ≤ (x4_1 : Int) := of_decide_eq_true (by first | (with_reducible assumption) | assumption)
              have q190 : x4_1 < (t186.length : Int) := of_decide_eq_true (by first | (with_reducible assumption) | assumption)
              obtain ⟨ad190, e190, hx190_0, hx190_1, hx190_2, hx190_3, hx190_4, hx190_5, hx190_6, hx190_7, hx190_8, hx190_9, hx190_10⟩ := at_T30 (Kd.R_reads' HO_3.out).2.2 x4_1 p190 q190
              obtain rfl : ad189 = ad190 := (by injection e190)
              replace p190 := eq_true p190
              replace q190 := eq_true q190
              go_wp2
              go_roundg k1
              case measure => have := HK1.out; omega
              case rel => exact ⟨(wrap64 (x4_1 + 1)), (x186000_1), (x186001_1), (x186002_1), (x186003_1), (x186004_1), (x186005_1), (x186006_1), (x186007_1), (x186008_1), (x186009_1), (x186010_1), (by first | rfl | (simp; done) | (simp [*]; done)), H', ⟨by have := HK1.out; omega⟩, ⟨by (with_reducible repeat (first | apply Kd.R_alloc | apply Kd.R_drewN | apply Kd.R_drew)); exact HO_3.out⟩, ⟨by (with_reducible repeat (first | refine blk_drewN ?_ _ | refine blk_drew ?_ | refine blk_alloc ?_ _)); exact BK185.out⟩, ⟨by repeat (first | (with_reducible first | exact HB.out | apply below_alloc | apply pw_below_drewN | apply below_drew1 | refine below_set ?_ GE185.out) | exact HB.out)⟩⟩
          · rw [if_neg c7] at H
            have c7b0 : decide (((rd_T30 t186 x4_1).f0) ≤ a0) = false := decide_eq_false c7
            clear c7
            have H' := Aside0.mk H
            clear H
            obtain ⟨Ao12, co12, eo12⟩ := Kd.R_slice HO_3.out
            subst eo12
            have p189 : 0 ≤ (x4_1 : Int) := of_decide_eq_true (by first | (with_reducible assumption) | assumption)
            have q189 : x4_1 < (t186.length : Int) := of_decide_eq_true (by first | (with_reducible assumption) | assumption)
            obtain ⟨ad189, e189, hx189_0, hx189_1, hx189_2, hx189_3, hx189_4, hx189_5, hx189_6, hx189_7, hx189_8, hx189_9, hx189_10⟩ := at_T30 (Kd.R_reads' HO_3.out).2.2 x4_1 p189 q189
            cases e189
            replace p189 := eq_true p189
            replace q189 := eq_true q189
            go_wp2
            go_roundg k1
            case measure => have := HK1.out; omega
            case rel => exact ⟨(wrap64 (x4_1 + 1)), (x186000_1), (x186001_1), (x186002_1), (x186003_1), (x186004_1), (x186005_1), (x186006_1), (x186007_1), (x186008_1), (x186009_1), (x186010_1), (by first | rfl | (simp; done) | (simp [*]; done)), H', ⟨by have := HK1.out; omega⟩, ⟨by (with_reducible repeat (first | apply Kd.R_alloc | apply Kd.R_drewN | apply Kd.R_drew)); exact HO_3.out⟩, ⟨by (with_reducible repeat (first | refine blk_drewN ?_ _ | refine blk_drew ?_ | refine blk_alloc ?_ _)); exact BK185.out⟩, ⟨by repeat (first | (with_reducible first | exact HB.out | apply below_alloc | apply pw_below_drewN | apply below_drew1 | refine below_set ?_ GE185.out) | exact HB.out)⟩⟩
        · rw [if_neg c6] at H
          exact absurd H (by simp)
      · rw [if_neg c5] at H
        have c5b0 : decide (x4_1 < (t186.length : Int)) = false := decide_eq_false c5
        clear c5
        simp only [Option.some.injEq, Prod.mk.injEq] at H
        obtain ⟨rfl, rfl, rfl, rfl, rfl, rfl, rfl, rfl, rfl, rfl, rfl⟩ := H
        obtain ⟨Ao13, co13, eo13⟩ := Kd.R_slice HO_3.out
        subst eo13
        have hcz14_0 : wr.cell? ⟨gb185, 0, none⟩ = some (.int .i32 x186000_1) := (blk_cell BK185.out 0).trans rfl
        have hcz14_1 : wr.cell? ⟨gb185, 1, none⟩ = some (.int .i32 x186001_1) := (blk_cell BK185.out 1).trans rfl
        have hcz14_2 : wr.cell? ⟨gb185, 2, none⟩ = some (.int .u8 x186002_1) := (blk_cell BK185.out 2).trans rfl
        have hcz14_3 : wr.cell? ⟨gb185, 3, none⟩ = some (.int .i32 x186003_1) := (blk_cell BK185.out 3).trans rfl
        have hcz14_4 : wr.cell? ⟨gb185, 4, none⟩ = some (.int .i32 x186004_1) := (blk_cell BK185.out 4).trans rfl
        have hcz14_5 : wr.cell? ⟨gb185, 5, none⟩ = some (.int .i32 x186005_1) := (blk_cell BK185.out 5).trans rfl
        have hcz14_6 : wr.cell? ⟨gb185, 6, none⟩ = some (.int .u8 x186006_1) := (blk_cell BK185.out 6).trans rfl
        have hcz14_7 : wr.cell? ⟨gb185, 7, none⟩ = some (.int .u8 x186007_1) := (blk_cell BK185.out 7).trans rfl
        have hcz14_8 : wr.cell? ⟨gb185, 8, none⟩ = some (.int .u8 x186008_1) := (blk_cell BK185.out 8).trans rfl
        have hcz14_9 : wr.cell? ⟨gb185, 9, none⟩ = some (.bool x186009_1) := (blk_cell BK185.out 9).trans rfl
        have hcz14_10 : wr.cell? ⟨gb185, 10, none⟩ = some (.int .u8 x186010_1) := (blk_cell BK185.out 10).trans rfl
        have hfz14_0 := blk_frozen BK185.out 0
        have hfz14_1 := blk_frozen BK185.out 1
        have hfz14_2 := blk_frozen BK185.out 2
        have hfz14_3 := blk_frozen BK185.out 3
        have hfz14_4 := blk_frozen BK185.out 4
        have hfz14_5 := blk_frozen BK185.out 5
        have hfz14_6 := blk_frozen BK185.out 6
        have hfz14_7 := blk_frozen BK185.out 7
        have hfz14_8 := blk_frozen BK185.out 8
        have hfz14_9 := blk_frozen BK185.out 9
        have hfz14_10 := blk_frozen BK185.out 10
        go_wp2
        refine bodyPost_ret (results_cell_row rfl _ _ gb185 30 #[.int .i32 0, .int .i32 0, .int .u8 0, .int .i32 0, .int .i32 0, .int .i32 0, .int .u8 0, .int .u8 0, .int .u8 0, .bool false, .int .u8 0] (0, 0) _ rfl (by (with_reducible repeat (first | refine blk_drewN ?_ _ | refine blk_drew ?_ | refine blk_alloc ?_ _)); refine blk_put (cs := #[.int .i32 0, .int .i32 0, .int .u8 0, .int .i32 0, .int .i32 0, .int .i32 0, .int .u8 0, .int .u8 0, .int .u8 0, .bool false, .int .u8 x186010_1]) ?_ 10 _ rfl; (with_reducible repeat (first | refine blk_drewN ?_ _ | refine blk_drew ?_ | refine blk_alloc ?_ _)); refine blk_put (cs := #[.int .i32 0, .int .i32 0, .int .u8 0, .int .i32 0, .int .i32 0, .int .i32 0, .int .u8 0, .int .u8 0, .int .u8 0, .bool x186009_1, .int .u8 x186010_1]) ?_ 9 _ rfl; (with_reducible repeat (first | refine blk_drewN ?_ _ | refine blk_drew ?_ | refine blk_alloc ?_ _)); refine blk_put (cs := #[.int .i32 0, .int .i32 0, .int .u8 0, .int .i32 0, .int .i32 0, .int .i32 0, .int .u8 0, .int .u8 0, .int .u8 x186008_1, .bool x186009_1, .int .u8 x186010_1]) ?_ 8 _ rfl; (with_reducible repeat (first | refine blk_drewN ?_ _ | refine blk_drew ?_ | refine blk_alloc ?_ _)); refine blk_put (cs := #[.int .i32 0, .int .i32 0, .int .u8 0, .int .i32 0, .int .i32 0, .int .i32 0, .int .u8 0, .int .u8 x186007_1, .int .u8 x186008_1, .bool x186009_1, .int .u8 x186010_1]) ?_ 7 _ rfl; (with_reducible repeat (first | refine blk_drewN ?_ _ | refine blk_drew ?_ | refine blk_alloc ?_ _)); refine blk_put (cs := #[.int .i32 0, .int .i32 0, .int .u8 0, .int .i32 0, .int .i32 0, .int .i32 0, .int .u8 x186006_1, .int .u8 x186007_1, .int .u8 x186008_1, .bool x186009_1, .int .u8 x186010_1]) ?_ 6 _ rfl; (with_reducible repeat (first | refine blk_drewN ?_ _ | refine blk_drew ?_ | refine blk_alloc ?_ _)); refine blk_put (cs := #[.int .i32 0, .int .i32 0, .int .u8 0, .int .i32 0, .int .i32 0, .int .i32 x186005_1, .int .u8 x186006_1, .int .u8 x186007_1, .int .u8 x186008_1, .bool x186009_1, .int .u8 x186010_1]) ?_ 5 _ rfl; (with_reducible repeat (first | refine blk_drewN ?_ _ | refine blk_drew ?_ | refine blk_alloc ?_ _)); refine blk_put (cs := #[.int .i32 0, .int .i32 0, .int .u8 0, .int .i32 0, .int .i32 x186004_1, .int .i32 x186005_1, .int .u8 x186006_1, .int .u8 x186007_1, .int .u8 x186008_1, .bool x186009_1, .int .u8 x186010_1]) ?_ 4 _ rfl; (with_reducible repeat (first | refine blk_drewN ?_ _ | refine blk_drew ?_ | refine blk_alloc ?_ _)); refine blk_put (cs := #[.int .i32 0, .int .i32 0, .int .u8 0, .int .i32 x186003_1, .int .i32 x186004_1, .int .i32 x186005_1, .int .u8 x186006_1, .int .u8 x186007_1, .int .u8 x186008_1, .bool x186009_1, .int .u8 x186010_1]) ?_ 3 _ rfl; (with_reducible repeat (first | refine blk_drewN ?_ _ | refine blk_drew ?_ | refine blk_alloc ?_ _)); refine blk_put (cs := #[.int .i32 0, .int .i32 0, .int .u8 x186002_1, .int .i32 x186003_1, .int .i32 x186004_1, .int .i32 x186005_1, .int .u8 x186006_1, .int .u8 x186007_1, .int .u8 x186008_1, .bool x186009_1, .int .u8 x186010_1]) ?_ 2 _ rfl; (with_reducible repeat (first | refine blk_drewN ?_ _ | refine blk_drew ?_ | refine blk_alloc ?_ _)); refine blk_put (cs := #[.int .i32 0, .int .i32 x186001_1, .int .u8 x186002_1, .int .i32 x186003_1, .int .i32 x186004_1, .int .i32 x186005_1, .int .u8 x186006_1, .int .u8 x186007_1, .int .u8 x186008_1, .bool x186009_1, .int .u8 x186010_1]) ?_ 1 _ rfl; (with_reducible repeat (first | refine blk_drewN ?_ _ | refine blk_drew ?_ | refine blk_alloc ?_ _)); refine blk_put (cs := #[.int .i32 x186000_1, .int .i32 x186001_1, .int .u8 x186002_1, .int .i32 x186003_1, .int .i32 x186004_1, .int .i32 x186005_1, .int .u8 x186006_1, .int .u8 x186007_1, .int .u8 x186008_1, .bool x186009_1, .int .u8 x186010_1]) ?_ 0 _ rfl; (with_reducible repeat (first | refine blk_drewN ?_ _ | refine blk_drew ?_ | refine blk_alloc ?_ _)); exact BK185.out) Tryd.underlying30 rfl (by kernel_rfl)) rfl ?_
        exact ⟨by first | rfl | (simp [errW_none, errW_some] <;> rfl) | (simp [*, errW_none, errW_some] <;> rfl), by repeat (first | (with_reducible first | exact HB.out | apply below_alloc | apply pw_below_drewN | apply below_drew1 | refine below_set ?_ GE185.out) | exact HB.out)⟩

def portcullisref04_class.f (k : Nat) (a0 : Int) : Option (Int) := (portcullisref03_Find.f k a0).bind fun bt192 => (some bt192.2.2.2.2.2.2.2.2.1)
set_option maxHeartbeats 8000000 in
set_option maxRecDepth 100000 in
theorem portcullisref04_class.calls (k : Nat) (a0 : Int) (r : Int) (w : World) (h : portcullisref04_class.f k a0 = some r) :
    Calls Tryd.prog 20 #[.int .i32 a0] w fun e w' => e = .returned (.int .u8 r) ∧ Below w.heap.size w w' := by
  have HB := Aside0.mk (Below.refl w.heap.size w)
  have H : ((portcullisref03_Find.f k a0).bind fun bt192 => (some bt192.2.2.2.2.2.2.2.2.1)) = some r := h
  clear h
  replace H := Option.bind_eq_some_iff.mp H
  obtain ⟨⟨t192, t193, t194, t195, t196, t197, t198, t199, t200, t201, t202⟩, A20, H⟩ := H
  replace H : (some t200) = some r := H
  have A2 := Aside0.mk A20
  clear A20
  obtain rfl := Option.some.inj H
  go_enter Tryd.func20, Tryd.ntmps20
  go_wp2_with (first | ((with_reducible refine gate_callee (f := 19) rfl ?_); refine goesL_ (some 4) rfl rfl Tryd.func19 (by kernel_rfl) rfl #[.int .i32 a0] rfl (by (try simp only [List.map_toArray, List.map_cons, List.map_nil]); first | done | rfl | (simp only [List.length_drop, List.length_take]; rfl)) ?_; (with_reducible refine (portcullisref03_Find.calls k a0 t192 t193 t194 t195 t196 t197 t198 t199 t200 t201 t202 _ A2.out).mono ?_); rintro e w3 ⟨rfl, hb⟩; refine ⟨_, rfl, ?_⟩; have n0_ := Aside0.mk (below_step (by repeat (first | (with_reducible first | exact HB.out | apply below_alloc | apply pw_below_drewN | apply below_drew1) | exact HB.out)) hb); clear HB; have HB := n0_; clear n0_; (try clear hb); (try clear hb2); (try clear hk); (try clear hi)))
  go_ret
  exact ⟨by first | rfl | (simp [errW_none, errW_some] <;> rfl) | (simp [*, errW_none, errW_some] <;> rfl), by repeat (first | (with_reducible first | exact HB.out | apply below_alloc | apply pw_below_drewN | apply below_drew1) | exact HB.out)⟩

end Go.Proofs.YtanpephfnjnfoaaDoor.Pr
end

section
namespace Go.Proofs.YtanpephfnjnfoaaDoor.Pr
open Go.RowKit Go.Proofs.YtanpephfnjnfoaaDoorW.PrintWords Go.Proofs.YtanpephfnjnfoaaDoorW.PrintLast Go.Proofs.YtanpephfnjnfoaaDoorW.PrintMore
attribute [local go_sem] max2_int min2_int max_two min_two max_three min_three max_four min_four Instr.field asAgg   -- for this text's walks alone
set_option linter.unusedVariables false
set_option linter.unusedSimpArgs false

mutual
def portcullisref04_Order.l0 : Nat → List Int → Bool → Option (List Int)
  | 0, _, _ => none
  | k + 1, x3, x4 => if x4 = true then (portcullisref04_Order.l1 k x3 false 1) else (some x3)
def portcullisref04_Order.l1 : Nat → List Int → Bool → Int → Option (List Int)
  | 0, _, _, _ => none
  | k + 1, x3, x4, x5 => if x5 < (x3.length : Int) then (if 0 ≤ (wrap64 (x5 - 1)) then (if (wrap64 (x5 - 1)) < (x3.length : Int) then ((portcullisref04_class.f k (rd x3 (wrap64 (x5 - 1)))).bind fun t207 => (if 0 ≤ x5 then ((portcullisref04_class.f k (rd x3 x5)).bind fun t209 => (if t209 = 0 then (portcullisref04_Order.l1 k x3 x4 (wrap64 (x5 + 1))) else (if t207 > t209 then (portcullisref04_Order.l1 k ((x3.set ((wrap64 (x5 - 1)) : Int).toNat (rd x3 x5)).set (x5 : Int).toNat (rd x3 (wrap64 (x5 - 1)))) true (wrap64 (x5 + 1))) else (portcullisref04_Order.l1 k x3 x4 (wrap64 (x5 + 1)))))) else (none))) else (none)) else (none)) else (portcullisref04_Order.l0 k x3 x4)
end
def portcullisref04_Order.f (k : Nat) (l0 : List Int) : Option (List Int) := if ([] : List Int).length + l0.length < 35184372088832 then (portcullisref04_Order.l0 k (([] : List Int) ++ l0) true) else (none)
def portcullisref04_Order.T9 : Bool × List (List Nat × List Nat) := (true, [([], []), ([], []), ([1], [1]), ([0, 2], [0, 2]), ([3], [3]), ([4], [4]), ([], []), ([], []), ([6, 7], [6, 7]), ([8], [8]), ([9, 5], [9]), ([5, 10, 0, 1, 2, 3, 4, 5], [5]), ([10, 11, 0, 1, 2, 3, 4, 5, 6, 7, 8, 9, 10, 11], [10])])
def portcullisref04_Order.B9 : List Nat := [0, 0, 2, 7, 15, 31, 0, 0, 192, 448, 1023, 2047, 4095]
theorem portcullisref04_Order.tab9 : rtab .any (opsOf Tryd.f12 9) = portcullisref04_Order.T9 := by kernel_rfl
theorem portcullisref04_Order.bits9 : waitsOk portcullisref04_Order.T9.2 portcullisref04_Order.B9 = true := by kernel_rfl
def portcullisref04_Order.T11 : Bool × List (List Nat × List Nat) := (true, [([], []), ([], []), ([1], [1]), ([], []), ([], []), ([], []), ([], []), ([5, 6], [5, 6]), ([7], [7]), ([], []), ([], []), ([10], [10]), ([9, 11], [9, 11]), ([12], [12]), ([0, 2, 0, 1, 2, 5, 6, 7, 8, 13], [0, 2]), ([14, 8, 0, 1, 2, 5, 6, 7, 8, 13], [8, 14]), ([3, 4, 0, 1, 2, 3, 4, 5, 6, 7, 8, 9, 10, 11, 12, 13, 14, 15], [3, 4]), ([16, 13, 15, 0, 1, 2, 3, 4, 5, 6, 7, 8, 9, 10, 11, 12, 13, 14, 15], [13, 16])])
def portcullisref04_Order.B11 : List Nat := [0, 0, 2, 0, 0, 0, 0, 96, 224, 0, 0, 1024, 3584, 7680, 16359, 32743, 65535, 131071]
theorem portcullisref04_Order.tab11 : rtab .any (opsOf Tryd.f12 11) = portcullisref04_Order.T11 := by kernel_rfl
theorem portcullisref04_Order.bits11 : waitsOk portcullisref04_Order.T11.2 portcullisref04_Order.B11 = true := by kernel_rfl
set_option maxHeartbeats 8000000 in
set_option maxRecDepth 100000 in
theorem portcullisref04_Order.calls (k : Nat) (A0 : Option Addr) (c0 : Nat) (l0 : List Int) (r : List Int) (w : World) (hr0 : Kd.C (Kd.int .i32) w A0 l0.length l0) (hc0 : l0.length ≤ c0) (h : portcullisref04_Order.f k l0 = some r) :
    Calls Tryd.prog 12 #[.slice A0 l0.length c0] w fun e w' => ∃ v0_ : Value, e = .returned (v0_) ∧ Kd.R (Kd.int .i32) 21 w' w.heap.size (fun _ => True) v0_ r ∧ Below w.heap.size w w' := by
  have HR0 := Aside0.mk hr0
  have HC0 := Aside0.mk hc0
  clear hr0 hc0
  have HB := Aside0.mk (Below.refl w.heap.size w)
  have H : (if ([] : List Int).length + l0.length < 35184372088832 then (portcullisref04_Order.l0 k (([] : List Int) ++ l0) true) else (none)) = some r := h
  clear h
  by_cases c2 : ([] : List Int).length + l0.length < 35184372088832
  · rw [if_pos c2] at H
    have LMc2 := Aside0.mk c2
    clear c2
    obtain ⟨y203, hy203⟩ : ∃ y_ : List Int, y_ = (([] : List Int) ++ l0) := ⟨_, rfl⟩
    replace H : (portcullisref04_Order.l0 k y203 true) = some r := by first | (rw [hy203]; with_reducible exact H) | (have H2_ := (Option.bind_some _ _).symm.trans H; rw [hy203]; with_reducible exact H2_) | (have H2_ := (Option.bind_some _ _).symm.trans H; with_reducible exact H2_) | with_reducible exact H | (rw [hy203]; exact H) | exact H
    have Ny203 := Aside0.mk hy203
    clear hy203
    have H' := Aside0.mk H
    clear H
    go_enter Tryd.func12, Tryd.ntmps12
    go_wp2_with (first | ((with_reducible refine gate_builtin (b := .append) (xs := #[.tmp 8, .tmp 9]) rfl ?_); at_builtin; refine Kd.R_append_rows (Kd.int .i32) (w0 := w) w.heap.size rfl (.tmp 8) (.tmp 9) 22 21 (.int .i32 0) 4 rfl Tryd.underlying22 info21 rfl (by decide) (by omega) (.slice none 0 0) ([] : List Int) l0 _ _ _ (fun _ => True) (fun _ => False) rfl rfl ?aO ?aR (fun _ _ h => h) (fun _ h => h.elim) ?aF ?aB ?aS ?aL ?_; (case aR => repeat (first | exact HR0.out | (with_reducible refine Kd.C_alloc ?_ _) | (with_reducible refine Kd.C_drewN ?_ _) | (with_reducible refine Kd.C_drew ?_))); (case aB => exact (by repeat (first | (with_reducible first | exact HB.out | apply below_alloc | apply pw_below_drewN | apply below_drew1) | exact HB.out))); (case aF => exact (fun _ _ => trivial)); (case aO => exact ((Kd.R_nil _ _ _ _ (fun _ => True)))); (case aS => exact (below_size (by repeat (first | (with_reducible first | exact HB.out | apply below_alloc | apply pw_below_drewN | apply below_drew1) | exact HB.out)))); (case aL => have := LMc2.out; omega); intro v204 w3 ho hb hg hat; rw [← Ny203.out] at ho; have n0_ := Aside0.mk (hb); have n1_ := Aside0.mk (ho); clear HB; have HB := n0_; have HO205 := n1_; clear n0_ n1_; clear ho hb hg hat))
    go_loopg [4] k (fun kq v4 w' => ∃ (x3_1 : List Int) (x4_1 : Bool), v4 = .bool x4_1 ∧ Aside0 (portcullisref04_Order.l0 kq x3_1 x4_1 = some r) ∧ Aside0 (kq ≤ k) ∧ Aside0 (Kd.R (Kd.int .i32) 21 w' w.heap.size (fun _ => True) v204 x3_1) ∧ Aside0 (Below w.heap.size w w'))
    case atStart => exact ⟨(y203), (true), (by first | rfl | (simp; done) | (simp [*]; done)), H', ⟨Nat.le_refl _⟩, ⟨by (with_reducible repeat (first | apply Kd.R_alloc | apply Kd.R_drewN | apply Kd.R_drew)); exact HO205.out⟩, ⟨by repeat (first | (with_reducible first | exact HB.out | apply below_alloc | apply pw_below_drewN | apply below_drew1) | exact HB.out)⟩⟩
    case round =>
      clear H'
      try clear c1
      try clear c2
      try clear p2
      obtain ⟨x3_1, x4_1, rfl, HA, HK1, HO_3, HB⟩ := hrel
      cases gk with
      | zero => exact absurd HA.out (by simp [portcullisref04_Order.l0])
      | succ k1 =>
        have H := HA.out
        clear HA
        simp only [portcullisref04_Order.l0] at H
        by_cases c4 : x4_1 = true
        · subst c4
          have H1 : (portcullisref04_Order.l1 k1 x3_1 false 1) = some r := by rw [if_pos rfl] at H; exact H
          clear H
          have H := H1
          clear H1
          have H' := Aside0.mk H
          clear H
          go_wp2
          go_loopg [4, 5] k1 (fun kq v4 v5 w' => ∃ (x3_2 : List Int) (x4_2 : Bool) (x5_2 : Int), v4 = .bool x4_2 ∧ v5 = .int .i64 x5_2 ∧ Aside0 (portcullisref04_Order.l1 kq x3_2 x4_2 x5_2 = some r) ∧ Aside0 (kq ≤ k1) ∧ Aside0 (Kd.R (Kd.int .i32) 21 w' w.heap.size (fun _ => True) v204 x3_2) ∧ Aside0 (Below w.heap.size w w'))
          case atStart => exact ⟨(x3_1), (false), (1), (by first | rfl | (simp; done) | (simp [*]; done)), (by first | rfl | (simp; done) | (simp [*]; done)), H', ⟨Nat.le_refl _⟩, ⟨by (with_reducible repeat (first | apply Kd.R_alloc | apply Kd.R_drewN | apply Kd.R_drew)); exact HO_3.out⟩, ⟨by repeat (first | (with_reducible first | exact HB.out | apply below_alloc | apply pw_below_drewN | apply below_drew1) | exact HB.out)⟩⟩
          case round =>
            clear H'
            try clear c1
            try clear c2
            try clear p2
            try clear c4
            try clear p2
            obtain ⟨x3_2, x4_2, x5_2, rfl, rfl, HA, HK2, HO_3, HB⟩ := hrel
            cases gk with
            | zero => exact absurd HA.out (by simp [portcullisref04_Order.l1])
            | succ k2 =>
              have H := HA.out
              clear HA
              simp only [portcullisref04_Order.l1] at H
              by_cases c5 : x5_2 < (x3_2.length : Int)
              · rw [if_pos c5] at H
                have c5b0 : decide (x5_2 < (x3_2.length : Int)) = true := decide_eq_true c5
                clear c5
                obtain ⟨ji6, hji6⟩ : ∃ j_ : Int, (wrap64 (x5_2 - 1)) = j_ := ⟨_, rfl⟩
                replace H : (if 0 ≤ (ji6) then (if (ji6) < (x3_2.length : Int) then ((portcullisref04_class.f k2 (rd x3_2 (ji6))).bind fun t207 => (if 0 ≤ x5_2 then ((portcullisref04_class.f k2 (rd x3_2 x5_2)).bind fun t209 => (if t209 = 0 then (portcullisref04_Order.l1 k2 x3_2 x4_2 (wrap64 (x5_2 + 1))) else (if t207 > t209 then (portcullisref04_Order.l1 k2 ((x3_2.set ((ji6) : Int).toNat (rd x3_2 x5_2)).set (x5_2 : Int).toNat (rd x3_2 (ji6))) true (wrap64 (x5_2 + 1))) else (portcullisref04_Order.l1 k2 x3_2 x4_2 (wrap64 (x5_2 + 1)))))) else (none))) else (none)) else (none)) = some r := by first | (rw [hji6] at H; exact H) | (simp only [hji6] at H ⊢; exact H)
                have hji6w : (IntKind.i64.wrap (x5_2 - 1)) = ji6 := (i64_w _).trans hji6
                by_cases c7 : 0 ≤ (ji6)
                · rw [if_pos c7] at H
                  have c7b0 : decide (0 ≤ (ji6)) = true := decide_eq_true c7
                  clear c7
                  by_cases c8 : (ji6) < (x3_2.length : Int)
                  · rw [if_pos c8] at H
                    have c8b0 : decide ((ji6) < (x3_2.length : Int)) = true := decide_eq_true c8
                    clear c8
                    replace H := Option.bind_eq_some_iff.mp H
                    obtain ⟨t207, A90, H⟩ := H
                    replace H : (if 0 ≤ x5_2 then ((portcullisref04_class.f k2 (rd x3_2 x5_2)).bind fun t209 => (if t209 = 0 then (portcullisref04_Order.l1 k2 x3_2 x4_2 (wrap64 (x5_2 + 1))) else (if t207 > t209 then (portcullisref04_Order.l1 k2 ((x3_2.set ((ji6) : Int).toNat (rd x3_2 x5_2)).set (x5_2 : Int).toNat (rd x3_2 (ji6))) true (wrap64 (x5_2 + 1))) else (portcullisref04_Order.l1 k2 x3_2 x4_2 (wrap64 (x5_2 + 1)))))) else (none)) = some r := H
                    have A9 := Aside0.mk A90
                    clear A90
                    by_cases c10 : 0 ≤ x5_2
                    · rw [if_pos c10] at H
                      have c10b0 : decide (0 ≤ x5_2) = true := decide_eq_true c10
                      clear c10
                      replace H := Option.bind_eq_some_iff.mp H
                      obtain ⟨t209, A110, H⟩ := H
                      replace H : (if t209 = 0 then (portcullisref04_Order.l1 k2 x3_2 x4_2 (wrap64 (x5_2 + 1))) else (if t207 > t209 then (portcullisref04_Order.l1 k2 ((x3_2.set ((ji6) : Int).toNat (rd x3_2 x5_2)).set (x5_2 : Int).toNat (rd x3_2 (ji6))) true (wrap64 (x5_2 + 1))) else (portcullisref04_Order.l1 k2 x3_2 x4_2 (wrap64 (x5_2 + 1))))) = some r := H
                      have A11 := Aside0.mk A110
                      clear A110
                      by_cases c12 : t209 = 0
                      · rw [if_pos c12] at H
                        have c12b0 : (t209 == 0) = true := beq_iff_eq.mpr c12
                        have c12b1 : (t209 != 0) = false := bne_eq_false_iff_eq.mpr c12
                        clear c12
                        have H' := Aside0.mk H
                        clear H
                        obtain ⟨Ao13, co13, eo13⟩ := Kd.R_slice HO_3.out
                        subst eo13
                        try go_wp2
                        have n0_ := Aside0.mk (Kd.R_drew HO_3.out)
                        have n1_ := Aside0.mk (below_drew1 HB.out)
                        clear HO_3
                        clear HB
                        have HO_3 := n0_
                        have HB := n1_
                        clear n0_ n1_
                        have p206 : 0 ≤ ((ji6) : Int) := of_decide_eq_true (by first | (with_reducible assumption) | assumption)
                        have q206 : (ji6) < (x3_2.length : Int) := of_decide_eq_true (by first | (with_reducible assumption) | assumption)
                        obtain ⟨ad206, e206, hx206_0⟩ := Kd.at_int (Kd.R_reads' HO_3.out).2.2 (ji6) p206 q206
                        cases e206
                        replace p206 := eq_true p206
                        replace q206 := eq_true q206
                        have p208 : 0 ≤ (x5_2 : Int) := of_decide_eq_true (by first | (with_reducible assumption) | assumption)
                        have q208 : x5_2 < (x3_2.length : Int) := of_decide_eq_true (by first | (with_reducible assumption) | assumption)
                        obtain ⟨ad208, e208, hx208_0⟩ := Kd.at_int (Kd.R_reads' HO_3.out).2.2 x5_2 p208 q208
                        obtain rfl : ad206 = ad208 := (by injection e208)
                        replace p208 := eq_true p208
                        replace q208 := eq_true q208
                        refine start_ (n := 13) (S := fun w' => w'.cell? (ad206.add ((ji6)).toNat) = some (.int .i32 (rd x3_2 (ji6))) ∧ w'.cell? (ad206.add (x5_2).toNat) = some (.int .i32 (rd x3_2 x5_2))) (ds := []) #[false, false, false, false, false, false, false, false, false, false, false, false, false] (by kernel_rfl) rfl rfl ⟨hx206_0, hx208_0⟩ (fun hHeld => ?_); refine with_tabW portcullisref04_Order.tab9 portcullisref04_Order.bits9 (fun HT_ HW_ => ?_)
                        generalize wr.drew = w14 at HO_3 HB hx206_0 hx208_0 hHeld ⊢
                        refine pure_ (i := 0) (N := some 18) (v := ?_) (a' := ?_) #[true, false, false, false, false, false, false, false, false, false, false, false, false] rfl rfl (any_of HT_.out (by kernel_rfl)) (fun _ _ _ h => h) (Or.inl ⟨by rfl, ?_⟩) ?_ ?_
                        rotate_left
                        · intro w'
                          go_simp
                          first | with_reducible rfl | (rw [if_neg (by (try simp only [ByteArray.size_extract] at *); omega)])
                        rotate_left
                        · simp only [Act.put, List.setIfInBounds_toArray, List.set_cons_zero, List.set_cons_succ, i64_w, i32_w]
                          rfl
                        refine pure_ (i := 1) (N := some 19) (v := ?_) (a' := ?_) #[true, true, false, false, false, false, false, false, false, false, false, false, false] rfl rfl (any_of HT_.out (by kernel_rfl)) (fun _ _ _ h => h) (Or.inl ⟨by rfl, ?_⟩) ?_ ?_
                        rotate_left
                        · intro w'
                          go_simp
                          first | with_reducible rfl | (rw [if_neg (by (try simp only [ByteArray.size_extract] at *); omega)])
                        rotate_left
                        · simp only [Act.put, List.setIfInBounds_toArray, List.set_cons_zero, List.set_cons_succ, i64_w, i32_w]
                          rfl
                        refine pure_ (i := 2) (N := some 20) (v := ?_) (a' := ?_) #[true, true, true, false, false, false, false, false, false, false, false, false, false] rfl rfl (any_of HT_.out (by kernel_rfl)) (fun _ _ _ h => h) (Or.inl ⟨by rfl, ?_⟩) ?_ ?_
                        rotate_left
                        · intro w'
                          go_simp
                          first | with_reducible rfl | (rw [if_neg (by (try simp only [ByteArray.size_extract] at *); omega)])
                        rotate_left
                        · simp only [Act.put, List.setIfInBounds_toArray, List.set_cons_zero, List.set_cons_succ, i64_w, i32_w]
                          rfl
                        refine pure_ (i := 3) (N := some 21) (v := ?_) (a' := ?_) #[true, true, true, true, false, false, false, false, false, false, false, false, false] rfl rfl (any_of HT_.out (by kernel_rfl)) (fun _ _ _ h => h) (Or.inl ⟨by rfl, ?_⟩) ?_ ?_
                        rotate_left
                        · intro w'
                          go_simp
                          first | with_reducible rfl | (rw [if_neg (by (try simp only [ByteArray.size_extract] at *); omega)])
                        rotate_left
                        · simp only [Act.put, List.setIfInBounds_toArray, List.set_cons_zero, List.set_cons_succ, i64_w, i32_w]
                          rfl
                        refine pure_ (i := 6) (N := some 24) (v := ?_) (a' := ?_) #[true, true, true, true, false, false, true, false, false, false, false, false, false] rfl rfl (any_of HT_.out (by kernel_rfl)) (fun _ _ _ h => h) (Or.inl ⟨by rfl, ?_⟩) ?_ ?_
                        rotate_left
                        · intro w'
                          go_simp
                          first | with_reducible rfl | (rw [if_neg (by (try simp only [ByteArray.size_extract] at *); omega)])
                        rotate_left
                        · simp only [Act.put, List.setIfInBounds_toArray, List.set_cons_zero, List.set_cons_succ, i64_w, i32_w]
                          rfl
                        refine pure_ (i := 7) (N := some 25) (v := ?_) (a' := ?_) #[true, true, true, true, false, false, true, true, false, false, false, false, false] rfl rfl (any_of HT_.out (by kernel_rfl)) (fun _ _ _ h => h) (Or.inl ⟨by rfl, ?_⟩) ?_ ?_
                        rotate_left
                        · intro w'
                          go_simp
                          first | with_reducible rfl | (rw [if_neg (by (try simp only [ByteArray.size_extract] at *); omega)])
                        rotate_left
                        · simp only [Act.put, List.setIfInBounds_toArray, List.set_cons_zero, List.set_cons_succ, i64_w, i32_w]
                          rfl
                        refine pure_ (i := 8) (N := some 26) (v := ?_) (a' := ?_) #[true, true, true, true, false, false, true, true, true, false, false, false, false] rfl rfl (any_of HT_.out (by kernel_rfl)) (fun _ _ _ h => h) (Or.inl ⟨by rfl, ?_⟩) ?_ ?_
                        rotate_left
                        · intro w'
                          go_simp
                          first | with_reducible rfl | (rw [if_neg (by (try simp only [ByteArray.size_extract] at *); omega)])
                        rotate_left
                        · simp only [Act.put, List.setIfInBounds_toArray, List.set_cons_zero, List.set_cons_succ, i64_w, i32_w]
                          rfl
                        refine take_ (i := 4) (N := some 22) (v := ?_) (a' := ?_) #[true, true, true, true, true, false, true, true, true, false, false, false, false] rfl rfl (take_ofW HT_.out HW_.out (by kernel_rfl)) (fun _ _ _ h => h) (Or.inl ⟨by rfl, ?_⟩) hHeld ?_ ?_
                        rotate_left
                        · rintro w' ⟨s0, s1⟩
                          go_simp
                          first | with_reducible rfl | (rw [if_neg (by (try simp only [ByteArray.size_extract] at *); omega)])
                        rotate_left
                        · simp only [Act.put, List.setIfInBounds_toArray, List.set_cons_zero, List.set_cons_succ, i64_w, i32_w]
                          rfl
                        refine take_ (i := 9) (N := some 27) (v := ?_) (a' := ?_) #[true, true, true, true, true, false, true, true, true, true, false, false, false] rfl rfl (take_ofW HT_.out HW_.out (by kernel_rfl)) (fun _ _ _ h => h) (Or.inl ⟨by rfl, ?_⟩) hHeld ?_ ?_
                        rotate_left
                        · rintro w' ⟨s0, s1⟩
                          go_simp
                          first | with_reducible rfl | (rw [if_neg (by (try simp only [ByteArray.size_extract] at *); omega)])
                        rotate_left
                        · simp only [Act.put, List.setIfInBounds_toArray, List.set_cons_zero, List.set_cons_succ, i64_w, i32_w]
                          rfl
                        refine one_ (i := 5) (N := some 23) #[true, true, true, true, true, true, true, true, true, true, false, false, false] rfl rfl (one_of HT_.out (by kernel_rfl)) (by decide) (fun K hK => ?_)
                        refine goes_ Tryd.func20 (by kernel_rfl) rfl #[.int .i32 (rd x3_2 (ji6))] (by rfl) rfl rfl (by (try simp only [List.map_toArray, List.map_cons, List.map_nil]); first | done | (simp only [hji6]; rfl) | rfl | (simp only [List.length_drop, List.length_take]; rfl)) ?_
                        with_reducible refine (portcullisref04_class.calls k2 (rd x3_2 (ji6)) t207 _ A9.out).mono ?_
                        rintro e w15 ⟨rfl, hb⟩
                        have HS0_ := (hb.cell (World.block_lt_of_cell? _ _ (hHeld.1))).trans (hHeld.1)
                        have HS1_ := (hb.cell (World.block_lt_of_cell? _ _ (hHeld.2))).trans (hHeld.2)
                        refine ⟨_, rfl, ?_⟩
                        have n0_ := Aside0.mk (Kd.R_below (by (with_reducible repeat (first | apply Kd.R_alloc | apply Kd.R_drewN | apply Kd.R_drew)); exact HO_3.out) hb)
                        have n1_ := Aside0.mk (below_step (by repeat (first | (with_reducible first | exact HB.out | apply below_alloc | apply pw_below_drewN | apply below_drew1) | exact HB.out)) hb)
                        clear HO_3
                        clear HB
                        have HO_3 := n0_
                        have HB := n1_
                        clear n0_ n1_
                        (try clear hb)
                        (try clear hb2)
                        (try clear hk)
                        (try clear hi)
                        refine hK.out _ _ ⟨HS0_, HS1_⟩ (fun hHeld => ?_)
                        clear hK K
                        refine norm_ (a' := ?_) ?_ ?_
                        rotate_left
                        · show Act.put _ (some 23) _ = _
                          simp only [Act.put, List.setIfInBounds_toArray, List.set_cons_zero, List.set_cons_succ, i64_w, i32_w]
                          rfl
                        refine one_ (i := 10) (N := some 28) #[true, true, true, true, true, true, true, true, true, true, true, false, false] rfl rfl (one_of HT_.out (by kernel_rfl)) (by decide) (fun K hK => ?_)
                        refine goes_ Tryd.func20 (by kernel_rfl) rfl #[.int .i32 (rd x3_2 x5_2)] (by rfl) rfl rfl (by (try simp only [List.map_toArray, List.map_cons, List.map_nil]); first | done | rfl | (simp only [List.length_drop, List.length_take]; rfl)) ?_
                        with_reducible refine (portcullisref04_class.calls k2 (rd x3_2 x5_2) t209 _ A11.out).mono ?_
                        rintro e w16 ⟨rfl, hb⟩
                        have HS0_ := (hb.cell (World.block_lt_of_cell? _ _ (hHeld.1))).trans (hHeld.1)
                        have HS1_ := (hb.cell (World.block_lt_of_cell? _ _ (hHeld.2))).trans (hHeld.2)
                        refine ⟨_, rfl, ?_⟩
                        have n0_ := Aside0.mk (Kd.R_below (by (with_reducible repeat (first | apply Kd.R_alloc | apply Kd.R_drewN | apply Kd.R_drew)); exact HO_3.out) hb)
                        have n1_ := Aside0.mk (below_step (by repeat (first | (with_reducible first | exact HB.out | apply below_alloc | apply pw_below_drewN | apply below_drew1) | exact HB.out)) hb)
                        clear HO_3
                        clear HB
                        have HO_3 := n0_
                        have HB := n1_
                        clear n0_ n1_
                        (try clear hb)
                        (try clear hb2)
                        (try clear hk)
                        (try clear hi)
                        refine hK.out _ _ ⟨HS0_, HS1_⟩ (fun hHeld => ?_)
                        clear hK K
                        refine norm_ (a' := ?_) ?_ ?_
                        rotate_left
                        · show Act.put _ (some 28) _ = _
                          simp only [Act.put, List.setIfInBounds_toArray, List.set_cons_zero, List.set_cons_succ, i64_w, i32_w]
                          rfl
                        refine pure_ (i := 11) (N := some 6) (v := ?_) (a' := ?_) #[true, true, true, true, true, true, true, true, true, true, true, true, false] rfl rfl (any_of HT_.out (by kernel_rfl)) (fun _ _ _ h => h) (Or.inl ⟨by rfl, ?_⟩) ?_ ?_
                        rotate_left
                        · intro w'
                          go_simp
                          first | with_reducible rfl | (rw [if_neg (by (try simp only [ByteArray.size_extract] at *); omega)])
                        rotate_left
                        · simp only [Act.put, List.setIfInBounds_toArray, List.set_cons_zero, List.set_cons_succ, i64_w, i32_w]
                          rfl
                        refine pure_ (i := 12) (N := some 7) (v := ?_) (a' := ?_) #[true, true, true, true, true, true, true, true, true, true, true, true, true] rfl rfl (any_of HT_.out (by kernel_rfl)) (fun _ _ _ h => h) (Or.inl ⟨by rfl, ?_⟩) ?_ ?_
                        rotate_left
                        · intro w'
                          go_simp
                          first | with_reducible rfl | (rw [if_neg (by (try simp only [ByteArray.size_extract] at *); omega)])
                        rotate_left
                        · simp only [Act.put, List.setIfInBounds_toArray, List.set_cons_zero, List.set_cons_succ, i64_w, i32_w]
                          rfl
                        refine done_ (done_of HT_.out (by kernel_rfl)) ?_
                        try go_wp2
                        go_roundg k2
                        case measure => have := HK1.out; have := HK2.out; omega
                        case rel => exact ⟨(x3_2), (x4_2), (wrap64 (x5_2 + 1)), (by first | rfl | (simp; done) | (simp [*]; done)), (by first | rfl | (simp; done) | (simp [*]; done)), H', ⟨by have := HK1.out; have := HK2.out; omega⟩, ⟨by (with_reducible repeat (first | apply Kd.R_alloc | apply Kd.R_drewN | apply Kd.R_drew)); exact HO_3.out⟩, ⟨by repeat (first | (with_reducible first | exact HB.out | apply below_alloc | apply pw_below_drewN | apply below_drew1) | exact HB.out)⟩⟩
                      · rw [if_neg c12] at H
                        have c12b0 : (t209 == 0) = false := beq_eq_false_iff_ne.mpr c12
                        have c12b1 : (t209 != 0) = true := bne_iff_ne.mpr c12
                        by_cases c17 : t207 > t209
                        · rw [if_pos c17] at H
                          have c17b0 : decide (t209 < t207) = true := decide_eq_true c17
                          clear c17
                          obtain ⟨y212, hy212⟩ : ∃ y_ : List Int, y_ = (x3_2.set ((ji6) : Int).toNat (rd x3_2 x5_2)) := ⟨_, rfl⟩
                          replace H : (portcullisref04_Order.l1 k2 (y212.set (x5_2 : Int).toNat (rd x3_2 (ji6))) true (wrap64 (x5_2 + 1))) = some r := by first | (rw [hy212]; with_reducible exact H) | (have H2_ := (Option.bind_some _ _).symm.trans H; rw [hy212]; with_reducible exact H2_) | (have H2_ := (Option.bind_some _ _).symm.trans H; with_reducible exact H2_) | with_reducible exact H | (rw [hy212]; exact H) | exact H
                          have Ny212 := Aside0.mk hy212
                          clear hy212
                          obtain ⟨y213, hy213⟩ : ∃ y_ : List Int, y_ = (y212.set (x5_2 : Int).toNat (rd x3_2 (ji6))) := ⟨_, rfl⟩
                          replace H : (portcullisref04_Order.l1 k2 y213 true (wrap64 (x5_2 + 1))) = some r := by first | (rw [hy213]; with_reducible exact H) | (have H2_ := (Option.bind_some _ _).symm.trans H; rw [hy213]; with_reducible exact H2_) | (have H2_ := (Option.bind_some _ _).symm.trans H; with_reducible exact H2_) | with_reducible exact H | (rw [hy213]; exact H) | exact H
                          have Ny213 := Aside0.mk hy213
                          clear hy213
                          have H' := Aside0.mk H
                          clear H
                          obtain ⟨Ao20, co20, eo20⟩ := Kd.R_slice HO_3.out
                          subst eo20
                          try go_wp2
                          have n0_ := Aside0.mk (Kd.R_drew HO_3.out)
                          have n1_ := Aside0.mk (below_drew1 HB.out)
                          clear HO_3
                          clear HB
                          have HO_3 := n0_
                          have HB := n1_
                          clear n0_ n1_
                          have p206 : 0 ≤ ((ji6) : Int) := of_decide_eq_true (by first | (with_reducible assumption) | assumption)
                          have q206 : (ji6) < (x3_2.length : Int) := of_decide_eq_true (by first | (with_reducible assumption) | assumption)
                          obtain ⟨ad206, e206, hx206_0⟩ := Kd.at_int (Kd.R_reads' HO_3.out).2.2 (ji6) p206 q206
                          cases e206
                          replace p206 := eq_true p206
                          replace q206 := eq_true q206
                          have p208 : 0 ≤ (x5_2 : Int) := of_decide_eq_true (by first | (with_reducible assumption) | assumption)
                          have q208 : x5_2 < (x3_2.length : Int) := of_decide_eq_true (by first | (with_reducible assumption) | assumption)
                          obtain ⟨ad208, e208, hx208_0⟩ := Kd.at_int (Kd.R_reads' HO_3.out).2.2 x5_2 p208 q208
                          obtain rfl : ad206 = ad208 := (by injection e208)
                          replace p208 := eq_true p208
                          replace q208 := eq_true q208
                          refine start_ (n := 13) (S := fun w' => w'.cell? (ad206.add ((ji6)).toNat) = some (.int .i32 (rd x3_2 (ji6))) ∧ w'.cell? (ad206.add (x5_2).toNat) = some (.int .i32 (rd x3_2 x5_2))) (ds := []) #[false, false, false, false, false, false, false, false, false, false, false, false, false] (by kernel_rfl) rfl rfl ⟨hx206_0, hx208_0⟩ (fun hHeld => ?_); refine with_tabW portcullisref04_Order.tab9 portcullisref04_Order.bits9 (fun HT_ HW_ => ?_)
                          generalize wr.drew = w21 at HO_3 HB hx206_0 hx208_0 hHeld ⊢
                          refine pure_ (i := 0) (N := some 18) (v := ?_) (a' := ?_) #[true, false, false, false, false, false, false, false, false, false, false, false, false] rfl rfl (any_of HT_.out (by kernel_rfl)) (fun _ _ _ h => h) (Or.inl ⟨by rfl, ?_⟩) ?_ ?_
                          rotate_left
                          · intro w'
                            go_simp
                            first | with_reducible rfl | (rw [if_neg (by (try simp only [ByteArray.size_extract] at *); omega)])
                          rotate_left
                          · simp only [Act.put, List.setIfInBounds_toArray, List.set_cons_zero, List.set_cons_succ, i64_w, i32_w]
                            rfl
                          refine pure_ (i := 1) (N := some 19) (v := ?_) (a' := ?_) #[true, true, false, false, false, false, false, false, false, false, false, false, false] rfl rfl (any_of HT_.out (by kernel_rfl)) (fun _ _ _ h => h) (Or.inl ⟨by rfl, ?_⟩) ?_ ?_
                          rotate_left
                          · intro w'
                            go_simp
                            first | with_reducible rfl | (rw [if_neg (by (try simp only [ByteArray.size_extract] at *); omega)])
                          rotate_left
                          · simp only [Act.put, List.setIfInBounds_toArray, List.set_cons_zero, List.set_cons_succ, i64_w, i32_w]
                            rfl
                          refine pure_ (i := 2) (N := some 20) (v := ?_) (a' := ?_) #[true, true, true, false, false, false, false, false, false, false, false, false, false] rfl rfl (any_of HT_.out (by kernel_rfl)) (fun _ _ _ h => h) (Or.inl ⟨by rfl, ?_⟩) ?_ ?_
                          rotate_left
                          · intro w'
                            go_simp
                            first | with_reducible rfl | (rw [if_neg (by (try simp only [ByteArray.size_extract] at *); omega)])
                          rotate_left
                          · simp only [Act.put, List.setIfInBounds_toArray, List.set_cons_zero, List.set_cons_succ, i64_w, i32_w]
                            rfl
                          refine pure_ (i := 3) (N := some 21) (v := ?_) (a' := ?_) #[true, true, true, true, false, false, false, false, false, false, false, false, false] rfl rfl (any_of HT_.out (by kernel_rfl)) (fun _ _ _ h => h) (Or.inl ⟨by rfl, ?_⟩) ?_ ?_
                          rotate_left
                          · intro w'
                            go_simp
                            first | with_reducible rfl | (rw [if_neg (by (try simp only [ByteArray.size_extract] at *); omega)])
                          rotate_left
                          · simp only [Act.put, List.setIfInBounds_toArray, List.set_cons_zero, List.set_cons_succ, i64_w, i32_w]
                            rfl
                          refine pure_ (i := 6) (N := some 24) (v := ?_) (a' := ?_) #[true, true, true, true, false, false, true, false, false, false, false, false, false] rfl rfl (any_of HT_.out (by kernel_rfl)) (fun _ _ _ h => h) (Or.inl ⟨by rfl, ?_⟩) ?_ ?_
                          rotate_left
                          · intro w'
                            go_simp
                            first | with_reducible rfl | (rw [if_neg (by (try simp only [ByteArray.size_extract] at *); omega)])
                          rotate_left
                          · simp only [Act.put, List.setIfInBounds_toArray, List.set_cons_zero, List.set_cons_succ, i64_w, i32_w]
                            rfl
                          refine pure_ (i := 7) (N := some 25) (v := ?_) (a' := ?_) #[true, true, true, true, false, false, true, true, false, false, false, false, false] rfl rfl (any_of HT_.out (by kernel_rfl)) (fun _ _ _ h => h) (Or.inl ⟨by rfl, ?_⟩) ?_ ?_
                          rotate_left
                          · intro w'
                            go_simp
                            first | with_reducible rfl | (rw [if_neg (by (try simp only [ByteArray.size_extract] at *); omega)])
                          rotate_left
                          · simp only [Act.put, List.setIfInBounds_toArray, List.set_cons_zero, List.set_cons_succ, i64_w, i32_w]
                            rfl
                          refine pure_ (i := 8) (N := some 26) (v := ?_) (a' := ?_) #[true, true, true, true, false, false, true, true, true, false, false, false, false] rfl rfl (any_of HT_.out (by kernel_rfl)) (fun _ _ _ h => h) (Or.inl ⟨by rfl, ?_⟩) ?_ ?_
                          rotate_left
                          · intro w'
                            go_simp
                            first | with_reducible rfl | (rw [if_neg (by (try simp only [ByteArray.size_extract] at *); omega)])
                          rotate_left
                          · simp only [Act.put, List.setIfInBounds_toArray, List.set_cons_zero, List.set_cons_succ, i64_w, i32_w]
                            rfl
                          refine take_ (i := 4) (N := some 22) (v := ?_) (a' := ?_) #[true, true, true, true, true, false, true, true, true, false, false, false, false] rfl rfl (take_ofW HT_.out HW_.out (by kernel_rfl)) (fun _ _ _ h => h) (Or.inl ⟨by rfl, ?_⟩) hHeld ?_ ?_
                          rotate_left
                          · rintro w' ⟨s0, s1⟩
                            go_simp
                            first | with_reducible rfl | (rw [if_neg (by (try simp only [ByteArray.size_extract] at *); omega)])
                          rotate_left
                          · simp only [Act.put, List.setIfInBounds_toArray, List.set_cons_zero, List.set_cons_succ, i64_w, i32_w]
                            rfl
                          refine take_ (i := 9) (N := some 27) (v := ?_) (a' := ?_) #[true, true, true, true, true, false, true, true, true, true, false, false, false] rfl rfl (take_ofW HT_.out HW_.out (by kernel_rfl)) (fun _ _ _ h => h) (Or.inl ⟨by rfl, ?_⟩) hHeld ?_ ?_
                          rotate_left
                          · rintro w' ⟨s0, s1⟩
                            go_simp
                            first | with_reducible rfl | (rw [if_neg (by (try simp only [ByteArray.size_extract] at *); omega)])
                          rotate_left
                          · simp only [Act.put, List.setIfInBounds_toArray, List.set_cons_zero, List.set_cons_succ, i64_w, i32_w]
                            rfl
                          refine one_ (i := 5) (N := some 23) #[true, true, true, true, true, true, true, true, true, true, false, false, false] rfl rfl (one_of HT_.out (by kernel_rfl)) (by decide) (fun K hK => ?_)
                          refine goes_ Tryd.func20 (by kernel_rfl) rfl #[.int .i32 (rd x3_2 (ji6))] (by rfl) rfl rfl (by (try simp only [List.map_toArray, List.map_cons, List.map_nil]); first | done | (simp only [hji6]; rfl) | rfl | (simp only [List.length_drop, List.length_take]; rfl)) ?_
                          with_reducible refine (portcullisref04_class.calls k2 (rd x3_2 (ji6)) t207 _ A9.out).mono ?_
                          rintro e w22 ⟨rfl, hb⟩
                          have HS0_ := (hb.cell (World.block_lt_of_cell? _ _ (hHeld.1))).trans (hHeld.1)
                          have HS1_ := (hb.cell (World.block_lt_of_cell? _ _ (hHeld.2))).trans (hHeld.2)
                          refine ⟨_, rfl, ?_⟩
                          have n0_ := Aside0.mk (Kd.R_below (by (with_reducible repeat (first | apply Kd.R_alloc | apply Kd.R_drewN | apply Kd.R_drew)); exact HO_3.out) hb)
                          have n1_ := Aside0.mk (below_step (by repeat (first | (with_reducible first | exact HB.out | apply below_alloc | apply pw_below_drewN | apply below_drew1) | exact HB.out)) hb)
                          clear HO_3
                          clear HB
                          have HO_3 := n0_
                          have HB := n1_
                          clear n0_ n1_
                          (try clear hb)
                          (try clear hb2)
                          (try clear hk)
                          (try clear hi)
                          refine hK.out _ _ ⟨HS0_, HS1_⟩ (fun hHeld => ?_)
                          clear hK K
                          refine norm_ (a' := ?_) ?_ ?_
                          rotate_left
                          · show Act.put _ (some 23) _ = _
                            simp only [Act.put, List.setIfInBounds_toArray, List.set_cons_zero, List.set_cons_succ, i64_w, i32_w]
                            rfl
                          refine one_ (i := 10) (N := some 28) #[true, true, true, true, true, true, true, true, true, true, true, false, false] rfl rfl (one_of HT_.out (by kernel_rfl)) (by decide) (fun K hK => ?_)
                          refine goes_ Tryd.func20 (by kernel_rfl) rfl #[.int .i32 (rd x3_2 x5_2)] (by rfl) rfl rfl (by (try simp only [List.map_toArray, List.map_cons, List.map_nil]); first | done | rfl | (simp only [List.length_drop, List.length_take]; rfl)) ?_
                          with_reducible refine (portcullisref04_class.calls k2 (rd x3_2 x5_2) t209 _ A11.out).mono ?_
                          rintro e w23 ⟨rfl, hb⟩
                          have HS0_ := (hb.cell (World.block_lt_of_cell? _ _ (hHeld.1))).trans (hHeld.1)
                          have HS1_ := (hb.cell (World.block_lt_of_cell? _ _ (hHeld.2))).trans (hHeld.2)
                          refine ⟨_, rfl, ?_⟩
                          have n0_ := Aside0.mk (Kd.R_below (by (with_reducible repeat (first | apply Kd.R_alloc | apply Kd.R_drewN | apply Kd.R_drew)); exact HO_3.out) hb)
                          have n1_ := Aside0.mk (below_step (by repeat (first | (with_reducible first | exact HB.out | apply below_alloc | apply pw_below_drewN | apply below_drew1) | exact HB.out)) hb)
                          clear HO_3
                          clear HB
                          have HO_3 := n0_
                          have HB := n1_
                          clear n0_ n1_
                          (try clear hb)
                          (try clear hb2)
                          (try clear hk)
                          (try clear hi)
                          refine hK.out _ _ ⟨HS0_, HS1_⟩ (fun hHeld => ?_)
                          clear hK K
                          refine norm_ (a' := ?_) ?_ ?_
                          rotate_left
                          · show Act.put _ (some 28) _ = _
                            simp only [Act.put, List.setIfInBounds_toArray, List.set_cons_zero, List.set_cons_succ, i64_w, i32_w]
                            rfl
                          refine pure_ (i := 11) (N := some 6) (v := ?_) (a' := ?_) #[true, true, true, true, true, true, true, true, true, true, true, true, false] rfl rfl (any_of HT_.out (by kernel_rfl)) (fun _ _ _ h => h) (Or.inl ⟨by rfl, ?_⟩) ?_ ?_
                          rotate_left
                          · intro w'
                            go_simp
                            first | with_reducible rfl | (rw [if_neg (by (try simp only [ByteArray.size_extract] at *); omega)])
                          rotate_left
                          · simp only [Act.put, List.setIfInBounds_toArray, List.set_cons_zero, List.set_cons_succ, i64_w, i32_w]
                            rfl
                          refine pure_ (i := 12) (N := some 7) (v := ?_) (a' := ?_) #[true, true, true, true, true, true, true, true, true, true, true, true, true] rfl rfl (any_of HT_.out (by kernel_rfl)) (fun _ _ _ h => h) (Or.inl ⟨by rfl, ?_⟩) ?_ ?_
                          rotate_left
                          · intro w'
                            go_simp
                            first | with_reducible rfl | (rw [if_neg (by (try simp only [ByteArray.size_extract] at *); omega)])
                          rotate_left
                          · simp only [Act.put, List.setIfInBounds_toArray, List.set_cons_zero, List.set_cons_succ, i64_w, i32_w]
                            rfl
                          refine done_ (done_of HT_.out (by kernel_rfl)) ?_
                          try go_wp2
                          have n0_ := Aside0.mk (Kd.R_drew HO_3.out)
                          have n1_ := Aside0.mk (below_drew1 HB.out)
                          clear HO_3
                          clear HB
                          have HO_3 := n0_
                          have HB := n1_
                          clear n0_ n1_
                          have p210 : 0 ≤ (x5_2 : Int) := of_decide_eq_true (by first | (with_reducible assumption) | assumption)
                          have q210 : x5_2 < (x3_2.length : Int) := of_decide_eq_true (by first | (with_reducible assumption) | assumption)
                          obtain ⟨ad210, e210, hx210_0⟩ := Kd.at_int (Kd.R_reads' HO_3.out).2.2 x5_2 p210 q210
                          obtain rfl : ad206 = ad210 := (by injection e210)
                          replace p210 := eq_true p210
                          replace q210 := eq_true q210
                          have p211 : 0 ≤ ((ji6) : Int) := of_decide_eq_true (by first | (with_reducible assumption) | assumption)
                          have q211 : (ji6) < (x3_2.length : Int) := of_decide_eq_true (by first | (with_reducible assumption) | assumption)
                          obtain ⟨ad211, e211, hx211_0⟩ := Kd.at_int (Kd.R_reads' HO_3.out).2.2 (ji6) p211 q211
                          obtain rfl : ad206 = ad211 := (by injection e211)
                          replace p211 := eq_true p211
                          replace q211 := eq_true q211
                          have p18 : 0 ≤ ((ji6) : Int) := of_decide_eq_true (by first | (with_reducible assumption) | assumption)
                          have q18 : ((ji6) : Int) < ((x3_2.length : Int) : Int) := of_decide_eq_true (by first | (with_reducible assumption) | assumption)
                          obtain ⟨go18, co18, eo18, gb18, gl18, cl18, HG18⟩ := Kd.R_form HO_3.out (by omega)
                          (first | cases eo18 | (injection eo18 with ea_ en_ ec_; (first | subst ea_ | (injection ea_ with ea_; subst ea_)); subst ec_; clear en_))
                          have GB18 := Aside0.mk gb18
                          have GG18 := Aside0.mk HG18
                          clear gb18 gl18 HG18
                          (first | simp only [add_plain] at hx206_0 | skip)
                          (first | simp only [add_plain] at hx208_0 | skip)
                          (first | simp only [add_plain] at hx210_0 | skip)
                          (first | simp only [add_plain] at hx211_0 | skip)
                          obtain ⟨hx18_0, hf18_0⟩ := Kd.R_celln 0 HO_3.out ((ji6) : Int) p18 q18
                          replace p18 := eq_true p18
                          replace q18 := eq_true q18
                          have HP25 := Kd.R_putn HO_3.out ((ji6) : Int) (rd x3_2 x5_2)
                          rw [← Ny212.out] at HP25
                          have HQ25 := Aside0.mk HP25
                          clear HP25
                          have p19 : 0 ≤ (x5_2 : Int) := of_decide_eq_true (by first | (with_reducible assumption) | assumption)
                          have q19 : (x5_2 : Int) < ((x3_2.length : Int) : Int) := of_decide_eq_true (by first | (with_reducible assumption) | assumption)
                          obtain ⟨hx19_0, hf19_0⟩ := Kd.R_celln 0 HQ25.out (x5_2 : Int) p19 q19
                          replace p19 := eq_true p19
                          replace q19 := eq_true q19
                          have HP26 := Kd.R_putn HQ25.out (x5_2 : Int) (rd x3_2 (ji6))
                          rw [← Ny213.out] at HP26
                          have HQ26 := Aside0.mk HP26
                          clear HP26
                          refine start_ (n := 18) (S := fun w' => w'.cell? ⟨go18, (x5_2).toNat, none⟩ = some (.int .i32 (rd x3_2 x5_2)) ∧ w'.cell? ⟨go18, ((ji6)).toNat, none⟩ = some (.int .i32 (rd x3_2 (ji6)))) (ds := [15, 17]) #[false, false, false, false, false, false, false, false, false, false, false, false, false, false, false, false, false, false] (by kernel_rfl) rfl rfl ⟨hx210_0, hx211_0⟩ (fun hHeld => ?_); refine with_tabW portcullisref04_Order.tab11 portcullisref04_Order.bits11 (fun HT_ HW_ => ?_)
                          generalize w23.drew = w24 at HO_3 HB GG18 HQ25 HQ26 hf18_0 hf19_0 hx18_0 hx19_0 hx206_0 hx208_0 hx210_0 hx211_0 hHeld ⊢
                          refine pure_ (i := 0) (N := some 36) (v := ?_) (a' := ?_) #[true, false, false, false, false, false, false, false, false, false, false, false, false, false, false, false, false, false] rfl rfl (any_of HT_.out (by kernel_rfl)) (fun _ _ _ h => h) (Or.inl ⟨by rfl, ?_⟩) ?_ ?_
                          rotate_left
                          · intro w'
                            go_simp
                            first | with_reducible rfl | (rw [if_neg (by (try simp only [ByteArray.size_extract] at *); omega)])
                          rotate_left
                          · simp only [Act.put, List.setIfInBounds_toArray, List.set_cons_zero, List.set_cons_succ, i64_w, i32_w]
                            rfl
                          refine pure_ (i := 1) (N := some 37) (v := ?_) (a' := ?_) #[true, true, false, false, false, false, false, false, false, false, false, false, false, false, false, false, false, false] rfl rfl (any_of HT_.out (by kernel_rfl)) (fun _ _ _ h => h) (Or.inl ⟨by rfl, ?_⟩) ?_ ?_
                          rotate_left
                          · intro w'
                            go_simp
                            first | with_reducible rfl | (rw [if_neg (by (try simp only [ByteArray.size_extract] at *); omega)])
                          rotate_left
                          · simp only [Act.put, List.setIfInBounds_toArray, List.set_cons_zero, List.set_cons_succ, i64_w, i32_w]
                            rfl
                          refine pure_ (i := 2) (N := some 38) (v := ?_) (a' := ?_) #[true, true, true, false, false, false, false, false, false, false, false, false, false, false, false, false, false, false] rfl rfl (any_of HT_.out (by kernel_rfl)) (fun _ _ _ h => h) (Or.inl ⟨by rfl, ?_⟩) ?_ ?_
                          rotate_left
                          · intro w'
                            go_simp
                            first | with_reducible rfl | (rw [if_neg (by (try simp only [ByteArray.size_extract] at *); omega)])
                          rotate_left
                          · simp only [Act.put, List.setIfInBounds_toArray, List.set_cons_zero, List.set_cons_succ, i64_w, i32_w]
                            rfl
                          refine pure_ (i := 3) (N := some 39) (v := ?_) (a' := ?_) #[true, true, true, true, false, false, false, false, false, false, false, false, false, false, false, false, false, false] rfl rfl (any_of HT_.out (by kernel_rfl)) (fun _ _ _ h => h) (Or.inl ⟨by rfl, ?_⟩) ?_ ?_
                          rotate_left
                          · intro w'
                            go_simp
                            first | with_reducible rfl | (rw [if_neg (by (try simp only [ByteArray.size_extract] at *); omega)])
                          rotate_left
                          · simp only [Act.put, List.setIfInBounds_toArray, List.set_cons_zero, List.set_cons_succ, i64_w, i32_w]
                            rfl
                          refine pure_ (i := 4) (N := some 40) (v := ?_) (a' := ?_) #[true, true, true, true, true, false, false, false, false, false, false, false, false, false, false, false, false, false] rfl rfl (any_of HT_.out (by kernel_rfl)) (fun _ _ _ h => h) (Or.inl ⟨by rfl, ?_⟩) ?_ ?_
                          rotate_left
                          · intro w'
                            go_simp
                            first | with_reducible rfl | (rw [if_neg (by (try simp only [ByteArray.size_extract] at *); omega)])
                          rotate_left
                          · simp only [Act.put, List.setIfInBounds_toArray, List.set_cons_zero, List.set_cons_succ, i64_w, i32_w]
                            rfl
                          refine pure_ (i := 5) (N := some 41) (v := ?_) (a' := ?_) #[true, true, true, true, true, true, false, false, false, false, false, false, false, false, false, false, false, false] rfl rfl (any_of HT_.out (by kernel_rfl)) (fun _ _ _ h => h) (Or.inl ⟨by rfl, ?_⟩) ?_ ?_
                          rotate_left
                          · intro w'
                            go_simp
                            first | with_reducible rfl | (rw [if_neg (by (try simp only [ByteArray.size_extract] at *); omega)])
                          rotate_left
                          · simp only [Act.put, List.setIfInBounds_toArray, List.set_cons_zero, List.set_cons_succ, i64_w, i32_w]
                            rfl
                          refine pure_ (i := 6) (N := some 42) (v := ?_) (a' := ?_) #[true, true, true, true, true, true, true, false, false, false, false, false, false, false, false, false, false, false] rfl rfl (any_of HT_.out (by kernel_rfl)) (fun _ _ _ h => h) (Or.inl ⟨by rfl, ?_⟩) ?_ ?_
                          rotate_left
                          · intro w'
                            go_simp
                            first | with_reducible rfl | (rw [if_neg (by (try simp only [ByteArray.size_extract] at *); omega)])
                          rotate_left
                          · simp only [Act.put, List.setIfInBounds_toArray, List.set_cons_zero, List.set_cons_succ, i64_w, i32_w]
                            rfl
                          refine pure_ (i := 7) (N := some 43) (v := ?_) (a' := ?_) #[true, true, true, true, true, true, true, true, false, false, false, false, false, false, false, false, false, false] rfl rfl (any_of HT_.out (by kernel_rfl)) (fun _ _ _ h => h) (Or.inl ⟨by rfl, ?_⟩) ?_ ?_
                          rotate_left
                          · intro w'
                            go_simp
                            first | with_reducible rfl | (rw [if_neg (by (try simp only [ByteArray.size_extract] at *); omega)])
                          rotate_left
                          · simp only [Act.put, List.setIfInBounds_toArray, List.set_cons_zero, List.set_cons_succ, i64_w, i32_w]
                            rfl
                          refine pure_ (i := 9) (N := some 45) (v := ?_) (a' := ?_) #[true, true, true, true, true, true, true, true, false, true, false, false, false, false, false, false, false, false] rfl rfl (any_of HT_.out (by kernel_rfl)) (fun _ _ _ h => h) (Or.inl ⟨by rfl, ?_⟩) ?_ ?_
                          rotate_left
                          · intro w'
                            go_simp
                            first | with_reducible rfl | (rw [if_neg (by (try simp only [ByteArray.size_extract] at *); omega)])
                          rotate_left
                          · simp only [Act.put, List.setIfInBounds_toArray, List.set_cons_zero, List.set_cons_succ, i64_w, i32_w]
                            rfl
                          refine pure_ (i := 10) (N := some 46) (v := ?_) (a' := ?_) #[true, true, true, true, true, true, true, true, false, true, true, false, false, false, false, false, false, false] rfl rfl (any_of HT_.out (by kernel_rfl)) (fun _ _ _ h => h) (Or.inl ⟨by rfl, ?_⟩) ?_ ?_
                          rotate_left
                          · intro w'
                            go_simp
                            first | with_reducible rfl | (rw [if_neg (by (try simp only [ByteArray.size_extract] at *); omega)])
                          rotate_left
                          · simp only [Act.put, List.setIfInBounds_toArray, List.set_cons_zero, List.set_cons_succ, i64_w, i32_w]
                            rfl
                          refine pure_ (i := 11) (N := some 47) (v := ?_) (a' := ?_) #[true, true, true, true, true, true, true, true, false, true, true, true, false, false, false, false, false, false] rfl rfl (any_of HT_.out (by kernel_rfl)) (fun _ _ _ h => h) (Or.inl ⟨by rfl, ?_⟩) ?_ ?_
                          rotate_left
                          · intro w'
                            go_simp
                            first | with_reducible rfl | (rw [if_neg (by (try simp only [ByteArray.size_extract] at *); omega)])
                          rotate_left
                          · simp only [Act.put, List.setIfInBounds_toArray, List.set_cons_zero, List.set_cons_succ, i64_w, i32_w]
                            rfl
                          refine pure_ (i := 12) (N := some 48) (v := ?_) (a' := ?_) #[true, true, true, true, true, true, true, true, false, true, true, true, true, false, false, false, false, false] rfl rfl (any_of HT_.out (by kernel_rfl)) (fun _ _ _ h => h) (Or.inl ⟨by rfl, ?_⟩) ?_ ?_
                          rotate_left
                          · intro w'
                            go_simp
                            first | with_reducible rfl | (rw [if_neg (by (try simp only [ByteArray.size_extract] at *); omega)])
                          rotate_left
                          · simp only [Act.put, List.setIfInBounds_toArray, List.set_cons_zero, List.set_cons_succ, i64_w, i32_w]
                            rfl
                          refine take_ (i := 8) (N := some 44) (v := ?_) (a' := ?_) #[true, true, true, true, true, true, true, true, true, true, true, true, true, false, false, false, false, false] rfl rfl (take_ofW HT_.out HW_.out (by kernel_rfl)) (fun _ _ _ h => h) (Or.inl ⟨by rfl, ?_⟩) hHeld ?_ ?_
                          rotate_left
                          · rintro w' ⟨s0, s1⟩
                            go_simp
                            first | with_reducible rfl | (rw [if_neg (by (try simp only [ByteArray.size_extract] at *); omega)])
                          rotate_left
                          · simp only [Act.put, List.setIfInBounds_toArray, List.set_cons_zero, List.set_cons_succ, i64_w, i32_w]
                            rfl
                          refine take_ (i := 13) (N := some 49) (v := ?_) (a' := ?_) #[true, true, true, true, true, true, true, true, true, true, true, true, true, true, false, false, false, false] rfl rfl (take_ofW HT_.out HW_.out (by kernel_rfl)) (fun _ _ _ h => h) (Or.inl ⟨by rfl, ?_⟩) hHeld ?_ ?_
                          rotate_left
                          · rintro w' ⟨s0, s1⟩
                            go_simp
                            first | with_reducible rfl | (rw [if_neg (by (try simp only [ByteArray.size_extract] at *); omega)])
                          rotate_left
                          · simp only [Act.put, List.setIfInBounds_toArray, List.set_cons_zero, List.set_cons_succ, i64_w, i32_w]
                            rfl
                          refine pure_ (i := 14) (N := some 50) (v := ?_) (a' := ?_) #[true, true, true, true, true, true, true, true, true, true, true, true, true, true, true, false, false, false] rfl rfl (any_of HT_.out (by kernel_rfl)) (fun _ _ _ h => h) (Or.inl ⟨by rfl, ?_⟩) ?_ ?_
                          rotate_left
                          · intro w'
                            go_simp
                            first | with_reducible rfl | (rw [if_neg (by (try simp only [ByteArray.size_extract] at *); omega)])
                          rotate_left
                          · simp only [Act.put, List.setIfInBounds_toArray, List.set_cons_zero, List.set_cons_succ, i64_w, i32_w]
                            rfl
                          refine last_ (i := 15) (N := none) #[true, true, true, true, true, true, true, true, true, true, true, true, true, true, true, true, false, false] rfl rfl (one_of HT_.out (by kernel_rfl)) (by decide) (fun K hK => ?_)
                          refine skip_ (w1 := ?_) (by rfl) rfl ?_ ?_
                          rotate_left
                          · go_simp
                            rfl
                          refine hK.out _ _ ?_
                          clear hK K
                          refine pure_ (i := 16) (N := some 51) (v := ?_) (a' := ?_) #[true, true, true, true, true, true, true, true, true, true, true, true, true, true, true, true, true, false] rfl rfl (any_of HT_.out (by kernel_rfl)) (fun _ _ _ h => h) (Or.inl ⟨by rfl, ?_⟩) ?_ ?_
                          rotate_left
                          · intro w'
                            go_simp
                            first | with_reducible rfl | (rw [if_neg (by (try simp only [ByteArray.size_extract] at *); omega)])
                          rotate_left
                          · simp only [Act.put, List.setIfInBounds_toArray, List.set_cons_zero, List.set_cons_succ, i64_w, i32_w]
                            rfl
                          refine last_ (i := 17) (N := none) #[true, true, true, true, true, true, true, true, true, true, true, true, true, true, true, true, true, true] rfl rfl (one_of HT_.out (by kernel_rfl)) (by decide) (fun K hK => ?_)
                          refine skip_ (w1 := ?_) (by rfl) rfl ?_ ?_
                          rotate_left
                          · go_simp
                            rfl
                          refine hK.out _ _ ?_
                          clear hK K
                          refine done_ (done_of HT_.out (by kernel_rfl)) ?_
                          try go_wp2
                          go_roundg k2
                          case measure => have := HK1.out; have := HK2.out; omega
                          case rel => exact ⟨(y213), (true), (wrap64 (x5_2 + 1)), (by first | rfl | (simp; done) | (simp [*]; done)), (by first | rfl | (simp; done) | (simp [*]; done)), H', ⟨by have := HK1.out; have := HK2.out; omega⟩, ⟨by (with_reducible repeat (first | apply Kd.R_alloc | apply Kd.R_drewN | apply Kd.R_drew)); exact HQ26.out⟩, ⟨by repeat (first | (with_reducible first | exact HB.out | apply below_alloc | apply pw_below_drewN | apply below_drew1 | refine below_set ?_ GB18.out | refine below_set ?_ GB18.out) | exact HB.out)⟩⟩
                        · rw [if_neg c17] at H
                          have c17b0 : decide (t209 < t207) = false := decide_eq_false c17
                          clear c17
                          have H' := Aside0.mk H
                          clear H
                          obtain ⟨Ao27, co27, eo27⟩ := Kd.R_slice HO_3.out
                          subst eo27
                          try go_wp2
                          have n0_ := Aside0.mk (Kd.R_drew HO_3.out)
                          have n1_ := Aside0.mk (below_drew1 HB.out)
                          clear HO_3
                          clear HB
                          have HO_3 := n0_
                          have HB := n1_
                          clear n0_ n1_
                          have p206 : 0 ≤ ((ji6) : Int) := of_decide_eq_true (by first | (with_reducible assumption) | assumption)
                          have q206 : (ji6) < (x3_2.length : Int) := of_decide_eq_true (by first | (with_reducible assumption) | assumption)
                          obtain ⟨ad206, e206, hx206_0⟩ := Kd.at_int (Kd.R_reads' HO_3.out).2.2 (ji6) p206 q206
                          cases e206
                          replace p206 := eq_true p206
                          replace q206 := eq_true q206
                          have p208 : 0 ≤ (x5_2 : Int) := of_decide_eq_true (by first | (with_reducible assumption) | assumption)
                          have q208 : x5_2 < (x3_2.length : Int) := of_decide_eq_true (by first | (with_reducible assumption) | assumption)
                          obtain ⟨ad208, e208, hx208_0⟩ := Kd.at_int (Kd.R_reads' HO_3.out).2.2 x5_2 p208 q208
                          obtain rfl : ad206 = ad208 := (by injection e208)
                          replace p208 := eq_true p208
                          replace q208 := eq_true q208
                          refine start_ (n := 13) (S := fun w' => w'.cell? (ad206.add ((ji6)).toNat) = some (.int .i32 (rd x3_2 (ji6))) ∧ w'.cell? (ad206.add (x5_2).toNat) = some (.int .i32 (rd x3_2 x5_2))) (ds := []) #[false, false, false, false, false, false, false, false, false, false, false, false, false] (by kernel_rfl) rfl rfl ⟨hx206_0, hx208_0⟩ (fun hHeld => ?_); refine with_tabW portcullisref04_Order.tab9 portcullisref04_Order.bits9 (fun HT_ HW_ => ?_)
                          generalize wr.drew = w28 at HO_3 HB hx206_0 hx208_0 hHeld ⊢
                          refine pure_ (i := 0) (N := some 18) (v := ?_) (a' := ?_) #[true, false, false, false, false, false, false, false, false, false, false, false, false] rfl rfl (any_of HT_.out (by kernel_rfl)) (fun _ _ _ h => h) (Or.inl ⟨by rfl, ?_⟩) ?_ ?_
                          rotate_left
                          · intro w'
                            go_simp
                            first | with_reducible rfl | (rw [if_neg (by (try simp only [ByteArray.size_extract] at *); omega)])
                          rotate_left
                          · simp only [Act.put, List.setIfInBounds_toArray, List.set_cons_zero, List.set_cons_succ, i64_w, i32_w]
                            rfl
                          refine pure_ (i := 1) (N := some 19) (v := ?_) (a' := ?_) #[true, true, false, false, false, false, false, false, false, false, false, false, false] rfl rfl (any_of HT_.out (by kernel_rfl)) (fun _ _ _ h => h) (Or.inl ⟨by rfl, ?_⟩) ?_ ?_
                          rotate_left
                          · intro w'
                            go_simp
                            first | with_reducible rfl | (rw [if_neg (by (try simp only [ByteArray.size_extract] at *); omega)])
                          rotate_left
                          · simp only [Act.put, List.setIfInBounds_toArray, List.set_cons_zero, List.set_cons_succ, i64_w, i32_w]
                            rfl
                          refine pure_ (i := 2) (N := some 20) (v := ?_) (a' := ?_) #[true, true, true, false, false, false, false, false, false, false, false, false, false] rfl rfl (any_of HT_.out (by kernel_rfl)) (fun _ _ _ h => h) (Or.inl ⟨by rfl, ?_⟩) ?_ ?_
                          rotate_left
                          · intro w'
                            go_simp
                            first | with_reducible rfl | (rw [if_neg (by (try simp only [ByteArray.size_extract] at *); omega)])
                          rotate_left
                          · simp only [Act.put, List.setIfInBounds_toArray, List.set_cons_zero, List.set_cons_succ, i64_w, i32_w]
                            rfl
                          refine pure_ (i := 3) (N := some 21) (v := ?_) (a' := ?_) #[true, true, true, true, false, false, false, false, false, false, false, false, false] rfl rfl (any_of HT_.out (by kernel_rfl)) (fun _ _ _ h => h) (Or.inl ⟨by rfl, ?_⟩) ?_ ?_
                          rotate_left
                          · intro w'
                            go_simp
                            first | with_reducible rfl | (rw [if_neg (by (try simp only [ByteArray.size_extract] at *); omega)])
                          rotate_left
                          · simp only [Act.put, List.setIfInBounds_toArray, List.set_cons_zero, List.set_cons_succ, i64_w, i32_w]
                            rfl
                          refine pure_ (i := 6) (N := some 24) (v := ?_) (a' := ?_) #[true, true, true, true, false, false, true, false, false, false, false, false, false] rfl rfl (any_of HT_.out (by kernel_rfl)) (fun _ _ _ h => h) (Or.inl ⟨by rfl, ?_⟩) ?_ ?_
                          rotate_left
                          · intro w'
                            go_simp
                            first | with_reducible rfl | (rw [if_neg (by (try simp only [ByteArray.size_extract] at *); omega)])
                          rotate_left
                          · simp only [Act.put, List.setIfInBounds_toArray, List.set_cons_zero, List.set_cons_succ, i64_w, i32_w]
                            rfl
                          refine pure_ (i := 7) (N := some 25) (v := ?_) (a' := ?_) #[true, true, true, true, false, false, true, true, false, false, false, false, false] rfl rfl (any_of HT_.out (by kernel_rfl)) (fun _ _ _ h => h) (Or.inl ⟨by rfl, ?_⟩) ?_ ?_
                          rotate_left
                          · intro w'
                            go_simp
                            first | with_reducible rfl | (rw [if_neg (by (try simp only [ByteArray.size_extract] at *); omega)])
                          rotate_left
                          · simp only [Act.put, List.setIfInBounds_toArray, List.set_cons_zero, List.set_cons_succ, i64_w, i32_w]
                            rfl
                          refine pure_ (i := 8) (N := some 26) (v := ?_) (a' := ?_) #[true, true, true, true, false, false, true, true, true, false, false, false, false] rfl rfl (any_of HT_.out (by kernel_rfl)) (fun _ _ _ h => h) (Or.inl ⟨by rfl, ?_⟩) ?_ ?_
                          rotate_left
                          · intro w'
                            go_simp
                            first | with_reducible rfl | (rw [if_neg (by (try simp only [ByteArray.size_extract] at *); omega)])
                          rotate_left
                          · simp only [Act.put, List.setIfInBounds_toArray, List.set_cons_zero, List.set_cons_succ, i64_w, i32_w]
                            rfl
                          refine take_ (i := 4) (N := some 22) (v := ?_) (a' := ?_) #[true, true, true, true, true, false, true, true, true, false, false, false, false] rfl rfl (take_ofW HT_.out HW_.out (by kernel_rfl)) (fun _ _ _ h => h) (Or.inl ⟨by rfl, ?_⟩) hHeld ?_ ?_
                          rotate_left
                          · rintro w' ⟨s0, s1⟩
                            go_simp
                            first | with_reducible rfl | (rw [if_neg (by (try simp only [ByteArray.size_extract] at *); omega)])
                          rotate_left
                          · simp only [Act.put, List.setIfInBounds_toArray, List.set_cons_zero, List.set_cons_succ, i64_w, i32_w]
                            rfl
                          refine take_ (i := 9) (N := some 27) (v := ?_) (a' := ?_) #[true, true, true, true, true, false, true, true, true, true, false, false, false] rfl rfl (take_ofW HT_.out HW_.out (by kernel_rfl)) (fun _ _ _ h => h) (Or.inl ⟨by rfl, ?_⟩) hHeld ?_ ?_
                          rotate_left
                          · rintro w' ⟨s0, s1⟩
                            go_simp
                            first | with_reducible rfl | (rw [if_neg (by (try simp only [ByteArray.size_extract] at *); omega)])
                          rotate_left
                          · simp only [Act.put, List.setIfInBounds_toArray, List.set_cons_zero, List.set_cons_succ, i64_w, i32_w]
                            rfl
                          refine one_ (i := 5) (N := some 23) #[true, true, true, true, true, true, true, true, true, true, false, false, false] rfl rfl (one_of HT_.out (by kernel_rfl)) (by decide) (fun K hK => ?_)
                          refine goes_ Tryd.func20 (by kernel_rfl) rfl #[.int .i32 (rd x3_2 (ji6))] (by rfl) rfl rfl (by (try simp only [List.map_toArray, List.map_cons, List.map_nil]); first | done | (simp only [hji6]; rfl) | rfl | (simp only [List.length_drop, List.length_take]; rfl)) ?_
                          with_reducible refine (portcullisref04_class.calls k2 (rd x3_2 (ji6)) t207 _ A9.out).mono ?_
                          rintro e w29 ⟨rfl, hb⟩
                          have HS0_ := (hb.cell (World.block_lt_of_cell? _ _ (hHeld.1))).trans (hHeld.1)
                          have HS1_ := (hb.cell (World.block_lt_of_cell? _ _ (hHeld.2))).trans (hHeld.2)
                          refine ⟨_, rfl, ?_⟩
                          have n0_ := Aside0.mk (Kd.R_below (by (with_reducible repeat (first | apply Kd.R_alloc | apply Kd.R_drewN | apply Kd.R_drew)); exact HO_3.out) hb)
                          have n1_ := Aside0.mk (below_step (by repeat (first | (with_reducible first | exact HB.out | apply below_alloc | apply pw_below_drewN | apply below_drew1) | exact HB.out)) hb)
                          clear HO_3
                          clear HB
                          have HO_3 := n0_
                          have HB := n1_
                          clear n0_ n1_
                          (try clear hb)
                          (try clear hb2)
                          (try clear hk)
                          (try clear hi)
                          refine hK.out _ _ ⟨HS0_, HS1_⟩ (fun hHeld => ?_)
                          clear hK K
                          refine norm_ (a' := ?_) ?_ ?_
                          rotate_left
                          · show Act.put _ (some 23) _ = _
                            simp only [Act.put, List.setIfInBounds_toArray, List.set_cons_zero, List.set_cons_succ, i64_w, i32_w]
                            rfl
                          refine one_ (i := 10) (N := some 28) #[true, true, true, true, true, true, true, true, true, true, true, false, false] rfl rfl (one_of HT_.out (by kernel_rfl)) (by decide) (fun K hK => ?_)
                          refine goes_ Tryd.func20 (by kernel_rfl) rfl #[.int .i32 (rd x3_2 x5_2)] (by rfl) rfl rfl (by (try simp only [List.map_toArray, List.map_cons, List.map_nil]); first | done | rfl | (simp only [List.length_drop, List.length_take]; rfl)) ?_
                          with_reducible refine (portcullisref04_class.calls k2 (rd x3_2 x5_2) t209 _ A11.out).mono ?_
                          rintro e w30 ⟨rfl, hb⟩
                          have HS0_ := (hb.cell (World.block_lt_of_cell? _ _ (hHeld.1))).trans (hHeld.1)
                          have HS1_ := (hb.cell (World.block_lt_of_cell? _ _ (hHeld.2))).trans (hHeld.2)
                          refine ⟨_, rfl, ?_⟩
                          have n0_ := Aside0.mk (Kd.R_below (by (with_reducible repeat (first | apply Kd.R_alloc | apply Kd.R_drewN | apply Kd.R_drew)); exact HO_3.out) hb)
                          have n1_ := Aside0.mk (below_step (by repeat (first | (with_reducible first | exact HB.out | apply below_alloc | apply pw_below_drewN | apply below_drew1) | exact HB.out)) hb)
                          clear HO_3
                          clear HB
                          have HO_3 := n0_
                          have HB := n1_
                          clear n0_ n1_
                          (try clear hb)
                          (try clear hb2)
                          (try clear hk)
                          (try clear hi)
                          refine hK.out _ _ ⟨HS0_, HS1_⟩ (fun hHeld => ?_)
                          clear hK K
                          refine norm_ (a' := ?_) ?_ ?_
                          rotate_left
                          · show Act.put _ (some 28) _ = _
                            simp only [Act.put, List.setIfInBounds_toArray, List.set_cons_zero, List.set_cons_succ, i64_w, i32_w]
                            rfl
                          refine pure_ (i := 11) (N := some 6) (v := ?_) (a' := ?_) #[true, true, true, true, true, true, true, true, true, true, true, true, false] rfl rfl (any_of HT_.out (by kernel_rfl)) (fun _ _ _ h => h) (Or.inl ⟨by rfl, ?_⟩) ?_ ?_
                          rotate_left
                          · intro w'
                            go_simp
                            first | with_reducible rfl | (rw [if_neg (by (try simp only [ByteArray.size_extract] at *); omega)])
                          rotate_left
                          · simp only [Act.put, List.setIfInBounds_toArray, List.set_cons_zero, List.set_cons_succ, i64_w, i32_w]
                            rfl
                          refine pure_ (i := 12) (N := some 7) (v := ?_) (a' := ?_) #[true, true, true, true, true, true, true, true, true, true, true, true, true] rfl rfl (any_of HT_.out (by kernel_rfl)) (fun _ _ _ h => h) (Or.inl ⟨by rfl, ?_⟩) ?_ ?_
                          rotate_left
                          · intro w'
                            go_simp
                            first | with_reducible rfl | (rw [if_neg (by (try simp only [ByteArray.size_extract] at *); omega)])
                          rotate_left
                          · simp only [Act.put, List.setIfInBounds_toArray, List.set_cons_zero, List.set_cons_succ, i64_w, i32_w]
                            rfl
                          refine done_ (done_of HT_.out (by kernel_rfl)) ?_
                          try go_wp2
                          go_roundg k2
                          case measure => have := HK1.out; have := HK2.out; omega
                          case rel => exact ⟨(x3_2), (x4_2), (wrap64 (x5_2 + 1)), (by first | rfl | (simp; done) | (simp [*]; done)), (by first | rfl | (simp; done) | (simp [*]; done)), H', ⟨by have := HK1.out; have := HK2.out; omega⟩, ⟨by (with_reducible repeat (first | apply Kd.R_alloc | apply Kd.R_drewN | apply Kd.R_drew)); exact HO_3.out⟩, ⟨by repeat (first | (with_reducible first | exact HB.out | apply below_alloc | apply pw_below_drewN | apply below_drew1) | exact HB.out)⟩⟩
                    · rw [if_neg c10] at H
                      exact absurd H (by simp)
                  · rw [if_neg c8] at H
                    exact absurd H (by simp)
                · rw [if_neg c7] at H
                  exact absurd H (by simp)
              · rw [if_neg c5] at H
                have c5b0 : decide (x5_2 < (x3_2.length : Int)) = false := decide_eq_false c5
                clear c5
                have H' := Aside0.mk H
                clear H
                obtain ⟨Ao31, co31, eo31⟩ := Kd.R_slice HO_3.out
                subst eo31
                go_wp2
                go_roundg k2
                case measure => have := HK1.out; have := HK2.out; omega
                case rel => exact ⟨(x3_2), (x4_2), (by first | rfl | (simp; done) | (simp [*]; done)), H', ⟨by have := HK1.out; have := HK2.out; omega⟩, ⟨by (with_reducible repeat (first | apply Kd.R_alloc | apply Kd.R_drewN | apply Kd.R_drew)); exact HO_3.out⟩, ⟨by repeat (first | (with_reducible first | exact HB.out | apply below_alloc | apply pw_below_drewN | apply below_drew1) | exact HB.out)⟩⟩
        · replace c4 := Bool.eq_false_iff.mpr c4
          subst c4
          have H1 : (some x3_1) = some r := by rw [if_neg (show ¬ (false = true) by decide)] at H; exact H
          clear H
          have H := H1
          clear H1
          obtain rfl := Option.some.inj H
          go_wp2
          go_ret
          exact ⟨_, by first | rfl | (simp [errW_none, errW_some] <;> rfl) | (simp [*, errW_none, errW_some] <;> rfl), by (with_reducible repeat (first | apply Kd.R_alloc | apply Kd.R_drewN | apply Kd.R_drew)); exact HO_3.out, by repeat (first | (with_reducible first | exact HB.out | apply below_alloc | apply pw_below_drewN | apply below_drew1) | exact HB.out)⟩
  · rw [if_neg c2] at H
    exact absurd H (by simp)

end Go.Proofs.YtanpephfnjnfoaaDoor.Pr
end
