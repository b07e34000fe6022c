/- Merged texts of this session: Walks of ival's small functions: what may be an extent, whether one of a row is, whether two meet, a copy of a row. Walks of ival: whether two extents meet; a copy of a row; rows behind each other. Walks of ival: rows of extents behind each other. Walks of wbuf's small functions: a copy of bytes, whether one of a row of writes is such, whether a block is written twice. What a buffer of writes is in memory: its box, its map, the rows of bytes behind the map; what is read of it, and what a write leaves of it. Walks of a buffer's making, of what is read of it, and of whether a block is written twice. -/
import Derived.Test.YtbebihphodafiaaProg
import Derived.Below
import Derived.Deep.Draws
import Derived.Deep.AppendLies
import Derived.Maps.AppendAt
import Derived.OwnWalk
import Derived.Laws.BytesArg
import Derived.Laws.MakeOwn
import Derived.Laws.OwnMore
import Derived.Deep.OwnRows
import Derived.Tactics
import Derived.Lib.ConvBytes
import Derived.Laws.Slices
import Derived.WalkKit
import Derived.KernelRfl
import Derived.RowKit3
import Derived.Deep.LoopGhost
import Derived.Deep.QuietTactic
import Derived.BigQuiet
import Derived.WideLaws
import Derived.Deep.DeepCutAuto
import Derived.Deep.CutBlock
import Derived.Deep.RegionHeld3
import Derived.Laws.Rows
import Derived.Lib.AppendStr
import Derived.ArgAppend
import Derived.Laws.IdiomCopy
import Derived.OrdersHeld
import Derived.Laws.BitsLemmas
import Derived.RowKit
import Derived.Test.YtbebihphodafiaaWWords
import Derived.Test.YtbebihphodafiaaWLast
import Derived.Test.YtbebihphodafiaaWTab
import Derived.Test.YtbebihphodafiaaWFour
import Derived.Test.YtbebihphodafiaaWQPut
import Derived.Test.YtbebihphodafiaaWApart
import Derived.Test.YtbebihphodafiaaWArr
import Derived.Test.YtbebihphodafiaaWZeros
import Derived.Test.YtbebihphodafiaaWFoot
import Derived.Test.YtbebihphodafiaaWKept
import Derived.Test.YtbebihphodafiaaWShare
import Derived.Test.YtbebihphodafiaaWN
import Derived.Test.YtbebihphodafiaaWFootNe
import Derived.Test.YtbebihphodafiaaWAt
import Derived.Test.YtbebihphodafiaaWEqStruct
import Derived.Test.YtbebihphodafiaaWRepsOne
import Derived.Test.YtbebihphodafiaaWInv
import Derived.Test.YtbebihphodafiaaWInvWords
import Derived.Test.YtbebihphodafiaaWGuard
import Derived.Test.YtbebihphodafiaaWNEv
import Derived.Test.YtbebihphodafiaaWMore
import Derived.Outline
import Derived.Lib.Hide
import Derived.Deep.DeepMust
import Derived.Lib.Builder
import Derived.Shelf.Abstract
import Derived.Lib.AppendZerosOnto
import Derived.Lib.SliceRun
import Derived.Maps.Own
import Derived.Maps.OwnOps
import Derived.Maps.OwnSet
import Derived.Maps.Views
import Derived.Maps.Ext
import Derived.IntWalk
namespace Go.Proofs.Ytbebihphodafiaa.PWb
open Go.RowKit Go.Proofs.YtbebihphodafiaaW.PrintWords Go.Proofs.YtbebihphodafiaaW.PrintLast Go.Proofs.YtbebihphodafiaaW.PrintMore
attribute [local go_sem] max2_int min2_int max_two min_two max_three min_three max_four min_four   -- for this text's walks alone
set_option linter.unusedVariables false
set_option linter.unusedSimpArgs false



def errW : Option Int → Value
  | none => .nilIface
  | some c => .iface 0 (.int .i64 c)
theorem errW_none : errW none = .nilIface := rfl
theorem errW_some (c : Int) : errW (some c) = .iface 0 (.int .i64 c) := rfl

theorem info3 : (Try.prog.info? 3).map (fun i => (i.zero, i.size, i.bytes)) = some (some (.int .i64 0), 1, 8) := by kernel_rfl
theorem info5 : (Try.prog.info? 5).map (fun i => (i.zero, i.size, i.bytes)) = some (some (.int .u8 0), 1, 1) := by kernel_rfl
theorem info60 : (Try.prog.info? 60).map (fun i => (i.zero, i.size, i.bytes)) = some (some (.agg #[(.int .i64 0), (.int .i64 0)]), 2, 16) := by kernel_rfl
-- the values' own types
def rd_L2 (xs : List (List Int)) (i : Int) : (List Int) := xs.getD i.toNat ([] : List Int)
theorem at_L2 {w : World} {A : Option Addr} {n : Nat} {xs : List (List Int)} (h : Kd.C (Kd.slice 5 (Kd.int .u8)) w A n xs) (i : Int) (h0 : 0 ≤ i) (h1 : i < n) : ∃ ad A0 c0, A = some ad ∧ w.cell? (ad.add i.toNat) = some (.slice A0 (rd_L2 xs i).length c0) ∧ (rd_L2 xs i).length ≤ c0 ∧ (Kd.int .u8).C w A0 (rd_L2 xs i).length (rd_L2 xs i) := by
  obtain ⟨ad, c, e, _, hK, hc0⟩ := Kd.C_get h ([] : List Int) i h0 h1
  have hc : ∀ j u, c[j]? = some u → w.cell? (ad.add (i.toNat * 1 + j)) = some u := hc0
  obtain ⟨A0, c0, rfl, l0, g0⟩ := hK
  exact ⟨ad, A0, c0, e, by have hq := hc 0 _ rfl; rwa [Nat.mul_one, Nat.add_zero] at hq, l0, g0⟩

/-! #### struct type 31 -/
structure S31 where
  f0 : Int
  f1 : (List Int)
def z31 : S31 := ⟨(0 : Int), ([] : List Int)⟩
def k31 : Kd S31 := Kd.iso (Kd.pair (Kd.int .i64) (Kd.slice 5 (Kd.int .u8))) (fun x : S31 => (x.f0, x.f1))
theorem k31_open {w : World} {x : S31} {cs : List Value} (h : k31.K w x cs) : ∃ A1 c1, cs = [.int .i64 x.f0, .slice A1 x.f1.length c1] ∧ x.f1.length ≤ c1 ∧ (Kd.int .u8).C w A1 x.f1.length x.f1 := by
  obtain ⟨_, _, rfl, rfl, ⟨A1, c1, rfl, l1, g1⟩⟩ := h
  exact ⟨A1, c1, rfl, l1, g1⟩
theorem k31_openM {w : World} {base : Nat} {ok : Nat → Prop} {x : S31} {cs : List Value} (h : k31.M w base ok x cs) : ∃ v1, cs = [.int .i64 x.f0, v1] ∧ (Kd.int .u8).R 5 w base ok v1 x.f1 := by
  obtain ⟨_, _, rfl, rfl, ⟨v1, rfl, g1⟩⟩ := h
  exact ⟨v1, rfl, g1⟩
theorem k31_mk (w : World) (x : S31) {A1 : Option Addr} {c1 : Nat} (l1 : x.f1.length ≤ c1) (g1 : (Kd.int .u8).C w A1 x.f1.length x.f1) : k31.K w x [.int .i64 x.f0, .slice A1 x.f1.length c1] := ⟨[.int .i64 x.f0], [.slice A1 x.f1.length c1], rfl, rfl, ⟨A1, c1, rfl, l1, g1⟩⟩
theorem k31_mkM (w : World) (base : Nat) (ok : Nat → Prop) (x : S31) {v1 : Value} (g1 : (Kd.int .u8).R 5 w base ok v1 x.f1) : k31.M w base ok x [.int .i64 x.f0, v1] := ⟨[.int .i64 x.f0], [v1], rfl, rfl, ⟨v1, rfl, g1⟩⟩
def rd_T31 (xs : List S31) (i : Int) : S31 := xs.getD i.toNat z31
theorem at_T31 {w : World} {A : Option Addr} {n : Nat} {xs : List S31} (h : Kd.C k31 w A n xs) (i : Int) (h0 : 0 ≤ i) (h1 : i < n) : ∃ ad A1 c1, A = some ad ∧ w.cell? (ad.add (i.toNat * 2)) = some (.int .i64 (rd_T31 xs i).f0) ∧ w.cell? ⟨(ad.add (i.toNat * 2)).block, (ad.add (i.toNat * 2)).off + 1, none⟩ = some (.slice A1 (rd_T31 xs i).f1.length c1) ∧ (rd_T31 xs i).f1.length ≤ c1 ∧ (Kd.int .u8).C w A1 (rd_T31 xs i).f1.length (rd_T31 xs i).f1 := by
  obtain ⟨ad, c, e, _, hK, hc0⟩ := Kd.C_get h z31 i h0 h1
  have hc : ∀ j u, c[j]? = some u → w.cell? (ad.add (i.toNat * 2 + j)) = some u := hc0
  obtain ⟨A1, c1, rfl, l1, g1⟩ := k31_open hK
  exact ⟨ad, A1, c1, e, hc 0 _ rfl, by rw [← add_field _ _ 1 (by omega)]; exact hc 1 _ rfl, l1, g1⟩

def rd_L4 (xs : List (List S31)) (i : Int) : (List S31) := xs.getD i.toNat ([] : List S31)
theorem at_L4 {w : World} {A : Option Addr} {n : Nat} {xs : List (List S31)} (h : Kd.C (Kd.slice 31 k31) w A n xs) (i : Int) (h0 : 0 ≤ i) (h1 : i < n) : ∃ ad A0 c0, A = some ad ∧ w.cell? (ad.add i.toNat) = some (.slice A0 (rd_L4 xs i).length c0) ∧ (rd_L4 xs i).length ≤ c0 ∧ k31.C w A0 (rd_L4 xs i).length (rd_L4 xs i) := by
  obtain ⟨ad, c, e, _, hK, hc0⟩ := Kd.C_get h ([] : List S31) i h0 h1
  have hc : ∀ j u, c[j]? = some u → w.cell? (ad.add (i.toNat * 1 + j)) = some u := hc0
  obtain ⟨A0, c0, rfl, l0, g0⟩ := hK
  exact ⟨ad, A0, c0, e, by have hq := hc 0 _ rfl; rwa [Nat.mul_one, Nat.add_zero] at hq, l0, g0⟩

/-! #### struct type 60 -/
structure S60 where
  f0 : Int
  f1 : Int
def z60 : S60 := ⟨(0 : Int), (0 : Int)⟩
def k60 : Kd S60 := Kd.iso (Kd.pair (Kd.int .i64) (Kd.int .i64)) (fun x : S60 => (x.f0, x.f1))
theorem k60_open {w : World} {x : S60} {cs : List Value} (h : k60.K w x cs) : cs = [.int .i64 x.f0, .int .i64 x.f1] := by
  obtain ⟨_, _, rfl, rfl, rfl⟩ := h
  exact rfl
theorem k60_openM {w : World} {base : Nat} {ok : Nat → Prop} {x : S60} {cs : List Value} (h : k60.M w base ok x cs) : cs = [.int .i64 x.f0, .int .i64 x.f1] := by
  obtain ⟨_, _, rfl, rfl, rfl⟩ := h
  exact rfl
theorem k60_mk (w : World) (x : S60)  : k60.K w x [.int .i64 x.f0, .int .i64 x.f1] := ⟨[.int .i64 x.f0], [.int .i64 x.f1], rfl, rfl, rfl⟩
theorem k60_mkM (w : World) (base : Nat) (ok : Nat → Prop) (x : S60)  : k60.M w base ok x [.int .i64 x.f0, .int .i64 x.f1] := ⟨[.int .i64 x.f0], [.int .i64 x.f1], rfl, rfl, rfl⟩
def rd_T60 (xs : List S60) (i : Int) : S60 := xs.getD i.toNat z60
theorem at_T60 {w : World} {A : Option Addr} {n : Nat} {xs : List S60} (h : Kd.C k60 w A n xs) (i : Int) (h0 : 0 ≤ i) (h1 : i < n) : ∃ ad , A = some ad ∧ w.cell? (ad.add (i.toNat * 2)) = some (.int .i64 (rd_T60 xs i).f0) ∧ w.cell? ⟨(ad.add (i.toNat * 2)).block, (ad.add (i.toNat * 2)).off + 1, none⟩ = some (.int .i64 (rd_T60 xs i).f1) := by
  obtain ⟨ad, c, e, _, hK, hc0⟩ := Kd.C_get h z60 i h0 h1
  have hc : ∀ j u, c[j]? = some u → w.cell? (ad.add (i.toNat * 2 + j)) = some u := hc0
  obtain rfl := k60_open hK
  exact ⟨ad, e, hc 0 _ rfl, by rw [← add_field _ _ 1 (by omega)]; exact hc 1 _ rfl⟩

def rd_L6 (xs : List (List S60)) (i : Int) : (List S60) := xs.getD i.toNat ([] : List S60)
theorem at_L6 {w : World} {A : Option Addr} {n : Nat} {xs : List (List S60)} (h : Kd.C (Kd.slice 60 k60) w A n xs) (i : Int) (h0 : 0 ≤ i) (h1 : i < n) : ∃ ad A0 c0, A = some ad ∧ w.cell? (ad.add i.toNat) = some (.slice A0 (rd_L6 xs i).length c0) ∧ (rd_L6 xs i).length ≤ c0 ∧ k60.C w A0 (rd_L6 xs i).length (rd_L6 xs i) := by
  obtain ⟨ad, c, e, _, hK, hc0⟩ := Kd.C_get h ([] : List S60) i h0 h1
  have hc : ∀ j u, c[j]? = some u → w.cell? (ad.add (i.toNat * 1 + j)) = some u := hc0
  obtain ⟨A0, c0, rfl, l0, g0⟩ := hK
  exact ⟨ad, A0, c0, e, by have hq := hc 0 _ rfl; rwa [Nat.mul_one, Nat.add_zero] at hq, l0, g0⟩

/-! #### struct type 65 -/
structure S65 where
  f0 : Int
  f1 : S60
  f2 : (List S31)
  f3 : Int
def z65 : S65 := ⟨(0 : Int), z60, ([] : List S31), (0 : Int)⟩
def k65 : Kd S65 := Kd.iso (Kd.pair (Kd.int .i64) (Kd.pair k60 (Kd.pair (Kd.slice 31 k31) (Kd.int .i64)))) (fun x : S65 => (x.f0, x.f1, x.f2, x.f3))
theorem k65_open {w : World} {x : S65} {cs : List Value} (h : k65.K w x cs) : ∃ A3 c3, cs = [.int .i64 x.f0, .int .i64 x.f1.f0, .int .i64 x.f1.f1, .slice A3 x.f2.length c3, .int .i64 x.f3] ∧ x.f2.length ≤ c3 ∧ k31.C w A3 x.f2.length x.f2 := by
  obtain ⟨_, _, rfl, rfl, ⟨_, _, rfl, s1, ⟨_, _, rfl, ⟨A3, c3, rfl, l3, g3⟩, rfl⟩⟩⟩ := h
  obtain rfl := k60_open s1
  exact ⟨A3, c3, rfl, l3, g3⟩
theorem k65_openM {w : World} {base : Nat} {ok : Nat → Prop} {x : S65} {cs : List Value} (h : k65.M w base ok x cs) : ∃ v3, cs = [.int .i64 x.f0, .int .i64 x.f1.f0, .int .i64 x.f1.f1, v3, .int .i64 x.f3] ∧ k31.R 31 w base ok v3 x.f2 := by
  obtain ⟨_, _, rfl, rfl, ⟨_, _, rfl, s1, ⟨_, _, rfl, ⟨v3, rfl, g3⟩, rfl⟩⟩⟩ := h
  obtain rfl := k60_openM s1
  exact ⟨v3, rfl, g3⟩
theorem k65_mk (w : World) (x : S65) {A3 : Option Addr} {c3 : Nat} (l3 : x.f2.length ≤ c3) (g3 : k31.C w A3 x.f2.length x.f2) : k65.K w x [.int .i64 x.f0, .int .i64 x.f1.f0, .int .i64 x.f1.f1, .slice A3 x.f2.length c3, .int .i64 x.f3] := ⟨[.int .i64 x.f0], [.int .i64 x.f1.f0, .int .i64 x.f1.f1, .slice A3 x.f2.length c3, .int .i64 x.f3], rfl, rfl, ⟨[.int .i64 x.f1.f0, .int .i64 x.f1.f1], [.slice A3 x.f2.length c3, .int .i64 x.f3], rfl, (k60_mk w x.f1 ), ⟨[.slice A3 x.f2.length c3], [.int .i64 x.f3], rfl, ⟨A3, c3, rfl, l3, g3⟩, rfl⟩⟩⟩
theorem k65_mkM (w : World) (base : Nat) (ok : Nat → Prop) (x : S65) {v3 : Value} (g3 : k31.R 31 w base ok v3 x.f2) : k65.M w base ok x [.int .i64 x.f0, .int .i64 x.f1.f0, .int .i64 x.f1.f1, v3, .int .i64 x.f3] := ⟨[.int .i64 x.f0], [.int .i64 x.f1.f0, .int .i64 x.f1.f1, v3, .int .i64 x.f3], rfl, rfl, ⟨[.int .i64 x.f1.f0, .int .i64 x.f1.f1], [v3, .int .i64 x.f3], rfl, (k60_mkM w base ok x.f1 ), ⟨[v3], [.int .i64 x.f3], rfl, ⟨v3, rfl, g3⟩, rfl⟩⟩⟩
def rd_T65 (xs : List S65) (i : Int) : S65 := xs.getD i.toNat z65
theorem at_T65 {w : World} {A : Option Addr} {n : Nat} {xs : List S65} (h : Kd.C k65 w A n xs) (i : Int) (h0 : 0 ≤ i) (h1 : i < n) : ∃ ad A3 c3, A = some ad ∧ w.cell? (ad.add (i.toNat * 5)) = some (.int .i64 (rd_T65 xs i).f0) ∧ w.cell? ⟨(ad.add (i.toNat * 5)).block, (ad.add (i.toNat * 5)).off + 1, none⟩ = some (.int .i64 (rd_T65 xs i).f1.f0) ∧ w.cell? ⟨(ad.add (i.toNat * 5)).block, (ad.add (i.toNat * 5)).off + 2, none⟩ = some (.int .i64 (rd_T65 xs i).f1.f1) ∧ w.cell? ⟨(ad.add (i.toNat * 5)).block, (ad.add (i.toNat * 5)).off + 3, none⟩ = some (.slice A3 (rd_T65 xs i).f2.length c3) ∧ w.cell? ⟨(ad.add (i.toNat * 5)).block, (ad.add (i.toNat * 5)).off + 4, none⟩ = some (.int .i64 (rd_T65 xs i).f3) ∧ (rd_T65 xs i).f2.length ≤ c3 ∧ k31.C w A3 (rd_T65 xs i).f2.length (rd_T65 xs i).f2 := by
  obtain ⟨ad, c, e, _, hK, hc0⟩ := Kd.C_get h z65 i h0 h1
  have hc : ∀ j u, c[j]? = some u → w.cell? (ad.add (i.toNat * 5 + j)) = some u := hc0
  obtain ⟨A3, c3, rfl, l3, g3⟩ := k65_open hK
  exact ⟨ad, A3, c3, e, hc 0 _ rfl, by rw [← add_field _ _ 1 (by omega)]; exact hc 1 _ rfl, by rw [← add_field _ _ 2 (by omega)]; exact hc 2 _ rfl, by rw [← add_field _ _ 3 (by omega)]; exact hc 3 _ rfl, by rw [← add_field _ _ 4 (by omega)]; exact hc 4 _ rfl, l3, g3⟩

/-! #### struct type 134 -/
structure S134 where
  f0 : Int
  f1 : Int
  f2 : (List Int)
def z134 : S134 := ⟨(0 : Int), (0 : Int), ([] : List Int)⟩
def k134 : Kd S134 := Kd.iso (Kd.pair (Kd.int .i64) (Kd.pair (Kd.int .i64) (Kd.slice 5 (Kd.int .u8)))) (fun x : S134 => (x.f0, x.f1, x.f2))
theorem k134_open {w : World} {x : S134} {cs : List Value} (h : k134.K w x cs) : ∃ A2 c2, cs = [.int .i64 x.f0, .int .i64 x.f1, .slice A2 x.f2.length c2] ∧ x.f2.length ≤ c2 ∧ (Kd.int .u8).C w A2 x.f2.length x.f2 := by
  obtain ⟨_, _, rfl, rfl, ⟨_, _, rfl, rfl, ⟨A2, c2, rfl, l2, g2⟩⟩⟩ := h
  exact ⟨A2, c2, rfl, l2, g2⟩
theorem k134_openM {w : World} {base : Nat} {ok : Nat → Prop} {x : S134} {cs : List Value} (h : k134.M w base ok x cs) : ∃ v2, cs = [.int .i64 x.f0, .int .i64 x.f1, v2] ∧ (Kd.int .u8).R 5 w base ok v2 x.f2 := by
  obtain ⟨_, _, rfl, rfl, ⟨_, _, rfl, rfl, ⟨v2, rfl, g2⟩⟩⟩ := h
  exact ⟨v2, rfl, g2⟩
theorem k134_mk (w : World) (x : S134) {A2 : Option Addr} {c2 : Nat} (l2 : x.f2.length ≤ c2) (g2 : (Kd.int .u8).C w A2 x.f2.length x.f2) : k134.K w x [.int .i64 x.f0, .int .i64 x.f1, .slice A2 x.f2.length c2] := ⟨[.int .i64 x.f0], [.int .i64 x.f1, .slice A2 x.f2.length c2], rfl, rfl, ⟨[.int .i64 x.f1], [.slice A2 x.f2.length c2], rfl, rfl, ⟨A2, c2, rfl, l2, g2⟩⟩⟩
theorem k134_mkM (w : World) (base : Nat) (ok : Nat → Prop) (x : S134) {v2 : Value} (g2 : (Kd.int .u8).R 5 w base ok v2 x.f2) : k134.M w base ok x [.int .i64 x.f0, .int .i64 x.f1, v2] := ⟨[.int .i64 x.f0], [.int .i64 x.f1, v2], rfl, rfl, ⟨[.int .i64 x.f1], [v2], rfl, rfl, ⟨v2, rfl, g2⟩⟩⟩
def rd_T134 (xs : List S134) (i : Int) : S134 := xs.getD i.toNat z134
theorem at_T134 {w : World} {A : Option Addr} {n : Nat} {xs : List S134} (h : Kd.C k134 w A n xs) (i : Int) (h0 : 0 ≤ i) (h1 : i < n) : ∃ ad A2 c2, A = some ad ∧ w.cell? (ad.add (i.toNat * 3)) = some (.int .i64 (rd_T134 xs i).f0) ∧ w.cell? ⟨(ad.add (i.toNat * 3)).block, (ad.add (i.toNat * 3)).off + 1, none⟩ = some (.int .i64 (rd_T134 xs i).f1) ∧ w.cell? ⟨(ad.add (i.toNat * 3)).block, (ad.add (i.toNat * 3)).off + 2, none⟩ = some (.slice A2 (rd_T134 xs i).f2.length c2) ∧ (rd_T134 xs i).f2.length ≤ c2 ∧ (Kd.int .u8).C w A2 (rd_T134 xs i).f2.length (rd_T134 xs i).f2 := by
  obtain ⟨ad, c, e, _, hK, hc0⟩ := Kd.C_get h z134 i h0 h1
  have hc : ∀ j u, c[j]? = some u → w.cell? (ad.add (i.toNat * 3 + j)) = some u := hc0
  obtain ⟨A2, c2, rfl, l2, g2⟩ := k134_open hK
  exact ⟨ad, A2, c2, e, hc 0 _ rfl, by rw [← add_field _ _ 1 (by omega)]; exact hc 1 _ rfl, by rw [← add_field _ _ 2 (by omega)]; exact hc 2 _ rfl, l2, g2⟩

end Go.Proofs.Ytbebihphodafiaa.PWb

namespace Go.Proofs.Ytbebihphodafiaa.PWb
open Go.RowKit Go.Proofs.YtbebihphodafiaaW.PrintWords Go.Proofs.YtbebihphodafiaaW.PrintLast Go.Proofs.YtbebihphodafiaaW.PrintMore
attribute [local go_sem] max2_int min2_int max_two min_two max_three min_three max_four min_four   -- for this text's walks alone
set_option linter.unusedVariables false
set_option linter.unusedSimpArgs false

theorem eqA60 (d : Nat) (w : World) (x0 y0 : Int) (x1 y1 : Int) :
    (Op.equalIn (d + 2) 60 (.agg #[.int .i64 x0, .int .i64 x1]) (.agg #[.int .i64 y0, .int .i64 y1])).run Try.prog w = .ok (x0 == y0 && (x1 == y1)) w := by
  refine eqA_of Try.underlying60 (by kernel_rfl) ?_
  refine eqf_cons (by rfl) (by go_simp; rfl) (by go_simp; rfl) (by go_simp) ?_
  exact eqf_last (by rfl) (by go_simp; rfl) (by go_simp; rfl) (by go_simp)
end Go.Proofs.Ytbebihphodafiaa.PWb

namespace Go.Proofs.Ytbebihphodafiaa.PWb
open Go.RowKit Go.Proofs.YtbebihphodafiaaW.PrintWords Go.Proofs.YtbebihphodafiaaW.PrintLast Go.Proofs.YtbebihphodafiaaW.PrintMore
attribute [local go_sem] max2_int min2_int max_two min_two max_three min_three max_four min_four   -- for this text's walks alone
set_option linter.unusedVariables false
set_option linter.unusedSimpArgs false

attribute [local go_sem high] eqA60
/-- A state of type 137 at block g of W; what its slices lead to came in by w0. -/
def IsS41 (w0 W : World) (g : Nat) (f0 : Int) (f1 : List (S60)) : Prop := ∃ A1 c1, W.heap[g]? = some (.cells #[.int .i64 f0, .slice A1 f1.length c1] 137 (0, 0)) ∧ w0.heap.size ≤ g ∧ Kd.C k60 w0 A1 f1.length f1
theorem IsS41.grown {w0 W : World} {g : Nat} {f0 : Int} {f1 : List (S60)} {W1 : World} {row : Option Nat} (h : IsS41 w0 W g f0 f1) (hw : W.grownBy W1 row) (hne : some g ≠ row) : IsS41 w0 W1 g f0 f1 := by
  obtain ⟨A1, c1, hb, hg, hr1⟩ := h
  exact ⟨A1, c1, blk_grown hb hw hne, hg, hr1⟩
theorem IsS41.own_neN {w0 W : World} {g : Nat} {f0 : Int} {f1 : List (S60)} {α : Type} {d : Kd α} {e : Nat} {base : Nat} {ok : Nat → Prop} {v : Value} {xs : List α} (h : IsS41 w0 W g f0 f1) (ho : Kd.N d e W base ok v xs) (ht : e ≠ 137) : some g ≠ v.ownBlock := by
  obtain ⟨A1, c1, hb, hg, hr1⟩ := h
  exact Kd.N_ne ho hb ht
theorem IsS41.fresh {w0 W : World} {g : Nat} {f0 : Int} {f1 : List (S60)} (h : IsS41 w0 W g f0 f1) : ∀ k, W.heap.size ≤ k → k ≠ g := by
  obtain ⟨A1, c1, hb, hg, hr1⟩ := h
  exact Kd.freshB hb
theorem IsS41.kept {w0 W : World} {g : Nat} {f0 : Int} {f1 : List (S60)} {W1 : World} {S : Nat → Prop} (h : IsS41 w0 W g f0 f1) (hk : Kept W W1 S) (hne : ¬ S g) : IsS41 w0 W1 g f0 f1 := by
  obtain ⟨A1, c1, hb, hg, hr1⟩ := h
  exact ⟨A1, c1, blk_kept hb hk hne, hg, hr1⟩
theorem IsS41.below {w0 W : World} {g : Nat} {f0 : Int} {f1 : List (S60)} {W1 : World} (h : IsS41 w0 W g f0 f1) (hw : Below W.heap.size W W1) : IsS41 w0 W1 g f0 f1 := h.grown (grown_of_below hw none) (by simp)
theorem IsS41.alloc {w0 W : World} {g : Nat} {f0 : Int} {f1 : List (S60)} (h : IsS41 w0 W g f0 f1) (o : Obj) : IsS41 w0 (W.alloc o) g f0 f1 := h.below (below_alloc (Below.refl _ _) o)
theorem IsS41.drewN {w0 W : World} {g : Nat} {f0 : Int} {f1 : List (S60)} (h : IsS41 w0 W g f0 f1) (m : Nat) : IsS41 w0 (W.drewN m) g f0 f1 := h
theorem IsS41.drew {w0 W : World} {g : Nat} {f0 : Int} {f1 : List (S60)} (h : IsS41 w0 W g f0 f1) : IsS41 w0 W.drew g f0 f1 := h
theorem IsS41.at_ {w0 W : World} {g : Nat} {f0 : Int} {f1 : List (S60)} {w' : World} {m : Nat} (hq : W.drewN m = w') (h : IsS41 w0 W g f0 f1) : IsS41 w0 w' g f0 f1 := by subst hq; exact IsS41.drewN h m
theorem IsS41.apart {w0 W : World} {g : Nat} {f0 : Int} {f1 : List (S60)} {α : Type} {d : Kd α} {e : Nat} {base : Nat} {ok : Nat → Prop} {v : Value} {xs : List α} (h : IsS41 w0 W g f0 f1) (ho : d.R e W base ok v xs) (ht : ∀ q, q ∈ e :: d.E → q ≠ 137) : d.R e W base (fun k => ok k ∧ k ≠ g) v xs := by
  obtain ⟨A1, c1, hb, hg, hr1⟩ := h
  exact Kd.R_types ho hb ht
theorem IsS41.own_ne {w0 W : World} {g : Nat} {f0 : Int} {f1 : List (S60)} {α : Type} {d : Kd α} {e : Nat} {base : Nat} {ok : Nat → Prop} {v : Value} {xs : List α} (h : IsS41 w0 W g f0 f1) (ho : d.R e W base ok v xs) (ht : e ≠ 137) : some g ≠ v.ownBlock := by
  obtain ⟨A1, c1, hb, hg, hr1⟩ := h
  exact Kd.R_ne ho hb ht
theorem IsS41.apartQ {w0 W : World} {g : Nat} {f0 : Int} {f1 : List (S60)} {α : Type} {d : Kd α} {e : Nat} {base : Nat} {ok : Nat → Prop} {v : Value} {xs : List α} (h : IsS41 w0 W g f0 f1) (ho : d.Q e W base ok v xs) (ht : ∀ q, q ∈ e :: d.E → q ≠ 137) : d.Q e W base (fun k => ok k ∧ k ≠ g) v xs := by
  obtain ⟨A1, c1, hb, hg, hr1⟩ := h
  exact Kd.Q_types ho hb ht
theorem IsS41.own_neQ {w0 W : World} {g : Nat} {f0 : Int} {f1 : List (S60)} {α : Type} {d : Kd α} {e : Nat} {base : Nat} {ok : Nat → Prop} {v : Value} {xs : List α} (h : IsS41 w0 W g f0 f1) (ho : d.Q e W base ok v xs) (ht : e ≠ 137) : some g ≠ v.ownBlock := by
  obtain ⟨A1, c1, hb, hg, hr1⟩ := h
  exact Kd.Q_ne ho hb ht
theorem IsS41.apartS {w0 W : World} {g : Nat} {f0 : Int} {f1 : List (S60)} {α : Type} {d : Kd α} {e : Nat} {base : Nat} {ok : Nat → Prop} {v : Value} {xs : List α} (h : IsS41 w0 W g f0 f1) (ho : d.S e W base ok v xs) (ht : ∀ q, q ∈ e :: d.E → q ≠ 137) : d.S e W base (fun k => ok k ∧ k ≠ g) v xs := by
  obtain ⟨A1, c1, hb, hg, hr1⟩ := h
  exact Kd.S_types ho hb ht
theorem IsS41.own_neS {w0 W : World} {g : Nat} {f0 : Int} {f1 : List (S60)} {α : Type} {d : Kd α} {e : Nat} {base : Nat} {ok : Nat → Prop} {v : Value} {xs : List α} (h : IsS41 w0 W g f0 f1) (ho : d.S e W base ok v xs) (ht : e ≠ 137) : some g ≠ v.ownBlock := by
  obtain ⟨A1, c1, hb, hg, hr1⟩ := h
  exact Kd.S_ne ho hb ht
theorem IsS41.lt {w0 W : World} {g : Nat} {f0 : Int} {f1 : List (S60)} (h : IsS41 w0 W g f0 f1) : g < W.heap.size := by
  obtain ⟨A1, c1, hb, hg, hr1⟩ := h
  exact blk_lt hb
theorem IsS41.ge {w0 W : World} {g : Nat} {f0 : Int} {f1 : List (S60)} (h : IsS41 w0 W g f0 f1) : w0.heap.size ≤ g := by
  obtain ⟨A1, c1, hb, hg, hr1⟩ := h
  exact hg
theorem IsS41.ne_blk {w0 W : World} {g : Nat} {f0 : Int} {f1 : List (S60)} {a : Nat} {cs : Array Value} {t : TypeId} {fr : Nat × Nat} (h : IsS41 w0 W g f0 f1) (hb2 : W.heap[a]? = some (.cells cs t fr)) (ht : t ≠ 137) : g ≠ a := by
  obtain ⟨A1, c1, hb, hg, hr1⟩ := h
  rintro rfl
  rw [hb] at hb2
  injection hb2 with hb2
  injection hb2 with _ ht2
  exact ht ht2.symm
theorem IsS41.far {w0 W : World} {g : Nat} {f0 : Int} {f1 : List (S60)} {p : Addr} (h : IsS41 w0 W g f0 f1) (hne : g ≠ p.block) (u : Value) : IsS41 w0 (W.setCell p u) g f0 f1 := by
  obtain ⟨A1, c1, hb, hg, hr1⟩ := h
  exact ⟨A1, c1, blk_far hb hne u, hg, hr1⟩
theorem cellS41_0 {W : World} {g : Nat} {A1 : Option Addr} {c1 : Nat} {f0 : Int} {f1 : List (S60)} (h : W.heap[g]? = some (.cells #[.int .i64 f0, .slice A1 f1.length c1] 137 (0, 0))) : W.cell? ⟨g, 0, none⟩ = some (.int .i64 f0) := (blk_cell h 0).trans rfl
theorem IsS41.set_0 {w0 W : World} {g : Nat} {f0 : Int} {f1 : List (S60)} (h : IsS41 w0 W g f0 f1) (x : Int) : IsS41 w0 (W.setCell ⟨g, 0, none⟩ (.int .i64 x)) g x f1 := by
  obtain ⟨A1, c1, hb, hg, hr1⟩ := h
  exact ⟨A1, c1, by simpa using blk_set hb 0 (.int .i64 x), hg, hr1⟩
theorem cellS41_1 {W : World} {g : Nat} {A1 : Option Addr} {c1 : Nat} {f0 : Int} {f1 : List (S60)} (h : W.heap[g]? = some (.cells #[.int .i64 f0, .slice A1 f1.length c1] 137 (0, 0))) : W.cell? ⟨g, 1, none⟩ = some (.slice A1 f1.length c1) := (blk_cell h 1).trans rfl
theorem IsS41.new (w0 W : World) (A1 : Option Addr) (c1 : Nat) (f0 : Int) (f1 : List (S60)) (hB : Below w0.heap.size w0 W) (hr1 : Kd.C k60 w0 A1 f1.length f1) : IsS41 w0 (W.alloc (.cells #[.int .i64 f0, .slice A1 f1.length c1] 137)) W.heap.size f0 f1 := ⟨A1, c1, by simpa using heap_alloc_new W _, hB.size, hr1⟩

/-! ### ival_may: function 83 -/
def ival_may.f (a0_0 : Int) (a0_1 : Int) : Option (Bool) := if a0_0 ≥ 0 then (if a0_0 ≤ 1048576 then (if a0_1 ≥ 1 then (if a0_1 ≤ 1048576 then (some (decide ((wrap64 (a0_0 + a0_1)) ≤ 1048577))) else (some false)) else (some false)) else (some false)) else (some false)
set_option maxHeartbeats 8000000 in
set_option maxRecDepth 100000 in
theorem ival_may.calls (a0_0 : Int) (a0_1 : Int) (r : Bool) (w : World) (h : ival_may.f a0_0 a0_1 = some r) :
    Calls Try.prog 85 #[.agg #[.int .i64 a0_0, .int .i64 a0_1]] w fun e w' => e = .returned (.bool r) ∧ Below w.heap.size w w' := by
  have hu28 := Try.underlying60
  have HB := Aside0.mk (Below.refl w.heap.size w)
  have H : (if a0_0 ≥ 0 then (if a0_0 ≤ 1048576 then (if a0_1 ≥ 1 then (if a0_1 ≤ 1048576 then (some (decide ((wrap64 (a0_0 + a0_1)) ≤ 1048577))) else (some false)) else (some false)) else (some false)) else (some false)) = some r := h
  clear h
  by_cases c2 : a0_0 ≥ 0
  · rw [if_pos c2] at H
    have c2b0 : decide (0 ≤ a0_0) = true := decide_eq_true c2
    clear c2
    by_cases c3 : a0_0 ≤ 1048576
    · rw [if_pos c3] at H
      have c3b0 : decide (a0_0 ≤ 1048576) = true := decide_eq_true c3
      clear c3
      by_cases c4 : a0_1 ≥ 1
      · rw [if_pos c4] at H
        have c4b0 : decide (1 ≤ a0_1) = true := decide_eq_true c4
        clear c4
        by_cases c5 : a0_1 ≤ 1048576
        · rw [if_pos c5] at H
          have c5b0 : decide (a0_1 ≤ 1048576) = true := decide_eq_true c5
          clear c5
          obtain rfl := Option.some.inj H
          go_enter Try.func85, Try.ntmps85
          go_wp2_with (first | ((with_reducible refine gate_dst (N := 1) rfl ?_); refine box_event ?hg (N := 1) ?hd (cs := #[.int .i64 a0_0, .int .i64 a0_1]) (t := 60) ?hr ?_; (case hd => rfl); (case hg => rfl); (case hr => first | (go_simp; done) | (go_simp; rfl)); intro gb113 hg w6 hbox hb; have n0_ := Aside0.mk (below_step (by repeat (first | (with_reducible first | exact HB.out | apply below_alloc | apply pw_below_drewN | apply below_drew1) | exact HB.out)) hb); have n1_ := Aside0.mk (hbox); have n2_ := Aside0.mk ((by rw [hg]; exact (below_size (by repeat (first | (with_reducible first | exact HB.out | apply below_alloc | apply pw_below_drewN | apply below_drew1) | exact HB.out))) : w.heap.size ≤ gb113)); have n3_ := Aside0.mk ((by rw [hg]; exact (below_size (by repeat (first | (with_reducible first | exact HB.out | apply below_alloc | apply pw_below_drewN | apply below_drew1) | exact HB.out))) : w.heap.size ≤ gb113)); clear HB; have HB := n0_; have BK113 := n1_; have GW113 := n2_; have GE113 := n3_; clear n0_ n1_ n2_ n3_; clear hb hbox hg; have hcz7_0 : w6.cell? ⟨gb113, 0, none⟩ = some (.int .i64 a0_0) := (blk_cell BK113.out 0).trans rfl; have hcz7_1 : w6.cell? ⟨gb113, 1, none⟩ = some (.int .i64 a0_1) := (blk_cell BK113.out 1).trans rfl; have hfz7_0 := blk_frozen BK113.out 0; have hfz7_1 := blk_frozen BK113.out 1))
          go_ret
          exact ⟨by first | rfl | (simp [errW_none, errW_some] <;> rfl) | (simp [*, errW_none, errW_some] <;> rfl), by repeat (first | (with_reducible first | exact HB.out | apply below_alloc | apply pw_below_drewN | apply below_drew1 | refine below_set ?_ GE113.out) | exact HB.out)⟩
        · rw [if_neg c5] at H
          have c5b0 : decide (a0_1 ≤ 1048576) = false := decide_eq_false c5
          clear c5
          obtain rfl := Option.some.inj H
          go_enter Try.func85, Try.ntmps85
          go_wp2_with (first | ((with_reducible refine gate_dst (N := 1) rfl ?_); refine box_event ?hg (N := 1) ?hd (cs := #[.int .i64 a0_0, .int .i64 a0_1]) (t := 60) ?hr ?_; (case hd => rfl); (case hg => rfl); (case hr => first | (go_simp; done) | (go_simp; rfl)); intro gb113 hg w8 hbox hb; have n0_ := Aside0.mk (below_step (by repeat (first | (with_reducible first | exact HB.out | apply below_alloc | apply pw_below_drewN | apply below_drew1) | exact HB.out)) hb); have n1_ := Aside0.mk (hbox); have n2_ := Aside0.mk ((by rw [hg]; exact (below_size (by repeat (first | (with_reducible first | exact HB.out | apply below_alloc | apply pw_below_drewN | apply below_drew1) | exact HB.out))) : w.heap.size ≤ gb113)); have n3_ := Aside0.mk ((by rw [hg]; exact (below_size (by repeat (first | (with_reducible first | exact HB.out | apply below_alloc | apply pw_below_drewN | apply below_drew1) | exact HB.out))) : w.heap.size ≤ gb113)); clear HB; have HB := n0_; have BK113 := n1_; have GW113 := n2_; have GE113 := n3_; clear n0_ n1_ n2_ n3_; clear hb hbox hg; have hcz9_0 : w8.cell? ⟨gb113, 0, none⟩ = some (.int .i64 a0_0) := (blk_cell BK113.out 0).trans rfl; have hcz9_1 : w8.cell? ⟨gb113, 1, none⟩ = some (.int .i64 a0_1) := (blk_cell BK113.out 1).trans rfl; have hfz9_0 := blk_frozen BK113.out 0; have hfz9_1 := blk_frozen BK113.out 1))
          go_ret
          exact ⟨by first | rfl | (simp [errW_none, errW_some] <;> rfl) | (simp [*, errW_none, errW_some] <;> rfl), by repeat (first | (with_reducible first | exact HB.out | apply below_alloc | apply pw_below_drewN | apply below_drew1 | refine below_set ?_ GE113.out) | exact HB.out)⟩
      · rw [if_neg c4] at H
        have c4b0 : decide (1 ≤ a0_1) = false := decide_eq_false c4
        clear c4
        obtain rfl := Option.some.inj H
        go_enter Try.func85, Try.ntmps85
        go_wp2_with (first | ((with_reducible refine gate_dst (N := 1) rfl ?_); refine box_event ?hg (N := 1) ?hd (cs := #[.int .i64 a0_0, .int .i64 a0_1]) (t := 60) ?hr ?_; (case hd => rfl); (case hg => rfl); (case hr => first | (go_simp; done) | (go_simp; rfl)); intro gb113 hg w10 hbox hb; have n0_ := Aside0.mk (below_step (by repeat (first | (with_reducible first | exact HB.out | apply below_alloc | apply pw_below_drewN | apply below_drew1) | exact HB.out)) hb); have n1_ := Aside0.mk (hbox); have n2_ := Aside0.mk ((by rw [hg]; exact (below_size (by repeat (first | (with_reducible first | exact HB.out | apply below_alloc | apply pw_below_drewN | apply below_drew1) | exact HB.out))) : w.heap.size ≤ gb113)); have n3_ := Aside0.mk ((by rw [hg]; exact (below_size (by repeat (first | (with_reducible first | exact HB.out | apply below_alloc | apply pw_below_drewN | apply below_drew1) | exact HB.out))) : w.heap.size ≤ gb113)); clear HB; have HB := n0_; have BK113 := n1_; have GW113 := n2_; have GE113 := n3_; clear n0_ n1_ n2_ n3_; clear hb hbox hg; have hcz11_0 : w10.cell? ⟨gb113, 0, none⟩ = some (.int .i64 a0_0) := (blk_cell BK113.out 0).trans rfl; have hcz11_1 : w10.cell? ⟨gb113, 1, none⟩ = some (.int .i64 a0_1) := (blk_cell BK113.out 1).trans rfl; have hfz11_0 := blk_frozen BK113.out 0; have hfz11_1 := blk_frozen BK113.out 1))
        go_ret
        exact ⟨by first | rfl | (simp [errW_none, errW_some] <;> rfl) | (simp [*, errW_none, errW_some] <;> rfl), by repeat (first | (with_reducible first | exact HB.out | apply below_alloc | apply pw_below_drewN | apply below_drew1 | refine below_set ?_ GE113.out) | exact HB.out)⟩
    · rw [if_neg c3] at H
      have c3b0 : decide (a0_0 ≤ 1048576) = false := decide_eq_false c3
      clear c3
      obtain rfl := Option.some.inj H
      go_enter Try.func85, Try.ntmps85
      go_wp2_with (first | ((with_reducible refine gate_dst (N := 1) rfl ?_); refine box_event ?hg (N := 1) ?hd (cs := #[.int .i64 a0_0, .int .i64 a0_1]) (t := 60) ?hr ?_; (case hd => rfl); (case hg => rfl); (case hr => first | (go_simp; done) | (go_simp; rfl)); intro gb113 hg w12 hbox hb; have n0_ := Aside0.mk (below_step (by repeat (first | (with_reducible first | exact HB.out | apply below_alloc | apply pw_below_drewN | apply below_drew1) | exact HB.out)) hb); have n1_ := Aside0.mk (hbox); have n2_ := Aside0.mk ((by rw [hg]; exact (below_size (by repeat (first | (with_reducible first | exact HB.out | apply below_alloc | apply pw_below_drewN | apply below_drew1) | exact HB.out))) : w.heap.size ≤ gb113)); have n3_ := Aside0.mk ((by rw [hg]; exact (below_size (by repeat (first | (with_reducible first | exact HB.out | apply below_alloc | apply pw_below_drewN | apply below_drew1) | exact HB.out))) : w.heap.size ≤ gb113)); clear HB; have HB := n0_; have BK113 := n1_; have GW113 := n2_; have GE113 := n3_; clear n0_ n1_ n2_ n3_; clear hb hbox hg; have hcz13_0 : w12.cell? ⟨gb113, 0, none⟩ = some (.int .i64 a0_0) := (blk_cell BK113.out 0).trans rfl; have hcz13_1 : w12.cell? ⟨gb113, 1, none⟩ = some (.int .i64 a0_1) := (blk_cell BK113.out 1).trans rfl; have hfz13_0 := blk_frozen BK113.out 0; have hfz13_1 := blk_frozen BK113.out 1))
      go_ret
      exact ⟨by first | rfl | (simp [errW_none, errW_some] <;> rfl) | (simp [*, errW_none, errW_some] <;> rfl), by repeat (first | (with_reducible first | exact HB.out | apply below_alloc | apply pw_below_drewN | apply below_drew1 | refine below_set ?_ GE113.out) | exact HB.out)⟩
  · rw [if_neg c2] at H
    have c2b0 : decide (0 ≤ a0_0) = false := decide_eq_false c2
    clear c2
    obtain rfl := Option.some.inj H
    go_enter Try.func85, Try.ntmps85
    go_wp2_with (first | ((with_reducible refine gate_dst (N := 1) rfl ?_); refine box_event ?hg (N := 1) ?hd (cs := #[.int .i64 a0_0, .int .i64 a0_1]) (t := 60) ?hr ?_; (case hd => rfl); (case hg => rfl); (case hr => first | (go_simp; done) | (go_simp; rfl)); intro gb113 hg w14 hbox hb; have n0_ := Aside0.mk (below_step (by repeat (first | (with_reducible first | exact HB.out | apply below_alloc | apply pw_below_drewN | apply below_drew1) | exact HB.out)) hb); have n1_ := Aside0.mk (hbox); have n2_ := Aside0.mk ((by rw [hg]; exact (below_size (by repeat (first | (with_reducible first | exact HB.out | apply below_alloc | apply pw_below_drewN | apply below_drew1) | exact HB.out))) : w.heap.size ≤ gb113)); have n3_ := Aside0.mk ((by rw [hg]; exact (below_size (by repeat (first | (with_reducible first | exact HB.out | apply below_alloc | apply pw_below_drewN | apply below_drew1) | exact HB.out))) : w.heap.size ≤ gb113)); clear HB; have HB := n0_; have BK113 := n1_; have GW113 := n2_; have GE113 := n3_; clear n0_ n1_ n2_ n3_; clear hb hbox hg; have hcz15_0 : w14.cell? ⟨gb113, 0, none⟩ = some (.int .i64 a0_0) := (blk_cell BK113.out 0).trans rfl; have hcz15_1 : w14.cell? ⟨gb113, 1, none⟩ = some (.int .i64 a0_1) := (blk_cell BK113.out 1).trans rfl; have hfz15_0 := blk_frozen BK113.out 0; have hfz15_1 := blk_frozen BK113.out 1))
    go_ret
    exact ⟨by first | rfl | (simp [errW_none, errW_some] <;> rfl) | (simp [*, errW_none, errW_some] <;> rfl), by repeat (first | (with_reducible first | exact HB.out | apply below_alloc | apply pw_below_drewN | apply below_drew1 | refine below_set ?_ GE113.out) | exact HB.out)⟩






end Go.Proofs.Ytbebihphodafiaa.PWb

namespace Go.Proofs.Ytbebihphodafiaa.Iv
open Go.RowKit Go.Proofs.YtbebihphodafiaaW.PrintWords Go.Proofs.YtbebihphodafiaaW.PrintLast Go.Proofs.YtbebihphodafiaaW.PrintMore Go.Proofs.Ytbebihphodafiaa.PWb
set_option linter.unusedVariables false
set_option linter.unusedSimpArgs false

def ag (x : S60) : Value := .agg #[.int .i64 x.f0, .int .i64 x.f1]
def mayB (x : S60) : Bool := decide (0 ≤ x.f0) && decide (x.f0 ≤ 1048576) && decide (1 ≤ x.f1) && decide (x.f1 ≤ 1048576) && decide (x.f0 + x.f1 ≤ 1048577)
theorem mayB_iff (x : S60) : mayB x = true ↔ 0 ≤ x.f0 ∧ x.f0 ≤ 1048576 ∧ 1 ≤ x.f1 ∧ x.f1 ≤ 1048576 ∧ x.f0 + x.f1 ≤ 1048577 := by
  simp [mayB, and_assoc]
theorem may_f (x : S60) : ival_may.f x.f0 x.f1 = some (mayB x) := by
  unfold ival_may.f mayB
  by_cases h0 : 0 ≤ x.f0 <;> by_cases h1 : x.f0 ≤ 1048576 <;> by_cases h2 : 1 ≤ x.f1 <;> by_cases h3 : x.f1 ≤ 1048576 <;> simp [h0, h1, h2, h3]
  have : wrap64 (x.f0 + x.f1) = x.f0 + x.f1 := by unfold wrap64; omega
  rw [this]
theorem may_calls (x : S60) (w : World) : Calls Try.prog 85 #[ag x] w fun e w' => e = .returned (.bool (mayB x)) ∧ Below w.heap.size w w' :=
  ival_may.calls x.f0 x.f1 (mayB x) w (may_f x)
set_option maxHeartbeats 1000000 in
theorem notMay_calls (x : S60) (w : World) : Calls Try.prog 84 #[ag x] w fun e w' => e = .returned (.bool (!mayB x)) ∧ Below w.heap.size w w' := by
  show Calls Try.prog 84 #[.agg #[.int .i64 x.f0, .int .i64 x.f1]] w _
  have hm := fun W => may_calls x W
  unfold ag at hm
  generalize mayB x = m at hm ⊢
  go_enter Try.func84, Try.ntmps84
  go_wp2_with (go_at_call 85; refine (hm _).mono ?_; rintro e w' ⟨rfl, hb⟩)
  go_ret
  exact ⟨rfl, below_step (below_alloc (Below.refl _ _) _) hb⟩
/-- What is asked of a function that is handed over. -/
def Tells (g : Nat) (lb : Array Value) (p : S60 → Bool) (l : List S60) (w : World) : Prop :=
  ∀ W x, x ∈ l → Below w.heap.size w W → Calls Try.prog g (#[ag x] ++ lb) W fun e w' => e = .returned (.bool (p x)) ∧ Below w.heap.size w w'
set_option maxHeartbeats 4000000 in
theorem idx_calls (g : Nat) (lb : Array Value) (p : S60 → Bool) (eg : ∀ args w, (callFunc g args).run Try.prog w = .ok (.enter g args) w) (A : Option Addr) (c : Nat) (l : List S60) (w : World) (hr : Kd.C k60 w A l.length l) (hl : l.length ≤ 9223372036854775807) (hp : Tells g lb p l w) :
    Calls Try.prog 101 #[.slice A l.length c, .func (.func g) #[] lb] w fun e w' => ∃ i : Int, e = .returned (.int .i64 i) ∧ (decide (0 ≤ i)) = l.any p ∧ Below w.heap.size w w' := by
  have HR := Lib.hid (fun w' (h : Below w.heap.size w w') => Kd.C_below hr h)
  have HP := Lib.hid hp
  clear hr hp
  go_enter Try.func101, Try.ntmps101
  go_wp2
  go_loopw [5, 8] (fun _ i wr => ∃ k : Nat, k ≤ l.length ∧ i = .int .i64 k ∧ Aside0 (Below w.heap.size w wr ∧ (l.take k).any p = false)) (fun _ i _ => l.length - (intOf i).toNat)
  case atStart => exact ⟨0, Nat.zero_le _, rfl, ⟨Below.refl _ _, by simp⟩⟩
  case round =>
    obtain ⟨k, hk, rfl, HB⟩ := hrel
    by_cases hlt : k < l.length
    · obtain ⟨ad, rfl, c0, c1⟩ := at_T60 (HR.out _ HB.out.1) (k : Int) (by omega) (by omega)
      simp only [Int.toNat_natCast] at c0 c1
      obtain ⟨q, hq⟩ : ∃ q, q = rd_T60 l (k : Int) := ⟨_, rfl⟩
      rw [← hq] at c0 c1
      have hqe : q = l[k] := by rw [hq]; simp [rd_T60, List.getD_eq_getElem?_getD, List.getElem?_eq_getElem hlt]
      have hc := HP.out wr q (by rw [hqe]; exact List.getElem_mem hlt) HB.out.1
      unfold ag at hc
      have HT := Lib.hid (show (l.take (k + 1)).any p = ((l.take k).any p || p q) by
        rw [List.take_succ_eq_append_getElem hlt, List.any_append, hqe]; simp)
      have HM := Lib.hid (show p q = true → l.any p = true from fun h => List.any_eq_true.2 ⟨q, by rw [hqe]; exact List.getElem_mem hlt, h⟩)
      clear hq hqe
      have b2 : (k : Int) < (l.length : Int) := by omega
      have c0' := c0
      have c1' := c1
      cases hpq : p q with
      | true =>
        rw [hpq] at hc
        go_wp2_with (go_at_fn g; refine hc.mono ?_; rintro e w' ⟨rfl, hb'⟩)
        try rw [Exit.noGoto_ret]
        go_ret
        exact ⟨_, rfl, by rw [HM.out hpq]; simp, hb'⟩
      | false =>
        rw [hpq] at hc
        go_wp2_with (go_at_fn g; refine hc.mono ?_; rintro e w' ⟨rfl, hb'⟩)
        go_roundw
        case rel => exact ⟨k + 1, by omega, by go_num, ⟨hb', by rw [HT.out, HB.out.2, hpq]; rfl⟩⟩
        case measure => simp [intOf]; omega
    · obtain rfl : k = l.length := by omega
      have hF : l.take l.length = l := List.take_length
      rw [hF] at HB
      have b2 : ¬ (l.length : Int) < (l.length : Int) := by omega
      clear hF
      go_wp2
      try rw [Exit.noGoto_ret]
      go_ret
      exact ⟨_, rfl, by rw [HB.out.2]; rfl, HB.out.1⟩
set_option maxHeartbeats 1000000 in
theorem contains_calls (g : Nat) (lb : Array Value) (p : S60 → Bool) (eg : ∀ args w, (callFunc g args).run Try.prog w = .ok (.enter g args) w) (A : Option Addr) (c : Nat) (l : List S60) (w : World) (hr : Kd.C k60 w A l.length l) (hl : l.length ≤ 9223372036854775807) (hp : Tells g lb p l w) :
    Calls Try.prog 83 #[.slice A l.length c, .func (.func g) #[] lb] w fun e w' => e = .returned (.bool (l.any p)) ∧ Below w.heap.size w w' := by
  have hc := idx_calls g lb p eg A c l w hr hl hp
  clear hr hp
  generalize l.any p = b at hc ⊢
  go_enter Try.func83, Try.ntmps83
  go_wp2_with (go_at_call 101; refine hc.mono ?_; rintro e w' ⟨i, rfl, hi, hb⟩)
  go_ret
  refine ⟨?_, hb⟩
  rw [← hi]
  rfl
set_option maxHeartbeats 1000000 in
theorem all_calls (A : Option Addr) (c : Nat) (l : List S60) (w : World) (hr : Kd.C k60 w A l.length l) (hl : l.length ≤ 9223372036854775807) :
    Calls Try.prog 73 #[.slice A l.length c] w fun e w' => e = .returned (.bool (l.all mayB)) ∧ Below w.heap.size w w' := by
  have hc := contains_calls 84 #[] (fun x => !mayB x) (enters_of Try.func84 (by kernel_rfl) rfl) A c l w hr hl (fun W x _ hb => (notMay_calls x W).mono fun e w' ⟨he, h⟩ => ⟨he, below_step hb h⟩)
  have he : l.all mayB = !(l.any fun x => !mayB x) := by rw [List.not_any_eq_all_not]; simp
  rw [he]
  clear hr he
  generalize (l.any fun x => !mayB x) = b at hc ⊢
  go_enter Try.func73, Try.ntmps73
  go_wp2_with (go_at_call 83; refine hc.mono ?_; rintro e w' ⟨rfl, hb⟩)
  go_ret
  exact ⟨rfl, hb⟩
end Go.Proofs.Ytbebihphodafiaa.Iv

namespace Go.Proofs.Ytbebihphodafiaa.Iv
open Go.RowKit Go.Proofs.YtbebihphodafiaaW.PrintWords Go.Proofs.YtbebihphodafiaaW.PrintLast Go.Proofs.YtbebihphodafiaaW.PrintMore Go.Proofs.Ytbebihphodafiaa.PWb
set_option linter.unusedVariables false
set_option linter.unusedSimpArgs false

def Okx (x : S60) : Prop := 0 ≤ x.f0 ∧ 1 ≤ x.f1 ∧ x.f0 + x.f1 ≤ 1048577
theorem Okx.of_may {x : S60} (h : mayB x = true) : Okx x := by
  have := (mayB_iff x).1 h
  exact ⟨this.1, this.2.2.1, this.2.2.2.2⟩
def meetB (a b : S60) : Bool := decide (a.f0 < b.f0 + b.f1) && decide (b.f0 < a.f0 + a.f1)
theorem info60 : (Try.prog.info? 60).map (fun i => (i.zero, i.size, i.bytes)) = some (some (.agg #[.int .i64 0, .int .i64 0]), 2, 16) := by kernel_rfl
/-- A row with room, of nothing yet. -/
theorem R_room (w : World) (base G : Nat) (cells : Array Value) (hb : base ≤ w.heap.size) (hs : cells.size = G * 2) (hm : G ≤ maxLen) :
    Kd.R k60 60 (w.alloc (.cells cells 60)) base (fun _ => True) (.slice (some ⟨w.heap.size, 0, none⟩) 0 G) [] :=
  ⟨fun _ _ => trivial, [], ⟨rfl, .inr ⟨w.heap.size, G, cells, rfl, hb, Deep.blk_alloc_new _ _, Nat.zero_le _, hm, hs, by simp⟩⟩, Reps.none _ _⟩
theorem K_M {w W : World} {base : Nat} {ok : Nat → Prop} {x : S60} {cs : List Value} (h : k60.K w x cs) : k60.M W base ok x cs := by
  obtain rfl := k60_open h
  exact k60_mkM W base ok x
section
variable {P : Program} {ops : Array Oper} {rest : List Oper} {o : Oper} {a : Act} {Q : Exit → Act → World → Prop}
/-- append(v, x...), rows of extents. -/
theorem app_rows {w0 W : World} (base : Nat) (hgd : o.guard = none) (s x : Operand) 
    (ho : o.op = .call { callee := .builtin .append, args := #[s, x], argTypes := #[83, 83] })
    (v : Value) (xs ys : List S60) (A : Option Addr) (m c : Nat) (hs : a.eval s = v) (hx : a.eval x = .slice A m c)
    (HO : Kd.R k60 60 W base (fun _ => True) v xs) (HR : Kd.C k60 W A m ys)
    (HB : Below base w0 W) (hbase : base ≤ W.heap.size) (hl : (xs.length + m) * 16 ≤ 140737488355328)
    (h : ∀ v1 w1, Kd.R k60 60 w1 base (fun _ => True) v1 (xs ++ ys) → Below base w0 w1 → W.grownBy w1 v.ownBlock → wpList Try.prog ops Q rest (a.put o.dst v1) w1) :
    wpList Try.prog ops Q (o :: rest) a W :=
  Kd.R_append_rows k60 (Rr := k60.K W) base hgd s x 83 60 (.agg #[.int .i64 0, .int .i64 0]) 16 ho Try.underlying83 info60 rfl (by decide) (by decide) v xs ys A m c (fun _ => True) (fun k => some k ≠ v.ownBlock) hs hx HO HR (fun _ _ h => K_M h) (fun _ h => ⟨trivial, h⟩) (fun _ _ => trivial) HB hbase hl (fun v1 w1 h1 h2 h3 _ => h v1 w1 h1 h2 h3)
end
set_option maxHeartbeats 1000000 in
theorem clone_calls (A : Option Addr) (c : Nat) (l : List S60) (w : World) (hr : Kd.C k60 w A l.length l) (hl : l.length * 16 ≤ 140737488355328) :
    Calls Try.prog 66 #[.slice A l.length c] w fun e w' => ∃ v, e = .returned v ∧ Below w.heap.size w w' ∧ Kd.R k60 60 w' w.heap.size (fun _ => True) v l := by
  cases A with
  | none =>
    have h0 : l = [] := by
      rcases l with _ | ⟨x, l⟩
      · rfl
      · obtain ⟨ad, he, _⟩ := at_T60 hr 0 (by simp) (by simp)
        cases he
    subst h0
    clear hr
    have hq := fun W : World => Lib.run_eql_slice_nil (P := Try.prog) W 83 60 none 0 c 0 0 Try.underlying83
    go_enter Try.func66, Try.ntmps66
    go_wp2
    go_ret
    exact ⟨_, rfl, Below.refl _ _, Kd.R_nil _ _ _ _ _⟩
  | some ad =>
    have HR := Lib.hid hr
    clear hr
    have hq := fun W : World => Lib.run_eql_slice_nil (P := Try.prog) W 83 60 (some ad) l.length c 0 0 Try.underlying83
    go_enter Try.func66, Try.ntmps66
    go_wp2_with ((with_reducible refine gate_builtin (b := .append) (xs := #[.tmp 5, .tmp 6]) rfl ?_); at_builtin; go_must (refine app_rows (w0 := w) w.heap.size rfl (.tmp 5) (.tmp 6) rfl (.slice (some ⟨w.heap.size, 0, none⟩) 0 0) [] l (some ad) l.length c rfl rfl (R_room w w.heap.size 0 #[] (Nat.le_refl _) rfl (by decide)) (Kd.C_alloc HR.out _) (below_alloc (Below.refl _ _) _) (by simp) (by simpa using hl) ?_; intro v w1 h1 h2 h3))
    go_ret
    exact ⟨_, rfl, h2, h1⟩
end Go.Proofs.Ytbebihphodafiaa.Iv

namespace Go.Proofs.Ytbebihphodafiaa.Iv
open Go.RowKit Go.Proofs.YtbebihphodafiaaW.PrintWords Go.Proofs.YtbebihphodafiaaW.PrintLast Go.Proofs.YtbebihphodafiaaW.PrintMore Go.Proofs.Ytbebihphodafiaa.PWb
set_option linter.unusedVariables false
set_option linter.unusedSimpArgs false

set_option maxHeartbeats 1000000 in
theorem grow_calls (n : Nat) (w : World) (hn : n * 16 ≤ 140737488355328) :
    Calls Try.prog 89 #[.slice none 0 0, .int .i64 n] w fun e w' => ∃ v, e = .returned v ∧ Below w.heap.size w w' ∧ Kd.R k60 60 w' w.heap.size (fun _ => True) v [] := by
  have d0 : decide ((n : Int) < 0) = false := by simp <;> omega
  have b0 : ¬ ((n : Int) < 0) := by omega
  by_cases h0 : n = 0
  · subst h0
    go_enter Try.func89, Try.ntmps89
    go_wp2
    go_ret
    exact ⟨_, rfl, Below.refl _ _, Kd.R_nil _ _ _ _ _⟩
  · obtain ⟨i0, hi0, hz⟩ := Option.map_eq_some_iff.1 info60
    simp only [Prod.mk.injEq] at hz
    obtain ⟨hz0, hz1, hz2⟩ := hz
    have h1 : (n : Int) > 0 := by omega
    have d1 : decide ((0 : Int) < n) = true := by simp <;> omega
    have w1 : wrap64 ((n : Int) - 0) = (n : Int) := by unfold wrap64; omega
    have hrz : ∀ ty, (Builtin.append_ #[83, 3] ty #[.slice none 0 0, .int .i64 (n : Int)]).run Try.prog w = .ok (.slice (some ⟨w.heap.size, 0, none⟩) n (grownCap w n 0 60)) (w.drew.alloc (.cells (Builtin.zeroCells #[.int .i64 0, .int .i64 0] n ++ Builtin.zeroCells #[.int .i64 0, .int .i64 0] (grownCap w n 0 60 - n)) 60)) := fun ty => by
      have h := Lib.run_append_grow_zeros w 83 3 ty 60 i0 (.agg #[.int .i64 0, .int .i64 0]) .i64 .i64 Try.underlying83 Try.underlying3 hi0 hz0 none 0 0 [] (run_firstCells_none w.drew i0.size 0 0 0) n (by omega) (by omega) (by omega) (by omega) (by rw [hz2]; omega) (by rw [hz2]; exact growslice_fits (by omega) (by omega))
      simpa [Value.cells] using h
    have hGn : n ≤ grownCap w n 0 60 := grownCap_ge w _ _ _
    have hG63 := grownCap_le_maxLen w n 0 60 (by unfold maxLen; omega)
    obtain ⟨G, hG⟩ : ∃ G, G = grownCap w n 0 60 := ⟨_, rfl⟩
    rw [← hG] at hrz hGn hG63
    have hz28 : ∀ W, (Go.sizeOf 60).run Try.prog W = .ok 2 W := Try.sizeOf60
    have hG9 : G ≤ 9223372036854775807 := by unfold maxLen at hG63; omega
    have hrow : Kd.R k60 60 (w.drew.alloc (.cells (Builtin.zeroCells #[.int .i64 0, .int .i64 0] n ++ Builtin.zeroCells #[.int .i64 0, .int .i64 0] (G - n)) 60)) w.heap.size (fun _ => True) (.slice (some ⟨w.heap.size, 0, none⟩) 0 G) [] :=
      R_room w.drew w.heap.size G _ (Nat.le_refl _) (by simp [Builtin.zeroCells]; omega) hG63
    have HROW := Lib.hid hrow
    obtain ⟨cs, hcs⟩ : ∃ cs, cs = Builtin.zeroCells #[.int .i64 0, .int .i64 0] n ++ Builtin.zeroCells #[.int .i64 0, .int .i64 0] (G - n) := ⟨_, rfl⟩
    rw [← hcs] at hrz HROW
    clear hrow hG hcs hi0 hz0 hz1 hz2
    go_enter Try.func89, Try.ntmps89
    go_wp2_with (at_builtin; go_must (refine Lib.wpList_append_run _ rfl _ _ _ _ rfl _ _ rfl rfl _ _ (hrz _) ?_))
    go_ret
    exact ⟨_, rfl, below_alloc (below_drew (Below.refl _ _)) _, HROW.out⟩
def tot (l : List (List S60)) : Nat := (l.map List.length).sum
theorem tot_take (l : List (List S60)) : ∀ k : Nat, tot (l.take k) ≤ tot l := by
  induction l with
  | nil => intro k; simp
  | cons x l ih =>
    intro k
    cases k with
    | zero => simp [tot]
    | succ k => have := ih k; simp [tot] at this ⊢; omega
theorem flat_len (l : List (List S60)) : l.flatten.length = tot l := by simp [tot]
theorem tot_succ (l : List (List S60)) (k : Nat) (h : k < l.length) : tot (l.take (k + 1)) = tot (l.take k) + (rd_L6 l (k : Int)).length := by
  have e : rd_L6 l (k : Int) = l[k] := by simp [rd_L6, List.getD_eq_getElem?_getD, List.getElem?_eq_getElem h]
  rw [e, List.take_succ_eq_append_getElem h]
  simp only [tot, List.map_append, List.sum_append, List.map_cons, List.map_nil, List.sum_cons, List.sum_nil, Nat.add_zero]
theorem flat_succ (l : List (List S60)) (k : Nat) (h : k < l.length) : (l.take (k + 1)).flatten = (l.take k).flatten ++ rd_L6 l (k : Int) := by
  have e : rd_L6 l (k : Int) = l[k] := by simp [rd_L6, List.getD_eq_getElem?_getD, List.getElem?_eq_getElem h]
  rw [e, List.take_succ_eq_append_getElem h]
  simp only [List.flatten_append, List.flatten_cons, List.flatten_nil, List.append_nil]
set_option maxHeartbeats 4000000 in
set_option maxRecDepth 100000 in
theorem concat_calls (A : Option Addr) (c : Nat) (l : List (List S60)) (w : World) (hr : Kd.C (Kd.slice 60 k60) w A l.length l) (hl : tot l * 16 ≤ 140737488355328) (hl2 : l.length ≤ 9223372036854775807) :
    Calls Try.prog 75 #[.slice A l.length c] w fun e w' => ∃ v, e = .returned v ∧ Below w.heap.size w w' ∧ Kd.R k60 60 w' w.heap.size (fun _ => True) v l.flatten := by
  have HR := Lib.hid (fun w' (h : Below w.heap.size w w') => Kd.C_below hr h)
  have HL := Lib.hid hl
  clear hr hl
  go_enter Try.func75, Try.ntmps75
  go_wp2
  go_loop [3, 5, 11] (fun sz _ i => ∃ k : Nat, k ≤ l.length ∧ i = .int .i64 k ∧ sz = .int .i64 (tot (l.take k) : Nat)) (fun _ _ i => l.length - (intOf i).toNat)
  case atStart => exact ⟨0, Nat.zero_le _, rfl, by simp [tot]⟩
  case round =>
    obtain ⟨k, hk, rfl, rfl⟩ := hrel
    by_cases hlt : k < l.length
    · obtain ⟨ad, A0, c0, rfl, x0, x1, x2⟩ := at_L6 (HR.out _ (Below.refl _ _)) (k : Int) (by omega) (by omega)
      simp only [Int.toNat_natCast] at x0
      have hts := tot_succ l k hlt
      have htl := tot_take l (k + 1)
      obtain ⟨q, hq⟩ : ∃ q, q = rd_L6 l (k : Int) := ⟨_, rfl⟩
      rw [← hq] at x0 hts
      clear x1 x2 hq
      obtain ⟨m, hm⟩ : ∃ m, m = q.length := ⟨_, rfl⟩
      rw [← hm] at x0 hts
      obtain ⟨tk, htk⟩ : ∃ t, t = tot (l.take k) := ⟨_, rfl⟩
      rw [← htk] at hts ⊢
      have hb := HL.out
      have b2 : (k : Int) < (l.length : Int) := by omega
      have w1 : wrap64 ((tk : Int) + m) = ((tk + m : Nat) : Int) := by unfold wrap64; omega
      have d1 : decide (((tk + m : Nat) : Int) < 0) = false := by simp <;> omega
      have b1 : ¬ (((tk + m : Nat) : Int) < 0) := by omega
      have HTS := Lib.hid hts
      have HW1 := Lib.hid w1
      clear hts htl hb htk hm
      go_wp2
      go_round
      case rel => exact ⟨k + 1, by omega, by go_num, by rw [HTS.out, HW1.out]⟩
      case measure => simp [intOf]; omega
    · obtain rfl : k = l.length := by omega
      have hF : l.take l.length = l := List.take_length
      rw [hF]
      have b2 : ¬ (l.length : Int) < (l.length : Int) := by omega
      clear hF
      have hg := grow_calls (tot l) w HL.out
      go_wp2_with (go_at_call 89; go_must (refine hg.mono ?_; rintro e w1 ⟨v1, rfl, hB1, hR1⟩))
      have HB1 := Lib.hid hB1
      have HR1 := Lib.hid hR1
      clear hB1 hR1 hg
      go_loopw [6, 8, 27] (fun v _ i ww => ∃ k : Nat, k ≤ l.length ∧ i = .int .i64 k ∧ Aside0 (Below w.heap.size w ww ∧ Kd.R k60 60 ww w.heap.size (fun _ => True) v (l.take k).flatten)) (fun _ _ i _ => l.length - (intOf i).toNat)
      case atStart => exact ⟨0, Nat.zero_le _, rfl, ⟨HB1.out, by simpa using HR1.out⟩⟩
      case round =>
        obtain ⟨k, hk, rfl, HO⟩ := hrel
        by_cases hlt : k < l.length
        · obtain ⟨ad, A0, c0, rfl, x0, x1, x2⟩ := at_L6 (HR.out _ HO.out.1) (k : Int) (by omega) (by omega)
          simp only [Int.toNat_natCast] at x0
          have hfs := flat_succ l k hlt
          have htl := tot_take l (k + 1)
          have hts := tot_succ l k hlt
          have hfl := flat_len (l.take k)
          obtain ⟨q, hq⟩ : ∃ q, q = rd_L6 l (k : Int) := ⟨_, rfl⟩
          rw [← hq] at x0 hts hfs x2
          have HX := Lib.hid x2
          have HFS := Lib.hid hfs
          have HLEN := Lib.hid (show ((l.take k).flatten.length + q.length) * 16 ≤ 140737488355328 by have := HL.out; omega)
          have HSZ := Lib.hid HO.out.1.size
          have b2 : (k : Int) < (l.length : Int) := by omega
          clear x1 x2 hq hfs hts htl hfl
          obtain ⟨p, hp⟩ : ∃ p, p = (l.take k).flatten := ⟨_, rfl⟩
          rw [← hp] at HO HLEN HFS
          clear hp
          go_wp2_with ((with_reducible refine gate_builtin (b := .append) (xs := #[.tmp 31, .tmp 32]) rfl ?_); at_builtin; go_must (refine app_rows (w0 := w) w.heap.size rfl (.tmp 31) (.tmp 32) rfl _ p q A0 q.length c0 rfl rfl HO.out.2 HX.out HO.out.1 HSZ.out HLEN.out ?_; intro v3 w3 h1 h2 h3; have H1 := Lib.hid h1; have H2 := Lib.hid h2; clear h1 h2 h3))
          go_roundw
          case rel => exact ⟨k + 1, by omega, by go_num, ⟨H2.out, by rw [HFS.out]; exact H1.out⟩⟩
          case measure => simp [intOf]; omega
        · obtain rfl : k = l.length := by omega
          have hF : l.take l.length = l := List.take_length
          rw [hF] at HO
          have b2 : ¬ (l.length : Int) < (l.length : Int) := by omega
          clear hF
          go_wp2
          try rw [Exit.noGoto_ret]
          go_ret
          exact ⟨_, rfl, HO.out.1, HO.out.2⟩
end Go.Proofs.Ytbebihphodafiaa.Iv

namespace Go.Proofs.Ytbebihphodafiaa.Iv
open Go.RowKit Go.Proofs.YtbebihphodafiaaW.PrintWords Go.Proofs.YtbebihphodafiaaW.PrintLast Go.Proofs.YtbebihphodafiaaW.PrintMore Go.Proofs.Ytbebihphodafiaa.PWb Go.Maps
set_option linter.unusedVariables false
set_option linter.unusedSimpArgs false

abbrev kb : Kd Int := Kd.int .u8
theorem info5 : (Try.prog.info? 5).map (fun i => (i.zero, i.size, i.bytes)) = some (some (.int .u8 0), 1, 1) := by kernel_rfl
theorem info31 : (Try.prog.info? 31).map (fun i => (i.zero, i.size, i.bytes)) = some (some (.agg #[.int .i64 0, .slice none 0 0]), 2, 32) := by kernel_rfl
theorem Kb_M {w W : World} {base : Nat} {ok : Nat → Prop} {x : Int} {cs : List Value} (h : kb.K w x cs) : kb.M W base ok x cs := h
/-- A row with room, of nothing yet. -/
theorem Rb_room (w : World) (base G : Nat) (cells : Array Value) (hb : base ≤ w.heap.size) (hs : cells.size = G * 1) (hm : G ≤ maxLen) :
    Kd.R kb 5 (w.alloc (.cells cells 5)) base (fun _ => True) (.slice (some ⟨w.heap.size, 0, none⟩) 0 G) [] :=
  ⟨fun _ _ => trivial, [], ⟨rfl, .inr ⟨w.heap.size, G, cells, rfl, hb, Deep.blk_alloc_new _ _, Nat.zero_le _, hm, hs, by simp⟩⟩, Reps.none _ _⟩
section
variable {P : Program} {ops : Array Oper} {rest : List Oper} {o : Oper} {a : Act} {Q : Exit → Act → World → Prop}
/-- append(v, x...), rows of bytes. -/
theorem app_bytes {w0 W : World} (base : Nat) (hgd : o.guard = none) (s x : Operand) 
    (ho : o.op = .call { callee := .builtin .append, args := #[s, x], argTypes := #[28, 28] })
    (v : Value) (xs ys : List Int) (A : Option Addr) (m c : Nat) (hs : a.eval s = v) (hx : a.eval x = .slice A m c)
    (HO : Kd.R kb 5 W base (fun _ => True) v xs) (HR : Kd.C kb W A m ys)
    (HB : Below base w0 W) (hbase : base ≤ W.heap.size) (hl : (xs.length + m) * 1 ≤ 140737488355328)
    (h : ∀ v1 w1, Kd.R kb 5 w1 base (fun _ => True) v1 (xs ++ ys) → Below base w0 w1 → W.grownBy w1 v.ownBlock → (v1.ownBlock = v.ownBlock ∨ ∃ b, v1.ownBlock = some b ∧ W.heap.size ≤ b) → wpList Try.prog ops Q rest (a.put o.dst v1) w1) :
    wpList Try.prog ops Q (o :: rest) a W :=
  Kd.R_append_rows kb (Rr := kb.K W) base hgd s x 28 5 (.int .u8 0) 1 ho Try.underlying28 info5 rfl (by decide) (by decide) v xs ys A m c (fun _ => True) (fun k => some k ≠ v.ownBlock) hs hx HO HR (fun _ _ h => Kb_M h) (fun _ h => ⟨trivial, h⟩) (fun _ _ => trivial) HB hbase hl h
end
set_option maxHeartbeats 1000000 in
theorem cloneB_calls (A : Option Addr) (c : Nat) (l : List Int) (w : World) (hr : Kd.C kb w A l.length l) (hl : l.length ≤ 140737488355328) :
    Calls Try.prog 49 #[.slice A l.length c] w fun e w' => ∃ v, e = .returned v ∧ Below w.heap.size w w' ∧ Kd.R kb 5 w' w.heap.size (fun _ => True) v l := by
  cases A with
  | none =>
    have h0 : l = [] := by
      rcases l with _ | ⟨x, l⟩
      · rfl
      · obtain ⟨ad, h, _⟩ := hr.2.2 (by simp)
        cases h
    subst h0
    clear hr
    have hq := fun W : World => Lib.run_eql_slice_nil (P := Try.prog) W 28 5 none 0 c 0 0 Try.underlying28
    go_enter Try.func49, Try.ntmps49
    go_wp2
    go_ret
    exact ⟨_, rfl, Below.refl _ _, Kd.R_nil _ _ _ _ _⟩
  | some ad =>
    have HR := Lib.hid hr
    clear hr
    have hq := fun W : World => Lib.run_eql_slice_nil (P := Try.prog) W 28 5 (some ad) l.length c 0 0 Try.underlying28
    go_enter Try.func49, Try.ntmps49
    go_wp2_with ((with_reducible refine gate_builtin (b := .append) (xs := #[.tmp 5, .tmp 6]) rfl ?_); at_builtin; go_must (refine app_bytes (w0 := w) w.heap.size rfl (.tmp 5) (.tmp 6) rfl (.slice (some ⟨w.heap.size, 0, none⟩) 0 0) [] l (some ad) l.length c rfl rfl (Rb_room w w.heap.size 0 #[] (Nat.le_refl _) rfl (by decide)) (Kd.C_alloc HR.out _) (below_alloc (Below.refl _ _) _) (by simp) (by simpa using hl) ?_; intro v w1 h1 h2 h3 h4))
    go_ret
    exact ⟨_, rfl, h2, h1⟩
/-- What is asked of a function that is handed over, of writes. -/
def TellsP (g : Nat) (lb : Array Value) (p : S31 → Bool) (l : List S31) (w : World) : Prop :=
  ∀ W x A c, x ∈ l → Below w.heap.size w W → Calls Try.prog g (#[.agg #[.int .i64 x.f0, .slice A x.f1.length c]] ++ lb) W fun e w' => e = .returned (.bool (p x)) ∧ Below w.heap.size w w'
set_option maxHeartbeats 4000000 in
theorem idxP_calls (g : Nat) (lb : Array Value) (p : S31 → Bool) (eg : ∀ args w, (callFunc g args).run Try.prog w = .ok (.enter g args) w) (A : Option Addr) (c : Nat) (l : List S31) (w : World) (hr : Kd.C k31 w A l.length l) (hl : l.length ≤ 9223372036854775807) (hp : TellsP g lb p l w) :
    Calls Try.prog 67 #[.slice A l.length c, .func (.func g) #[] lb] w fun e w' => ∃ i : Int, e = .returned (.int .i64 i) ∧ (decide (0 ≤ i)) = l.any p ∧ Below w.heap.size w w' := by
  have HR := Lib.hid (fun w' (h : Below w.heap.size w w') => Kd.C_below hr h)
  have HP := Lib.hid hp
  clear hr hp
  go_enter Try.func67, Try.ntmps67
  go_wp2
  go_loopw [5, 8] (fun _ i wr => ∃ k : Nat, k ≤ l.length ∧ i = .int .i64 k ∧ Aside0 (Below w.heap.size w wr ∧ (l.take k).any p = false)) (fun _ i _ => l.length - (intOf i).toNat)
  case atStart => exact ⟨0, Nat.zero_le _, rfl, ⟨Below.refl _ _, by simp⟩⟩
  case round =>
    obtain ⟨k, hk, rfl, HB⟩ := hrel
    by_cases hlt : k < l.length
    · obtain ⟨ad, A1, c1', rfl, c0, c1, _, _⟩ := at_T31 (HR.out _ HB.out.1) (k : Int) (by omega) (by omega)
      simp only [Int.toNat_natCast] at c0 c1
      obtain ⟨q, hq⟩ : ∃ q, q = rd_T31 l (k : Int) := ⟨_, rfl⟩
      rw [← hq] at c0 c1
      have hqe : q = l[k] := by rw [hq]; simp [rd_T31, List.getD_eq_getElem?_getD, List.getElem?_eq_getElem hlt]
      have hc := HP.out wr q A1 c1' (by rw [hqe]; exact List.getElem_mem hlt) HB.out.1
      have HT := Lib.hid (show (l.take (k + 1)).any p = ((l.take k).any p || p q) by
        rw [List.take_succ_eq_append_getElem hlt, List.any_append, hqe]; simp)
      have HM := Lib.hid (show p q = true → l.any p = true from fun h => List.any_eq_true.2 ⟨q, by rw [hqe]; exact List.getElem_mem hlt, h⟩)
      clear hq hqe
      have b2 : (k : Int) < (l.length : Int) := by omega
      have c0' := c0
      have c1' := c1
      cases hpq : p q with
      | true =>
        rw [hpq] at hc
        go_wp2_with (go_at_fn g; refine hc.mono ?_; rintro e w' ⟨rfl, hb'⟩)
        try rw [Exit.noGoto_ret]
        go_ret
        exact ⟨_, rfl, by rw [HM.out hpq]; simp, hb'⟩
      | false =>
        rw [hpq] at hc
        go_wp2_with (go_at_fn g; refine hc.mono ?_; rintro e w' ⟨rfl, hb'⟩)
        go_roundw
        case rel => exact ⟨k + 1, by omega, by go_num, ⟨hb', by rw [HT.out, HB.out.2, hpq]; rfl⟩⟩
        case measure => simp [intOf]; omega
    · obtain rfl : k = l.length := by omega
      have hF : l.take l.length = l := List.take_length
      rw [hF] at HB
      have b2 : ¬ (l.length : Int) < (l.length : Int) := by omega
      clear hF
      go_wp2
      try rw [Exit.noGoto_ret]
      go_ret
      exact ⟨_, rfl, by rw [HB.out.2]; rfl, HB.out.1⟩
set_option maxHeartbeats 1000000 in
theorem containsP_calls (g : Nat) (lb : Array Value) (p : S31 → Bool) (eg : ∀ args w, (callFunc g args).run Try.prog w = .ok (.enter g args) w) (A : Option Addr) (c : Nat) (l : List S31) (w : World) (hr : Kd.C k31 w A l.length l) (hl : l.length ≤ 9223372036854775807) (hp : TellsP g lb p l w) :
    Calls Try.prog 45 #[.slice A l.length c, .func (.func g) #[] lb] w fun e w' => e = .returned (.bool (l.any p)) ∧ Below w.heap.size w w' := by
  have hc := idxP_calls g lb p eg A c l w hr hl hp
  clear hr hp
  generalize l.any p = b at hc ⊢
  go_enter Try.func45, Try.ntmps45
  go_wp2_with (go_at_call 67; refine hc.mono ?_; rintro e w' ⟨i, rfl, hi, hb⟩)
  go_ret
  refine ⟨?_, hb⟩
  rw [← hi]
  rfl
/-- Which writes lie outside. -/
def outB (blocks : Int) (x : S31) : Bool := decide (x.f0 < 0) || decide (blocks ≤ x.f0)
theorem ne40 (n : Nat) : ((n : Int) != 40) = !decide (n = 40) := by rw [Bool.eq_iff_iff]; simp; omega
def lenB (x : S31) : Bool := !decide (x.f1.length = 40)
set_option maxHeartbeats 1000000 in
theorem closure46 (x : S31) (A : Option Addr) (c g bb : Nat) (blocks : Int) (W : World) (h0 : W.cell? ⟨g, 0, none⟩ = some (.pointer (some ⟨bb, 0, none⟩))) (h1 : W.cell? ⟨bb, 0, none⟩ = some (.int .i64 blocks)) :
    Calls Try.prog 46 #[.agg #[.int .i64 x.f0, .slice A x.f1.length c], .pointer (some ⟨g, 0, none⟩)] W fun e w' => e = .returned (.bool (outB blocks x)) ∧ Below W.heap.size W w' := by
  have hgl := World.block_lt_of_cell? _ _ h0
  have hbl := World.block_lt_of_cell? _ _ h1
  simp only at hgl hbl
  have hg : g ≠ W.heap.size := by omega
  have hb : bb ≠ W.heap.size := by omega
  unfold outB
  have c0 := World.cell?_alloc_at (w := W) #[.int .i64 x.f0, .slice A x.f1.length c] 31 W.heap.size 0 rfl
  have c1 := pw_cell_below (below_alloc (Below.refl _ _) (.cells #[.int .i64 x.f0, .slice A x.f1.length c] 31)) h0
  have c2 := pw_cell_below (below_alloc (Below.refl _ _) (.cells #[.int .i64 x.f0, .slice A x.f1.length c] 31)) h1
  have C := Lib.hid (And.intro c0 (And.intro c1 c2))
  have HB := Lib.hid (below_alloc (Below.refl W.heap.size W) (.cells #[.int .i64 x.f0, .slice A x.f1.length c] 31))
  clear c0 c1 c2 h0 h1
  by_cases g0 : x.f0 < 0
  · have d0 : decide (x.f0 < 0) = true := by simpa using g0
    go_enter Try.func46, Try.ntmps46
    go_wp2
    obtain ⟨w5, h5⟩ : ∃ y, y = W.alloc (.cells #[.int .i64 x.f0, .slice A x.f1.length c] 31) := ⟨_, rfl⟩
    rw [← h5] at C HB ⊢
    clear h5
    obtain ⟨c0, c1, c2⟩ := C.out
    go_quiet (fail)
    go_wp2
    go_ret
    exact ⟨by simp [g0], pw_below_drewN HB.out _⟩
  · have d0 : decide (x.f0 < 0) = false := by simpa using g0
    go_enter Try.func46, Try.ntmps46
    go_wp2
    obtain ⟨w5, h5⟩ : ∃ y, y = W.alloc (.cells #[.int .i64 x.f0, .slice A x.f1.length c] 31) := ⟨_, rfl⟩
    rw [← h5] at C HB ⊢
    clear h5
    obtain ⟨c0, c1, c2⟩ := C.out
    go_quiet (fail)
    go_wp2
    go_ret
    exact ⟨by simp [g0]; omega, pw_below_drewN HB.out _⟩
set_option maxHeartbeats 1000000 in
theorem closure47 (x : S31) (A : Option Addr) (c : Nat) (W : World) :
    Calls Try.prog 47 #[.agg #[.int .i64 x.f0, .slice A x.f1.length c]] W fun e w' => e = .returned (.bool (lenB x)) ∧ Below W.heap.size W w' := by
  go_enter Try.func47, Try.ntmps47
  go_wp2
  go_ret
  exact ⟨by unfold lenB; rw [← ne40]; rfl, below_alloc (Below.refl _ _) _⟩
end Go.Proofs.Ytbebihphodafiaa.Iv

namespace Go.Proofs.Ytbebihphodafiaa.Iv
open Go.RowKit Go.Proofs.YtbebihphodafiaaW.PrintWords Go.Proofs.YtbebihphodafiaaW.PrintLast Go.Proofs.YtbebihphodafiaaW.PrintMore Go.Proofs.Ytbebihphodafiaa.PWb Go.Maps
set_option linter.unusedVariables false
set_option linter.unusedSimpArgs false

abbrev ky (x : Int) : Lit := .int .i64 x
def Rh (v : Value) : Option (DataW Value × List MemPlace) := some (.held v, [])
theorem law3 : Keyed Try.prog 3 := int_keyed Try.underlying3
theorem zero28 (w : World) : (zeroValue 28).run Try.prog w = .ok (.slice none 0 0) w := by kernel_rfl
theorem ky_key (x : Int) : WideAt.IsKeyLit (ky x) := trivial
theorem ky_inj {x y : Int} (h : x ≠ y) : ky x ≠ ky y := fun e => h (by injection e)
theorem wf_small (x : Int) (h0 : 0 ≤ x) (h1 : x < 9223372036854775808) : (Lit.int .i64 x).wf = true := WalkArith.wf_i64 (by omega)
theorem tight {W : World} {P : Program} {k : TypeId} {R : Value → Option (DataW Value × List MemPlace)} {b n : Nat} {D : DataW Value} (h : W.ownsMap P k R b n D) : W.ownsMap P k R b (size D) D := by
  obtain ⟨es, clock, hb, F, hs, hD⟩ := h
  refine ⟨es, clock, hb, F, ?_, hD⟩
  rw [hD, size_eq, length_sorted]
  simp
theorem tidy_of {W : World} {b n : Nat} {D : DataW Value} (h : W.ownsMap Try.prog 3 Rh b n D) : Tidy D := by
  obtain ⟨es, e, h1, _⟩ := h.canon law3
  exact ⟨es, e, apart_of_rising h1⟩
/-! ### writes by their blocks, rising -/
def Rise (M : List S31) : Prop := M.Pairwise (fun a b => a.f0 < b.f0)
def ins : List S31 → S31 → List S31
  | [], x => [x]
  | y :: r, x => if x.f0 < y.f0 then x :: y :: r else if x.f0 = y.f0 then x :: r else y :: ins r x
def hasM (M : List S31) (x : Int) : Bool := M.any (fun p => decide (p.f0 = x))
def lookM (M : List S31) (x : Int) : List Int := ((M.find? (fun p => decide (p.f0 = x))).map (·.f1)).getD []
theorem hasM_iff (M : List S31) (x : Int) : hasM M x = true ↔ ∃ p ∈ M, p.f0 = x := by
  simp [hasM]
theorem hasM_false (M : List S31) (x : Int) : hasM M x = false ↔ ∀ p ∈ M, p.f0 ≠ x := by
  simp [hasM]
theorem lookM_none (M : List S31) (x : Int) (h : hasM M x = false) : lookM M x = [] := by
  unfold lookM
  rw [List.find?_eq_none.2 (by simpa using (hasM_false M x).1 h)]
  rfl
theorem rise_inj {M : List S31} (h : Rise M) {p q : S31} (hp : p ∈ M) (hq : q ∈ M) (e : p.f0 = q.f0) : p = q := by
  obtain ⟨i, hi, rfl⟩ := List.getElem_of_mem hp
  obtain ⟨j, hj, rfl⟩ := List.getElem_of_mem hq
  have h2 := List.pairwise_iff_getElem.1 h
  rcases Nat.lt_trichotomy i j with h1 | h1 | h1
  · have := h2 i j hi hj h1; omega
  · subst h1; rfl
  · have := h2 j i hj hi h1; omega
theorem lookM_mem {M : List S31} (h : Rise M) {p : S31} (hp : p ∈ M) : lookM M p.f0 = p.f1 := by
  unfold lookM
  cases he : M.find? (fun q => decide (q.f0 = p.f0)) with
  | none => exact absurd (List.find?_eq_none.1 he p hp) (by simp)
  | some q =>
    have h1 := List.mem_of_find?_eq_some he
    have h2 := List.find?_some he
    have := rise_inj h h1 hp (by simpa using h2)
    subst this
    rfl
theorem ins_mem : ∀ (M : List S31) (x : S31), Rise M → ∀ p, p ∈ ins M x ↔ p = x ∨ (p ∈ M ∧ p.f0 ≠ x.f0) := by
  intro M
  induction M with
  | nil => intro x _ p; simp [ins]
  | cons y r ih =>
    intro x h p
    obtain ⟨h1, h2⟩ := List.pairwise_cons.1 h
    unfold ins
    split
    · rename_i hlt
      simp only [List.mem_cons]
      constructor
      · rintro (h3 | h3 | h3)
        · exact .inl h3
        · subst h3; exact .inr ⟨.inl rfl, by omega⟩
        · exact .inr ⟨.inr h3, by have := h1 p h3; omega⟩
      · rintro (h3 | ⟨h3, _⟩)
        · exact .inl h3
        · exact .inr h3
    · split
      · rename_i _ he
        simp only [List.mem_cons]
        constructor
        · rintro (h3 | h3)
          · exact .inl h3
          · exact .inr ⟨.inr h3, by have := h1 p h3; omega⟩
        · rintro (h3 | ⟨h3 | h3, h4⟩)
          · exact .inl h3
          · subst h3; exact absurd he.symm h4
          · exact .inr h3
      · rename_i hn he
        simp only [List.mem_cons, ih x h2 p]
        constructor
        · rintro (h3 | h3 | h3)
          · subst h3; exact .inr ⟨.inl rfl, by omega⟩
          · exact .inl h3
          · exact .inr ⟨.inr h3.1, h3.2⟩
        · rintro (h3 | ⟨h3 | h3, h4⟩)
          · exact .inr (.inl h3)
          · exact .inl h3
          · exact .inr (.inr ⟨h3, h4⟩)
theorem ins_rise : ∀ (M : List S31) (x : S31), Rise M → Rise (ins M x) := by
  intro M
  induction M with
  | nil => intro x _; exact List.pairwise_singleton _ _
  | cons y r ih =>
    intro x h
    obtain ⟨h1, h2⟩ := List.pairwise_cons.1 h
    unfold ins
    split
    · rename_i hlt
      refine List.pairwise_cons.2 ⟨fun p hp => ?_, h⟩
      rcases List.mem_cons.1 hp with rfl | hp
      · exact hlt
      · have := h1 p hp; omega
    · split
      · rename_i _ he
        exact List.pairwise_cons.2 ⟨fun p hp => by have := h1 p hp; omega, h2⟩
      · rename_i hn he
        refine List.pairwise_cons.2 ⟨fun p hp => ?_, ih x h2⟩
        rcases (ins_mem r x h2 p).1 hp with rfl | hp
        · omega
        · exact h1 p hp.1
theorem ins_len : ∀ (M : List S31) (x : S31), Rise M → (ins M x).length = if hasM M x.f0 = true then M.length else M.length + 1 := by
  intro M
  induction M with
  | nil => intro x _; simp [ins, hasM]
  | cons y r ih =>
    intro x h
    obtain ⟨h1, h2⟩ := List.pairwise_cons.1 h
    unfold ins
    split
    · rename_i hlt
      have : hasM (y :: r) x.f0 = false := (hasM_false _ _).2 (fun p hp => by
        rcases List.mem_cons.1 hp with rfl | hp
        · omega
        · have := h1 p hp; omega)
      rw [this]; simp
    · split
      · rename_i _ he
        have : hasM (y :: r) x.f0 = true := (hasM_iff _ _).2 ⟨y, by simp, he.symm⟩
        rw [this]; simp
      · rename_i hn he
        have : hasM (y :: r) x.f0 = hasM r x.f0 := by
          unfold hasM; rw [List.any_cons, decide_eq_false (fun e => he e.symm), Bool.false_or]
        rw [this, List.length_cons, ih x h2]
        split <;> simp
/-- Rising, from 0 on, below a number: so many at most. -/
theorem rise_len : ∀ (M : List S31) (a b : Int), Rise M → (∀ p ∈ M, a ≤ p.f0 ∧ p.f0 < b) → a ≤ b → (M.length : Int) ≤ b - a := by
  intro M
  induction M with
  | nil => intro a b _ _ h; simp; omega
  | cons y r ih =>
    intro a b h hb hab
    obtain ⟨h1, h2⟩ := List.pairwise_cons.1 h
    have hy := hb y (by simp)
    have := ih (y.f0 + 1) b h2 (fun p hp => ⟨by have := h1 p hp; omega, (hb p (by simp [hp])).2⟩) (by omega)
    simp only [List.length_cons]
    omega
/-! ### the buffer -/
theorem lt_of_some {α : Type} {a : Array α} {i : Nat} {x : α} (h : a[i]? = some x) : i < a.size := by
  obtain ⟨h, _⟩ := Array.getElem?_eq_some_iff.1 h
  exact h
def Held (W : World) (fr : Nat) (D : DataW Value) (p : S31) : Prop :=
  ∃ g c, has D (ky p.f0) = true ∧ (∀ z, D.atKey (ky p.f0) z = .held (.slice (some ⟨g, 0, none⟩) p.f1.length c)) ∧ p.f1.length ≤ c ∧ Kd.C kb W (some ⟨g, 0, none⟩) p.f1.length p.f1 ∧ fr ≤ g ∧ ∃ cells, W.heap[g]? = some (.cells cells 5 (0, 0))
structure IsBuf (W : World) (fr mb : Nat) (blocks most : Int) (M : List S31) : Prop where
  lt : mb + 1 < fr
  c0 : W.cell? ⟨mb + 1, 0, none⟩ = some (.int .i64 blocks)
  c1 : W.cell? ⟨mb + 1, 1, none⟩ = some (.int .i64 most)
  c2 : W.cell? ⟨mb + 1, 2, none⟩ = some (.map (some mb))
  map : ∃ D, W.ownsMap Try.prog 3 Rh mb M.length D ∧ size D = M.length ∧ (∀ x, hasM M x = false → has D (ky x) = false) ∧ ∀ p ∈ M, Held W fr D p
  srt : Rise M
  rng : ∀ p ∈ M, 0 ≤ p.f0 ∧ p.f0 < blocks ∧ p.f1.length = 40
  bl : 1 ≤ blocks ∧ blocks ≤ 1048576
theorem IsBuf.len {W : World} {fr mb : Nat} {blocks most : Int} {M : List S31} (h : IsBuf W fr mb blocks most M) : M.length ≤ 1048576 := by
  have := rise_len M 0 blocks h.srt (fun p hp => ⟨(h.rng p hp).1, (h.rng p hp).2.1⟩) (by have := h.bl; omega)
  have := h.bl
  omega
theorem addr_block (ad : Addr) (m : Nat) : (ad.add m).block = ad.block := by unfold Addr.add; split <;> rfl
/-- A row of bytes stays where no cell of it is written. -/
theorem Cb_grown {W W' : World} {row : Option Nat} {A : Option Addr} {n : Nat} {l : List Int} (h : Kd.C kb W A n l) (hg : W.grownBy W' row) (hA : ∀ x, A = some x → some x.block ≠ row) : Kd.C kb W' A n l := by
  refine ⟨h.1, h.2.1, fun hp => ?_⟩
  obtain ⟨ad, he, hc⟩ := h.2.2 hp
  refine ⟨ad, he, fun j p hj => ?_⟩
  obtain ⟨cs, c1, c2, c3⟩ := hc j p hj
  exact ⟨cs, c1, c2, fun i u hu => hg.cell (c3 i u hu) (by rw [addr_block]; exact hA ad he)⟩
theorem grown_trans {W W1 W2 : World} {row : Option Nat} (h : W.grownBy W1 row) (k : W1.grownBy W2 row) : W.grownBy W2 row :=
  ⟨k.os.trans h.os, k.tape.trans h.tape, k.output.trans h.output, Nat.le_trans h.size k.size, fun i hi hr => (k.block i (Nat.lt_of_lt_of_le hi h.size) hr).trans (h.block i hi hr)⟩
theorem IsBuf.grown {W W' : World} {fr mb : Nat} {blocks most : Int} {M : List S31} (h : IsBuf W fr mb blocks most M) {row : Option Nat} (hg : W.grownBy W' row) (hr : ∀ k, row = some k → k < fr ∧ k ≠ mb ∧ k ≠ mb + 1) : IsBuf W' fr mb blocks most M := by
  have h1 : some (mb + 1) ≠ row := fun e => (hr _ e.symm).2.2 rfl
  have h2 : some mb ≠ row := fun e => (hr _ e.symm).2.1 rfl
  obtain ⟨D, d1, d2, d3, d4⟩ := h.map
  refine ⟨h.lt, hg.cell h.c0 h1, hg.cell h.c1 h1, hg.cell h.c2 h1, ⟨D, d1.kept hg h2, d2, d3, fun p hp => ?_⟩, h.srt, h.rng, h.bl⟩
  obtain ⟨g, c, e1, e2, e3, e4, e5, cells, e6⟩ := d4 p hp
  exact ⟨g, c, e1, e2, e3, Cb_grown e4 hg (fun x hx hk => by cases hx; have := (hr _ hk.symm).1; simp only at this; omega), e5, cells,
    (hg.block g (lt_of_some e6) (fun hk => by have := (hr _ hk.symm).1; omega)).trans e6⟩
/-- What is written to a row of another type changes nothing. -/
theorem IsBuf.grown2 {W W' : World} {fr mb : Nat} {blocks most : Int} {M : List S31} (h : IsBuf W fr mb blocks most M) {row : Option Nat} (hg : W.grownBy W' row) (hr : ∀ k, row = some k → k ≠ mb ∧ k ≠ mb + 1 ∧ (k < fr ∨ ∃ cells t, t ≠ 5 ∧ W.heap[k]? = some (.cells cells t (0, 0)))) : IsBuf W' fr mb blocks most M := by
  have h1 : some (mb + 1) ≠ row := fun e => (hr _ e.symm).2.1 rfl
  have h2 : some mb ≠ row := fun e => (hr _ e.symm).1 rfl
  obtain ⟨D, d1, d2, d3, d4⟩ := h.map
  refine ⟨h.lt, hg.cell h.c0 h1, hg.cell h.c1 h1, hg.cell h.c2 h1, ⟨D, d1.kept hg h2, d2, d3, fun p hp => ?_⟩, h.srt, h.rng, h.bl⟩
  obtain ⟨g, c, e1, e2, e3, e4, e5, cells, e6⟩ := d4 p hp
  have hne : some g ≠ row := fun hk => by
    rcases (hr _ hk.symm).2.2 with h5 | ⟨cs, t, h6, h7⟩
    · omega
    · rw [e6] at h7; injection h7 with h7; injection h7 with _ h7; exact h6 h7.symm
  exact ⟨g, c, e1, e2, e3, Cb_grown e4 hg (fun x hx => by cases hx; exact hne), e5, cells, (hg.block g (lt_of_some e6) hne).trans e6⟩
theorem IsBuf.below {W W' : World} {fr mb : Nat} {blocks most : Int} {M : List S31} (h : IsBuf W fr mb blocks most M) (hb : RowKit.Below W.heap.size W W') : IsBuf W' fr mb blocks most M :=
  h.grown (grown_of_below hb none) (fun k hk => by cases hk)
/-- What is read of it. -/
theorem IsBuf.look {W : World} {fr mb : Nat} {blocks most : Int} {M : List S31} (h : IsBuf W fr mb blocks most M) (x : Int) (hx : (Lit.int .i64 x).wf = true) (b : Bool) :
    ∃ A c, (∀ W' : World, W'.heap[mb]? = W.heap[mb]? → (Instr.lookup 99 (.map (some mb)) (.int .i64 x) b).run Try.prog W' = .ok (if b = true then .tuple #[.slice A (lookM M x).length c, .bool (hasM M x)] else .slice A (lookM M x).length c) W') ∧ (lookM M x).length ≤ c ∧ Kd.C kb W A (lookM M x).length (lookM M x) := by
  obtain ⟨D, d1, d2, d3, d4⟩ := h.map
  have key : keyOf Try.prog 3 (.int .i64 x) = some (ky x) := keyOf_int_mk Try.underlying3 hx
  have hz : Rh (.slice none 0 0) = some (.held (.slice none 0 0), []) := rfl
  have hh : has D (ky x) = hasM M x := by
    cases hm : hasM M x with
    | false => exact d3 x hm
    | true =>
      obtain ⟨p, hp, rfl⟩ := (hasM_iff M x).1 hm
      obtain ⟨g, c, e1, _⟩ := d4 p hp
      exact e1
  have hv : ∃ A c, D.atKey (ky x) (.held (.slice none 0 0)) = .held (.slice A (lookM M x).length c) ∧ (lookM M x).length ≤ c ∧ Kd.C kb W A (lookM M x).length (lookM M x) := by
    cases hm : hasM M x with
    | false =>
      refine ⟨none, 0, ?_, ?_, ?_⟩
      · rw [atKey_of_not_has (d3 x hm), lookM_none M x hm]; rfl
      · rw [lookM_none M x hm]; exact Nat.le_refl _
      · rw [lookM_none M x hm]; exact Kd.C_nil _ _
    | true =>
      obtain ⟨p, hp, rfl⟩ := (hasM_iff M x).1 hm
      obtain ⟨g, c, _, e2, e3, e4, _⟩ := d4 p hp
      rw [lookM_mem h.srt hp]
      exact ⟨_, c, e2 _, e3, e4⟩
  obtain ⟨A, c, v1, v2, v3⟩ := hv
  refine ⟨A, c, fun W' hW' => ?_, v2, v3⟩
  replace d1 : W'.ownsMap Try.prog 3 Rh mb M.length D := by
    obtain ⟨es, clock, hb, r⟩ := d1
    exact ⟨es, clock, hW'.trans hb, r⟩
  cases b with
  | true =>
    obtain ⟨v, ps, hrun, hR⟩ := d1.look_ok law3 Try.underlying99 (zero28 W') hz key
    rw [hrun, hh]
    have : v = .slice A (lookM M x).length c ∧ ps = [] := by
      rw [v1] at hR
      simpa [Rh] using hR
    rw [this.1]; rfl
  | false =>
    obtain ⟨v, ps, hrun, hR⟩ := d1.lookup law3 Try.underlying99 (zero28 W') hz key
    rw [hrun]
    have : v = .slice A (lookM M x).length c ∧ ps = [] := by
      rw [v1] at hR
      simpa [Rh] using hR
    rw [this.1]; rfl
/-- A write. -/
theorem IsBuf.put {W1 W2 : World} {fr mb : Nat} {blocks most : Int} {M : List S31} {D : DataW Value} {x : S31} {g c : Nat} (h : IsBuf W1 fr mb blocks most M)
    (hD : W1.ownsMap Try.prog 3 Rh mb M.length D) (hs : size D = M.length) (hn : ∀ y, hasM M y = false → has D (ky y) = false) (hh : ∀ p ∈ M, Held W1 fr D p)
    (hm : W2.ownsMap Try.prog 3 Rh mb (M.length + 1) (D.put (ky x.f0) (.held (.slice (some ⟨g, 0, none⟩) x.f1.length c)))) (hg : W1.grownBy W2 (some mb))
    (hx : 0 ≤ x.f0 ∧ x.f0 < blocks ∧ x.f1.length = 40) (hc : x.f1.length ≤ c) (hC : Kd.C kb W1 (some ⟨g, 0, none⟩) x.f1.length x.f1) (hfr : fr ≤ g) (hty : ∃ cells, W1.heap[g]? = some (.cells cells 5 (0, 0))) :
    IsBuf W2 fr mb blocks most (ins M x) := by
  have hlt := h.lt
  have h1 : some (mb + 1) ≠ some mb := by simp
  have hT := tidy_of hD
  have hgm : ∀ y : Addr, (some (⟨g, 0, none⟩ : Addr)) = some y → some y.block ≠ some mb := by
    intro y hy e; cases hy; simp at e; omega
  have hs2 : size (D.put (ky x.f0) (.held (.slice (some ⟨g, 0, none⟩) x.f1.length c))) = (ins M x).length := by
    rw [size_put hT, hs, ins_len M x h.srt]
    cases hm0 : hasM M x.f0 with
    | false => rw [hn _ hm0]
    | true =>
      obtain ⟨p, hp, e⟩ := (hasM_iff M _).1 hm0
      obtain ⟨_, _, e1, _⟩ := hh p hp
      rw [← e, e1]
  refine ⟨h.lt, hg.cell h.c0 h1, hg.cell h.c1 h1, hg.cell h.c2 h1, ⟨_, by rw [← hs2]; exact tight hm, hs2, fun y hy => ?_, fun p hp => ?_⟩, ins_rise M x h.srt, fun p hp => ?_, h.bl⟩
  · have hy' := (hasM_false _ _).1 hy
    have hne : x.f0 ≠ y := hy' x ((ins_mem M x h.srt x).2 (.inl rfl))
    rw [has_put_other (ky_inj (Ne.symm hne))]
    refine hn y ((hasM_false _ _).2 (fun p hp => ?_))
    by_cases e : p.f0 = x.f0
    · rw [e]; exact hne
    · exact hy' p ((ins_mem M x h.srt p).2 (.inr ⟨hp, e⟩))
  · rcases (ins_mem M x h.srt p).1 hp with rfl | ⟨hp, hne⟩
    · exact ⟨g, c, has_put_same hT.isMap (ky_key _) _, fun z => atKey_put_same hT.isMap (ky_key _) _ _, hc, Cb_grown hC hg hgm, hfr, hty.elim fun cells e6 => ⟨cells, (hg.block g (lt_of_some e6) (hgm _ rfl)).trans e6⟩⟩
    · obtain ⟨g', c', e1, e2, e3, e4, e5, cells, e6⟩ := hh p hp
      refine ⟨g', c', by rw [has_put_other (ky_inj hne)]; exact e1, fun z => by rw [atKey_put_other (ky_inj hne)]; exact e2 z, e3, Cb_grown e4 hg ?_, e5, cells, (hg.block g' (lt_of_some e6) (fun hk => by injection hk with hk; omega)).trans e6⟩
      intro y hy e; cases hy; simp at e; omega
  · rcases (ins_mem M x h.srt p).1 hp with rfl | ⟨hp, _⟩
    · exact hx
    · exact h.rng p hp
end Go.Proofs.Ytbebihphodafiaa.Iv

namespace Go.Proofs.Ytbebihphodafiaa.Iv
open Go.RowKit Go.Proofs.YtbebihphodafiaaW.PrintWords Go.Proofs.YtbebihphodafiaaW.PrintLast Go.Proofs.YtbebihphodafiaaW.PrintMore Go.Proofs.Ytbebihphodafiaa.PWb Go.Maps
set_option linter.unusedVariables false
set_option linter.unusedSimpArgs false

def okNew (blocks most : Int) : Prop := 1 ≤ blocks ∧ blocks ≤ 1048576 ∧ 0 ≤ most
set_option maxHeartbeats 1000000 in
theorem newB_calls (blocks most : Int) (fr mb : Nat) (w : World) (hok : okNew blocks most) (hm : mb = w.heap.size) (hfr : mb + 1 < fr) :
    Calls Try.prog 14 #[.int .i64 blocks, .int .i64 most] w fun e w' => e = .returned (.tuple #[.pointer (some ⟨mb + 1, 0, none⟩), .int .i64 0]) ∧ RowKit.Below w.heap.size w w' ∧ IsBuf w' fr mb blocks most [] ∧ mb + 2 = w'.heap.size := by
  subst hm
  obtain ⟨h0, h1, h2⟩ := hok
  have hmm := @run_makeMap Try.prog
  go_enter Try.func14, Try.ntmps14
  go_wp2
  go_ret2
  have hown := (World.ownsMap_made w Try.prog 3 Rh).alloc (.cells #[.int .i64 blocks, .int .i64 most, .map (some w.heap.size)] 101)
  refine ⟨rfl, below_alloc (below_alloc (Below.refl _ _) _) _, ⟨hfr, ?_, ?_, ?_, ⟨_, hown, rfl, fun x _ => rfl, by simp⟩, List.Pairwise.nil, by simp, ⟨h0, h1⟩⟩, by simp⟩
  · rw [World.cell?_alloc_at _ _ _ _ (by simp)]; rfl
  · rw [World.cell?_alloc_at _ _ _ _ (by simp)]; rfl
  · rw [World.cell?_alloc_at _ _ _ _ (by simp)]; rfl
set_option maxHeartbeats 1000000 in
theorem newBad_calls (blocks most : Int) (w : World) (hok : ¬ okNew blocks most) :
    Calls Try.prog 14 #[.int .i64 blocks, .int .i64 most] w fun e w' => e = .returned (.tuple #[.pointer none, .int .i64 1]) ∧ w' = w := by
  unfold okNew at hok
  by_cases h0 : blocks < 1
  · go_enter Try.func14, Try.ntmps14
    go_wp2
    go_ret2
    exact ⟨rfl, rfl⟩
  by_cases h1 : 1048576 < blocks
  · go_enter Try.func14, Try.ntmps14
    go_wp2
    go_ret2
    exact ⟨rfl, rfl⟩
  have h2 : most < 0 := by omega
  clear hok
  go_enter Try.func14, Try.ntmps14
  go_wp2
  go_ret2
  exact ⟨rfl, rfl⟩
set_option maxHeartbeats 1000000 in
theorem get_calls (fr mb : Nat) (blocks most : Int) (M : List S31) (x : Int) (w : World) (hb : IsBuf w fr mb blocks most M) (hx : (Lit.int .i64 x).wf = true) :
    Calls Try.prog 24 #[.pointer (some ⟨mb + 1, 0, none⟩), .int .i64 x] w fun e w' => ∃ v, e = .returned (.tuple #[v, .bool (hasM M x)]) ∧ RowKit.Below w.heap.size w w' ∧ Kd.R kb 5 w' w.heap.size (fun _ => True) v (lookM M x) := by
  obtain ⟨A, c, hrun, hl, hC⟩ := hb.look x hx true
  replace hrun := hrun w rfl
  rw [if_pos rfl] at hrun
  have c2 := hb.c2
  have hlen : (lookM M x).length ≤ 40 := by
    cases hm : hasM M x with
    | false => rw [lookM_none M x hm]; simp
    | true =>
      obtain ⟨p, hp, rfl⟩ := (hasM_iff M x).1 hm
      rw [lookM_mem hb.srt hp, (hb.rng p hp).2.2]
      exact Nat.le_refl _
  have HC := Lib.hid hC
  obtain ⟨b, hb'⟩ : ∃ b, b = hasM M x := ⟨_, rfl⟩
  obtain ⟨l, hl'⟩ : ∃ l, l = lookM M x := ⟨_, rfl⟩
  rw [← hb', ← hl'] at hrun
  rw [← hl'] at HC hlen
  rw [← hb', ← hl']
  clear hb hC hl hb' hl' hx
  go_enter Try.func24, Try.ntmps24
  go_wp2_with (go_at_call 49; go_must (refine (cloneB_calls A c l _ HC.out (by omega)).mono ?_; rintro _ w1 ⟨v1, rfl, hB1, hR1⟩))
  go_ret2
  exact ⟨_, rfl, hB1, hR1⟩
theorem getNil_calls (x : Int) (w : World) : Calls Try.prog 24 #[.pointer none, .int .i64 x] w fun e w' => e = .returned (.tuple #[.slice none 0 0, .bool false]) ∧ w' = w := by
  go_enter Try.func24, Try.ntmps24
  go_wp2
  go_ret2
  exact ⟨rfl, rfl⟩
def dupB (l : List S31) : Bool := !decide ((l.map (·.f0)).Nodup)
theorem K_C31 {w w' : World} {A : Option Addr} {n : Nat} {l : List S31} (h : Kd.C k31 w A n l) (hb : RowKit.Below w.heap.size w w') : Kd.C k31 w' A n l := Kd.C_below h hb
theorem zero3 (w : World) : (zeroValue 3).run Try.prog w = .ok (.int .i64 0) w := by kernel_rfl
set_option maxHeartbeats 4000000 in
set_option maxRecDepth 100000 in
theorem twice_calls (A : Option Addr) (c : Nat) (l : List S31) (w : World) (hr : Kd.C k31 w A l.length l) (hl : l.length ≤ 140737488355328) (hrg : ∀ p ∈ l, 0 ≤ p.f0 ∧ p.f0 < 1048576) :
    Calls Try.prog 48 #[.slice A l.length c] w fun e w' => e = .returned (.bool (dupB l)) ∧ RowKit.Below w.heap.size w w' := by
  have HR := Lib.hid (fun w' (h : RowKit.Below w.heap.size w w') => Kd.C_below hr h)
  have HG := Lib.hid hrg
  have hmm := @run_makeMap Try.prog
  have hown0 := World.ownsMap_made w Try.prog 3 (plainElem (H := Value) Try.prog 3)
  have HO0 := Lib.hid hown0
  clear hr hrg hown0
  go_enter Try.func48, Try.ntmps48
  go_wp2
  go_step3
  go_wp2
  clear hmm
  go_step3
  go_wp2
  go_loopw [5, 9] (fun _ i wr => ∃ k : Nat, k ≤ l.length ∧ i = .int .i64 k ∧ Aside0 (RowKit.Below w.heap.size w wr ∧ w.heap.size < wr.heap.size ∧ ((l.take k).map (·.f0)).Nodup ∧ ∃ D : DataW Value, wr.ownsMap Try.prog 3 (plainElem Try.prog 3) w.heap.size k D ∧ IsMap D ∧ ∀ x : Int, D.atKey (ky x) (.lit (.int .i64 0)) = .lit (.int .i64 (if x ∈ (l.take k).map (·.f0) then 1 else 0)))) (fun _ i _ => l.length - (intOf i).toNat)
  case atStart =>
    exact ⟨0, Nat.zero_le _, rfl, ⟨below_alloc (Below.refl _ _) _, by simp, by simp, .map [], HO0.out, isMap_empty, fun x => by simp [DataW.atKey]⟩⟩
  case round =>
    clear HO0
    obtain ⟨k, hk, rfl, HB⟩ := hrel
    by_cases hlt : k < l.length
    · obtain ⟨ad, A1, c1, rfl, x0, x1, _, _⟩ := at_T31 (HR.out _ HB.out.1) (k : Int) (by omega) (by omega)
      simp only [Int.toNat_natCast] at x0 x1
      obtain ⟨q, hq⟩ : ∃ q, q = rd_T31 l (k : Int) := ⟨_, rfl⟩
      rw [← hq] at x0 x1
      have hqe : q = l[k] := by rw [hq]; simp [rd_T31, List.getD_eq_getElem?_getD, List.getElem?_eq_getElem hlt]
      obtain ⟨q0, q1⟩ := HG.out q (by rw [hqe]; exact List.getElem_mem hlt)
      have HT := Lib.hid (show (l.take (k + 1)).map (·.f0) = (l.take k).map (·.f0) ++ [q.f0] by
        rw [List.take_succ_eq_append_getElem hlt, List.map_append, hqe]; rfl)
      obtain ⟨hB, hsz, hnd, D, hD, hI, hat⟩ := HB.out
      have hwf := wf_small q.f0 q0 (by omega)
      have hkey : keyOf Try.prog 3 (.int .i64 q.f0) = some (ky q.f0) := keyOf_int_mk Try.underlying3 hwf
      have hD5 := hD.alloc (.cells #[.int .i64 q.f0, .slice A1 q.f1.length c1] 31)
      obtain ⟨cc, hrun, hcc, _⟩ := hD5.lookup_int law3 (t := 139) Try.underlying139 Try.underlying3 (zero3 _) hkey
      rw [hat] at hcc
      have hccv : cc = if q.f0 ∈ (l.take k).map (·.f0) then 1 else 0 := by injection hcc with h; injection h with _ h; exact h.symm
      have b0 := World.cell?_alloc_at (w := wr) #[.int .i64 q.f0, .slice A1 q.f1.length c1] 31 wr.heap.size 0 rfl
      have HX := Lib.hid (show (wr.alloc (.cells #[.int .i64 q.f0, .slice A1 q.f1.length c1] 31)).cell? ⟨wr.heap.size, 0, none⟩ = some (.int .i64 q.f0) from b0)
      have b2 : (k : Int) < (l.length : Int) := by omega
      have HQ := Lib.hid hqe
      have HI := Lib.hid hI
      have HAT := Lib.hid hat
      have HND := Lib.hid hnd
      have HBB := Lib.hid hB
      have HSZ := Lib.hid hsz
      have HK := Lib.hid hkey
      have HD5 := Lib.hid hD5
      clear hq hqe hcc b0 hI hat hnd hB hsz hkey hD5 hD hwf HB
      by_cases hmem : q.f0 ∈ (l.take k).map (·.f0)
      · rw [if_pos hmem] at hccv
        subst hccv
        have HM := Lib.hid (show dupB l = true by
          unfold dupB
          rw [Bool.not_eq_true', decide_eq_false_iff_not]
          intro h
          have h2 : ((l.take (k + 1)).map (·.f0)).Nodup := (h.sublist ((List.take_sublist _ _).map _))
          rw [HT.out] at h2
          exact (List.nodup_append.1 h2).2.2 _ hmem _ (by simp) rfl)
        clear hmem
        go_wp2_with ((at_mapUpdate; refine wpList_mapUpdate_own _ rfl _ _ _ 139 rfl 3 3 law3 Try.underlying139 (plainElem Try.prog 3) w.heap.size k D rfl HD5.out (by unfold maxLen; omega) _ _ _ rfl rfl HK.out _ [] (plainElem_int Try.underlying3 (wf_small 2 (by decide) (by decide))) ?_; intro w6 hown6 hgrow6; have y0 : w6.cell? ⟨wr.heap.size, 0, none⟩ = some (.int .i64 q.f0) := hgrow6.cell (a := ⟨wr.heap.size, 0, none⟩) HX.out (by have := HSZ.out; simp; omega); obtain ⟨c6, hrun6, hc6, _⟩ := hown6.lookup_int law3 (t := 139) Try.underlying139 Try.underlying3 (zero3 _) HK.out; rw [atKey_put_same HI.out (ky_key _)] at hc6; have hc6' : c6 = 2 := (by injection hc6 with h; injection h with _ h; exact h.symm); subst hc6'; have HB6 := Lib.hid ((below_alloc HBB.out _).grown hgrow6 (by have := HSZ.out; simp; omega) (fun j hj => by cases hj; exact Nat.le_refl _)); clear hown6 hgrow6 hc6))
        try rw [Exit.noGoto_ret]
        go_ret
        exact ⟨by rw [HM.out]; rfl, HB6.out⟩
      · rw [if_neg hmem] at hccv
        subst hccv
        have HM := Lib.hid hmem
        clear hmem
        go_wp2_with ((at_mapUpdate; refine wpList_mapUpdate_own _ rfl _ _ _ 139 rfl 3 3 law3 Try.underlying139 (plainElem Try.prog 3) w.heap.size k D rfl HD5.out (by unfold maxLen; omega) _ _ _ rfl rfl HK.out _ [] (plainElem_int Try.underlying3 (wf_small 1 (by decide) (by decide))) ?_; intro w6 hown6 hgrow6; have y0 : w6.cell? ⟨wr.heap.size, 0, none⟩ = some (.int .i64 q.f0) := hgrow6.cell (a := ⟨wr.heap.size, 0, none⟩) HX.out (by have := HSZ.out; simp; omega); obtain ⟨c6, hrun6, hc6, _⟩ := hown6.lookup_int law3 (t := 139) Try.underlying139 Try.underlying3 (zero3 _) HK.out; rw [atKey_put_same HI.out (ky_key _)] at hc6; have hc6' : c6 = 1 := (by injection hc6 with h; injection h with _ h; exact h.symm); subst hc6'; have HB6 := Lib.hid ((below_alloc HBB.out _).grown hgrow6 (by have := HSZ.out; simp; omega) (fun j hj => by cases hj; exact Nat.le_refl _)); have HS6 := Lib.hid hgrow6.size; have HO6 := Lib.hid hown6; clear hown6 hgrow6 hc6))
        go_roundw
        case rel =>
          refine ⟨k + 1, by omega, by go_num, ⟨HB6.out, ?_, ?_, _, HO6.out, HI.out.put _ _, fun x => ?_⟩⟩
          · have h1 := HS6.out; have h2 := HSZ.out; simp at h1; omega
          · rw [HT.out]
            exact List.nodup_append.2 ⟨HND.out, by simp, fun a ha b hb => by simp at hb; subst hb; rintro rfl; exact HM.out ha⟩
          · rw [HT.out]
            by_cases hx : x = q.f0
            · subst hx
              rw [atKey_put_same HI.out (ky_key _), if_pos (by simp)]
            · rw [atKey_put_other (ky_inj hx), HAT.out]
              simp [hx]
        case measure => simp [intOf]; omega
    · obtain rfl : k = l.length := by omega
      have hF : l.take l.length = l := List.take_length
      have HM := Lib.hid (show dupB l = false by
        unfold dupB
        have := HB.out.2.2.1
        rw [hF] at this
        simpa using this)
      have HBB := Lib.hid HB.out.1
      have b2 : ¬ (l.length : Int) < (l.length : Int) := by omega
      clear hF HB
      go_wp2
      try rw [Exit.noGoto_ret]
      go_ret
      exact ⟨by rw [HM.out]; rfl, HBB.out⟩
end Go.Proofs.Ytbebihphodafiaa.Iv
