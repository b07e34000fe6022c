/- A view: its reads, and what it stands on. -/
import Derived.Test.YtbebihphodafiaaProg
import Derived.Below
import Derived.Deep.Draws
import Derived.Deep.AppendLies
import Derived.Maps.AppendAt
import Derived.OwnWalk
import Derived.Laws.BytesArg
import Derived.Laws.MakeOwn
import Derived.Laws.OwnMore
import Derived.Deep.OwnRows
import Derived.Tactics
import Derived.Lib.ConvBytes
import Derived.Laws.Slices
import Derived.WalkKit
import Derived.KernelRfl
import Derived.RowKit3
import Derived.Deep.LoopGhost
import Derived.Deep.QuietTactic
import Derived.BigQuiet
import Derived.WideLaws
import Derived.Deep.DeepCutAuto
import Derived.Deep.CutBlock
import Derived.Deep.RegionHeld3
import Derived.Laws.Rows
import Derived.Lib.AppendStr
import Derived.ArgAppend
import Derived.Laws.IdiomCopy
import Derived.OrdersHeld
import Derived.Laws.BitsLemmas
import Derived.RowKit
import Derived.Test.YtbebihphodafiaaWWords
import Derived.Test.YtbebihphodafiaaWLast
import Derived.Test.YtbebihphodafiaaWTab
import Derived.Test.YtbebihphodafiaaWFour
import Derived.Test.YtbebihphodafiaaWQPut
import Derived.Test.YtbebihphodafiaaWApart
import Derived.Test.YtbebihphodafiaaWArr
import Derived.Test.YtbebihphodafiaaWZeros
import Derived.Test.YtbebihphodafiaaWFoot
import Derived.Test.YtbebihphodafiaaWKept
import Derived.Test.YtbebihphodafiaaWShare
import Derived.Test.YtbebihphodafiaaWN
import Derived.Test.YtbebihphodafiaaWFootNe
import Derived.Test.YtbebihphodafiaaWAt
import Derived.Test.YtbebihphodafiaaWEqStruct
import Derived.Test.YtbebihphodafiaaWRepsOne
import Derived.Test.YtbebihphodafiaaWInv
import Derived.Test.YtbebihphodafiaaWInvWords
import Derived.Test.YtbebihphodafiaaWGuard
import Derived.Test.YtbebihphodafiaaWNEv
import Derived.Test.YtbebihphodafiaaWMore
import Derived.Outline
import Derived.Lib.Hide
import Derived.Deep.DeepMust
import Derived.Deep.RegionHeld3
import Derived.IntWalk
import Derived.Test.YtbebihphodafiaaRsB
import Derived.Test.YtbebihphodafiaaWbG
namespace Go.Proofs.Ytbebihphodafiaa.Iv
open Go.RowKit Go.Proofs.YtbebihphodafiaaW.PrintWords Go.Proofs.YtbebihphodafiaaW.PrintLast Go.Proofs.YtbebihphodafiaaW.PrintMore Go.Proofs.Ytbebihphodafiaa.PWb Go.Maps
set_option linter.unusedVariables false
set_option linter.unusedSimpArgs false

/-! ### what was read: block, bytes, one's own? -/
structure S77 where
  f0 : Int
  f1 : (List Int)
  f2 : Bool
def z77 : S77 := ⟨0, [], false⟩
def k77 : Kd S77 := Kd.iso (Kd.pair (Kd.int .i64) (Kd.pair (Kd.slice 5 (Kd.int .u8)) Kd.bool)) (fun x : S77 => (x.f0, x.f1, x.f2))
theorem k77_open {w : World} {x : S77} {cs : List Value} (h : k77.K w x cs) : ∃ A1 c1, cs = [.int .i64 x.f0, .slice A1 x.f1.length c1, .bool x.f2] ∧ x.f1.length ≤ c1 ∧ (Kd.int .u8).C w A1 x.f1.length x.f1 := by
  obtain ⟨_, _, rfl, rfl, ⟨_, _, rfl, ⟨A2, c2, rfl, l2, g2⟩, rfl⟩⟩ := h
  exact ⟨A2, c2, rfl, l2, g2⟩
theorem k77_mkM (w : World) (base : Nat) (ok : Nat → Prop) (x : S77) {v1 : Value} (g : (Kd.int .u8).R 5 w base ok v1 x.f1) : k77.M w base ok x [.int .i64 x.f0, v1, .bool x.f2] := ⟨[.int .i64 x.f0], [v1, .bool x.f2], rfl, rfl, ⟨[v1], [.bool x.f2], rfl, ⟨v1, rfl, g⟩, rfl⟩⟩
def rd_T77 (xs : List S77) (i : Int) : S77 := xs.getD i.toNat z77
theorem at_T77 {w : World} {A : Option Addr} {n : Nat} {xs : List S77} (h : Kd.C k77 w A n xs) (i : Int) (h0 : 0 ≤ i) (h1 : i < n) : ∃ ad A1 c1, A = some ad ∧ w.cell? (ad.add (i.toNat * 3)) = some (.int .i64 (rd_T77 xs i).f0) ∧ w.cell? ⟨(ad.add (i.toNat * 3)).block, (ad.add (i.toNat * 3)).off + 1, none⟩ = some (.slice A1 (rd_T77 xs i).f1.length c1) ∧ w.cell? ⟨(ad.add (i.toNat * 3)).block, (ad.add (i.toNat * 3)).off + 2, none⟩ = some (.bool (rd_T77 xs i).f2) ∧ (rd_T77 xs i).f1.length ≤ c1 ∧ (Kd.int .u8).C w A1 (rd_T77 xs i).f1.length (rd_T77 xs i).f1 := by
  obtain ⟨ad, c, e, _, hK, hc0⟩ := Kd.C_get h z77 i h0 h1
  have hc : ∀ j u, c[j]? = some u → w.cell? (ad.add (i.toNat * 3 + j)) = some u := hc0
  obtain ⟨A1, c1, rfl, l2, g2⟩ := k77_open hK
  exact ⟨ad, A1, c1, e, hc 0 _ rfl, by rw [← add_field _ _ 1 (by omega)]; exact hc 1 _ rfl, by rw [← add_field _ _ 2 (by omega)]; exact hc 2 _ rfl, l2, g2⟩
/-! ### rows beside what is written -/
/-- A change of one block that is no block of these types, or is older. -/
def Off (W : World) (base : Nat) (ts : List Nat) (row : Option Nat) : Prop := ∀ k, row = some k → k < base ∨ ∃ cells t, t ∉ ts ∧ W.heap[k]? = some (.cells cells t (0, 0))
theorem R_off {α : Type} {d : Kd α} {e : Nat} {W w1 : World} {base : Nat} {ok : Nat → Prop} {v : Value} {xs : List α} (h : d.R e W base ok v xs) {row : Option Nat} (hg : W.grownBy w1 row) (hr : Off W base (e :: d.E) row) : d.R e w1 base ok v xs := by
  cases hrow : row with
  | none => subst hrow; exact Kd.R_grown h hg (fun k _ e => by cases e)
  | some k =>
    subst hrow
    rcases hr k rfl with h1 | ⟨cells, t, h1, h2⟩
    · refine Kd.R_mono (Kd.R_grown (Kd.R_bound h) hg (fun j hj e => ?_)) (fun _ hk => hk.1)
      injection e with e
      have := hj.2.1
      omega
    · exact Kd.R_over' (v := .slice (some ⟨k, 0, none⟩) 0 0) h (fun j hj => by simp only [Value.ownBlock, Option.map_some, Option.some.injEq] at hj; subst hj; exact ⟨cells, h2⟩) (fun q hq he => h1 (by rw [← he]; exact hq)) hg
theorem IsExt.grown2 {W W' : World} {fr em : Nat} {blocks last : Int} {V : Int → List S31} (h : IsExt W fr em blocks last V) {row : Option Nat} (hg : W.grownBy W' row) (hr : ∀ k, row = some k → k ≠ em ∧ k ≠ em + 1) (ho : Off W fr [126, 5] row) : IsExt W' fr em blocks last V := by
  have h1 : some (em + 1) ≠ row := fun e => (hr _ e.symm).2 rfl
  have h2 : some em ≠ row := fun e => (hr _ e.symm).1 rfl
  obtain ⟨n, D, vv, d1, d2, d3, d4, d5⟩ := h.map
  refine ⟨h.lt, hg.cell h.c0 h1, hg.cell h.c1 h1, hg.cell h.c2 h1, ⟨n, D, vv, d1.kept hg h2, d2, d3, fun x hx => ?_, d5⟩, h.rng, h.dat, h.bl⟩
  obtain ⟨e1, e2, e3⟩ := d4 x hx
  exact ⟨e1, e2, R_off e3 hg ho⟩
theorem grown_set {W : World} {g j : Nat} {u : Value} : W.grownBy (W.setCell ⟨g, j, none⟩ u) (some g) :=
  ⟨rfl, rfl, rfl, by simp [World.setCell], fun i _ hi => Below.heap_setCell W ⟨g, j, none⟩ u i (fun e => hi (by rw [e]))⟩
theorem C60_grown {W W' : World} {row : Option Nat} {A : Option Addr} {n : Nat} {l : List S60} (h : Kd.C k60 W A n l) (hg : W.grownBy W' row) (hA : ∀ x, A = some x → some x.block ≠ row) : Kd.C k60 W' A n l := by
  refine ⟨h.1, h.2.1, fun hp => ?_⟩
  obtain ⟨ad, he, hc⟩ := h.2.2 hp
  refine ⟨ad, he, fun j p hj => ?_⟩
  obtain ⟨cs, c1, c2, c3⟩ := hc j p hj
  obtain rfl := k60_open c2
  exact ⟨_, c1, k60_mk _ _, fun i u hu => hg.cell (c3 i u hu) (by rw [addr_block]; exact hA ad he)⟩
theorem frozen_grown {W W' : World} {row : Option Nat} (hg : W.grownBy W' row) {g j : Nat} (hlt : g < W.heap.size) (hr : some g ≠ row) : W'.frozen? ⟨g, j, none⟩ = W.frozen? ⟨g, j, none⟩ := by
  unfold World.frozen?
  rw [hg.block g hlt hr]
theorem IsSet.grown2 {W W' : World} {fr b : Nat} {most : Int} {L : List S60} (h : IsSet W fr b most L) {row : Option Nat} (hg : W.grownBy W' row) (hr : ∀ k, row = some k → k ≠ b) (ho : Off W fr [60] row) : IsSet W' fr b most L := by
  obtain ⟨h1, h2, ⟨A, c, h3, h4, h5, h6⟩, h7, h8, h9⟩ := h
  have hlt := World.block_lt_of_cell? _ _ h2
  have hb : some b ≠ row := fun e => hr _ e.symm rfl
  have hne : ∀ x, A = some x → some x.block ≠ row := fun x hx e => by
    obtain ⟨k1, cells, k2⟩ := h6 x hx
    rcases ho _ e.symm with h | ⟨cs, t, e1, e2⟩
    · omega
    · rw [k2] at e2; injection e2 with e2; injection e2 with _ e2; exact e1 (by rw [← e2]; simp)
  refine ⟨h1, hg.cell h2 hb, ⟨A, c, hg.cell h3 hb, h4, C60_grown h5 hg hne, fun x hx => ⟨(h6 x hx).1, (h6 x hx).2.elim fun cells e => ⟨cells, (hg.block x.block (blk_lt e) (hne x hx)).trans e⟩⟩⟩, by rw [frozen_grown hg hlt hb]; exact h7, h8, h9⟩
/-! ### copy into the middle of a row of bytes -/
theorem copy_mid {P : Program} {W : World} {base g lo cap cap2 m c : Nat} {ty : TypeId} {ok : Nat → Prop} {xs ys : List Int} {A : Option Addr} (ht : P.underlying 28 = some (.slice 5)) (hinfo : (P.info? 5).map (·.size) = some 1)
    (HO : Kd.R kb 5 W base ok (.slice (some ⟨g, 0, none⟩) xs.length cap) xs) (HR : Kd.C kb W A m ys) (hm0 : 0 < m) (hlo : lo + m ≤ xs.length) :
    ∃ w1, (Builtin.copy_ #[28, 28] ty #[.slice (some ⟨g, lo, none⟩) m cap2, .slice A m c]).run P W = .ok (goInt (m : Int)) w1 ∧ Kd.R kb 5 w1 base ok (.slice (some ⟨g, 0, none⟩) xs.length cap) (xs.take lo ++ ys ++ xs.drop (lo + m)) ∧ W.grownBy w1 (some g) := by
  have hR := Kd.reads_of_C (d := (0 : Int)) HR
  have hm : ys.length = m := hR.1
  have hown := Kd.own_of_R HO
  obtain ⟨ad, hA, hc⟩ := hR.2.2 hm0
  rcases hown.2 with ⟨hx0, _⟩ | ⟨g', cap', cur, hv, hb, hh, hnc, hcm, hcs, htake⟩
  · cases hx0
  injection hv with h1 h2 h3
  injection h1 with h1
  injection h1 with h1
  subst h1
  subst h3
  obtain ⟨enc, henc⟩ : ∃ f : Int → Value, f = Value.int .u8 := ⟨_, rfl⟩
  have hsrc : ∀ j u, (ys.map (Value.int .u8))[j]? = some u → W.cell? (ad.add j) = some u := by
    intro j u hu
    have hj : j < ys.length := by
      rcases Nat.lt_or_ge j ys.length with h | h
      · exact h
      · rw [List.getElem?_eq_none (by simpa using h)] at hu
        cases hu
    rw [hc j (by omega), ← hu]
    simp [List.getD_eq_getElem?_getD, hj]
  have hkl : (ys.map (Value.int .u8)).length = m := by simp [hm]
  have hcs1 : cur.size = cap := by omega
  have hr := run_copy_cells (P := P) W 28 28 ty 5 g lo m cap2 ad m c (ys.map (Value.int .u8)) ht hinfo (by rw [hkl]; simp) hsrc
    (fun j hj => by rw [cell_of_row W g _ cur 5 (0, 0) hh]; simp; omega) (fun j _ => blk_frozen hh _) (by intro u hu; simp only [List.mem_map] at hu; obtain ⟨q, _, rfl⟩ := hu; rfl)
  obtain ⟨cur', h3, h4, h5⟩ := setCells_row (ys.map (Value.int .u8)) lo W cur hh (by rw [hkl]; omega)
  obtain ⟨s1, s2, s3, s4⟩ := setCells_same g (ys.map (Value.int .u8)) lo W
  have hln : (xs.take lo ++ ys ++ xs.drop (lo + m)).length = xs.length := by
    rw [List.length_append, List.length_append, List.length_take, List.length_drop]
    omega
  refine ⟨_, by rw [hA, hr, hkl], Kd.R_of_own ?_ HO.1, ⟨s1, s2, s3, by rw [s4]; exact Nat.le_refl _, fun k _ hk => setCells_far _ _ k (fun he => hk (by rw [he]))⟩⟩
  rw [hln]
  refine ⟨by rw [encs_length, hln, Nat.mul_one], .inr ⟨g, cap, cur', rfl, hb, h3, hnc, hcm, by rw [h4, hcs], ?_⟩⟩
  have htk : cur.toList.take xs.length = xs.map (Value.int .u8) := by rw [← Nat.mul_one xs.length, htake]; rfl
  have hcl : cur.toList.length = cap := by rw [Array.length_toList]; omega
  rw [h5, hkl, Nat.mul_one]
  have e1 : cur.toList.take lo = (xs.map (Value.int .u8)).take lo := by rw [← htk, List.take_take]; congr 1; omega
  have e2 : (cur.toList.drop (lo + m)).take (xs.length - (lo + m)) = (xs.map (Value.int .u8)).drop (lo + m) := by rw [← htk, List.drop_take]
  rw [List.take_append, List.take_of_length_le (by simp; omega)]
  have e3 : (cur.toList.take lo ++ ys.map (Value.int .u8)).length = lo + m := by simp [hm]; omega
  rw [e3, e2, e1]
  show _ = (xs.take lo ++ ys ++ xs.drop (lo + m)).map (Value.int .u8)
  simp [List.map_append, List.map_take, List.map_drop]
end Go.Proofs.Ytbebihphodafiaa.Iv
