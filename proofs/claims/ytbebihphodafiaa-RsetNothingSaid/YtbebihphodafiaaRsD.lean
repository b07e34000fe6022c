/- A view: what it stands on, and what a reading keeps. -/
import Derived.Test.YtbebihphodafiaaProg
import Derived.Below
import Derived.Deep.Draws
import Derived.Deep.AppendLies
import Derived.Maps.AppendAt
import Derived.OwnWalk
import Derived.Laws.BytesArg
import Derived.Laws.MakeOwn
import Derived.Laws.OwnMore
import Derived.Deep.OwnRows
import Derived.Tactics
import Derived.Lib.ConvBytes
import Derived.Laws.Slices
import Derived.WalkKit
import Derived.KernelRfl
import Derived.RowKit3
import Derived.Deep.LoopGhost
import Derived.Deep.QuietTactic
import Derived.BigQuiet
import Derived.WideLaws
import Derived.Deep.DeepCutAuto
import Derived.Deep.CutBlock
import Derived.Deep.RegionHeld3
import Derived.Laws.Rows
import Derived.Lib.AppendStr
import Derived.ArgAppend
import Derived.Laws.IdiomCopy
import Derived.OrdersHeld
import Derived.Laws.BitsLemmas
import Derived.RowKit
import Derived.Test.YtbebihphodafiaaWWords
import Derived.Test.YtbebihphodafiaaWLast
import Derived.Test.YtbebihphodafiaaWTab
import Derived.Test.YtbebihphodafiaaWFour
import Derived.Test.YtbebihphodafiaaWQPut
import Derived.Test.YtbebihphodafiaaWApart
import Derived.Test.YtbebihphodafiaaWArr
import Derived.Test.YtbebihphodafiaaWZeros
import Derived.Test.YtbebihphodafiaaWFoot
import Derived.Test.YtbebihphodafiaaWKept
import Derived.Test.YtbebihphodafiaaWShare
import Derived.Test.YtbebihphodafiaaWN
import Derived.Test.YtbebihphodafiaaWFootNe
import Derived.Test.YtbebihphodafiaaWAt
import Derived.Test.YtbebihphodafiaaWEqStruct
import Derived.Test.YtbebihphodafiaaWRepsOne
import Derived.Test.YtbebihphodafiaaWInv
import Derived.Test.YtbebihphodafiaaWInvWords
import Derived.Test.YtbebihphodafiaaWGuard
import Derived.Test.YtbebihphodafiaaWNEv
import Derived.Test.YtbebihphodafiaaWMore
import Derived.Outline
import Derived.Lib.Hide
import Derived.Deep.DeepMust
import Derived.Deep.RegionHeld3
import Derived.IntWalk
import Derived.Test.YtbebihphodafiaaRsC
namespace Go.Proofs.Ytbebihphodafiaa.Iv
open Go.RowKit Go.Proofs.YtbebihphodafiaaW.PrintWords Go.Proofs.YtbebihphodafiaaW.PrintLast Go.Proofs.YtbebihphodafiaaW.PrintMore Go.Proofs.Ytbebihphodafiaa.PWb Go.Maps
set_option linter.unusedVariables false
set_option linter.unusedSimpArgs false

structure IsView (W : World) (fr vb em mb sb : Nat) (at_ : Int) (ok : Nat → Prop) (R : List S77) : Prop where
  lt : vb < fr
  c0 : W.cell? ⟨vb, 0, none⟩ = some (.pointer (some ⟨em + 1, 0, none⟩))
  c1 : W.cell? ⟨vb, 1, none⟩ = some (.pointer (some ⟨mb + 1, 0, none⟩))
  c2 : W.cell? ⟨vb, 2, none⟩ = some (.int .i64 at_)
  c3 : W.cell? ⟨vb, 3, none⟩ = some (.pointer (some ⟨sb, 0, none⟩))
  c4 : ∃ A c, W.cell? ⟨vb, 4, none⟩ = some (.slice A R.length c) ∧ Kd.R k77 77 W fr (fun k => fr ≤ k ∧ ok k) (.slice A R.length c) R
  f4 : W.frozen? ⟨vb, 4, none⟩ = false
theorem IsView.step {W W' : World} {fr vb em mb sb : Nat} {at_ : Int} {ok : Nat → Prop} {R : List S77} (h : IsView W fr vb em mb sb at_ ok R) {row : Option Nat} (hg : W.grownBy W' row) (hr : some vb ≠ row)
    (hR : ∀ v, Kd.R k77 77 W fr (fun k => fr ≤ k ∧ ok k) v R → Kd.R k77 77 W' fr (fun k => fr ≤ k ∧ ok k) v R) : IsView W' fr vb em mb sb at_ ok R := by
  obtain ⟨h1, h2, h3, h4, h5, ⟨A, c, h6, h7⟩, h8⟩ := h
  have hlt := World.block_lt_of_cell? _ _ h2
  exact ⟨h1, hg.cell h2 hr, hg.cell h3 hr, hg.cell h4 hr, hg.cell h5 hr, ⟨A, c, hg.cell h6 hr, hR _ h7⟩, by rw [frozen_grown hg hlt hr]; exact h8⟩
theorem IsView.mono {W : World} {fr vb em mb sb : Nat} {at_ : Int} {ok ok' : Nat → Prop} {R : List S77} (h : IsView W fr vb em mb sb at_ ok R) (hok : ∀ k, k < W.heap.size → ok k → ok' k) : IsView W fr vb em mb sb at_ ok' R := by
  obtain ⟨h1, h2, h3, h4, h5, ⟨A, c, h6, h7⟩, h8⟩ := h
  exact ⟨h1, h2, h3, h4, h5, ⟨A, c, h6, Kd.R_mono (Kd.R_bound h7) (fun k hk => ⟨hk.1.1, hok k hk.2.2.1 hk.1.2⟩)⟩, h8⟩
/-- A map, a buffer, a set, a view on them. -/
structure IsW (W : World) (fr em mb sb vb : Nat) (blocks most last at_ : Int) (V : Int → List S31) (M : List S31) (L : List S60) (R : List S77) (ok : Nat → Prop) : Prop where
  ext : IsExt W fr em blocks last V
  buf : IsBuf W fr mb blocks most M
  set : IsSet W fr sb 64 L
  view : IsView W fr vb em mb sb at_ ok R
  ord : em + 1 < mb ∧ mb + 1 < sb ∧ sb < vb
  fits : fr ≤ W.heap.size
section
variable {W W' : World} {fr em mb sb vb : Nat} {blocks most last at_ : Int} {V : Int → List S31} {M : List S31} {L : List S60} {R : List S77} {ok : Nat → Prop}
theorem IsW.mono {ok' : Nat → Prop} (h : IsW W fr em mb sb vb blocks most last at_ V M L R ok) (hok : ∀ k, k < W.heap.size → ok k → ok' k) : IsW W fr em mb sb vb blocks most last at_ V M L R ok' :=
  ⟨h.ext, h.buf, h.set, h.view.mono hok, h.ord, h.fits⟩
theorem IsW.below (h : IsW W fr em mb sb vb blocks most last at_ V M L R ok) (hb : RowKit.Below W.heap.size W W') : IsW W' fr em mb sb vb blocks most last at_ V M L R ok :=
  ⟨h.ext.below hb, h.buf.below hb, h.set.below hb, h.view.step (grown_of_below hb none) (by simp) (fun v hv => Kd.R_below hv hb), h.ord, Nat.le_trans h.fits hb.size⟩
/-- A block below the data is written, none of the map, the buffer, the set, the view. -/
theorem IsW.old (h : IsW W fr em mb sb vb blocks most last at_ V M L R ok) {k : Nat} (hg : W.grownBy W' (some k)) (hk : k < fr) (h1 : k ≠ em ∧ k ≠ em + 1) (h2 : k ≠ mb ∧ k ≠ mb + 1) (h3 : k ≠ sb) (h4 : k ≠ vb) : IsW W' fr em mb sb vb blocks most last at_ V M L R ok := by
  have ho : ∀ ts, Off W fr ts (some k) := fun ts j hj => by cases hj; exact .inl hk
  exact ⟨h.ext.grown2 hg (fun j hj => by cases hj; exact h1) (ho _), h.buf.grown2 hg (fun j hj => by cases hj; exact ⟨h2.1, h2.2, .inl hk⟩), h.set.grown2 hg (fun j hj => by cases hj; exact h3) (ho _),
    h.view.step hg (fun e => by cases e; exact h4 rfl) (fun v hv => R_off hv hg (ho _)), h.ord, Nat.le_trans h.fits hg.size⟩
/-- A block that the reads do not lead to, of bytes, is written: newer than all that is held. -/
theorem IsW.bytes (h : IsW W fr em mb sb vb blocks most last at_ V M L R ok) {g : Nat} {W0 : World} (hg : W.grownBy W' (some g)) (h0 : IsExt W fr em blocks last V → IsBuf W fr mb blocks most M → IsExt W' fr em blocks last V ∧ IsBuf W' fr mb blocks most M) (hfr : fr ≤ g) (hty : ∃ cells, W.heap[g]? = some (.cells cells 5 (0, 0))) (hok : ∀ k, ok k → k ≠ g) : IsW W' fr em mb sb vb blocks most last at_ V M L R ok := by
  obtain ⟨e1, e2⟩ := h0 h.ext h.buf
  obtain ⟨cells, hc⟩ := hty
  have hv := h.view.lt
  have ho := h.ord
  refine ⟨e1, e2, h.set.grown2 hg (fun j hj => by cases hj; omega) (fun j hj => by cases hj; exact .inr ⟨cells, 5, by decide, hc⟩), h.view.step hg (fun e => by cases e; omega) (fun v hv => Kd.R_grown hv hg (fun k hk e => by injection e with e; exact hok k hk.2 e)), h.ord, Nat.le_trans h.fits hg.size⟩
/-- What an addition leaves. -/
theorem IsW.mv {L' : List S60} (h : IsW W fr em mb sb vb blocks most last at_ V M L R ok) (hm : Mv sb W W') (hs : IsSet W' fr sb 64 L') : IsW W' fr em mb sb vb blocks most last at_ V M L' R ok := by
  have ho := h.ord
  have hv := h.view.lt
  obtain ⟨w1, hb, rfl | ⟨v, rfl⟩⟩ := hm
  · have h1 := h.below hb
    exact ⟨h1.ext, h1.buf, hs, h1.view, h1.ord, h1.fits⟩
  · have h1 := h.below hb
    have hoff : ∀ ts, Off w1 fr ts (some sb) := fun ts j hj => by cases hj; exact .inl (by omega)
    have hg : w1.grownBy (w1.setCell ⟨sb, 1, none⟩ v) (some sb) := grown_set
    exact ⟨h1.ext.grown2 hg (fun j hj => by cases hj; omega) (hoff _), h1.buf.grown2 hg (fun j hj => by cases hj; exact ⟨by omega, by omega, .inl (by omega)⟩), hs,
      h1.view.step hg (fun e => by cases e; omega) (fun v hv => R_off hv hg (hoff _)), h1.ord, Nat.le_trans h1.fits hg.size⟩
/-- One more is read. -/
theorem IsW.app {p : S77} {v v1 : Value} (h : IsW W fr em mb sb vb blocks most last at_ V M L R ok) (hv : Kd.R k77 77 W fr (fun k => fr ≤ k ∧ ok k) v R) (hR : Kd.R k77 77 W' fr (fun k => fr ≤ k ∧ ok k) v1 (R ++ [p])) (hg : W.grownBy W' v.ownBlock) :
    IsW (W'.setCell ⟨vb, 4, none⟩ v1) fr em mb sb vb blocks most last at_ V M L (R ++ [p]) ok := by
  have ho := h.ord
  have hlt := h.view.lt
  have hbase : ∀ k, v.ownBlock = some k → fr ≤ k := fun k hk => Kd.R_base hv k hk
  have hoff : ∀ ts, 77 ∉ ts → Off W fr ts v.ownBlock := fun ts ht k hk => .inr ((Kd.R_typed hv k hk).elim fun cells e => ⟨cells, 77, ht, e⟩)
  have hne : ∀ k, k < fr → some k ≠ v.ownBlock := fun k hk e => by have := hbase k e.symm; omega
  have he := h.ext.grown2 hg (fun k hk => by have := hbase k hk; have := h.ext.lt; omega) (hoff _ (by decide))
  have hbu := h.buf.grown2 hg (fun k hk => by have := hbase k hk; have := h.buf.lt; exact ⟨by omega, by omega, .inr ((Kd.R_typed hv k hk).elim fun cells e => ⟨cells, 77, by decide, e⟩)⟩)
  have hse := h.set.grown2 hg (fun k hk => by have := hbase k hk; omega) (hoff _ (by decide))
  have hg2 : W'.grownBy (W'.setCell ⟨vb, 4, none⟩ v1) (some vb) := grown_set
  have hoff2 : ∀ ts, Off W' fr ts (some vb) := fun ts j hj => by cases hj; exact .inl hlt
  obtain ⟨h1, h2, h3, h4, h5, ⟨A, c, h6, h7⟩, h8⟩ := h.view
  have hvr := hne vb hlt
  have hblt := World.block_lt_of_cell? _ _ h2
  obtain ⟨A1, c1, hv1⟩ := Kd.R_slice hR
  subst hv1
  refine ⟨he.grown2 hg2 (fun j hj => by cases hj; have := h.ext.lt; omega) (hoff2 _), hbu.grown2 hg2 (fun j hj => by cases hj; exact ⟨by omega, by omega, .inl hlt⟩), hse.grown2 hg2 (fun j hj => by cases hj; omega) (hoff2 _), ?_, h.ord, Nat.le_trans h.fits (Nat.le_trans hg.size hg2.size)⟩
  refine ⟨h1, ?_, ?_, ?_, ?_, ⟨A1, c1, World.cell?_setCell_same' _ _ _ (by rw [hg.cell h6 hvr]; rfl), R_off hR hg2 (hoff2 _)⟩, by rw [World.frozen?_setCell, frozen_grown hg hblt hvr]; exact h8⟩
  · rw [World.cell?_setCell_other _ _ _ _ (by simp)]; exact hg.cell h2 hvr
  · rw [World.cell?_setCell_other _ _ _ _ (by simp)]; exact hg.cell h3 hvr
  · rw [World.cell?_setCell_other _ _ _ _ (by simp)]; exact hg.cell h4 hvr
  · rw [World.cell?_setCell_other _ _ _ _ (by simp)]; exact hg.cell h5 hvr
end
/-- What a reading may change of what was. -/
def Sv (w : World) (fr sb vb : Nat) (i : Nat) : Prop := i = sb ∨ i = vb ∨ fr ≤ i ∧ ∃ cells, w.heap[i]? = some (.cells cells 77 (0, 0))
/-! ### what is read -/
def rdB (V : Int → List S31) (M : List S31) (t x : Int) : List Int := if hasM M x = true then lookM M x else getE V x t
def rdK (V : Int → List S31) (M : List S31) (x t : Int) (k : Nat) : List Int := (List.range k).flatMap (fun i : Nat => rdB V M t (x + (i : Int)))
def newR (V : Int → List S31) (M : List S31) (x t : Int) (k : Nat) : List S77 := (List.range k).map (fun i : Nat => ⟨x + (i : Int), rdB V M t (x + (i : Int)), hasM M (x + (i : Int))⟩)
def mixK (V : Int → List S31) (M : List S31) (x t : Int) (k n : Nat) : List Int := rdK V M x t k ++ (rangeK V x t n).drop (40 * k)
theorem newR_succ (V : Int → List S31) (M : List S31) (x t : Int) (k : Nat) : newR V M x t (k + 1) = newR V M x t k ++ [⟨x + (k : Int), rdB V M t (x + (k : Int)), hasM M (x + (k : Int))⟩] := by
  unfold newR
  rw [List.range_succ, List.map_append]
  simp
theorem rdK_succ (V : Int → List S31) (M : List S31) (x t : Int) (k : Nat) : rdK V M x t (k + 1) = rdK V M x t k ++ rdB V M t (x + (k : Int)) := by
  unfold rdK
  rw [List.range_succ, List.flatMap_append]
  simp
def Forty (V : Int → List S31) (M : List S31) : Prop := (∀ x, ∀ p ∈ V x, p.f1.length = 40) ∧ Rise M ∧ ∀ p ∈ M, p.f1.length = 40
theorem Forty.rdB {V : Int → List S31} {M : List S31} (h : Forty V M) (t x : Int) : (rdB V M t x).length = 40 := by
  unfold Iv.rdB
  split
  · rename_i hh
    obtain ⟨p, hp, rfl⟩ := (hasM_iff M x).1 hh
    rw [lookM_mem h.2.1 hp]
    exact h.2.2 p hp
  · exact getE_len h.1 x t
theorem Forty.rdK {V : Int → List S31} {M : List S31} (h : Forty V M) (x t : Int) (k : Nat) : (rdK V M x t k).length = 40 * k := by
  induction k with
  | zero => rfl
  | succ k ih => rw [rdK_succ, List.length_append, ih, h.rdB]; omega
theorem rangeK_add {V : Int → List S31} (h : ∀ x, ∀ p ∈ V x, p.f1.length = 40) (x t : Int) (k : Nat) : ∀ n, k ≤ n → (rangeK V x t n).take (40 * k) = rangeK V x t k := by
  intro n
  induction n with
  | zero => intro hk; obtain rfl : k = 0 := by omega
            rfl
  | succ n ih =>
    intro hk
    by_cases e : k = n + 1
    · subst e; rw [List.take_of_length_le]; rw [rangeK_len h]; omega
    · rw [rangeK_succ, List.take_append_of_le_length (by rw [rangeK_len h]; omega)]
      exact ih (by omega)
theorem Forty.mix_len {V : Int → List S31} {M : List S31} (h : Forty V M) (x t : Int) (k n : Nat) (hk : k ≤ n) : (mixK V M x t k n).length = 40 * n := by
  unfold mixK
  rw [List.length_append, h.rdK, List.length_drop, rangeK_len h.1]
  omega
theorem Forty.mix_at {V : Int → List S31} {M : List S31} (h : Forty V M) (x t : Int) (k n : Nat) (hk : k < n) : ((mixK V M x t k n).take (40 * k + 40)).drop (40 * k) = getE V (x + (k : Int)) t := by
  unfold mixK
  rw [List.take_append, h.rdK, List.drop_append, List.length_take, h.rdK]
  have e1 : 40 * k - min (40 * k + 40) (40 * k) = 0 := by omega
  rw [e1, List.drop_zero, List.drop_of_length_le (by rw [List.length_take, h.rdK]; omega), List.nil_append]
  have e2 : 40 * k + 40 - 40 * k = 40 := by omega
  rw [e2, List.take_drop]
  have e3 := rangeK_add h.1 x t (k + 1) n (by omega)
  rw [show 40 * k + 40 = 40 * (k + 1) by omega, e3, rangeK_succ, List.drop_append, rangeK_len h.1, List.drop_of_length_le (by rw [rangeK_len h.1]; omega)]
  simp
theorem Forty.mix_own {V : Int → List S31} {M : List S31} (h : Forty V M) (x t : Int) (k n : Nat) (hk : k < n) (hh : hasM M (x + (k : Int)) = true) :
    (mixK V M x t k n).take (40 * k) ++ lookM M (x + (k : Int)) ++ (mixK V M x t k n).drop (40 * k + 40) = mixK V M x t (k + 1) n := by
  unfold mixK
  rw [List.take_append_of_le_length (by rw [h.rdK]; omega), List.take_of_length_le (by rw [h.rdK]; omega), List.drop_append, h.rdK, List.drop_of_length_le (by rw [h.rdK]; omega), rdK_succ, List.nil_append, List.drop_drop]
  have e1 : 40 * k + (40 * k + 40 - 40 * k) = 40 * (k + 1) := by omega
  rw [e1]
  have e2 : Iv.rdB V M t (x + (k : Int)) = lookM M (x + (k : Int)) := by unfold Iv.rdB; rw [if_pos hh]
  rw [e2]
theorem Forty.mix_map {V : Int → List S31} {M : List S31} (h : Forty V M) (x t : Int) (k n : Nat) (hk : k < n) (hh : hasM M (x + (k : Int)) = false) :
    mixK V M x t (k + 1) n = mixK V M x t k n := by
  have e0 := h.mix_at x t k n hk
  have e2 : Iv.rdB V M t (x + (k : Int)) = getE V (x + (k : Int)) t := by unfold Iv.rdB; rw [if_neg (by rw [hh]; decide)]
  unfold mixK
  rw [rdK_succ, e2, List.append_assoc]
  congr 1
  have e4 : (rangeK V x t n).drop (40 * k) = ((rangeK V x t n).drop (40 * k)).take 40 ++ ((rangeK V x t n).drop (40 * k)).drop 40 := (List.take_append_drop _ _).symm
  rw [e4, List.drop_drop, show 40 * k + 40 = 40 * (k + 1) by omega]
  congr 1
  rw [List.take_drop, show 40 * k + 40 = 40 * (k + 1) by omega, rangeK_add h.1 x t (k + 1) n (by omega), rangeK_succ, List.drop_append, rangeK_len h.1, List.drop_of_length_le (by rw [rangeK_len h.1]; omega)]
  simp
end Go.Proofs.Ytbebihphodafiaa.Iv
