/- A view in the midst of a reading. -/
import Derived.Test.YtbebihphodafiaaProg
import Derived.Below
import Derived.Deep.Draws
import Derived.Deep.AppendLies
import Derived.Maps.AppendAt
import Derived.OwnWalk
import Derived.Laws.BytesArg
import Derived.Laws.MakeOwn
import Derived.Laws.OwnMore
import Derived.Deep.OwnRows
import Derived.Tactics
import Derived.Lib.ConvBytes
import Derived.Laws.Slices
import Derived.WalkKit
import Derived.KernelRfl
import Derived.RowKit3
import Derived.Deep.LoopGhost
import Derived.Deep.QuietTactic
import Derived.BigQuiet
import Derived.WideLaws
import Derived.Deep.DeepCutAuto
import Derived.Deep.CutBlock
import Derived.Deep.RegionHeld3
import Derived.Laws.Rows
import Derived.Lib.AppendStr
import Derived.ArgAppend
import Derived.Laws.IdiomCopy
import Derived.OrdersHeld
import Derived.Laws.BitsLemmas
import Derived.RowKit
import Derived.Test.YtbebihphodafiaaWWords
import Derived.Test.YtbebihphodafiaaWLast
import Derived.Test.YtbebihphodafiaaWTab
import Derived.Test.YtbebihphodafiaaWFour
import Derived.Test.YtbebihphodafiaaWQPut
import Derived.Test.YtbebihphodafiaaWApart
import Derived.Test.YtbebihphodafiaaWArr
import Derived.Test.YtbebihphodafiaaWZeros
import Derived.Test.YtbebihphodafiaaWFoot
import Derived.Test.YtbebihphodafiaaWKept
import Derived.Test.YtbebihphodafiaaWShare
import Derived.Test.YtbebihphodafiaaWN
import Derived.Test.YtbebihphodafiaaWFootNe
import Derived.Test.YtbebihphodafiaaWAt
import Derived.Test.YtbebihphodafiaaWEqStruct
import Derived.Test.YtbebihphodafiaaWRepsOne
import Derived.Test.YtbebihphodafiaaWInv
import Derived.Test.YtbebihphodafiaaWInvWords
import Derived.Test.YtbebihphodafiaaWGuard
import Derived.Test.YtbebihphodafiaaWNEv
import Derived.Test.YtbebihphodafiaaWMore
import Derived.Outline
import Derived.Lib.Hide
import Derived.Deep.DeepMust
import Derived.Deep.RegionHeld3
import Derived.StillTailTactics
import Derived.IntWalk
import Derived.Test.YtbebihphodafiaaRsE
namespace Go.Proofs.Ytbebihphodafiaa.Iv
open Go.RowKit Go.Proofs.YtbebihphodafiaaW.PrintWords Go.Proofs.YtbebihphodafiaaW.PrintLast Go.Proofs.YtbebihphodafiaaW.PrintMore Go.Proofs.Ytbebihphodafiaa.PWb Go.Maps
set_option linter.unusedVariables false
set_option linter.unusedSimpArgs false

theorem cell_at {w W : World} {p : Addr} {v : Value} (h : w.cell? p = some v) (hb : W.heap[p.block]? = w.heap[p.block]?) : W.cell? p = some v := by
  unfold World.cell? at h ⊢
  rw [hb]
  exact h
theorem R_keep {α : Type} {d : Kd α} {e : Nat} {w W : World} {base : Nat} {ok : Nat → Prop} {v : Value} {xs : List α} (h : d.R e w base ok v xs)
    (hk : ∀ k, base ≤ k → k < w.heap.size → (∃ q ∈ e :: d.E, ∃ cells, w.heap[k]? = some (.cells cells q (0, 0))) → W.heap[k]? = w.heap[k]?) : d.R e W base ok v xs := by
  refine Kd.R_mono (Kd.R_move (Kd.R_bound h) (fun k hk' => ?_)) (fun _ hk => hk.1)
  obtain ⟨_, h1, h2, q, h3, cells, h4⟩ := hk'
  exact hk k h1 h2 ⟨q, h3, cells, h4⟩
theorem Sv_not {w : World} {sb vb k fr : Nat} (hs : sb < fr) (hv : vb < fr) (hk : fr ≤ k) {cells : Array Value} {t : Nat} (ht : t ≠ 77) (hc : w.heap[k]? = some (.cells cells t (0, 0))) : ¬ Sv w fr sb vb k := by
  rintro (rfl | rfl | ⟨_, cs, h⟩)
  · omega
  · omega
  · rw [hc] at h; injection h with h; injection h with _ h; exact ht h
theorem Sv_not_map {w : World} {fr sb vb k : Nat} (hs : k ≠ sb) (hv : k ≠ vb) (hc : k < fr) : ¬ Sv w fr sb vb k := by
  rintro (h | h | ⟨h, _⟩)
  · exact hs h
  · exact hv h
  · omega
theorem IsExt.keep {w W : World} {fr em sb vb : Nat} {blocks last : Int} {V : Int → List S31} (h : IsExt w fr em blocks last V) (hk : Kept w W (Sv w fr sb vb)) (hs : em + 1 < sb ∧ sb < vb ∧ vb < fr) : IsExt W fr em blocks last V := by
  obtain ⟨n, D, vv, d1, d2, d3, d4, d5⟩ := h.map
  have hlt := World.block_lt_of_cell? _ _ h.c0
  have h1 : W.heap[em + 1]? = w.heap[em + 1]? := hk.2 _ hlt (Sv_not_map (by omega) (by omega) (by omega))
  have hem : W.heap[em]? = w.heap[em]? := by
    obtain ⟨es, clock, hb, r⟩ := d1
    exact hk.2 _ (lt_of_some hb) (Sv_not_map (by omega) (by omega) (by omega))
  refine ⟨h.lt, cell_at h.c0 h1, cell_at h.c1 h1, cell_at h.c2 h1, ⟨n, D, vv, ?_, d2, d3, fun x hx => ?_, d5⟩, h.rng, h.dat, h.bl⟩
  · obtain ⟨es, clock, hb, r⟩ := d1
    exact ⟨es, clock, hem.trans hb, r⟩
  · obtain ⟨e1, e2, e3⟩ := d4 x hx
    refine ⟨e1, e2, R_keep e3 (fun k k1 k2 ⟨q, k3, cells, k4⟩ => hk.2 k k2 (Sv_not (fr := fr) (by omega) (by omega) k1 (t := q) ?_ k4))⟩
    intro e; subst e; revert k3; decide
theorem IsBuf.keep {w W : World} {fr mb sb vb : Nat} {blocks most : Int} {M : List S31} (h : IsBuf w fr mb blocks most M) (hk : Kept w W (Sv w fr sb vb)) (hs : mb + 1 < sb ∧ sb < vb ∧ vb < fr) : IsBuf W fr mb blocks most M := by
  obtain ⟨D, d1, d2, d3, d4⟩ := h.map
  have hlt := World.block_lt_of_cell? _ _ h.c0
  have h1 : W.heap[mb + 1]? = w.heap[mb + 1]? := hk.2 _ hlt (Sv_not_map (by omega) (by omega) (by omega))
  have hem : W.heap[mb]? = w.heap[mb]? := by
    obtain ⟨es, clock, hb, r⟩ := d1
    exact hk.2 _ (lt_of_some hb) (Sv_not_map (by omega) (by omega) (by omega))
  refine ⟨h.lt, cell_at h.c0 h1, cell_at h.c1 h1, cell_at h.c2 h1, ⟨D, ?_, d2, d3, fun p hp => ?_⟩, h.srt, h.rng, h.bl⟩
  · obtain ⟨es, clock, hb, r⟩ := d1
    exact ⟨es, clock, hem.trans hb, r⟩
  · obtain ⟨g, c, e1, e2, e3, e4, e5, cells, e6⟩ := d4 p hp
    have hg := hk.2 g (lt_of_some e6) (Sv_not (fr := fr) (by omega) (by omega) e5 (by decide) e6)
    refine ⟨g, c, e1, e2, e3, ⟨e4.1, e4.2.1, fun hp => ?_⟩, e5, cells, hg.trans e6⟩
    obtain ⟨ad, he, hc⟩ := e4.2.2 hp
    refine ⟨ad, he, fun j p hj => ?_⟩
    obtain ⟨cs, c1, c2, c3⟩ := hc j p hj
    refine ⟨cs, c1, c2, fun i u hu => cell_at (c3 i u hu) ?_⟩
    rw [addr_block]
    cases he
    exact hg
/-- Nothing but memory has changed. -/
def Same (w W : World) : Prop := W.os = w.os ∧ W.tape = w.tape ∧ W.output = w.output
theorem Same.refl (w : World) : Same w w := ⟨rfl, rfl, rfl⟩
theorem Same.below {w W W' : World} {B : Nat} (h : Same w W) (hb : RowKit.Below B W W') : Same w W' := ⟨hb.os.trans h.1, hb.tape.trans h.2.1, hb.output.trans h.2.2⟩
theorem Same.grown {w W W' : World} {row : Option Nat} (h : Same w W) (hb : W.grownBy W' row) : Same w W' := ⟨hb.os.trans h.1, hb.tape.trans h.2.1, hb.output.trans h.2.2⟩
/-- A view in the midst of a reading: its out block is ob. -/
structure RdS (w W : World) (fr em mb sb vb : Nat) (at_ : Int) (L : List S60) (R : List S77) (ob cap : Nat) (Z : List Int) : Prop where
  view : IsView W fr vb em mb sb at_ (fun k => k ≠ ob) R
  set : IsSet W fr sb 64 L
  out : Kd.R kb 5 W w.heap.size (fun _ => True) (.slice (some ⟨ob, 0, none⟩) Z.length cap) Z
  kept : Kept w W (Sv w fr sb vb)
  ge : w.heap.size ≤ ob ∧ ob < W.heap.size
  frs : fr ≤ w.heap.size ∧ sb < vb
  sm : Same w W
section
variable {w W W' : World} {fr em mb sb vb ob cap : Nat} {at_ : Int} {L : List S60} {R : List S77} {Z : List Int}
theorem RdS.below (h : RdS w W fr em mb sb vb at_ L R ob cap Z) (hb : RowKit.Below W.heap.size W W') : RdS w W' fr em mb sb vb at_ L R ob cap Z :=
  ⟨h.view.step (grown_of_below hb none) (by simp) (fun v hv => Kd.R_below hv hb), h.set.below hb, Kd.R_below h.out hb, h.kept.below hb, ⟨h.ge.1, Nat.lt_of_lt_of_le h.ge.2 hb.size⟩, h.frs, h.sm.below hb⟩
theorem RdS.cpy {Z' : List Int} (h : RdS w W fr em mb sb vb at_ L R ob cap Z) (hg : W.grownBy W' (some ob)) (hz : Z'.length = Z.length) (hp : 0 < Z.length) (hR : Kd.R kb 5 W' w.heap.size (fun _ => True) (.slice (some ⟨ob, 0, none⟩) Z.length cap) Z') : RdS w W' fr em mb sb vb at_ L R ob cap Z' := by
  have hlt := h.view.lt
  have hfr := h.frs
  have hge := h.ge
  obtain ⟨cells, hc⟩ := Kd.R_typed h.out ob rfl
  exact ⟨h.view.step hg (fun e => by injection e with e; omega) (fun v hv => Kd.R_grown hv hg (fun k hk e => by injection e with e; exact hk.2 e)),
    h.set.grown2 hg (fun k hk => by cases hk; have := h.set.lt; omega) (fun k hk => by cases hk; exact .inr ⟨cells, 5, by decide, hc⟩),
    by rw [hz]; exact hR, h.kept.of_grown hg (fun k hk => by cases hk; exact .inr hge.1), ⟨hge.1, Nat.lt_of_lt_of_le hge.2 hg.size⟩, hfr, h.sm.grown hg⟩
theorem RdS.app {p : S77} {v v1 : Value} (h : RdS w W fr em mb sb vb at_ L R ob cap Z) (hv : Kd.R k77 77 W fr (fun k => fr ≤ k ∧ k ≠ ob) v R) (hR : Kd.R k77 77 W' fr (fun k => fr ≤ k ∧ k ≠ ob) v1 (R ++ [p])) (hg : W.grownBy W' v.ownBlock) :
    RdS w (W'.setCell ⟨vb, 4, none⟩ v1) fr em mb sb vb at_ L (R ++ [p]) ob cap Z := by
  have hlt := h.view.lt
  have hslt := h.set.lt
  have hfr := h.frs
  have hge := h.ge
  have hbase : ∀ k, v.ownBlock = some k → fr ≤ k := fun k hk => Kd.R_base hv k hk
  have hty : ∀ k, v.ownBlock = some k → ∃ cells, W.heap[k]? = some (.cells cells 77 (0, 0)) := Kd.R_typed hv
  have hoff : ∀ b ts, 77 ∉ ts → Off W b ts v.ownBlock := fun b ts ht k hk => .inr ((hty k hk).elim fun cells e => ⟨cells, 77, ht, e⟩)
  have hne : ∀ k, k < fr → some k ≠ v.ownBlock := fun k hk e => by have := hbase k e.symm; omega
  have hg2 : W'.grownBy (W'.setCell ⟨vb, 4, none⟩ v1) (some vb) := grown_set
  have hoff2 : ∀ b ts, fr ≤ b → Off W' b ts (some vb) := fun b ts hb j hj => by cases hj; exact .inl (by omega)
  have hk1 : Kept w W' (Sv w fr sb vb) := h.kept.of_grown hg (fun k hk => by
    by_cases hkl : k < w.heap.size
    · refine .inl ?_
      by_cases hs : Sv w fr sb vb k
      · exact hs
      · obtain ⟨cells, hc⟩ := hty k hk
        exact .inr (.inr ⟨hbase k hk, cells, by rw [← h.kept.2 k hkl hs]; exact hc⟩)
    · exact .inr (by omega))
  obtain ⟨h1, h2, h3, h4, h5, ⟨A, c, h6, h7⟩, h8⟩ := h.view
  have hvr := hne vb hlt
  have hblt := World.block_lt_of_cell? _ _ h2
  obtain ⟨A1, c1, hv1⟩ := Kd.R_slice hR
  subst hv1
  refine ⟨⟨h1, ?_, ?_, ?_, ?_, ⟨A1, c1, World.cell?_setCell_same' _ _ _ (by rw [hg.cell h6 hvr]; rfl), R_off hR hg2 (hoff2 _ _ (Nat.le_refl _))⟩, by rw [World.frozen?_setCell, frozen_grown hg hblt hvr]; exact h8⟩,
    (h.set.grown2 hg (fun k hk e => by have := hbase k hk; omega) (hoff _ _ (by decide))).grown2 hg2 (fun k hk => by cases hk; omega) (hoff2 _ _ (Nat.le_refl _)),
    R_off (R_off h.out hg (hoff _ _ (by decide))) hg2 (hoff2 _ _ hfr.1), hk1.of_grown hg2 (fun k hk => by cases hk; exact .inl (.inr (.inl rfl))), ⟨hge.1, Nat.lt_of_lt_of_le hge.2 (Nat.le_trans hg.size hg2.size)⟩, hfr, (h.sm.grown hg).grown hg2⟩
  · rw [World.cell?_setCell_other _ _ _ _ (by simp)]; exact hg.cell h2 hvr
  · rw [World.cell?_setCell_other _ _ _ _ (by simp)]; exact hg.cell h3 hvr
  · rw [World.cell?_setCell_other _ _ _ _ (by simp)]; exact hg.cell h4 hvr
  · rw [World.cell?_setCell_other _ _ _ _ (by simp)]; exact hg.cell h5 hvr
end
section
variable {w w5 w6 W W' : World} {fr em mb sb vb ob cap : Nat} {blocks most last at_ : Int} {V : Int → List S31} {M : List S31} {L L' : List S60} {R : List S77} {Z : List Int}
theorem RdS.start (h : IsW w fr em mb sb vb blocks most last at_ V M L R (fun _ => True)) (hb : RowKit.Below w.heap.size w W) (hm : Mv sb W W') (hs : IsSet W' fr sb 64 L') (hge : w.heap.size ≤ ob) (ho : Kd.R kb 5 W w.heap.size (fun _ => True) (.slice (some ⟨ob, 0, none⟩) Z.length cap) Z) (hlt : ob < W.heap.size) :
    RdS w W' fr em mb sb vb at_ L' R ob cap Z := by
  have hor := h.ord
  have hvl := h.view.lt
  have hfi := h.fits
  have hsb := World.block_lt_of_cell? _ _ h.set.c0
  have v0 := h.view.mono (ok' := fun k => k ≠ ob) (fun k hk _ => by omega)
  have v1 := v0.step (grown_of_below hb none) (by simp) (fun v hv => Kd.R_below hv hb)
  obtain ⟨w1, hb1, rfl | ⟨v, rfl⟩⟩ := hm
  · exact ⟨v1.step (grown_of_below hb1 none) (by simp) (fun v hv => Kd.R_below hv hb1), hs, Kd.R_below ho hb1, ((Kept.of_below hb _).below hb1), ⟨hge, Nat.lt_of_lt_of_le hlt hb1.size⟩, ⟨hfi, hor.2.2⟩, ((Same.refl w).below hb).below hb1⟩
  · have hg : w1.grownBy (w1.setCell ⟨sb, 1, none⟩ v) (some sb) := grown_set
    have hoff : ∀ b ts, fr ≤ b → Off w1 b ts (some sb) := fun b ts hb j hj => by cases hj; exact .inl (by omega)
    have v2 := v1.step (grown_of_below hb1 none) (by simp) (fun v hv => Kd.R_below hv hb1)
    exact ⟨v2.step hg (fun e => by injection e with e; omega) (fun v hv => R_off hv hg (hoff _ _ (Nat.le_refl _))), hs, R_off (Kd.R_below ho hb1) hg (hoff _ _ hfi), ((Kept.of_below hb _).below hb1).of_grown hg (fun k hk => by cases hk; exact .inl (.inl rfl)), ⟨hge, Nat.lt_of_lt_of_le hlt (Nat.le_trans hb1.size hg.size)⟩, ⟨hfi, hor.2.2⟩, (((Same.refl w).below hb).below hb1).grown hg⟩
end
theorem RdS.isW {w W : World} {fr em mb sb vb ob cap : Nat} {blocks most last at_ : Int} {V : Int → List S31} {M : List S31} {L L' : List S60} {R R' : List S77} {Z : List Int}
    (h : IsW w fr em mb sb vb blocks most last at_ V M L R (fun _ => True)) (hr : RdS w W fr em mb sb vb at_ L' R' ob cap Z) : IsW W fr em mb sb vb blocks most last at_ V M L' R' (fun _ => True) := by
  have ho := h.ord
  have hv := h.view.lt
  exact ⟨h.ext.keep hr.kept (by omega), h.buf.keep hr.kept (by omega), hr.set, hr.view.mono (fun _ _ _ => trivial), ho, Nat.le_trans h.fits hr.kept.1⟩
end Go.Proofs.Ytbebihphodafiaa.Iv
