/- Merged texts of this session: A view in the midst of a reading. Walk of a view's Read that is answered. How much is looked at, told; two rows of writes held against each other; what a row of writes comes to, in whatever order and parts. -/
import Derived.Test.YtbebihphodafiaaProg
import Derived.Below
import Derived.Deep.Draws
import Derived.Deep.AppendLies
import Derived.Maps.AppendAt
import Derived.OwnWalk
import Derived.Laws.BytesArg
import Derived.Laws.MakeOwn
import Derived.Laws.OwnMore
import Derived.Deep.OwnRows
import Derived.Tactics
import Derived.Lib.ConvBytes
import Derived.Laws.Slices
import Derived.WalkKit
import Derived.KernelRfl
import Derived.RowKit3
import Derived.Deep.LoopGhost
import Derived.Deep.QuietTactic
import Derived.BigQuiet
import Derived.WideLaws
import Derived.Deep.DeepCutAuto
import Derived.Deep.CutBlock
import Derived.Deep.RegionHeld3
import Derived.Laws.Rows
import Derived.Lib.AppendStr
import Derived.ArgAppend
import Derived.Laws.IdiomCopy
import Derived.OrdersHeld
import Derived.Laws.BitsLemmas
import Derived.RowKit
import Derived.Test.YtbebihphodafiaaWWords
import Derived.Test.YtbebihphodafiaaWLast
import Derived.Test.YtbebihphodafiaaWTab
import Derived.Test.YtbebihphodafiaaWFour
import Derived.Test.YtbebihphodafiaaWQPut
import Derived.Test.YtbebihphodafiaaWApart
import Derived.Test.YtbebihphodafiaaWArr
import Derived.Test.YtbebihphodafiaaWZeros
import Derived.Test.YtbebihphodafiaaWFoot
import Derived.Test.YtbebihphodafiaaWKept
import Derived.Test.YtbebihphodafiaaWShare
import Derived.Test.YtbebihphodafiaaWN
import Derived.Test.YtbebihphodafiaaWFootNe
import Derived.Test.YtbebihphodafiaaWAt
import Derived.Test.YtbebihphodafiaaWEqStruct
import Derived.Test.YtbebihphodafiaaWRepsOne
import Derived.Test.YtbebihphodafiaaWInv
import Derived.Test.YtbebihphodafiaaWInvWords
import Derived.Test.YtbebihphodafiaaWGuard
import Derived.Test.YtbebihphodafiaaWNEv
import Derived.Test.YtbebihphodafiaaWMore
import Derived.Outline
import Derived.Lib.Hide
import Derived.Deep.DeepMust
import Derived.StillTailTactics
import Derived.IntWalk
import Derived.Deep.RegionLaw
import Derived.Test.YtbebihphodafiaaZRsetLimits1
import Derived.Test.YtbebihphodafiaaZRsetLimits2
import Derived.Test.YtbebihphodafiaaZRsetLimits3
namespace Go.Proofs.Ytbebihphodafiaa.Iv
open Go.RowKit Go.Proofs.YtbebihphodafiaaW.PrintWords Go.Proofs.YtbebihphodafiaaW.PrintLast Go.Proofs.YtbebihphodafiaaW.PrintMore Go.Proofs.Ytbebihphodafiaa.PWb Go.Maps
set_option linter.unusedVariables false
set_option linter.unusedSimpArgs false

theorem cell_at {w W : World} {p : Addr} {v : Value} (h : w.cell? p = some v) (hb : W.heap[p.block]? = w.heap[p.block]?) : W.cell? p = some v := by
  unfold World.cell? at h ⊢
  rw [hb]
  exact h
theorem R_keep {α : Type} {d : Kd α} {e : Nat} {w W : World} {base : Nat} {ok : Nat → Prop} {v : Value} {xs : List α} (h : d.R e w base ok v xs)
    (hk : ∀ k, base ≤ k → k < w.heap.size → (∃ q ∈ e :: d.E, ∃ cells, w.heap[k]? = some (.cells cells q (0, 0))) → W.heap[k]? = w.heap[k]?) : d.R e W base ok v xs := by
  refine Kd.R_mono (Kd.R_move (Kd.R_bound h) (fun k hk' => ?_)) (fun _ hk => hk.1)
  obtain ⟨_, h1, h2, q, h3, cells, h4⟩ := hk'
  exact hk k h1 h2 ⟨q, h3, cells, h4⟩
theorem Sv_not {w : World} {sb vb k fr : Nat} (hs : sb < fr) (hv : vb < fr) (hk : fr ≤ k) {cells : Array Value} {t : Nat} (ht : t ≠ 77) (hc : w.heap[k]? = some (.cells cells t (0, 0))) : ¬ Sv w fr sb vb k := by
  rintro (rfl | rfl | ⟨_, cs, h⟩)
  · omega
  · omega
  · rw [hc] at h; injection h with h; injection h with _ h; exact ht h
theorem Sv_not_map {w : World} {fr sb vb k : Nat} (hs : k ≠ sb) (hv : k ≠ vb) (hc : k < fr) : ¬ Sv w fr sb vb k := by
  rintro (h | h | ⟨h, _⟩)
  · exact hs h
  · exact hv h
  · omega
/-- Blocks of these types, from fr on, are none of S. -/
def Clear (w : World) (fr : Nat) (S : Nat → Prop) (ts : List Nat) : Prop := ∀ k, fr ≤ k → ∀ q ∈ ts, ∀ cells, w.heap[k]? = some (.cells cells q (0, 0)) → ¬ S k
theorem frozen_at {w W : World} {p : Addr} (hb : W.heap[p.block]? = w.heap[p.block]?) : W.frozen? p = w.frozen? p := by
  unfold World.frozen?
  rw [hb]
theorem IsExt.keepS {w W : World} {fr em : Nat} {S : Nat → Prop} {blocks last : Int} {V : Int → List S31} (h : IsExt w fr em blocks last V) (hk : Kept w W S) (s0 : ¬ S em) (s1 : ¬ S (em + 1)) (hc : Clear w fr S [126, 5]) : IsExt W fr em blocks last V := by
  obtain ⟨n, D, vv, d1, d2, d3, d4, d5⟩ := h.map
  have hlt := World.block_lt_of_cell? _ _ h.c0
  have h1 : W.heap[em + 1]? = w.heap[em + 1]? := hk.2 _ hlt s1
  have hem : W.heap[em]? = w.heap[em]? := by
    obtain ⟨es, clock, hb, r⟩ := d1
    exact hk.2 _ (lt_of_some hb) s0
  refine ⟨h.lt, cell_at h.c0 h1, cell_at h.c1 h1, cell_at h.c2 h1, ⟨n, D, vv, ?_, d2, d3, fun x hx => ?_, d5⟩, h.rng, h.dat, h.bl, (frozen_at h1).trans h.f2⟩
  · obtain ⟨es, clock, hb, r⟩ := d1
    exact ⟨es, clock, hem.trans hb, r⟩
  · obtain ⟨e1, e2, e3⟩ := d4 x hx
    exact ⟨e1, e2, R_keep e3 (fun k k1 k2 ⟨q, k3, cells, k4⟩ => hk.2 k k2 (hc k k1 q k3 cells k4))⟩
theorem Sv_clear {w : World} {fr sb vb : Nat} (hs : sb < fr) (hv : vb < fr) {ts : List Nat} (ht : 77 ∉ ts) : Clear w fr (Sv w fr sb vb) ts :=
  fun k hk q hq cells hc => Sv_not hs hv hk (fun e => ht (by rw [← e]; exact hq)) hc
theorem IsExt.keep {w W : World} {fr em sb vb : Nat} {blocks last : Int} {V : Int → List S31} (h : IsExt w fr em blocks last V) (hk : Kept w W (Sv w fr sb vb)) (hs : em + 1 < sb ∧ sb < vb ∧ vb < fr) : IsExt W fr em blocks last V :=
  h.keepS hk (Sv_not_map (by omega) (by omega) (by omega)) (Sv_not_map (by omega) (by omega) (by omega)) (Sv_clear (by omega) (by omega) (by decide))
theorem Cb_kept {w W : World} {g : Nat} {n : Nat} {l : List Int} (e4 : Kd.C kb w (some ⟨g, 0, none⟩) n l) (hg : W.heap[g]? = w.heap[g]?) : Kd.C kb W (some ⟨g, 0, none⟩) n l := by
  refine ⟨e4.1, e4.2.1, fun hp => ?_⟩
  obtain ⟨ad, he, hc⟩ := e4.2.2 hp
  refine ⟨ad, he, fun j p hj => ?_⟩
  obtain ⟨cs, c1, c2, c3⟩ := hc j p hj
  refine ⟨cs, c1, c2, fun i u hu => cell_at (c3 i u hu) ?_⟩
  rw [addr_block]
  cases he
  exact hg
theorem IsBuf.keepS {w W : World} {fr mb : Nat} {S : Nat → Prop} {blocks most : Int} {M : List S31} (h : IsBuf w fr mb blocks most M) (hk : Kept w W S) (s0 : ¬ S mb) (s1 : ¬ S (mb + 1)) (hc : Clear w fr S [5]) : IsBuf W fr mb blocks most M := by
  obtain ⟨D, d1, d2, d3, d4⟩ := h.map
  have hlt := World.block_lt_of_cell? _ _ h.c0
  have h1 : W.heap[mb + 1]? = w.heap[mb + 1]? := hk.2 _ hlt s1
  have hem : W.heap[mb]? = w.heap[mb]? := by
    obtain ⟨es, clock, hb, r⟩ := d1
    exact hk.2 _ (lt_of_some hb) s0
  refine ⟨h.lt, cell_at h.c0 h1, cell_at h.c1 h1, cell_at h.c2 h1, ⟨D, ?_, d2, d3, fun p hp => ?_⟩, h.srt, h.rng, h.bl⟩
  · obtain ⟨es, clock, hb, r⟩ := d1
    exact ⟨es, clock, hem.trans hb, r⟩
  · obtain ⟨g, c, e1, e2, e3, e4, e5, cells, e6⟩ := d4 p hp
    have hg := hk.2 g (lt_of_some e6) (hc g e5 5 (by simp) cells e6)
    exact ⟨g, c, e1, e2, e3, Cb_kept e4 hg, e5, cells, hg.trans e6⟩
theorem IsBuf.keep {w W : World} {fr mb sb vb : Nat} {blocks most : Int} {M : List S31} (h : IsBuf w fr mb blocks most M) (hk : Kept w W (Sv w fr sb vb)) (hs : mb + 1 < sb ∧ sb < vb ∧ vb < fr) : IsBuf W fr mb blocks most M :=
  h.keepS hk (Sv_not_map (by omega) (by omega) (by omega)) (Sv_not_map (by omega) (by omega) (by omega)) (Sv_clear (by omega) (by omega) (by decide))
theorem IsSet.keepS {w W : World} {fr b : Nat} {S : Nat → Prop} {most : Int} {L : List S60} (h : IsSet w fr b most L) (hk : Kept w W S) (s0 : ¬ S b) (hc : Clear w fr S [60]) : IsSet W fr b most L := by
  obtain ⟨h1, h2, ⟨A, c, h3, h4, h5, h6⟩, h7, h8, h9⟩ := h
  have hb : W.heap[b]? = w.heap[b]? := hk.2 _ (World.block_lt_of_cell? _ _ h2) s0
  have hrow : ∀ x, A = some x → W.heap[x.block]? = w.heap[x.block]? := fun x hx => by
    obtain ⟨g1, cells, g2⟩ := h6 x hx
    exact hk.2 _ (blk_lt g2) (hc x.block g1 60 (by simp) cells g2)
  refine ⟨h1, cell_at h2 hb, ⟨A, c, cell_at h3 hb, h4, ⟨h5.1, h5.2.1, fun hp => ?_⟩, fun x hx => ⟨(h6 x hx).1, (h6 x hx).2.elim fun cells e => ⟨cells, (hrow x hx).trans e⟩⟩⟩, (frozen_at hb).trans h7, h8, h9⟩
  obtain ⟨ad, he, hcc⟩ := h5.2.2 hp
  refine ⟨ad, he, fun j p hj => ?_⟩
  obtain ⟨cs, c1, c2, c3⟩ := hcc j p hj
  obtain rfl := k60_open c2
  exact ⟨_, c1, k60_mk _ _, fun i u hu => cell_at (c3 i u hu) (by rw [addr_block]; exact hrow ad he)⟩
theorem IsView.keepS {w W : World} {fr vb em mb sb : Nat} {at_ : Int} {ok : Nat → Prop} {R : List S77} {S : Nat → Prop} (h : IsView w fr vb em mb sb at_ ok R) (hk : Kept w W S) (s0 : ¬ S vb) (hc : Clear w fr S [77, 5]) : IsView W fr vb em mb sb at_ ok R := by
  obtain ⟨h1, h2, h3, h4, h5, ⟨A, c, h6, h7⟩, h8⟩ := h
  have hb : W.heap[vb]? = w.heap[vb]? := hk.2 _ (World.block_lt_of_cell? _ _ h2) s0
  exact ⟨h1, cell_at h2 hb, cell_at h3 hb, cell_at h4 hb, cell_at h5 hb, ⟨A, c, cell_at h6 hb, R_keep h7 (fun k k1 k2 ⟨q, k3, cells, k4⟩ => hk.2 k k2 (hc k k1 q k3 cells k4))⟩, (frozen_at hb).trans h8⟩
/-- Nothing but memory has changed. -/
def Same (w W : World) : Prop := W.os = w.os ∧ W.tape = w.tape ∧ W.output = w.output
theorem Same.refl (w : World) : Same w w := ⟨rfl, rfl, rfl⟩
theorem Same.below {w W W' : World} {B : Nat} (h : Same w W) (hb : RowKit.Below B W W') : Same w W' := ⟨hb.os.trans h.1, hb.tape.trans h.2.1, hb.output.trans h.2.2⟩
theorem Same.grown {w W W' : World} {row : Option Nat} (h : Same w W) (hb : W.grownBy W' row) : Same w W' := ⟨hb.os.trans h.1, hb.tape.trans h.2.1, hb.output.trans h.2.2⟩
/-- A view in the midst of a reading: its out block is ob. -/
structure RdS (w W : World) (fr em mb sb vb : Nat) (at_ : Int) (L : List S60) (R : List S77) (ob cap : Nat) (Z : List Int) : Prop where
  view : IsView W fr vb em mb sb at_ (fun k => k ≠ ob) R
  set : IsSet W fr sb 64 L
  out : Kd.R kb 5 W w.heap.size (fun _ => True) (.slice (some ⟨ob, 0, none⟩) Z.length cap) Z
  kept : Kept w W (Sv w fr sb vb)
  ge : w.heap.size ≤ ob ∧ ob < W.heap.size
  frs : fr ≤ w.heap.size ∧ sb < vb
  sm : Same w W
section
variable {w W W' : World} {fr em mb sb vb ob cap : Nat} {at_ : Int} {L : List S60} {R : List S77} {Z : List Int}
theorem RdS.below (h : RdS w W fr em mb sb vb at_ L R ob cap Z) (hb : RowKit.Below W.heap.size W W') : RdS w W' fr em mb sb vb at_ L R ob cap Z :=
  ⟨h.view.step (grown_of_below hb none) (by simp) (fun v hv => Kd.R_below hv hb), h.set.below hb, Kd.R_below h.out hb, h.kept.below hb, ⟨h.ge.1, Nat.lt_of_lt_of_le h.ge.2 hb.size⟩, h.frs, h.sm.below hb⟩
theorem RdS.cpy {Z' : List Int} (h : RdS w W fr em mb sb vb at_ L R ob cap Z) (hg : W.grownBy W' (some ob)) (hz : Z'.length = Z.length) (hp : 0 < Z.length) (hR : Kd.R kb 5 W' w.heap.size (fun _ => True) (.slice (some ⟨ob, 0, none⟩) Z.length cap) Z') : RdS w W' fr em mb sb vb at_ L R ob cap Z' := by
  have hlt := h.view.lt
  have hfr := h.frs
  have hge := h.ge
  obtain ⟨cells, hc⟩ := Kd.R_typed h.out ob rfl
  exact ⟨h.view.step hg (fun e => by injection e with e; omega) (fun v hv => Kd.R_grown hv hg (fun k hk e => by injection e with e; exact hk.2 e)),
    h.set.grown2 hg (fun k hk => by cases hk; have := h.set.lt; omega) (fun k hk => by cases hk; exact .inr ⟨cells, 5, by decide, hc⟩),
    by rw [hz]; exact hR, h.kept.of_grown hg (fun k hk => by cases hk; exact .inr hge.1), ⟨hge.1, Nat.lt_of_lt_of_le hge.2 hg.size⟩, hfr, h.sm.grown hg⟩
theorem RdS.app {p : S77} {v v1 : Value} (h : RdS w W fr em mb sb vb at_ L R ob cap Z) (hv : Kd.R k77 77 W fr (fun k => fr ≤ k ∧ k ≠ ob) v R) (hR : Kd.R k77 77 W' fr (fun k => fr ≤ k ∧ k ≠ ob) v1 (R ++ [p])) (hg : W.grownBy W' v.ownBlock) :
    RdS w (W'.setCell ⟨vb, 4, none⟩ v1) fr em mb sb vb at_ L (R ++ [p]) ob cap Z := by
  have hlt := h.view.lt
  have hslt := h.set.lt
  have hfr := h.frs
  have hge := h.ge
  have hbase : ∀ k, v.ownBlock = some k → fr ≤ k := fun k hk => Kd.R_base hv k hk
  have hty : ∀ k, v.ownBlock = some k → ∃ cells, W.heap[k]? = some (.cells cells 77 (0, 0)) := Kd.R_typed hv
  have hoff : ∀ b ts, 77 ∉ ts → Off W b ts v.ownBlock := fun b ts ht k hk => .inr ((hty k hk).elim fun cells e => ⟨cells, 77, ht, e⟩)
  have hne : ∀ k, k < fr → some k ≠ v.ownBlock := fun k hk e => by have := hbase k e.symm; omega
  have hg2 : W'.grownBy (W'.setCell ⟨vb, 4, none⟩ v1) (some vb) := grown_set
  have hoff2 : ∀ b ts, fr ≤ b → Off W' b ts (some vb) := fun b ts hb j hj => by cases hj; exact .inl (by omega)
  have hk1 : Kept w W' (Sv w fr sb vb) := h.kept.of_grown hg (fun k hk => by
    by_cases hkl : k < w.heap.size
    · refine .inl ?_
      by_cases hs : Sv w fr sb vb k
      · exact hs
      · obtain ⟨cells, hc⟩ := hty k hk
        exact .inr (.inr ⟨hbase k hk, cells, by rw [← h.kept.2 k hkl hs]; exact hc⟩)
    · exact .inr (by omega))
  obtain ⟨h1, h2, h3, h4, h5, ⟨A, c, h6, h7⟩, h8⟩ := h.view
  have hvr := hne vb hlt
  have hblt := World.block_lt_of_cell? _ _ h2
  obtain ⟨A1, c1, hv1⟩ := Kd.R_slice hR
  subst hv1
  refine ⟨⟨h1, ?_, ?_, ?_, ?_, ⟨A1, c1, World.cell?_setCell_same' _ _ _ (by rw [hg.cell h6 hvr]; rfl), R_off hR hg2 (hoff2 _ _ (Nat.le_refl _))⟩, by rw [World.frozen?_setCell, frozen_grown hg hblt hvr]; exact h8⟩,
    (h.set.grown2 hg (fun k hk e => by have := hbase k hk; omega) (hoff _ _ (by decide))).grown2 hg2 (fun k hk => by cases hk; omega) (hoff2 _ _ (Nat.le_refl _)),
    R_off (R_off h.out hg (hoff _ _ (by decide))) hg2 (hoff2 _ _ hfr.1), hk1.of_grown hg2 (fun k hk => by cases hk; exact .inl (.inr (.inl rfl))), ⟨hge.1, Nat.lt_of_lt_of_le hge.2 (Nat.le_trans hg.size hg2.size)⟩, hfr, (h.sm.grown hg).grown hg2⟩
  · rw [World.cell?_setCell_other _ _ _ _ (by simp)]; exact hg.cell h2 hvr
  · rw [World.cell?_setCell_other _ _ _ _ (by simp)]; exact hg.cell h3 hvr
  · rw [World.cell?_setCell_other _ _ _ _ (by simp)]; exact hg.cell h4 hvr
  · rw [World.cell?_setCell_other _ _ _ _ (by simp)]; exact hg.cell h5 hvr
end
section
variable {w w5 w6 W W' : World} {fr em mb sb vb ob cap : Nat} {blocks most last at_ : Int} {V : Int → List S31} {M : List S31} {L L' : List S60} {R : List S77} {Z : List Int}
theorem RdS.start (h : IsW w fr em mb sb vb blocks most last at_ V M L R (fun _ => True)) (hb : RowKit.Below w.heap.size w W) (hm : Mv sb W W') (hs : IsSet W' fr sb 64 L') (hge : w.heap.size ≤ ob) (ho : Kd.R kb 5 W w.heap.size (fun _ => True) (.slice (some ⟨ob, 0, none⟩) Z.length cap) Z) (hlt : ob < W.heap.size) :
    RdS w W' fr em mb sb vb at_ L' R ob cap Z := by
  have hor := h.ord
  have hvl := h.view.lt
  have hfi := h.fits
  have hsb := World.block_lt_of_cell? _ _ h.set.c0
  have v0 := h.view.mono (ok' := fun k => k ≠ ob) (fun k hk _ => by omega)
  have v1 := v0.step (grown_of_below hb none) (by simp) (fun v hv => Kd.R_below hv hb)
  obtain ⟨w1, hb1, rfl | ⟨v, rfl⟩⟩ := hm
  · exact ⟨v1.step (grown_of_below hb1 none) (by simp) (fun v hv => Kd.R_below hv hb1), hs, Kd.R_below ho hb1, ((Kept.of_below hb _).below hb1), ⟨hge, Nat.lt_of_lt_of_le hlt hb1.size⟩, ⟨hfi, hor.2.2⟩, ((Same.refl w).below hb).below hb1⟩
  · have hg : w1.grownBy (w1.setCell ⟨sb, 1, none⟩ v) (some sb) := grown_set
    have hoff : ∀ b ts, fr ≤ b → Off w1 b ts (some sb) := fun b ts hb j hj => by cases hj; exact .inl (by omega)
    have v2 := v1.step (grown_of_below hb1 none) (by simp) (fun v hv => Kd.R_below hv hb1)
    exact ⟨v2.step hg (fun e => by injection e with e; omega) (fun v hv => R_off hv hg (hoff _ _ (Nat.le_refl _))), hs, R_off (Kd.R_below ho hb1) hg (hoff _ _ hfi), ((Kept.of_below hb _).below hb1).of_grown hg (fun k hk => by cases hk; exact .inl (.inl rfl)), ⟨hge, Nat.lt_of_lt_of_le hlt (Nat.le_trans hb1.size hg.size)⟩, ⟨hfi, hor.2.2⟩, (((Same.refl w).below hb).below hb1).grown hg⟩
end
theorem RdS.isW {w W : World} {fr em mb sb vb ob cap : Nat} {blocks most last at_ : Int} {V : Int → List S31} {M : List S31} {L L' : List S60} {R R' : List S77} {Z : List Int}
    (h : IsW w fr em mb sb vb blocks most last at_ V M L R (fun _ => True)) (hr : RdS w W fr em mb sb vb at_ L' R' ob cap Z) : IsW W fr em mb sb vb blocks most last at_ V M L' R' (fun _ => True) := by
  have ho := h.ord
  have hv := h.view.lt
  exact ⟨h.ext.keep hr.kept (by omega), h.buf.keep hr.kept (by omega), hr.set, hr.view.mono (fun _ _ _ => trivial), ho, Nat.le_trans h.fits hr.kept.1⟩
end Go.Proofs.Ytbebihphodafiaa.Iv

namespace Go.Proofs.Ytbebihphodafiaa.Iv
open Go.RowKit Go.Proofs.YtbebihphodafiaaW.PrintWords Go.Proofs.YtbebihphodafiaaW.PrintLast Go.Proofs.YtbebihphodafiaaW.PrintMore Go.Proofs.Ytbebihphodafiaa.PWb Go.Maps
set_option linter.unusedVariables false
set_option linter.unusedSimpArgs false

def Bx (W : World) (bx : Nat) (f0 n : Int) : Prop := W.heap[bx]? = some (.cells #[.int .i64 f0, .int .i64 n] 60 (0, 0))
theorem Bx.c0 {W : World} {bx : Nat} {f0 n : Int} (h : Bx W bx f0 n) : W.cell? ⟨bx, 0, none⟩ = some (.int .i64 f0) := by rw [cell_of_row W bx 0 _ 60 (0, 0) h]; rfl
theorem Bx.c1 {W : World} {bx : Nat} {f0 n : Int} (h : Bx W bx f0 n) : W.cell? ⟨bx, 1, none⟩ = some (.int .i64 n) := by rw [cell_of_row W bx 1 _ 60 (0, 0) h]; rfl
theorem Bx.below {W W' : World} {bx : Nat} {f0 n : Int} (h : Bx W bx f0 n) (hb : RowKit.Below W.heap.size W W') : Bx W' bx f0 n := (hb.block bx (lt_of_some h)).trans h
theorem Bx.grown {W W' : World} {bx : Nat} {f0 n : Int} (h : Bx W bx f0 n) {row : Option Nat} (hg : W.grownBy W' row) (hr : ∀ k, row = some k → k ≠ bx ∨ ∃ cells t, t ≠ 60 ∧ W.heap[k]? = some (.cells cells t (0, 0))) : Bx W' bx f0 n :=
  (hg.block bx (lt_of_some h) (fun e => by
    rcases hr _ e.symm with h1 | ⟨cells, t, h1, h2⟩
    · exact h1 rfl
    · unfold Bx at h; rw [h] at h2; injection h2 with h2; injection h2 with _ h2; exact h1 h2.symm)).trans h
theorem Bx.mv {W W' : World} {bx b : Nat} {f0 n : Int} (h : Bx W bx f0 n) (hm : Mv b W W') (hne : b ≠ bx) : Bx W' bx f0 n := by
  obtain ⟨w1, hb, rfl | ⟨v, rfl⟩⟩ := hm
  · exact h.below hb
  · exact (h.below hb).grown grown_set (fun k hk => by cases hk; exact .inl hne)

set_option maxHeartbeats 8000000 in
set_option maxRecDepth 100000 in
theorem readOk_calls (fr em mb sb vb : Nat) (blocks most last at_ : Int) (V : Int → List S31) (M : List S31) (L L' : List S60) (R : List S77) (f0 : Int) (n : Nat) (w : World)
    (h : IsW w fr em mb sb vb blocks most last at_ V M L R (fun _ => True)) (hn : 1 ≤ n ∧ n ≤ 16) (hi : inE blocks ⟨f0, n⟩ = true) (ha : addS 64 L [⟨f0, n⟩] = (0, L')) (hR : (R.length + 16) * 40 ≤ 140737488355328) (hL : L.length ≤ 1000000) :
    Calls Try.prog 28 #[.pointer (some ⟨vb, 0, none⟩), .agg #[.int .i64 f0, .int .i64 n]] w fun r w' => ∃ v, r = .returned (.tuple #[v, .int .i64 0]) ∧ IsW w' fr em mb sb vb blocks most last at_ V M L' (R ++ newR V M f0 at_ n) (fun _ => True) ∧ Kept w w' (Sv w fr sb vb) ∧ Same w w' ∧ Kd.R kb 5 w' w.heap.size (fun _ => True) v (rdK V M f0 at_ n) := by
  obtain ⟨n1, n16⟩ := hn
  obtain ⟨i0, i1, i2, i3⟩ := (inE_iff blocks _).1 hi
  simp only at i0 i1 i2 i3
  have hbl := h.ext.bl
  have HF := Lib.hid (show Forty V M from ⟨h.ext.dat, h.buf.srt, fun p hp => (h.buf.rng p hp).2.2⟩)
  have HW := Lib.hid h
  have HI := Lib.hid hi
  have HA := Lib.hid ha
  have HRL := Lib.hid hR
  have HLL := Lib.hid hL
  have hb5 := below_alloc (Below.refl w.heap.size w) (.cells #[.int .i64 f0, .int .i64 n] 60)
  have v0 := pw_cell_below hb5 h.view.c0
  have v2 := pw_cell_below hb5 h.view.c2
  have k0 := World.cell?_alloc_at (w := w) #[.int .i64 f0, .int .i64 n] 60 w.heap.size 0 rfl
  have k1 := World.cell?_alloc_at (w := w) #[.int .i64 f0, .int .i64 n] 60 w.heap.size 1 rfl
  have k0' : (w.alloc (.cells #[.int .i64 f0, .int .i64 n] 60)).cell? ⟨w.heap.size, 0, none⟩ = some (.int .i64 f0) := k0
  have k1' : (w.alloc (.cells #[.int .i64 f0, .int .i64 n] 60)).cell? ⟨w.heap.size, 1, none⟩ = some (.int .i64 n) := k1
  have HB5 := Lib.hid hb5
  have HBX5 := Lib.hid (show Bx (w.alloc (.cells #[.int .i64 f0, .int .i64 n] 60)) w.heap.size f0 n by unfold Bx World.alloc; simp)
  have d1 : decide ((n : Int) < 1) = false := by simp; omega
  have d2 : decide ((16 : Int) < (n : Int)) = false := by simp; omega
  have e1 : ¬ (n : Int) < 1 := by omega
  have e2 : ¬ (16 : Int) < (n : Int) := by omega
  have HX := Lib.hid (show vb < w.heap.size ∧ sb < vb ∧ fr ≤ w.heap.size ∧ vb < fr from ⟨World.block_lt_of_cell? _ _ h.view.c0, h.ord.2.2, h.fits, h.view.lt⟩)
  have HBL := Lib.hid hbl
  clear h hi ha hR hL hb5 k0 k1
  go_enter Try.func28, Try.ntmps28
  go_wp2
  go_step3
  go_wp2
  obtain ⟨w5, h5⟩ : ∃ y, y = w.alloc (.cells #[.int .i64 f0, .int .i64 n] 60) := ⟨_, rfl⟩
  rw [← h5] at v0 v2 k0' k1' HB5 HBX5 ⊢
  clear h5
  have HB5 := Lib.hid (below_drew1 HB5.out)
  have HBX5 := Lib.hid HBX5.out
  obtain ⟨bx, hbx⟩ : ∃ bx, bx = w.heap.size := ⟨_, rfl⟩
  have HBX := Lib.hid hbx
  rw [← hbx] at k0' k1' HBX5 ⊢
  clear hbx
  have HC5 := Lib.hid (show w5.cell? ⟨vb, 0, none⟩ = some (.pointer (some ⟨em + 1, 0, none⟩)) ∧ w5.cell? ⟨vb, 2, none⟩ = some (.int .i64 at_) ∧ w5.cell? ⟨bx, 0, none⟩ = some (.int .i64 f0) ∧ w5.cell? ⟨bx, 1, none⟩ = some (.int .i64 n) from ⟨v0, v2, k0', k1'⟩)
  go_region_held3 (fun w' => w'.cell? ⟨vb, 0, none⟩ = some (.pointer (some ⟨em + 1, 0, none⟩)) ∧ w'.cell? ⟨vb, 2, none⟩ = some (.int .i64 at_) ∧ w'.cell? ⟨bx, 0, none⟩ = some (.int .i64 f0) ∧ w'.cell? ⟨bx, 1, none⟩ = some (.int .i64 n))
    (first | exact HC6.out | exact HC5.out)
    ((go_at_call 56; refine (range_calls fr em blocks last V ⟨f0, n⟩ at_ _ (HW.out.ext.below HB5.out) HI.out).mono ?_; rintro _ w6 ⟨v6, rfl, hB6, hR6⟩; have HC6 := Lib.hid (show w6.cell? ⟨vb, 0, none⟩ = some (.pointer (some ⟨em + 1, 0, none⟩)) ∧ w6.cell? ⟨vb, 2, none⟩ = some (.int .i64 at_) ∧ w6.cell? ⟨bx, 0, none⟩ = some (.int .i64 f0) ∧ w6.cell? ⟨bx, 1, none⟩ = some (.int .i64 n) from ⟨pw_cell_below hB6 HC5.out.1, pw_cell_below hB6 HC5.out.2.1, pw_cell_below hB6 HC5.out.2.2.1, pw_cell_below hB6 HC5.out.2.2.2⟩); have HBX6 := Lib.hid ((HBX5.out.below (below_drew1 (Below.refl _ _))).below hB6); have HB6 := Lib.hid (below_step HB5.out hB6); have HR6 := Lib.hid (Kd.R_lower hR6 HB5.out.size); clear hB6 hR6))
  have hz := rangeK_len HF.out.1 f0 at_ n
  obtain ⟨ob, cap, hv6, hob, hob2, _⟩ := Kd.R_form HR6.out (by simp only [Int.toNat_natCast]; omega)
  simp only [Int.toNat_natCast] at hv6
  have hr0 : rangeK V f0 at_ n = mixK V M f0 at_ 0 n := by simp [mixK, rdK]
  have HR6m := Lib.hid (show Kd.R kb 5 w6 w.heap.size (fun _ => True) (.slice (some ⟨ob, 0, none⟩) (mixK V M f0 at_ 0 n).length cap) (mixK V M f0 at_ 0 n) by rw [← hr0, ← hv6]; simpa using HR6.out)
  obtain ⟨N, hN⟩ : ∃ N, N = (rangeK V f0 at_ n).length := ⟨_, rfl⟩
  have HZ := Lib.hid (fun (k : Nat) (hk : k ≤ n) => show (mixK V M f0 at_ k n).length = N by rw [HF.out.mix_len f0 at_ k n hk, hN, hz])
  have HN := Lib.hid (show 40 * n ≤ N ∧ N ≤ 40 * n by omega)
  have hcap : N ≤ cap := by
    have := (Kd.R_reads' HR6m.out).2.1
    rw [HZ.out 0 (Nat.zero_le _)] at this
    exact this
  have HCAP := Lib.hid hcap
  have HOB := Lib.hid (And.intro hob hob2)
  rw [← hN] at hv6
  subst hv6
  clear hN hz hr0 hcap hob hob2
  go_wp2
  have y3 := pw_cell_below HB6.out HW.out.view.c3
  have z0 := HC6.out.2.2.1
  have z1 := HC6.out.2.2.2
  have HB7 := Lib.hid (below_drew1 HB6.out)
  have HR7 := Lib.hid (Kd.R_below HR6m.out (below_drew1 (Below.refl _ _)))
  have HBX7 := Lib.hid (HBX6.out.below (below_drew1 (Below.refl _ _)))
  have HOB7 := Lib.hid (show w.heap.size ≤ ob ∧ ob < w6.drew.heap.size from HOB.out)
  have HLT7 := Lib.hid (show w.heap.size ≤ w6.drew.heap.size from HB7.out.size)
  have HC7 := Lib.hid (show w6.cell? ⟨vb, 3, none⟩ = some (.pointer (some ⟨sb, 0, none⟩)) ∧ w6.cell? ⟨bx, 0, none⟩ = some (.int .i64 f0) ∧ w6.cell? ⟨bx, 1, none⟩ = some (.int .i64 n) from ⟨y3, z0, z1⟩)
  have HC7a := Lib.hid (show (w6.drew.alloc (.cells #[.int .i64 f0, .int .i64 n] 60)).cell? ⟨vb, 3, none⟩ = some (.pointer (some ⟨sb, 0, none⟩)) ∧ (w6.drew.alloc (.cells #[.int .i64 f0, .int .i64 n] 60)).cell? ⟨bx, 0, none⟩ = some (.int .i64 f0) ∧ (w6.drew.alloc (.cells #[.int .i64 f0, .int .i64 n] 60)).cell? ⟨bx, 1, none⟩ = some (.int .i64 n) from ⟨pw_cell_below (below_drew1 HB6.out |> fun h => below_alloc (Below.refl w6.drew.heap.size w6.drew) _) y3, pw_cell_below (below_alloc (Below.refl w6.drew.heap.size w6.drew) _) z0, pw_cell_below (below_alloc (Below.refl w6.drew.heap.size w6.drew) _) z1⟩)
  go_region_held3 (fun w' => w'.cell? ⟨vb, 3, none⟩ = some (.pointer (some ⟨sb, 0, none⟩)) ∧ w'.cell? ⟨bx, 0, none⟩ = some (.int .i64 f0) ∧ w'.cell? ⟨bx, 1, none⟩ = some (.int .i64 n))
    (first | exact HC8.out | exact HC7.out | exact HC7a.out)
    ((go_at_call 57; refine (add_calls fr sb 64 L (some ⟨w6.drew.heap.size, 0, none⟩) 1 [⟨f0, n⟩] _ (HW.out.set.below (below_step HB7.out (below_alloc (Below.refl _ _) _))) (C60_one _ _ _ _ rfl) (Nat.le_refl 1) (by have := HLL.out; simp; omega) (by have h1 := HX.out; have h2 := HLT7.out; simp at h2 ⊢; omega)).mono ?_; rintro _ w8 ⟨rfl, hI8, hM8⟩; rw [HA.out] at hI8 ⊢; have HS8 := Lib.hid (RdS.start HW.out (below_step HB7.out (below_alloc (Below.refl _ _) _)) hM8 hI8 HOB7.out.1 (Kd.R_below HR7.out (below_alloc (Below.refl _ _) _)) (by have := HOB7.out; simp at this ⊢; omega)); have HBX8 := Lib.hid ((HBX7.out.below (below_alloc (Below.refl _ _) _)).mv hM8 (by have h1 := HX.out; have h2 := HBX.out; omega)); have HC8 := Lib.hid (show w8.cell? ⟨vb, 3, none⟩ = some (.pointer (some ⟨sb, 0, none⟩)) ∧ w8.cell? ⟨bx, 0, none⟩ = some (.int .i64 f0) ∧ w8.cell? ⟨bx, 1, none⟩ = some (.int .i64 n) from ⟨HS8.out.view.c3, HBX8.out.c0, HBX8.out.c1⟩); clear hI8 hM8))
  go_wp2
  have z1 := HBX8.out.c1
  go_step3
  go_wp2
  have H40 := Lib.hid (fun (x : Int) (hx : hasM M x = true) => (show (lookM M x).length = 40 from by
    obtain ⟨p, hp, rfl⟩ := (hasM_iff M x).1 hx
    rw [lookM_mem HF.out.2.1 hp]
    exact HF.out.2.2 p hp))
  have HBLK := Lib.hid (show f0 + (n : Int) ≤ 1048576 ∧ 0 ≤ f0 from ⟨by omega, i0⟩)
  clear z1 v0 v2 k0' k1'
  go_loopw [8, 9, 10, 11, 55] (fun _ _ _ _ i wr => ∃ k : Nat, k ≤ n ∧ i = .int .i64 k ∧ Aside0 (RdS w wr fr em mb sb vb at_ L' (R ++ newR V M f0 at_ k) ob cap (mixK V M f0 at_ k n) ∧ Bx wr bx f0 n)) (fun _ _ _ _ i _ => n - (intOf i).toNat)
  case atStart => exact ⟨0, Nat.zero_le _, rfl, ⟨by simpa [newR] using HS8.out, HBX8.out⟩⟩
  case round =>
    obtain ⟨k, hk, rfl, HO⟩ := hrel
    have HS := Lib.hid HO.out.1
    have HXB := Lib.hid HO.out.2
    clear HO
    by_cases hlt : k < n
    · have HT := Lib.hid (newR_succ V M f0 at_ k)
      have b2 : (k : Int) < (n : Int) := by omega
      have HKN := Lib.hid hlt
      have HMA := Lib.hid (HF.out.mix_at f0 at_ k n hlt)
      have HMO := Lib.hid (HF.out.mix_own f0 at_ k n hlt)
      have HMM := Lib.hid (HF.out.mix_map f0 at_ k n hlt)
      have hzk := HZ.out k hk
      have hzk1 := HZ.out (k + 1) hlt
      have hN := HN.out
      have hC := HCAP.out
      have hBK := HBLK.out
      obtain ⟨A4, c4, y4, hR4⟩ := HS.out.view.c4
      have HR4 := Lib.hid hR4
      have HRK := Lib.hid (show (R ++ newR V M f0 at_ k).length + 1 ≤ R.length + 16 by simp [newR]; omega)
      obtain ⟨x, hx⟩ : ∃ x, x = f0 + (k : Int) := ⟨_, rfl⟩
      have hxr : 0 ≤ x ∧ x < 1048576 := by omega
      have wx : IntKind.i64.wrap (f0 + (k : Int)) = x := by rw [hx]; exact IntWalk.i64_in _ (by omega)
      obtain ⟨lo, hlo⟩ : ∃ lo, lo = 40 * k := ⟨_, rfl⟩
      obtain ⟨hi2, hhi⟩ : ∃ hi2, hi2 = 40 * k + 40 := ⟨_, rfl⟩
      obtain ⟨k1, hk1⟩ : ∃ k1, k1 = k + 1 := ⟨_, rfl⟩
      have wl : IntKind.i64.wrap ((k : Int) * 40) = (lo : Int) := by rw [hlo, IntWalk.i64_in _ (by omega)]; omega
      have wk : IntKind.i64.wrap ((k : Int) + 1) = (k1 : Int) := by rw [hk1, IntWalk.i64_in _ (by omega)]; omega
      have wh : IntKind.i64.wrap ((k1 : Int) * 40) = (hi2 : Int) := by rw [hhi, hk1, IntWalk.i64_in _ (by omega)]; omega
      have hcut := cut_out ob N cap lo hi2 (by omega) (by omega) (by omega) wr
      have e40 : hi2 - lo = 40 := by omega
      rw [e40] at hcut
      have HK1 := Lib.hid (show k1 = k + 1 ∧ lo = 40 * k ∧ hi2 = 40 * k + 40 from ⟨hk1, hlo, hhi⟩)
      rw [← hhi, ← hlo] at HMA
      rw [← hhi, ← hlo] at HMO
      rw [← hx] at HMA HMO HMM HT
      obtain ⟨RK, hRK⟩ : ∃ RK, RK = R ++ newR V M f0 at_ k := ⟨_, rfl⟩
      have HRK' := Lib.hid (show R ++ newR V M f0 at_ (k + 1) = RK ++ [⟨x, rdB V M at_ x, hasM M x⟩] by rw [HT.out, hRK, List.append_assoc])
      rw [← hRK] at y4 HR4 HRK HS
      obtain ⟨Z, hZ⟩ : ∃ Z, Z = mixK V M f0 at_ k n := ⟨_, rfl⟩
      rw [← hZ] at HMA HMO HMM HS hzk
      obtain ⟨Z1, hZ1⟩ : ∃ Z, Z = mixK V M f0 at_ (k + 1) n := ⟨_, rfl⟩
      rw [← hZ1] at HMO HMM hzk1
      have HZ1 := Lib.hid hZ1
      have HZK := Lib.hid (And.intro hzk hzk1)
      have HLO := Lib.hid (show lo + 40 ≤ N by omega)
      have y1 := HS.out.view.c1
      have z0 := HXB.out.c0
      have HXR := Lib.hid hxr
      clear hk1 hlo hhi hx hRK hZ hZ1 hzk hzk1 hN hC hBK hR4 e40 hlt HT hxr
      cases hm : hasM M x with
      | true =>
        have HM := Lib.hid hm
        have HLL40 := Lib.hid (H40.out x hm)
        have HZE := Lib.hid (HMO.out hm)
        have HRB := Lib.hid (show rdB V M at_ x = lookM M x by unfold rdB; rw [if_pos hm])
        clear hm
        have HBUF := Lib.hid ((HW.out.buf.keep HS.out.kept (by have h1 := HW.out.ord; have h2 := HX.out; omega)).below (below_drew1 (Below.refl wr.heap.size wr)))
        have HSIZ := Lib.hid (show fr ≤ wr.drew.heap.size ∧ ob < wr.drew.heap.size from ⟨Nat.le_trans HS.out.frs.1 HS.out.kept.1, HS.out.ge.2⟩)
        go_wp2
        go_region_held3 (fun w' => w'.cell? ⟨vb, 1, none⟩ = some (.pointer (some ⟨mb + 1, 0, none⟩)) ∧ w'.cell? ⟨bx, 0, none⟩ = some (.int .i64 f0))
          (first | exact HC9.out | exact ⟨y1, z0⟩)
          ((go_at_call 24; refine (get_calls fr mb blocks most M x _ HBUF.out (wf_small x HXR.out.1 (by have := HXR.out.2; omega))).mono ?_; rintro _ w9 ⟨v9, rfl, hB9, hR9⟩; rw [HM.out]; have HS9 := Lib.hid ((HS.out.below (below_drew1 (Below.refl _ _))).below hB9); have HXB9 := Lib.hid ((HXB.out.below (below_drew1 (Below.refl _ _))).below hB9); have HR49 := Lib.hid (Kd.R_below (Kd.R_below HR4.out (below_drew1 (Below.refl _ _))) hB9); have HR9 := Lib.hid (show Kd.R kb 5 w9 fr (fun k => (fr ≤ k ∧ k ≠ ob) ∧ some k ≠ (Value.slice A4 RK.length c4).ownBlock) v9 (lookM M x) from Kd.R_lower (Kd.R_mono (Kd.R_bound hR9) (fun j hj => ⟨⟨Nat.le_trans HSIZ.out.1 hj.2.1, by have h1 := hj.2.1; have h2 := HSIZ.out.2; omega⟩, fun e => by have h1 := Kd.R_lt HR4.out j e.symm; have h2 := hj.2.1; have h3 : wr.drew.heap.size = wr.heap.size := rfl; omega⟩)) HSIZ.out.1); have Y49 := Lib.hid (show w9.cell? ⟨vb, 4, none⟩ = some (.slice A4 RK.length c4) from pw_cell_below hB9 y4); have HC9 := Lib.hid (show w9.cell? ⟨vb, 1, none⟩ = some (.pointer (some ⟨mb + 1, 0, none⟩)) ∧ w9.cell? ⟨bx, 0, none⟩ = some (.int .i64 f0) from ⟨HS9.out.view.c1, HXB9.out.c0⟩); clear hB9 hR9))
        clear y1 z0 y4
        obtain ⟨A9, c9, hv9, hl9, hC9⟩ := Kd.R_reads HR9.out
        have HR9v := Lib.hid HR9.out
        rw [HLL40.out] at hv9 hl9 hC9
        rw [hv9] at HR9v ⊢
        have HC9r := Lib.hid hC9
        clear hl9 hC9
        go_wp2_with ((with_reducible refine gate_builtin (b := .copy) (xs := #[.tmp 78, .tmp 79]) rfl ?_); go_must (refine cp_mid (base := w.heap.size) (ok := fun _ => True) (g := ob) (lo := lo) (cap := cap) (cap2 := cap - lo) (m := 40) (c := c9) (xs := Z) rfl (.tmp 78) (.tmp 79) rfl rfl rfl HS9.out.out HC9r.out (by decide) (by have := HLO.out; have := HZK.out; omega) ?_; intro w10 hR10 hg10; have HS10 := Lib.hid (HS9.out.cpy (Z' := Z1) hg10 (by have := HZK.out; omega) (by have := HLO.out; have := HZK.out; omega) (by have h1 := HZE.out; have h2 := HK1.out; rw [show hi2 = lo + 40 by omega] at h1; rw [← h1]; exact hR10)); have HXB10 := Lib.hid (HXB9.out.grown hg10 (fun j hj => by cases hj; exact (Kd.R_typed HS9.out.out ob rfl).elim fun cells e => .inr ⟨cells, 5, by decide, e⟩)); have Y410 := Lib.hid (hg10.cell Y49.out (fun e => by have e' : vb = ob := (by injection e); have h1 := HX.out; have h2 := HOB.out; omega)); have HR410 := Lib.hid (Kd.R_grown HR49.out hg10 (fun k hk e => by injection e with e; exact hk.2 e)); have HO10 := Lib.hid (Kd.R_grown HR9v.out hg10 (fun k hk e => by injection e with e; exact hk.1.2 e)); clear hR10 hg10))
        have p4 : w10.drew.cell? ⟨vb, 4, none⟩ = some (.slice A4 RK.length c4) := Y410.out
        have p5 : w10.drew.frozen? ⟨vb, 4, none⟩ = false := HS10.out.view.f4
        have p0 : w10.drew.cell? ⟨bx, 0, none⟩ = some (.int .i64 f0) := HXB10.out.c0
        have p4a : (w10.drew.alloc (.cells #[.int .i64 x, .slice A9 40 c9, .bool true] 77)).cell? ⟨vb, 4, none⟩ = some (.slice A4 RK.length c4) := pw_cell_below (below_alloc (Below.refl w10.drew.heap.size w10.drew) _) p4
        have p0a : (w10.drew.alloc (.cells #[.int .i64 x, .slice A9 40 c9, .bool true] 77)).cell? ⟨bx, 0, none⟩ = some (.int .i64 f0) := pw_cell_below (below_alloc (Below.refl w10.drew.heap.size w10.drew) _) p0
        have p4b : (w10.alloc (.cells #[.int .i64 x, .slice A9 40 c9, .bool true] 77)).cell? ⟨vb, 4, none⟩ = some (.slice A4 RK.length c4) := p4a
        have p0b : (w10.alloc (.cells #[.int .i64 x, .slice A9 40 c9, .bool true] 77)).cell? ⟨bx, 0, none⟩ = some (.int .i64 f0) := p0a
        have p4c : w10.cell? ⟨vb, 4, none⟩ = some (.slice A4 RK.length c4) := p4
        have p0c : w10.cell? ⟨bx, 0, none⟩ = some (.int .i64 f0) := p0
        have HS10d := Lib.hid (HS10.out.below (below_drew1 (Below.refl _ _)))
        have HXB10d := Lib.hid (HXB10.out.below (below_drew1 (Below.refl _ _)))
        have HR410d := Lib.hid (Kd.R_below HR410.out (below_drew1 (Below.refl _ _)))
        have HO10d := Lib.hid (Kd.R_below HO10.out (below_drew1 (Below.refl _ _)))
        have HNE := Lib.hid (show some vb ≠ (Value.slice A4 RK.length c4).ownBlock from fun e => by have h1 := Kd.R_base HR410.out vb e.symm; have h2 := HX.out; omega)
        have HVL := Lib.hid (World.block_lt_of_cell? _ _ p4)
        have HP5 := Lib.hid p5
        have HP4 := Lib.hid p4
        have HSD := Lib.hid (show fr ≤ w10.drew.heap.size ∧ ∀ k, w10.drew.heap.size ≤ k → (fr ≤ k ∧ k ≠ ob) from ⟨Nat.le_trans HS10d.out.frs.1 HS10d.out.kept.1, fun k hk => ⟨Nat.le_trans (Nat.le_trans HS10d.out.frs.1 HS10d.out.kept.1) hk, by have := HS10d.out.ge; omega⟩⟩)
        have HLR := Lib.hid (show (RK.length + 1) * 40 ≤ 140737488355328 from by have h1 := HRK.out; have h2 := HRL.out; omega)
        go_region_law (first | (refine app_read_step fr (fun k => fr ≤ k ∧ k ≠ ob) (by rfl) (.tmp 85) (.tmp 92) rfl (.slice A4 RK.length c4) RK ⟨x, lookM M x, true⟩ (.slice A9 40 c9) rfl (by rfl) HO10d.out HR410d.out HSD.out.1 HSD.out.2 HLR.out ?_; intro v11 w11 hR11 hg11; obtain ⟨A11, c11, hv11⟩ := Kd.R_slice hR11; subst hv11; have q4 := hg11.cell HP4.out HNE.out; have q5 := (frozen_grown (j := 4) hg11 HVL.out HNE.out).trans HP5.out; have HS11 := Lib.hid (HS10d.out.app HR410d.out hR11 hg11); have HXB11 := Lib.hid (HXB10d.out.grown hg11 (fun j hj => (Kd.R_typed HR410d.out j hj).elim fun cells e => .inr ⟨cells, 77, by decide, e⟩)); clear hR11 hg11))
        all_goals go_wp2
        all_goals
          refine ⟨⟨k1, by have h1 := HK1.out; have h2 := HKN.out; omega, by go_num, ⟨by rw [HK1.out.1, HRK'.out, HRB.out, HM.out, ← HZ1.out]; (have h := HS11.out; simp only [List.length_append, List.length_cons, List.length_nil, Nat.zero_add] at h; exact h), HXB11.out.grown grown_set (fun j hj => by cases hj; exact .inl (by have h1 := HX.out; have h2 := HBX.out; omega))⟩⟩, ?_⟩
          have h1 := HK1.out
          have h2 := HKN.out
          simp [intOf]
          omega
      | false =>
        have HM := Lib.hid hm
        have HG40 := Lib.hid (getE_len HF.out.1 x at_)
        have HZE := Lib.hid (HMM.out hm)
        have HRB := Lib.hid (show rdB V M at_ x = getE V x at_ by unfold rdB; rw [if_neg (by rw [hm]; decide)])
        clear hm
        have HBUF := Lib.hid ((HW.out.buf.keep HS.out.kept (by have h1 := HW.out.ord; have h2 := HX.out; omega)).below (below_drew1 (Below.refl wr.heap.size wr)))
        go_wp2
        go_region_held3 (fun w' => w'.cell? ⟨vb, 1, none⟩ = some (.pointer (some ⟨mb + 1, 0, none⟩)) ∧ w'.cell? ⟨bx, 0, none⟩ = some (.int .i64 f0))
          (first | exact HC9.out | exact ⟨y1, z0⟩)
          ((go_at_call 24; refine (get_calls fr mb blocks most M x _ HBUF.out (wf_small x HXR.out.1 (by have := HXR.out.2; omega))).mono ?_; rintro _ w9 ⟨v9, rfl, hB9, hR9⟩; rw [HM.out]; have HS9 := Lib.hid ((HS.out.below (below_drew1 (Below.refl _ _))).below hB9); have HXB9 := Lib.hid ((HXB.out.below (below_drew1 (Below.refl _ _))).below hB9); have HR49 := Lib.hid (Kd.R_below (Kd.R_below HR4.out (below_drew1 (Below.refl _ _))) hB9); have Y49 := Lib.hid (show w9.cell? ⟨vb, 4, none⟩ = some (.slice A4 RK.length c4) from pw_cell_below hB9 y4); have HC9 := Lib.hid (show w9.cell? ⟨vb, 1, none⟩ = some (.pointer (some ⟨mb + 1, 0, none⟩)) ∧ w9.cell? ⟨bx, 0, none⟩ = some (.int .i64 f0) from ⟨HS9.out.view.c1, HXB9.out.c0⟩); clear hB9 hR9))
        clear y1 z0 y4
        have HCE := Lib.hid (show Kd.C kb w9.drew (some ⟨ob, lo, none⟩) 40 (getE V x at_) from by
          have h1 := (Kd.R_reads' (Kd.R_below HS9.out.out (below_drew1 (Below.refl _ _)))).2
          have h2 := Kd.C_mid (lo := lo) (hi := hi2) h1.2 (by have := HK1.out; omega) (by have h3 := HK1.out; have h4 := HLO.out; have h5 := HZK.out; omega) h1.1
          have h6 : ¬ cap = lo := by have h3 := HK1.out; have h4 := HLO.out; have h5 := HCAP.out; omega
          rw [HMA.out, HG40.out, if_neg h6] at h2
          simpa [add_plain, kb, show (Kd.int IntKind.u8).sz = 1 from rfl] using h2)
        have HCL := Lib.hid (fun W (h : Kd.C kb W (some ⟨ob, lo, none⟩) 40 (getE V x at_)) => (show Calls Try.prog 49 #[.slice (some ⟨ob, lo, none⟩) 40 (cap - lo)] W _ from by
          have h1 := cloneB_calls (some ⟨ob, lo, none⟩) (cap - lo) (getE V x at_) W (by rw [HG40.out]; exact h) (by rw [HG40.out]; decide)
          rw [HG40.out] at h1
          exact h1))
        have p4 : w9.drew.cell? ⟨vb, 4, none⟩ = some (.slice A4 RK.length c4) := Y49.out
        have p0 : w9.drew.cell? ⟨bx, 0, none⟩ = some (.int .i64 f0) := HXB9.out.c0
        have p4c : w9.cell? ⟨vb, 4, none⟩ = some (.slice A4 RK.length c4) := p4
        have p0c : w9.cell? ⟨bx, 0, none⟩ = some (.int .i64 f0) := p0
        have HS9d := Lib.hid (HS9.out.below (below_drew1 (Below.refl _ _)))
        have HXB9d := Lib.hid (HXB9.out.below (below_drew1 (Below.refl _ _)))
        have HR49d := Lib.hid (Kd.R_below HR49.out (below_drew1 (Below.refl _ _)))
        have HP4 := Lib.hid p4
        have HNE := Lib.hid (show some vb ≠ (Value.slice A4 RK.length c4).ownBlock from fun e => by have h1 := Kd.R_base HR49.out vb e.symm; have h2 := HX.out; omega)
        have HSD := Lib.hid (show fr ≤ w9.drew.heap.size ∧ ob < w9.drew.heap.size from ⟨Nat.le_trans HS9d.out.frs.1 HS9d.out.kept.1, HS9d.out.ge.2⟩)
        have HLR := Lib.hid (show (RK.length + 1) * 40 ≤ 140737488355328 from by have h1 := HRK.out; have h2 := HRL.out; omega)
        go_wp2
        go_region_law (first
          | (refine app_read_step fr (fun k => fr ≤ k ∧ k ≠ ob) (by rfl) (.tmp 100) (.tmp 108) rfl (.slice A4 RK.length c4) RK ⟨x, getE V x at_, false⟩ (.slice A10 40 c10) rfl (by rfl) HO10.out HR410.out HSD10.out.1 HSD10.out.2 HLR.out ?_; intro v11 w11 hR11 hg11; obtain ⟨A11, c11, hv11⟩ := Kd.R_slice hR11; subst hv11; have q4 := hg11.cell HP410.out HNE.out; have q5 := (frozen_grown (j := 4) hg11 (World.block_lt_of_cell? _ _ HP410.out) HNE.out).trans HS10.out.view.f4; have HS11 := Lib.hid (HS10.out.app HR410.out hR11 hg11); have HXB11 := Lib.hid (HXB10.out.grown hg11 (fun j hj => (Kd.R_typed HR410.out j hj).elim fun cells e => .inr ⟨cells, 77, by decide, e⟩)); clear hR11 hg11)
          | (go_simp; go_at_call 49; refine (HCL.out _ HCE.out).mono ?_; rintro _ w10 ⟨v10, rfl, hB10, hR10⟩; obtain ⟨A10, c10, hv10, _, _⟩ := Kd.R_reads hR10; rw [HG40.out] at hv10; subst hv10; have HS10 := Lib.hid (HS9d.out.below hB10); have HXB10 := Lib.hid (HXB9d.out.below hB10); have HR410 := Lib.hid (Kd.R_below HR49d.out hB10); have HSD10 := Lib.hid (show fr ≤ w10.heap.size ∧ ∀ k, w10.heap.size ≤ k → (fr ≤ k ∧ k ≠ ob) from ⟨Nat.le_trans HSD.out.1 hB10.size, fun k hk => ⟨Nat.le_trans (Nat.le_trans HSD.out.1 hB10.size) hk, by have h1 := HSD.out.2; have h2 := hB10.size; omega⟩⟩); have HO10 := Lib.hid (show Kd.R kb 5 w10 fr (fun k => (fr ≤ k ∧ k ≠ ob) ∧ some k ≠ (Value.slice A4 RK.length c4).ownBlock) (.slice A10 40 c10) (getE V x at_) from Kd.R_lower (Kd.R_mono (Kd.R_bound hR10) (fun j hj => ⟨⟨Nat.le_trans HSD.out.1 hj.2.1, by have h1 := hj.2.1; have h2 := HSD.out.2; omega⟩, fun e => by have h1 := Kd.R_lt HR49d.out j e.symm; have h2 := hj.2.1; omega⟩)) HSD.out.1); have HP410 := Lib.hid (pw_cell_below hB10 HP4.out); have r4 : w10.cell? ⟨vb, 4, none⟩ = some (.slice A4 RK.length c4) := HP410.out; have r0 : w10.cell? ⟨bx, 0, none⟩ = some (.int .i64 f0) := HXB10.out.c0; have s4 : (w10.alloc (.cells #[.int .i64 x, .slice A10 40 c10, .bool false] 77)).cell? ⟨vb, 4, none⟩ = some (.slice A4 RK.length c4) := pw_cell_below (below_alloc (Below.refl w10.heap.size w10) _) r4; have s0 : (w10.alloc (.cells #[.int .i64 x, .slice A10 40 c10, .bool false] 77)).cell? ⟨bx, 0, none⟩ = some (.int .i64 f0) := pw_cell_below (below_alloc (Below.refl w10.heap.size w10) _) r0; clear hB10 hR10))
        all_goals go_wp2
        all_goals
          refine ⟨⟨k1, by have h1 := HK1.out; have h2 := HKN.out; omega, by go_num, ⟨by rw [HK1.out.1, HRK'.out, HRB.out, HM.out, ← HZ1.out, HZE.out]; (have h := HS11.out; simp only [List.length_append, List.length_cons, List.length_nil, Nat.zero_add] at h; exact h), HXB11.out.grown grown_set (fun j hj => by cases hj; exact .inl (by have h1 := HX.out; have h2 := HBX.out; omega))⟩⟩, ?_⟩
          have h1 := HK1.out
          have h2 := HKN.out
          simp [intOf]
          omega
    · obtain rfl : k = n := by omega
      have b2 : ¬ (k : Int) < (k : Int) := by omega
      have HZF := Lib.hid (show mixK V M f0 at_ k k = rdK V M f0 at_ k by unfold mixK; rw [List.drop_of_length_le (by rw [rangeK_len HF.out.1]; omega), List.append_nil])
      have HZN := Lib.hid (HZ.out k hk)
      have HB5 := HB5
      go_wp2
      try rw [Exit.noGoto_ret]
      go_ret2
      have HR := HS.out.out
      rw [HZN.out] at HR
      exact ⟨_, rfl, RdS.isW HW.out HS.out, HS.out.kept, HS.out.sm, by rw [← HZF.out]; exact HR⟩
end Go.Proofs.Ytbebihphodafiaa.Iv

namespace Go.Proofs.Ytbebihphodafiaa.PWb
open Go.RowKit Go.Proofs.YtbebihphodafiaaW.PrintWords Go.Proofs.YtbebihphodafiaaW.PrintLast Go.Proofs.YtbebihphodafiaaW.PrintMore
attribute [local go_sem] max2_int min2_int max_two min_two max_three min_three max_four min_four   -- for this text's walks alone
set_option linter.unusedVariables false
set_option linter.unusedSimpArgs false

-- NOT PRINTED: function 98 (slices_partitionOrdered_int)

-- NOT PRINTED: function 80 (slices_pdqsortOrdered_int)

-- NOT PRINTED: function 69 (slices_Sort_int_int)

-- NOT PRINTED: function 51 (slices_Sorted_int)

-- NOT PRINTED: function 52 (maps_Keys_map_int_byte_int_byte)

-- NOT PRINTED: function 21 (wbuf_Buf_Puts)

-- NOT PRINTED: function 18 (wbuf_Buf_Len)

-- NOT PRINTED: function 13 (scarplaw14_awake)

-- NOT PRINTED: function 3 (scarplaw14_WbufRefused)

/-! ### scarpalike_Sum: function 50 -/
def scarpalike_Sum.l0 : Nat → Int → List Int → Int → Option (Int)
  | 0, _, _, _ => none
  | k + 1, x0, x1, x5 => if x5 < (x1.length : Int) then (if x0 > 1099511627776 then (some 1099511627776) else (if 0 ≤ x5 then (if (rd x1 x5) > (wrap64 (1099511627776 - x0)) then (some 1099511627776) else (scarpalike_Sum.l0 k (wrap64 (x0 + (rd x1 x5))) x1 (wrap64 (x5 + 1)))) else (none))) else (some x0)
def scarpalike_Sum.f (k : Nat) (a0 : Int) (l1 : List Int) : Option (Int) := scarpalike_Sum.l0 k a0 l1 0
theorem scarpalike_Sum.mono_l : ∀ k, (∀ y0 y1 y2, LeO (scarpalike_Sum.l0 k y0 y1 y2) (scarpalike_Sum.l0 (k + 1) y0 y1 y2))
  | 0 => fun _ _ _ r h => by simp [scarpalike_Sum.l0] at h
  | k + 1 => by
    have ih0 := scarpalike_Sum.mono_l k
    · intro y0 y1 y2
      unfold scarpalike_Sum.l0
      repeat' first
      | (with_reducible exact ih0 _ _ _)
      | (with_reducible exact LeO.refl _)
      | (with_reducible exact LeO.none _)
      | (with_reducible refine LeO.ite ?_ ?_)
      | (with_reducible refine LeO.bind ?_ (fun _ => ?_))
      | exact ih0 _ _ _
      | exact LeO.none _
      | refine LeO.ite ?_ ?_
      | refine LeO.bind ?_ (fun _ => ?_)
theorem scarpalike_Sum.mono : ∀ a0 a1 k, LeO (scarpalike_Sum.f k a0 a1) (scarpalike_Sum.f (k + 1) a0 a1) := by
  intro a0 a1 k
  have ih0 := scarpalike_Sum.mono_l k
  unfold scarpalike_Sum.f
  repeat' first
      | (with_reducible exact ih0 _ _ _)
      | (with_reducible exact LeO.refl _)
      | (with_reducible exact LeO.none _)
      | (with_reducible refine LeO.ite ?_ ?_)
      | (with_reducible refine LeO.bind ?_ (fun _ => ?_))
      | exact ih0 _ _ _
      | exact LeO.none _
      | refine LeO.ite ?_ ?_
      | refine LeO.bind ?_ (fun _ => ?_)
set_option maxHeartbeats 8000000 in
set_option maxRecDepth 100000 in
theorem scarpalike_Sum.calls (k : Nat) (a0 : Int) (A1 : Option Addr) (c1 : Nat) (l1 : List Int) (r : Int) (w : World) (hr1 : Kd.C (Kd.int .i64) w A1 l1.length l1) (hc1 : l1.length ≤ c1) (h : scarpalike_Sum.f k a0 l1 = some r) :
    Calls Try.prog 50 #[.int .i64 a0, .slice A1 l1.length c1] w fun e w' => e = .returned (.int .i64 r) ∧ Drawn0 w w' := by
  have HR1 := Aside0.mk hr1
  have HC1 := Aside0.mk hc1
  clear hr1 hc1
  have H : (scarpalike_Sum.l0 k a0 l1 0) = some r := h
  clear h
  have H' := Aside0.mk H
  clear H
  go_enter Try.func50, Try.ntmps50
  go_wp2
  go_loopg [0, 5] k (fun kq v0 v5 w' => ∃ (x0_1 : Int) (x5_1 : Int), v0 = .int .i64 x0_1 ∧ v5 = .int .i64 x5_1 ∧ Aside0 (scarpalike_Sum.l0 kq x0_1 l1 x5_1 = some r) ∧ Aside0 (kq ≤ k) ∧ Drawn0 w w')
  case atStart => exact ⟨(a0), (0), (by first | rfl | (simp; done) | (simp [*]; done)), (by first | rfl | (simp; done) | (simp [*]; done)), H', ⟨Nat.le_refl _⟩, by repeat (first | exact Drawn0.refl _ | apply Drawn0.step)⟩
  case round =>
    clear H'
    try clear c1
    try clear p2
    obtain ⟨x0_1, x5_1, rfl, rfl, HA, HK1, ⟨m1, rfl⟩⟩ := hrel
    cases gk with
    | zero => exact absurd HA.out (by simp [scarpalike_Sum.l0])
    | succ k1 =>
      have H := HA.out
      clear HA
      simp only [scarpalike_Sum.l0] at H
      by_cases c3 : x5_1 < (l1.length : Int)
      · rw [if_pos c3] at H
        have c3b0 : decide (x5_1 < (l1.length : Int)) = true := decide_eq_true c3
        clear c3
        by_cases c4 : x0_1 > 1099511627776
        · rw [if_pos c4] at H
          have c4b0 : decide (1099511627776 < x0_1) = true := decide_eq_true c4
          clear c4
          obtain rfl := Option.some.inj H
          go_wp2
          go_ret
          exact ⟨by first | rfl | (simp; done) | (simp [*]; done), by repeat (first | exact Drawn0.refl _ | apply Drawn0.step)⟩
        · rw [if_neg c4] at H
          have c4b0 : decide (1099511627776 < x0_1) = false := decide_eq_false c4
          clear c4
          by_cases c5 : 0 ≤ x5_1
          · rw [if_pos c5] at H
            have c5b0 : decide (0 ≤ x5_1) = true := decide_eq_true c5
            clear c5
            by_cases c6 : (rd l1 x5_1) > (wrap64 (1099511627776 - x0_1))
            · rw [if_pos c6] at H
              have c6b0 : decide ((wrap64 (1099511627776 - x0_1)) < (rd l1 x5_1)) = true := decide_eq_true c6
              clear c6
              obtain rfl := Option.some.inj H
              have p229 : 0 ≤ (x5_1 : Int) := of_decide_eq_true (by first | (with_reducible assumption) | assumption)
              have q229 : x5_1 < (l1.length : Int) := of_decide_eq_true (by first | (with_reducible assumption) | assumption)
              obtain ⟨ad229, e229, hx229_0⟩ := Kd.at_int HR1.out x5_1 p229 q229
              cases e229
              replace p229 := eq_true p229
              replace q229 := eq_true q229
              go_wp2
              go_ret
              exact ⟨by first | rfl | (simp; done) | (simp [*]; done), by repeat (first | exact Drawn0.refl _ | apply Drawn0.step)⟩
            · rw [if_neg c6] at H
              have c6b0 : decide ((wrap64 (1099511627776 - x0_1)) < (rd l1 x5_1)) = false := decide_eq_false c6
              clear c6
              have H' := Aside0.mk H
              clear H
              have p229 : 0 ≤ (x5_1 : Int) := of_decide_eq_true (by first | (with_reducible assumption) | assumption)
              have q229 : x5_1 < (l1.length : Int) := of_decide_eq_true (by first | (with_reducible assumption) | assumption)
              obtain ⟨ad229, e229, hx229_0⟩ := Kd.at_int HR1.out x5_1 p229 q229
              cases e229
              replace p229 := eq_true p229
              replace q229 := eq_true q229
              have p230 : 0 ≤ (x5_1 : Int) := of_decide_eq_true (by first | (with_reducible assumption) | assumption)
              have q230 : x5_1 < (l1.length : Int) := of_decide_eq_true (by first | (with_reducible assumption) | assumption)
              obtain ⟨ad230, e230, hx230_0⟩ := Kd.at_int HR1.out x5_1 p230 q230
              obtain rfl : ad229 = ad230 := (by injection e230)
              replace p230 := eq_true p230
              replace q230 := eq_true q230
              go_wp2
              go_roundg k1
              case measure => have := HK1.out; omega
              case rel => exact ⟨(wrap64 (x0_1 + (rd l1 x5_1))), (wrap64 (x5_1 + 1)), (by first | rfl | (simp; done) | (simp [*]; done)), (by first | rfl | (simp; done) | (simp [*]; done)), H', ⟨by have := HK1.out; omega⟩, by repeat (first | exact Drawn0.refl _ | apply Drawn0.step)⟩
          · rw [if_neg c5] at H
            exact absurd H (by simp)
      · rw [if_neg c3] at H
        have c3b0 : decide (x5_1 < (l1.length : Int)) = false := decide_eq_false c3
        clear c3
        obtain rfl := Option.some.inj H
        go_wp2
        go_ret
        exact ⟨by first | rfl | (simp; done) | (simp [*]; done), by repeat (first | exact Drawn0.refl _ | apply Drawn0.step)⟩

/-! ### scarpalike_Puts: function 19 -/
def scarpalike_Puts.l0 : Nat → List (S31) → Int → Int → Int → Option (Int)
  | 0, _, _, _, _ => none
  | k + 1, x0, x1, x5, x6 => if x6 < (x0.length : Int) then (if x5 ≤ x1 then (if 0 ≤ x6 then ((scarpalike_Sum.f k x5 (([(((rd_T31 x0 x6).f1).length : Int)] : List Int))).bind fun t239 => (scarpalike_Puts.l0 k x0 x1 t239 (wrap64 (x6 + 1)))) else (none)) else (some x5)) else (some x5)
def scarpalike_Puts.f (k : Nat) (l0 : List (S31)) (a1 : Int) : Option (Int) := (scarpalike_Sum.f k 0 (([(l0.length : Int)] : List Int))).bind fun t234 => (scarpalike_Puts.l0 k l0 a1 t234 0)
theorem scarpalike_Puts.mono_l : ∀ k, (∀ y0 y1 y2 y3, LeO (scarpalike_Puts.l0 k y0 y1 y2 y3) (scarpalike_Puts.l0 (k + 1) y0 y1 y2 y3))
  | 0 => fun _ _ _ _ r h => by simp [scarpalike_Puts.l0] at h
  | k + 1 => by
    have ih0 := scarpalike_Puts.mono_l k
    · intro y0 y1 y2 y3
      unfold scarpalike_Puts.l0
      repeat' first
      | (with_reducible exact ih0 _ _ _ _)
      | (with_reducible exact scarpalike_Sum.mono _ _ _)
      | (with_reducible exact LeO.refl _)
      | (with_reducible exact LeO.none _)
      | (with_reducible refine LeO.ite ?_ ?_)
      | (with_reducible refine LeO.bind ?_ (fun _ => ?_))
      | exact ih0 _ _ _ _
      | exact scarpalike_Sum.mono _ _ _
      | exact LeO.none _
      | refine LeO.ite ?_ ?_
      | refine LeO.bind ?_ (fun _ => ?_)
theorem scarpalike_Puts.mono : ∀ a0 a1 k, LeO (scarpalike_Puts.f k a0 a1) (scarpalike_Puts.f (k + 1) a0 a1) := by
  intro a0 a1 k
  have ih0 := scarpalike_Puts.mono_l k
  unfold scarpalike_Puts.f
  repeat' first
      | (with_reducible exact ih0 _ _ _ _)
      | (with_reducible exact scarpalike_Sum.mono _ _ _)
      | (with_reducible exact LeO.refl _)
      | (with_reducible exact LeO.none _)
      | (with_reducible refine LeO.ite ?_ ?_)
      | (with_reducible refine LeO.bind ?_ (fun _ => ?_))
      | exact ih0 _ _ _ _
      | exact scarpalike_Sum.mono _ _ _
      | exact LeO.none _
      | refine LeO.ite ?_ ?_
      | refine LeO.bind ?_ (fun _ => ?_)
set_option maxHeartbeats 8000000 in
set_option maxRecDepth 100000 in
theorem scarpalike_Puts.calls (k : Nat) (A0 : Option Addr) (c0 : Nat) (l0 : List (S31)) (a1 : Int) (r : Int) (w : World) (hr0 : Kd.C k31 w A0 l0.length l0) (hc0 : l0.length ≤ c0) (h : scarpalike_Puts.f k l0 a1 = some r) :
    Calls Try.prog 19 #[.slice A0 l0.length c0, .int .i64 a1] w fun e w' => e = .returned (.int .i64 r) ∧ Below w.heap.size w w' := by
  have HR0 := Aside0.mk hr0
  have HC0 := Aside0.mk hc0
  clear hr0 hc0
  have HB := Aside0.mk (Below.refl w.heap.size w)
  have H : ((scarpalike_Sum.f k 0 (([(l0.length : Int)] : List Int))).bind fun t234 => (scarpalike_Puts.l0 k l0 a1 t234 0)) = some r := h
  clear h
  obtain ⟨y231, hy231⟩ : ∃ y_ : List Int, y_ = (([(l0.length : Int)] : List Int)) := ⟨_, rfl⟩
  replace H : ((scarpalike_Sum.f k 0 y231).bind fun t234 => (scarpalike_Puts.l0 k l0 a1 t234 0)) = some r := by first | (rw [hy231]; with_reducible exact H) | (have H2_ := (Option.bind_some _ _).symm.trans H; rw [hy231]; with_reducible exact H2_) | (have H2_ := (Option.bind_some _ _).symm.trans H; with_reducible exact H2_) | with_reducible exact H | (rw [hy231]; exact H) | exact H
  have Ny231 := Aside0.mk hy231
  clear hy231
  replace H := Option.bind_eq_some_iff.mp H
  obtain ⟨t234, A30, H⟩ := H
  replace H : (scarpalike_Puts.l0 k l0 a1 t234 0) = some r := H
  have A3 := Aside0.mk A30
  clear A30
  have H' := Aside0.mk H
  clear H
  go_enter Try.func19, Try.ntmps19
  go_wp2_with (first | ((with_reducible refine gate_dst (N := 9) rfl ?_); refine Kd.R_lit (Kd.int .i64) _ 3 ?hg (N := 9) ?hd (xs := ([(l0.length : Int)] : List Int)) (inner := [.int .i64 (l0.length : Int)]) (ok := fun _ => True) (okp := fun _ => True) ?hr ?hp (fun _ hk => hk) trivial (Below.refl _ _) (Nat.le_refl _) (by simp) ?_; (case hd => rfl); (case hg => rfl); (case hr => first | (go_simp; done) | (go_simp; rfl)); (case hp => exact (Reps.one (show Kd.M (Kd.int .i64) _ _ _ (l0.length : Int) [.int .i64 (l0.length : Int)] from rfl) (Reps.none _ _))); intro v232 w4 ho5 hb hg_ hnew_; clear hg_ hnew_; (first | rw [← Ny231.out] at ho5 | (simp only [Int.reduceToNat] at ho5; rw [← Ny231.out] at ho5)); have n0_ := Aside0.mk (Kd.R_lower ho5 (below_size (by repeat (first | (with_reducible first | exact HB.out | apply below_alloc | apply pw_below_drewN | apply below_drew1) | exact HB.out)))); have n1_ := Aside0.mk (below_step (by repeat (first | (with_reducible first | exact HB.out | apply below_alloc | apply pw_below_drewN | apply below_drew1) | exact HB.out)) hb); clear HB; have HO233 := n0_; have HB := n1_; clear n0_ n1_; clear hb ho5; obtain ⟨Ao6, co6, eo6⟩ := Kd.R_slice HO233.out; subst eo6) | ((with_reducible refine gate_callee (f := 50) rfl ?_); refine goesL_ (some 10) rfl rfl Try.func50 (by kernel_rfl) rfl #[.int .i64 0, .slice Ao6 y231.length co6] rfl (by (try simp only [List.map_toArray, List.map_cons, List.map_nil]); first | done | rfl | (simp only [List.length_drop, List.length_take]; rfl)) ?_; (with_reducible refine (scarpalike_Sum.calls k 0 _ _ y231 t234 _ ?side1 ?side2 A3.out).mono ?_); (case side1 => repeat (first | exact (Kd.R_reads' HO233.out).2.2 | (with_reducible refine Kd.C_alloc ?_ _) | (with_reducible refine Kd.C_drewN ?_ _) | (with_reducible refine Kd.C_drew ?_))); (case side2 => exact (Kd.R_reads' HO233.out).2.1); rintro e w' ⟨rfl, ⟨nd, rfl⟩⟩; refine ⟨_, rfl, ?_⟩))
  go_loopg [5, 6] k (fun kq v5 v6 w' => ∃ (x5_1 : Int) (x6_1 : Int), v5 = .int .i64 x5_1 ∧ v6 = .int .i64 x6_1 ∧ Aside0 (scarpalike_Puts.l0 kq l0 a1 x5_1 x6_1 = some r) ∧ Aside0 (kq ≤ k) ∧ Aside0 (Below w.heap.size w w'))
  case atStart => exact ⟨(t234), (0), (by first | rfl | (simp; done) | (simp [*]; done)), (by first | rfl | (simp; done) | (simp [*]; done)), H', ⟨Nat.le_refl _⟩, ⟨by repeat (first | (with_reducible first | exact HB.out | apply below_alloc | apply pw_below_drewN | apply below_drew1) | exact HB.out)⟩⟩
  case round =>
    clear H'
    try clear c1
    try clear p2
    try clear c5
    obtain ⟨x5_1, x6_1, rfl, rfl, HA, HK1, HB⟩ := hrel
    cases gk with
    | zero => exact absurd HA.out (by simp [scarpalike_Puts.l0])
    | succ k1 =>
      have H := HA.out
      clear HA
      simp only [scarpalike_Puts.l0] at H
      by_cases c7 : x6_1 < (l0.length : Int)
      · rw [if_pos c7] at H
        have c7b0 : decide (x6_1 < (l0.length : Int)) = true := decide_eq_true c7
        clear c7
        by_cases c8 : x5_1 ≤ a1
        · rw [if_pos c8] at H
          have c8b0 : decide (x5_1 ≤ a1) = true := decide_eq_true c8
          clear c8
          by_cases c9 : 0 ≤ x6_1
          · rw [if_pos c9] at H
            have c9b0 : decide (0 ≤ x6_1) = true := decide_eq_true c9
            clear c9
            obtain ⟨y236, hy236⟩ : ∃ y_ : List Int, y_ = (([(((rd_T31 l0 x6_1).f1).length : Int)] : List Int)) := ⟨_, rfl⟩
            replace H : ((scarpalike_Sum.f k1 x5_1 y236).bind fun t239 => (scarpalike_Puts.l0 k1 l0 a1 t239 (wrap64 (x6_1 + 1)))) = some r := by first | (rw [hy236]; with_reducible exact H) | (have H2_ := (Option.bind_some _ _).symm.trans H; rw [hy236]; with_reducible exact H2_) | (have H2_ := (Option.bind_some _ _).symm.trans H; with_reducible exact H2_) | with_reducible exact H | (rw [hy236]; exact H) | exact H
            have Ny236 := Aside0.mk hy236
            clear hy236
            replace H := Option.bind_eq_some_iff.mp H
            obtain ⟨t239, A100, H⟩ := H
            replace H : (scarpalike_Puts.l0 k1 l0 a1 t239 (wrap64 (x6_1 + 1))) = some r := H
            have A10 := Aside0.mk A100
            clear A100
            have H' := Aside0.mk H
            clear H
            have p235 : 0 ≤ (x6_1 : Int) := of_decide_eq_true (by first | (with_reducible assumption) | assumption)
            have q235 : x6_1 < (l0.length : Int) := of_decide_eq_true (by first | (with_reducible assumption) | assumption)
            obtain ⟨ad235, A235_1, c235_1, e235, hx235_0, hx235_1, hl235_1, hi235_1⟩ := at_T31 HR0.out x6_1 p235 q235
            cases e235
            replace hx235_0 := (HB.out.cell (World.block_lt_of_cell? w _ hx235_0)).trans hx235_0
            replace hx235_1 := (HB.out.cell (World.block_lt_of_cell? w _ hx235_1)).trans hx235_1
            have HR235_1 := Aside0.mk hi235_1
            have HC235_1 := Aside0.mk hl235_1
            clear hi235_1 hl235_1
            replace p235 := eq_true p235
            replace q235 := eq_true q235
            go_wp2_with (first | ((with_reducible refine gate_dst (N := 29) rfl ?_); refine Kd.R_lit (Kd.int .i64) _ 3 ?hg (N := 29) ?hd (xs := ([(((rd_T31 l0 x6_1).f1).length : Int)] : List Int)) (inner := [.int .i64 (((rd_T31 l0 x6_1).f1).length : Int)]) (ok := fun _ => True) (okp := fun _ => True) ?hr ?hp (fun _ hk => hk) trivial (Below.refl _ _) (Nat.le_refl _) (by simp) ?_; (case hd => rfl); (case hg => rfl); (case hr => first | (go_simp; done) | (go_simp; rfl)); (case hp => exact (Reps.one (show Kd.M (Kd.int .i64) _ _ _ (((rd_T31 l0 x6_1).f1).length : Int) [.int .i64 (((rd_T31 l0 x6_1).f1).length : Int)] from rfl) (Reps.none _ _))); intro v237 w11 ho12 hb hg_ hnew_; clear hg_ hnew_; (first | rw [← Ny236.out] at ho12 | (simp only [Int.reduceToNat] at ho12; rw [← Ny236.out] at ho12)); have n0_ := Aside0.mk (Kd.R_lower ho12 (below_size (by repeat (first | (with_reducible first | exact HB.out | apply below_alloc | apply pw_below_drewN | apply below_drew1) | exact HB.out)))); have n1_ := Aside0.mk (below_step (by repeat (first | (with_reducible first | exact HB.out | apply below_alloc | apply pw_below_drewN | apply below_drew1) | exact HB.out)) hb); clear HB; have HO238 := n0_; have HB := n1_; clear n0_ n1_; clear hb ho12; obtain ⟨Ao13, co13, eo13⟩ := Kd.R_slice HO238.out; subst eo13) | ((with_reducible refine gate_callee (f := 50) rfl ?_); refine goesL_ (some 30) rfl rfl Try.func50 (by kernel_rfl) rfl #[.int .i64 x5_1, .slice Ao13 y236.length co13] rfl (by (try simp only [List.map_toArray, List.map_cons, List.map_nil]); first | done | rfl | (simp only [List.length_drop, List.length_take]; rfl)) ?_; (with_reducible refine (scarpalike_Sum.calls k1 x5_1 _ _ y236 t239 _ ?side1 ?side2 A10.out).mono ?_); (case side1 => repeat (first | exact (Kd.R_reads' HO238.out).2.2 | (with_reducible refine Kd.C_alloc ?_ _) | (with_reducible refine Kd.C_drewN ?_ _) | (with_reducible refine Kd.C_drew ?_))); (case side2 => exact (Kd.R_reads' HO238.out).2.1); rintro e w' ⟨rfl, ⟨nd, rfl⟩⟩; refine ⟨_, rfl, ?_⟩))
            go_roundg k1
            case measure => have := HK1.out; omega
            case rel => exact ⟨(t239), (wrap64 (x6_1 + 1)), (by first | rfl | (simp; done) | (simp [*]; done)), (by first | rfl | (simp; done) | (simp [*]; done)), H', ⟨by have := HK1.out; omega⟩, ⟨by repeat (first | (with_reducible first | exact HB.out | apply below_alloc | apply pw_below_drewN | apply below_drew1) | exact HB.out)⟩⟩
          · rw [if_neg c9] at H
            exact absurd H (by simp)
        · rw [if_neg c8] at H
          have c8b0 : decide (x5_1 ≤ a1) = false := decide_eq_false c8
          clear c8
          obtain rfl := Option.some.inj H
          go_wp2
          go_ret
          exact ⟨by first | rfl | (simp [errW_none, errW_some] <;> rfl) | (simp [*, errW_none, errW_some] <;> rfl), by repeat (first | (with_reducible first | exact HB.out | apply below_alloc | apply pw_below_drewN | apply below_drew1) | exact HB.out)⟩
      · rw [if_neg c7] at H
        have c7b0 : decide (x6_1 < (l0.length : Int)) = false := decide_eq_false c7
        clear c7
        obtain rfl := Option.some.inj H
        go_wp2
        go_ret
        exact ⟨by first | rfl | (simp [errW_none, errW_some] <;> rfl) | (simp [*, errW_none, errW_some] <;> rfl), by repeat (first | (with_reducible first | exact HB.out | apply below_alloc | apply pw_below_drewN | apply below_drew1) | exact HB.out)⟩

/-! ### scarplaw14_small: function 23 -/
def scarplaw14_small.l0 : Nat → List (List (S31)) → Int → Int → Option (Bool)
  | 0, _, _, _ => none
  | k + 1, x0, x3, x4 => if x4 < (x0.length : Int) then (if 0 ≤ x4 then ((scarpalike_Puts.f k (rd_L4 x0 x4) 20000).bind fun t246 => ((scarpalike_Sum.f k x3 (([t246, 1] : List Int))).bind fun t250 => (if t250 > 20000 then (some false) else (scarplaw14_small.l0 k x0 t250 (wrap64 (x4 + 1)))))) else (none)) else (some (decide ((x0.length : Int) ≤ 100)))
def scarplaw14_small.f (k : Nat) (l0 : List (List (S31))) : Option (Bool) := scarplaw14_small.l0 k l0 0 0
theorem scarplaw14_small.mono_l : ∀ k, (∀ y0 y1 y2, LeO (scarplaw14_small.l0 k y0 y1 y2) (scarplaw14_small.l0 (k + 1) y0 y1 y2))
  | 0 => fun _ _ _ r h => by simp [scarplaw14_small.l0] at h
  | k + 1 => by
    have ih0 := scarplaw14_small.mono_l k
    · intro y0 y1 y2
      unfold scarplaw14_small.l0
      repeat' first
      | (with_reducible exact ih0 _ _ _)
      | (with_reducible exact scarpalike_Puts.mono _ _ _)
      | (with_reducible exact scarpalike_Sum.mono _ _ _)
      | (with_reducible exact LeO.refl _)
      | (with_reducible exact LeO.none _)
      | (with_reducible refine LeO.ite ?_ ?_)
      | (with_reducible refine LeO.bind ?_ (fun _ => ?_))
      | exact ih0 _ _ _
      | exact scarpalike_Puts.mono _ _ _
      | exact scarpalike_Sum.mono _ _ _
      | exact LeO.none _
      | refine LeO.ite ?_ ?_
      | refine LeO.bind ?_ (fun _ => ?_)
theorem scarplaw14_small.mono : ∀ a0 k, LeO (scarplaw14_small.f k a0) (scarplaw14_small.f (k + 1) a0) := by
  intro a0 k
  have ih0 := scarplaw14_small.mono_l k
  unfold scarplaw14_small.f
  repeat' first
      | (with_reducible exact ih0 _ _ _)
      | (with_reducible exact scarpalike_Puts.mono _ _ _)
      | (with_reducible exact scarpalike_Sum.mono _ _ _)
      | (with_reducible exact LeO.refl _)
      | (with_reducible exact LeO.none _)
      | (with_reducible refine LeO.ite ?_ ?_)
      | (with_reducible refine LeO.bind ?_ (fun _ => ?_))
      | exact ih0 _ _ _
      | exact scarpalike_Puts.mono _ _ _
      | exact scarpalike_Sum.mono _ _ _
      | exact LeO.none _
      | refine LeO.ite ?_ ?_
      | refine LeO.bind ?_ (fun _ => ?_)
set_option maxHeartbeats 8000000 in
set_option maxRecDepth 100000 in
theorem scarplaw14_small.calls (k : Nat) (A0 : Option Addr) (c0 : Nat) (l0 : List (List (S31))) (r : Bool) (w : World) (hr0 : Kd.C (Kd.slice 31 k31) w A0 l0.length l0) (hc0 : l0.length ≤ c0) (h : scarplaw14_small.f k l0 = some r) :
    Calls Try.prog 23 #[.slice A0 l0.length c0] w fun e w' => e = .returned (.bool r) ∧ Below w.heap.size w w' := by
  have HR0 := Aside0.mk hr0
  have HC0 := Aside0.mk hc0
  clear hr0 hc0
  have HB := Aside0.mk (Below.refl w.heap.size w)
  have H : (scarplaw14_small.l0 k l0 0 0) = some r := h
  clear h
  have H' := Aside0.mk H
  clear H
  go_enter Try.func23, Try.ntmps23
  go_wp2
  go_loopg [3, 4] k (fun kq v3 v4 w' => ∃ (x3_1 : Int) (x4_1 : Int), v3 = .int .i64 x3_1 ∧ v4 = .int .i64 x4_1 ∧ Aside0 (scarplaw14_small.l0 kq l0 x3_1 x4_1 = some r) ∧ Aside0 (kq ≤ k) ∧ Aside0 (Below w.heap.size w w'))
  case atStart => exact ⟨(0), (0), (by first | rfl | (simp; done) | (simp [*]; done)), (by first | rfl | (simp; done) | (simp [*]; done)), H', ⟨Nat.le_refl _⟩, ⟨by repeat (first | (with_reducible first | exact HB.out | apply below_alloc | apply pw_below_drewN | apply below_drew1) | exact HB.out)⟩⟩
  case round =>
    clear H'
    obtain ⟨x3_1, x4_1, rfl, rfl, HA, HK1, HB⟩ := hrel
    cases gk with
    | zero => exact absurd HA.out (by simp [scarplaw14_small.l0])
    | succ k1 =>
      have H := HA.out
      clear HA
      simp only [scarplaw14_small.l0] at H
      by_cases c2 : x4_1 < (l0.length : Int)
      · rw [if_pos c2] at H
        have c2b0 : decide (x4_1 < (l0.length : Int)) = true := decide_eq_true c2
        clear c2
        by_cases c3 : 0 ≤ x4_1
        · rw [if_pos c3] at H
          have c3b0 : decide (0 ≤ x4_1) = true := decide_eq_true c3
          clear c3
          replace H := Option.bind_eq_some_iff.mp H
          obtain ⟨t246, A40, H⟩ := H
          replace H : ((scarpalike_Sum.f k1 x3_1 (([t246, 1] : List Int))).bind fun t250 => (if t250 > 20000 then (some false) else (scarplaw14_small.l0 k1 l0 t250 (wrap64 (x4_1 + 1))))) = some r := H
          have A4 := Aside0.mk A40
          clear A40
          obtain ⟨y247, hy247⟩ : ∃ y_ : List Int, y_ = (([t246, 1] : List Int)) := ⟨_, rfl⟩
          replace H : ((scarpalike_Sum.f k1 x3_1 y247).bind fun t250 => (if t250 > 20000 then (some false) else (scarplaw14_small.l0 k1 l0 t250 (wrap64 (x4_1 + 1))))) = some r := by first | (rw [hy247]; with_reducible exact H) | (have H2_ := (Option.bind_some _ _).symm.trans H; rw [hy247]; with_reducible exact H2_) | (have H2_ := (Option.bind_some _ _).symm.trans H; with_reducible exact H2_) | with_reducible exact H | (rw [hy247]; exact H) | exact H
          have Ny247 := Aside0.mk hy247
          clear hy247
          replace H := Option.bind_eq_some_iff.mp H
          obtain ⟨t250, A50, H⟩ := H
          replace H : (if t250 > 20000 then (some false) else (scarplaw14_small.l0 k1 l0 t250 (wrap64 (x4_1 + 1)))) = some r := H
          have A5 := Aside0.mk A50
          clear A50
          by_cases c6 : t250 > 20000
          · rw [if_pos c6] at H
            have c6b0 : decide (20000 < t250) = true := decide_eq_true c6
            clear c6
            obtain rfl := Option.some.inj H
            have p245 : 0 ≤ (x4_1 : Int) := of_decide_eq_true (by first | (with_reducible assumption) | assumption)
            have q245 : x4_1 < (l0.length : Int) := of_decide_eq_true (by first | (with_reducible assumption) | assumption)
            obtain ⟨ad245, A245_0, c245_0, e245, hx245_0, hl245_0, hi245_0⟩ := at_L4 HR0.out x4_1 p245 q245
            cases e245
            replace hx245_0 := (HB.out.cell (World.block_lt_of_cell? w _ hx245_0)).trans hx245_0
            have HR245_0 := Aside0.mk hi245_0
            have HC245_0 := Aside0.mk hl245_0
            clear hi245_0 hl245_0
            replace p245 := eq_true p245
            replace q245 := eq_true q245
            go_wp2_with (first | ((with_reducible refine gate_callee (f := 19) rfl ?_); refine goesL_ (some 16) rfl rfl Try.func19 (by kernel_rfl) rfl #[.slice A245_0 (rd_L4 l0 x4_1).length c245_0, .int .i64 20000] rfl (by (try simp only [List.map_toArray, List.map_cons, List.map_nil]); first | done | rfl | (simp only [List.length_drop, List.length_take]; rfl)) ?_; (with_reducible refine (scarpalike_Puts.calls k1 _ _ (rd_L4 l0 x4_1) 20000 t246 _ ?side1 ?side2 A4.out).mono ?_); (case side1 => repeat (first | exact (Kd.C_below HR245_0.out HB.out) | (with_reducible refine Kd.C_alloc ?_ _) | (with_reducible refine Kd.C_drewN ?_ _) | (with_reducible refine Kd.C_drew ?_))); (case side2 => exact HC245_0.out); rintro e w7 ⟨rfl, hb⟩; refine ⟨_, rfl, ?_⟩; have n0_ := Aside0.mk (below_step (by repeat (first | (with_reducible first | exact HB.out | apply below_alloc | apply pw_below_drewN | apply below_drew1) | exact HB.out)) hb); clear HB; have HB := n0_; clear n0_; (try clear hb); (try clear hb2); (try clear hk); (try clear hi)) | ((with_reducible refine gate_dst (N := 17) rfl ?_); refine Kd.R_lit (Kd.int .i64) _ 3 ?hg (N := 17) ?hd (xs := ([t246, 1] : List Int)) (inner := [.int .i64 t246, .int .i64 1]) (ok := fun _ => True) (okp := fun _ => True) ?hr ?hp (fun _ hk => hk) trivial (Below.refl _ _) (Nat.le_refl _) (by simp) ?_; (case hd => rfl); (case hg => rfl); (case hr => first | (go_simp; done) | (go_simp; rfl)); (case hp => exact (Reps.one (show Kd.M (Kd.int .i64) _ _ _ t246 [.int .i64 t246] from rfl) (Reps.one (show Kd.M (Kd.int .i64) _ _ _ 1 [.int .i64 1] from rfl) (Reps.none _ _)))); intro v248 w8 ho9 hb hg_ hnew_; clear hg_ hnew_; (first | rw [← Ny247.out] at ho9 | (simp only [Int.reduceToNat] at ho9; rw [← Ny247.out] at ho9)); have n0_ := Aside0.mk (Kd.R_lower ho9 (below_size (by repeat (first | (with_reducible first | exact HB.out | apply below_alloc | apply pw_below_drewN | apply below_drew1) | exact HB.out)))); have n1_ := Aside0.mk (below_step (by repeat (first | (with_reducible first | exact HB.out | apply below_alloc | apply pw_below_drewN | apply below_drew1) | exact HB.out)) hb); clear HB; have HO249 := n0_; have HB := n1_; clear n0_ n1_; clear hb ho9; obtain ⟨Ao10, co10, eo10⟩ := Kd.R_slice HO249.out; subst eo10) | ((with_reducible refine gate_callee (f := 50) rfl ?_); refine goesL_ (some 18) rfl rfl Try.func50 (by kernel_rfl) rfl #[.int .i64 x3_1, .slice Ao10 y247.length co10] rfl (by (try simp only [List.map_toArray, List.map_cons, List.map_nil]); first | done | rfl | (simp only [List.length_drop, List.length_take]; rfl)) ?_; (with_reducible refine (scarpalike_Sum.calls k1 x3_1 _ _ y247 t250 _ ?side1 ?side2 A5.out).mono ?_); (case side1 => repeat (first | exact (Kd.R_reads' HO249.out).2.2 | (with_reducible refine Kd.C_alloc ?_ _) | (with_reducible refine Kd.C_drewN ?_ _) | (with_reducible refine Kd.C_drew ?_))); (case side2 => exact (Kd.R_reads' HO249.out).2.1); rintro e w' ⟨rfl, ⟨nd, rfl⟩⟩; refine ⟨_, rfl, ?_⟩))
            go_ret
            exact ⟨by first | rfl | (simp [errW_none, errW_some] <;> rfl) | (simp [*, errW_none, errW_some] <;> rfl), by repeat (first | (with_reducible first | exact HB.out | apply below_alloc | apply pw_below_drewN | apply below_drew1) | exact HB.out)⟩
          · rw [if_neg c6] at H
            have c6b0 : decide (20000 < t250) = false := decide_eq_false c6
            clear c6
            have H' := Aside0.mk H
            clear H
            have p245 : 0 ≤ (x4_1 : Int) := of_decide_eq_true (by first | (with_reducible assumption) | assumption)
            have q245 : x4_1 < (l0.length : Int) := of_decide_eq_true (by first | (with_reducible assumption) | assumption)
            obtain ⟨ad245, A245_0, c245_0, e245, hx245_0, hl245_0, hi245_0⟩ := at_L4 HR0.out x4_1 p245 q245
            cases e245
            replace hx245_0 := (HB.out.cell (World.block_lt_of_cell? w _ hx245_0)).trans hx245_0
            have HR245_0 := Aside0.mk hi245_0
            have HC245_0 := Aside0.mk hl245_0
            clear hi245_0 hl245_0
            replace p245 := eq_true p245
            replace q245 := eq_true q245
            go_wp2_with (first | ((with_reducible refine gate_callee (f := 19) rfl ?_); refine goesL_ (some 16) rfl rfl Try.func19 (by kernel_rfl) rfl #[.slice A245_0 (rd_L4 l0 x4_1).length c245_0, .int .i64 20000] rfl (by (try simp only [List.map_toArray, List.map_cons, List.map_nil]); first | done | rfl | (simp only [List.length_drop, List.length_take]; rfl)) ?_; (with_reducible refine (scarpalike_Puts.calls k1 _ _ (rd_L4 l0 x4_1) 20000 t246 _ ?side1 ?side2 A4.out).mono ?_); (case side1 => repeat (first | exact (Kd.C_below HR245_0.out HB.out) | (with_reducible refine Kd.C_alloc ?_ _) | (with_reducible refine Kd.C_drewN ?_ _) | (with_reducible refine Kd.C_drew ?_))); (case side2 => exact HC245_0.out); rintro e w11 ⟨rfl, hb⟩; refine ⟨_, rfl, ?_⟩; have n0_ := Aside0.mk (below_step (by repeat (first | (with_reducible first | exact HB.out | apply below_alloc | apply pw_below_drewN | apply below_drew1) | exact HB.out)) hb); clear HB; have HB := n0_; clear n0_; (try clear hb); (try clear hb2); (try clear hk); (try clear hi)) | ((with_reducible refine gate_dst (N := 17) rfl ?_); refine Kd.R_lit (Kd.int .i64) _ 3 ?hg (N := 17) ?hd (xs := ([t246, 1] : List Int)) (inner := [.int .i64 t246, .int .i64 1]) (ok := fun _ => True) (okp := fun _ => True) ?hr ?hp (fun _ hk => hk) trivial (Below.refl _ _) (Nat.le_refl _) (by simp) ?_; (case hd => rfl); (case hg => rfl); (case hr => first | (go_simp; done) | (go_simp; rfl)); (case hp => exact (Reps.one (show Kd.M (Kd.int .i64) _ _ _ t246 [.int .i64 t246] from rfl) (Reps.one (show Kd.M (Kd.int .i64) _ _ _ 1 [.int .i64 1] from rfl) (Reps.none _ _)))); intro v248 w12 ho13 hb hg_ hnew_; clear hg_ hnew_; (first | rw [← Ny247.out] at ho13 | (simp only [Int.reduceToNat] at ho13; rw [← Ny247.out] at ho13)); have n0_ := Aside0.mk (Kd.R_lower ho13 (below_size (by repeat (first | (with_reducible first | exact HB.out | apply below_alloc | apply pw_below_drewN | apply below_drew1) | exact HB.out)))); have n1_ := Aside0.mk (below_step (by repeat (first | (with_reducible first | exact HB.out | apply below_alloc | apply pw_below_drewN | apply below_drew1) | exact HB.out)) hb); clear HB; have HO249 := n0_; have HB := n1_; clear n0_ n1_; clear hb ho13; obtain ⟨Ao14, co14, eo14⟩ := Kd.R_slice HO249.out; subst eo14) | ((with_reducible refine gate_callee (f := 50) rfl ?_); refine goesL_ (some 18) rfl rfl Try.func50 (by kernel_rfl) rfl #[.int .i64 x3_1, .slice Ao14 y247.length co14] rfl (by (try simp only [List.map_toArray, List.map_cons, List.map_nil]); first | done | rfl | (simp only [List.length_drop, List.length_take]; rfl)) ?_; (with_reducible refine (scarpalike_Sum.calls k1 x3_1 _ _ y247 t250 _ ?side1 ?side2 A5.out).mono ?_); (case side1 => repeat (first | exact (Kd.R_reads' HO249.out).2.2 | (with_reducible refine Kd.C_alloc ?_ _) | (with_reducible refine Kd.C_drewN ?_ _) | (with_reducible refine Kd.C_drew ?_))); (case side2 => exact (Kd.R_reads' HO249.out).2.1); rintro e w' ⟨rfl, ⟨nd, rfl⟩⟩; refine ⟨_, rfl, ?_⟩))
            go_roundg k1
            case measure => have := HK1.out; omega
            case rel => exact ⟨(t250), (wrap64 (x4_1 + 1)), (by first | rfl | (simp; done) | (simp [*]; done)), (by first | rfl | (simp; done) | (simp [*]; done)), H', ⟨by have := HK1.out; omega⟩, ⟨by repeat (first | (with_reducible first | exact HB.out | apply below_alloc | apply pw_below_drewN | apply below_drew1) | exact HB.out)⟩⟩
        · rw [if_neg c3] at H
          exact absurd H (by simp)
      · rw [if_neg c2] at H
        have c2b0 : decide (x4_1 < (l0.length : Int)) = false := decide_eq_false c2
        clear c2
        obtain rfl := Option.some.inj H
        go_wp2
        go_ret
        exact ⟨by first | rfl | (simp [errW_none, errW_some] <;> rfl) | (simp [*, errW_none, errW_some] <;> rfl), by repeat (first | (with_reducible first | exact HB.out | apply below_alloc | apply pw_below_drewN | apply below_drew1) | exact HB.out)⟩

-- NOT PRINTED: function 24 (wbuf_Buf_Get)

/-! ### scarpalike_Bytes: function 25 -/
def scarpalike_Bytes.l0 : Nat → List Int → List Int → Int → Option (Bool)
  | 0, _, _, _ => none
  | k + 1, x0, x1, x5 => if x5 < (x0.length : Int) then (if 0 ≤ x5 then (if x5 < (x1.length : Int) then (if (rd x0 x5) = (rd x1 x5) then (scarpalike_Bytes.l0 k x0 x1 (wrap64 (x5 + 1))) else (some false)) else (none)) else (none)) else (some true)
def scarpalike_Bytes.f (k : Nat) (l0 : List Int) (l1 : List Int) : Option (Bool) := if (l0.length : Int) = (l1.length : Int) then (scarpalike_Bytes.l0 k l0 l1 0) else (some false)
theorem scarpalike_Bytes.mono_l : ∀ k, (∀ y0 y1 y2, LeO (scarpalike_Bytes.l0 k y0 y1 y2) (scarpalike_Bytes.l0 (k + 1) y0 y1 y2))
  | 0 => fun _ _ _ r h => by simp [scarpalike_Bytes.l0] at h
  | k + 1 => by
    have ih0 := scarpalike_Bytes.mono_l k
    · intro y0 y1 y2
      unfold scarpalike_Bytes.l0
      repeat' first
      | (with_reducible exact ih0 _ _ _)
      | (with_reducible exact LeO.refl _)
      | (with_reducible exact LeO.none _)
      | (with_reducible refine LeO.ite ?_ ?_)
      | (with_reducible refine LeO.bind ?_ (fun _ => ?_))
      | exact ih0 _ _ _
      | exact LeO.none _
      | refine LeO.ite ?_ ?_
      | refine LeO.bind ?_ (fun _ => ?_)
theorem scarpalike_Bytes.mono : ∀ a0 a1 k, LeO (scarpalike_Bytes.f k a0 a1) (scarpalike_Bytes.f (k + 1) a0 a1) := by
  intro a0 a1 k
  have ih0 := scarpalike_Bytes.mono_l k
  unfold scarpalike_Bytes.f
  repeat' first
      | (with_reducible exact ih0 _ _ _)
      | (with_reducible exact LeO.refl _)
      | (with_reducible exact LeO.none _)
      | (with_reducible refine LeO.ite ?_ ?_)
      | (with_reducible refine LeO.bind ?_ (fun _ => ?_))
      | exact ih0 _ _ _
      | exact LeO.none _
      | refine LeO.ite ?_ ?_
      | refine LeO.bind ?_ (fun _ => ?_)
set_option maxHeartbeats 8000000 in
set_option maxRecDepth 100000 in
theorem scarpalike_Bytes.calls (k : Nat) (A0 : Option Addr) (c0 : Nat) (l0 : List Int) (A1 : Option Addr) (c1 : Nat) (l1 : List Int) (r : Bool) (w : World) (hr0 : Kd.C (Kd.int .u8) w A0 l0.length l0) (hc0 : l0.length ≤ c0) (hr1 : Kd.C (Kd.int .u8) w A1 l1.length l1) (hc1 : l1.length ≤ c1) (h : scarpalike_Bytes.f k l0 l1 = some r) :
    Calls Try.prog 25 #[.slice A0 l0.length c0, .slice A1 l1.length c1] w fun e w' => e = .returned (.bool r) ∧ Drawn0 w w' := by
  have HR0 := Aside0.mk hr0
  have HC0 := Aside0.mk hc0
  clear hr0 hc0
  have HR1 := Aside0.mk hr1
  have HC1 := Aside0.mk hc1
  clear hr1 hc1
  have H : (if (l0.length : Int) = (l1.length : Int) then (scarpalike_Bytes.l0 k l0 l1 0) else (some false)) = some r := h
  clear h
  by_cases c3 : (l0.length : Int) = (l1.length : Int)
  · rw [if_pos c3] at H
    have c3b0 : ((l0.length : Int) == (l1.length : Int)) = true := beq_iff_eq.mpr c3
    have c3b1 : ((l0.length : Int) != (l1.length : Int)) = false := bne_eq_false_iff_eq.mpr c3
    have c3b2 : (l0.length == l1.length) = true := by first | simpa using c3 | (simp at c3 ⊢; omega)
    clear c3
    have H' := Aside0.mk H
    clear H
    go_enter Try.func25, Try.ntmps25
    go_wp2
    repeat (go_quiet (fail); try go_wp2)
    go_loopg [5] k (fun kq v5 w' => ∃ (x5_1 : Int), v5 = .int .i64 x5_1 ∧ Aside0 (scarpalike_Bytes.l0 kq l0 l1 x5_1 = some r) ∧ Aside0 (kq ≤ k) ∧ Drawn0 w w')
    case atStart => exact ⟨(0), (by first | rfl | (simp; done) | (simp [*]; done)), H', ⟨Nat.le_refl _⟩, by repeat (first | exact Drawn0.refl _ | apply Drawn0.step)⟩
    case round =>
      clear H'
      try clear c1
      try clear c2
      try clear p2
      try clear c3
      try clear c3b0
      try clear c3b1
      try clear c3b2
      obtain ⟨x5_1, rfl, HA, HK1, ⟨m1, rfl⟩⟩ := hrel
      cases gk with
      | zero => exact absurd HA.out (by simp [scarpalike_Bytes.l0])
      | succ k1 =>
        have H := HA.out
        clear HA
        simp only [scarpalike_Bytes.l0] at H
        by_cases c4 : x5_1 < (l0.length : Int)
        · rw [if_pos c4] at H
          have c4b0 : decide (x5_1 < (l0.length : Int)) = true := decide_eq_true c4
          clear c4
          by_cases c5 : 0 ≤ x5_1
          · rw [if_pos c5] at H
            have c5b0 : decide (0 ≤ x5_1) = true := decide_eq_true c5
            clear c5
            by_cases c6 : x5_1 < (l1.length : Int)
            · rw [if_pos c6] at H
              have c6b0 : decide (x5_1 < (l1.length : Int)) = true := decide_eq_true c6
              clear c6
              by_cases c7 : (rd l0 x5_1) = (rd l1 x5_1)
              · rw [if_pos c7] at H
                have c7b0 : ((rd l0 x5_1) == (rd l1 x5_1)) = true := beq_iff_eq.mpr c7
                have c7b1 : ((rd l0 x5_1) != (rd l1 x5_1)) = false := bne_eq_false_iff_eq.mpr c7
                clear c7
                have H' := Aside0.mk H
                clear H
                have p251 : 0 ≤ (x5_1 : Int) := of_decide_eq_true (by first | (with_reducible assumption) | assumption)
                have q251 : x5_1 < (l0.length : Int) := of_decide_eq_true (by first | (with_reducible assumption) | assumption)
                obtain ⟨ad251, e251, hx251_0⟩ := Kd.at_int HR0.out x5_1 p251 q251
                cases e251
                replace p251 := eq_true p251
                replace q251 := eq_true q251
                have p252 : 0 ≤ (x5_1 : Int) := of_decide_eq_true (by first | (with_reducible assumption) | assumption)
                have q252 : x5_1 < (l1.length : Int) := of_decide_eq_true (by first | (with_reducible assumption) | assumption)
                obtain ⟨ad252, e252, hx252_0⟩ := Kd.at_int HR1.out x5_1 p252 q252
                cases e252
                replace p252 := eq_true p252
                replace q252 := eq_true q252
                go_wp2
                repeat (go_quiet (fail); try go_wp2)
                go_roundg k1
                case measure => have := HK1.out; omega
                case rel => exact ⟨(wrap64 (x5_1 + 1)), (by first | rfl | (simp; done) | (simp [*]; done)), H', ⟨by have := HK1.out; omega⟩, by repeat (first | exact Drawn0.refl _ | apply Drawn0.step)⟩
              · rw [if_neg c7] at H
                have c7b0 : ((rd l0 x5_1) == (rd l1 x5_1)) = false := beq_eq_false_iff_ne.mpr c7
                have c7b1 : ((rd l0 x5_1) != (rd l1 x5_1)) = true := bne_iff_ne.mpr c7
                obtain rfl := Option.some.inj H
                have p251 : 0 ≤ (x5_1 : Int) := of_decide_eq_true (by first | (with_reducible assumption) | assumption)
                have q251 : x5_1 < (l0.length : Int) := of_decide_eq_true (by first | (with_reducible assumption) | assumption)
                obtain ⟨ad251, e251, hx251_0⟩ := Kd.at_int HR0.out x5_1 p251 q251
                cases e251
                replace p251 := eq_true p251
                replace q251 := eq_true q251
                have p252 : 0 ≤ (x5_1 : Int) := of_decide_eq_true (by first | (with_reducible assumption) | assumption)
                have q252 : x5_1 < (l1.length : Int) := of_decide_eq_true (by first | (with_reducible assumption) | assumption)
                obtain ⟨ad252, e252, hx252_0⟩ := Kd.at_int HR1.out x5_1 p252 q252
                cases e252
                replace p252 := eq_true p252
                replace q252 := eq_true q252
                go_wp2
                repeat (go_quiet (fail); try go_wp2)
                go_ret
                exact ⟨by first | rfl | (simp; done) | (simp [*]; done), by repeat (first | exact Drawn0.refl _ | apply Drawn0.step)⟩
            · rw [if_neg c6] at H
              exact absurd H (by simp)
          · rw [if_neg c5] at H
            exact absurd H (by simp)
        · rw [if_neg c4] at H
          have c4b0 : decide (x5_1 < (l0.length : Int)) = false := decide_eq_false c4
          clear c4
          obtain rfl := Option.some.inj H
          go_wp2
          repeat (go_quiet (fail); try go_wp2)
          go_ret
          exact ⟨by first | rfl | (simp; done) | (simp [*]; done), by repeat (first | exact Drawn0.refl _ | apply Drawn0.step)⟩
  · rw [if_neg c3] at H
    have c3b0 : ((l0.length : Int) == (l1.length : Int)) = false := beq_eq_false_iff_ne.mpr c3
    have c3b1 : ((l0.length : Int) != (l1.length : Int)) = true := bne_iff_ne.mpr c3
    have c3b2 : (l0.length == l1.length) = false := by first | simpa using c3 | (simp at c3 ⊢; omega)
    obtain rfl := Option.some.inj H
    go_enter Try.func25, Try.ntmps25
    go_wp2
    repeat (go_quiet (fail); try go_wp2)
    go_ret
    exact ⟨by first | rfl | (simp; done) | (simp [*]; done), by repeat (first | exact Drawn0.refl _ | apply Drawn0.step)⟩

-- NOT PRINTED: function 5 (scarplaw14_WbufLast)

/-- A state of type 137 at block g of W; what its slices lead to came in by w0. -/
def IsS137 (w0 W : World) (g : Nat) (f0 : Int) (f1 : List (S60)) : Prop := ∃ A1 c1, W.heap[g]? = some (.cells #[.int .i64 f0, .slice A1 f1.length c1] 137 (0, 0)) ∧ w0.heap.size ≤ g ∧ Kd.C k60 w0 A1 f1.length f1
theorem IsS137.grown {w0 W : World} {g : Nat} {f0 : Int} {f1 : List (S60)} {W1 : World} {row : Option Nat} (h : IsS137 w0 W g f0 f1) (hw : W.grownBy W1 row) (hne : some g ≠ row) : IsS137 w0 W1 g f0 f1 := by
  obtain ⟨A1, c1, hb, hg, hr1⟩ := h
  exact ⟨A1, c1, blk_grown hb hw hne, hg, hr1⟩
theorem IsS137.own_neN {w0 W : World} {g : Nat} {f0 : Int} {f1 : List (S60)} {α : Type} {d : Kd α} {e : Nat} {base : Nat} {ok : Nat → Prop} {v : Value} {xs : List α} (h : IsS137 w0 W g f0 f1) (ho : Kd.N d e W base ok v xs) (ht : e ≠ 137) : some g ≠ v.ownBlock := by
  obtain ⟨A1, c1, hb, hg, hr1⟩ := h
  exact Kd.N_ne ho hb ht
theorem IsS137.fresh {w0 W : World} {g : Nat} {f0 : Int} {f1 : List (S60)} (h : IsS137 w0 W g f0 f1) : ∀ k, W.heap.size ≤ k → k ≠ g := by
  obtain ⟨A1, c1, hb, hg, hr1⟩ := h
  exact Kd.freshB hb
theorem IsS137.kept {w0 W : World} {g : Nat} {f0 : Int} {f1 : List (S60)} {W1 : World} {S : Nat → Prop} (h : IsS137 w0 W g f0 f1) (hk : Kept W W1 S) (hne : ¬ S g) : IsS137 w0 W1 g f0 f1 := by
  obtain ⟨A1, c1, hb, hg, hr1⟩ := h
  exact ⟨A1, c1, blk_kept hb hk hne, hg, hr1⟩
theorem IsS137.below {w0 W : World} {g : Nat} {f0 : Int} {f1 : List (S60)} {W1 : World} (h : IsS137 w0 W g f0 f1) (hw : Below W.heap.size W W1) : IsS137 w0 W1 g f0 f1 := h.grown (grown_of_below hw none) (by simp)
theorem IsS137.alloc {w0 W : World} {g : Nat} {f0 : Int} {f1 : List (S60)} (h : IsS137 w0 W g f0 f1) (o : Obj) : IsS137 w0 (W.alloc o) g f0 f1 := h.below (below_alloc (Below.refl _ _) o)
theorem IsS137.drewN {w0 W : World} {g : Nat} {f0 : Int} {f1 : List (S60)} (h : IsS137 w0 W g f0 f1) (m : Nat) : IsS137 w0 (W.drewN m) g f0 f1 := h
theorem IsS137.drew {w0 W : World} {g : Nat} {f0 : Int} {f1 : List (S60)} (h : IsS137 w0 W g f0 f1) : IsS137 w0 W.drew g f0 f1 := h
theorem IsS137.at_ {w0 W : World} {g : Nat} {f0 : Int} {f1 : List (S60)} {w' : World} {m : Nat} (hq : W.drewN m = w') (h : IsS137 w0 W g f0 f1) : IsS137 w0 w' g f0 f1 := by subst hq; exact IsS137.drewN h m
theorem IsS137.apart {w0 W : World} {g : Nat} {f0 : Int} {f1 : List (S60)} {α : Type} {d : Kd α} {e : Nat} {base : Nat} {ok : Nat → Prop} {v : Value} {xs : List α} (h : IsS137 w0 W g f0 f1) (ho : d.R e W base ok v xs) (ht : ∀ q, q ∈ e :: d.E → q ≠ 137) : d.R e W base (fun k => ok k ∧ k ≠ g) v xs := by
  obtain ⟨A1, c1, hb, hg, hr1⟩ := h
  exact Kd.R_types ho hb ht
theorem IsS137.own_ne {w0 W : World} {g : Nat} {f0 : Int} {f1 : List (S60)} {α : Type} {d : Kd α} {e : Nat} {base : Nat} {ok : Nat → Prop} {v : Value} {xs : List α} (h : IsS137 w0 W g f0 f1) (ho : d.R e W base ok v xs) (ht : e ≠ 137) : some g ≠ v.ownBlock := by
  obtain ⟨A1, c1, hb, hg, hr1⟩ := h
  exact Kd.R_ne ho hb ht
theorem IsS137.apartQ {w0 W : World} {g : Nat} {f0 : Int} {f1 : List (S60)} {α : Type} {d : Kd α} {e : Nat} {base : Nat} {ok : Nat → Prop} {v : Value} {xs : List α} (h : IsS137 w0 W g f0 f1) (ho : d.Q e W base ok v xs) (ht : ∀ q, q ∈ e :: d.E → q ≠ 137) : d.Q e W base (fun k => ok k ∧ k ≠ g) v xs := by
  obtain ⟨A1, c1, hb, hg, hr1⟩ := h
  exact Kd.Q_types ho hb ht
theorem IsS137.own_neQ {w0 W : World} {g : Nat} {f0 : Int} {f1 : List (S60)} {α : Type} {d : Kd α} {e : Nat} {base : Nat} {ok : Nat → Prop} {v : Value} {xs : List α} (h : IsS137 w0 W g f0 f1) (ho : d.Q e W base ok v xs) (ht : e ≠ 137) : some g ≠ v.ownBlock := by
  obtain ⟨A1, c1, hb, hg, hr1⟩ := h
  exact Kd.Q_ne ho hb ht
theorem IsS137.apartS {w0 W : World} {g : Nat} {f0 : Int} {f1 : List (S60)} {α : Type} {d : Kd α} {e : Nat} {base : Nat} {ok : Nat → Prop} {v : Value} {xs : List α} (h : IsS137 w0 W g f0 f1) (ho : d.S e W base ok v xs) (ht : ∀ q, q ∈ e :: d.E → q ≠ 137) : d.S e W base (fun k => ok k ∧ k ≠ g) v xs := by
  obtain ⟨A1, c1, hb, hg, hr1⟩ := h
  exact Kd.S_types ho hb ht
theorem IsS137.own_neS {w0 W : World} {g : Nat} {f0 : Int} {f1 : List (S60)} {α : Type} {d : Kd α} {e : Nat} {base : Nat} {ok : Nat → Prop} {v : Value} {xs : List α} (h : IsS137 w0 W g f0 f1) (ho : d.S e W base ok v xs) (ht : e ≠ 137) : some g ≠ v.ownBlock := by
  obtain ⟨A1, c1, hb, hg, hr1⟩ := h
  exact Kd.S_ne ho hb ht
theorem IsS137.lt {w0 W : World} {g : Nat} {f0 : Int} {f1 : List (S60)} (h : IsS137 w0 W g f0 f1) : g < W.heap.size := by
  obtain ⟨A1, c1, hb, hg, hr1⟩ := h
  exact blk_lt hb
theorem IsS137.ge {w0 W : World} {g : Nat} {f0 : Int} {f1 : List (S60)} (h : IsS137 w0 W g f0 f1) : w0.heap.size ≤ g := by
  obtain ⟨A1, c1, hb, hg, hr1⟩ := h
  exact hg
theorem IsS137.ne_blk {w0 W : World} {g : Nat} {f0 : Int} {f1 : List (S60)} {a : Nat} {cs : Array Value} {t : TypeId} {fr : Nat × Nat} (h : IsS137 w0 W g f0 f1) (hb2 : W.heap[a]? = some (.cells cs t fr)) (ht : t ≠ 137) : g ≠ a := by
  obtain ⟨A1, c1, hb, hg, hr1⟩ := h
  rintro rfl
  rw [hb] at hb2
  injection hb2 with hb2
  injection hb2 with _ ht2
  exact ht ht2.symm
theorem IsS137.far {w0 W : World} {g : Nat} {f0 : Int} {f1 : List (S60)} {p : Addr} (h : IsS137 w0 W g f0 f1) (hne : g ≠ p.block) (u : Value) : IsS137 w0 (W.setCell p u) g f0 f1 := by
  obtain ⟨A1, c1, hb, hg, hr1⟩ := h
  exact ⟨A1, c1, blk_far hb hne u, hg, hr1⟩
theorem cellS137_0 {W : World} {g : Nat} {A1 : Option Addr} {c1 : Nat} {f0 : Int} {f1 : List (S60)} (h : W.heap[g]? = some (.cells #[.int .i64 f0, .slice A1 f1.length c1] 137 (0, 0))) : W.cell? ⟨g, 0, none⟩ = some (.int .i64 f0) := (blk_cell h 0).trans rfl
theorem IsS137.set_0 {w0 W : World} {g : Nat} {f0 : Int} {f1 : List (S60)} (h : IsS137 w0 W g f0 f1) (x : Int) : IsS137 w0 (W.setCell ⟨g, 0, none⟩ (.int .i64 x)) g x f1 := by
  obtain ⟨A1, c1, hb, hg, hr1⟩ := h
  exact ⟨A1, c1, by simpa using blk_set hb 0 (.int .i64 x), hg, hr1⟩
theorem cellS137_1 {W : World} {g : Nat} {A1 : Option Addr} {c1 : Nat} {f0 : Int} {f1 : List (S60)} (h : W.heap[g]? = some (.cells #[.int .i64 f0, .slice A1 f1.length c1] 137 (0, 0))) : W.cell? ⟨g, 1, none⟩ = some (.slice A1 f1.length c1) := (blk_cell h 1).trans rfl
theorem IsS137.new (w0 W : World) (A1 : Option Addr) (c1 : Nat) (f0 : Int) (f1 : List (S60)) (hB : Below w0.heap.size w0 W) (hr1 : Kd.C k60 w0 A1 f1.length f1) : IsS137 w0 (W.alloc (.cells #[.int .i64 f0, .slice A1 f1.length c1] 137)) W.heap.size f0 f1 := ⟨A1, c1, by simpa using heap_alloc_new W _, hB.size, hr1⟩


end Go.Proofs.Ytbebihphodafiaa.PWb

namespace Go.Proofs.Ytbebihphodafiaa.Iv
open Go.RowKit Go.Proofs.YtbebihphodafiaaW.PrintWords Go.Proofs.YtbebihphodafiaaW.PrintLast Go.Proofs.YtbebihphodafiaaW.PrintMore Go.Proofs.Ytbebihphodafiaa.PWb Go.Maps
set_option linter.unusedVariables false
set_option linter.unusedSimpArgs false

theorem sum_one (n a : Int) (k : Nat) (h0 : 0 ≤ n) (h1 : n ≤ 1099511627776) (ha : 0 ≤ a) (hk : 2 ≤ k) : scarpalike_Sum.f k n [a] = some (min 1099511627776 (n + a)) := by
  obtain ⟨k, rfl⟩ : ∃ m, k = m + 2 := ⟨k - 2, by omega⟩
  unfold scarpalike_Sum.f
  simp only [scarpalike_Sum.l0]
  have hw : wrap64 (1099511627776 - n) = 1099511627776 - n := by unfold wrap64; omega
  have hr : rd [a] 0 = a := rfl
  rw [if_pos (by simp), if_neg (by omega), if_pos (by decide), hr, hw]
  by_cases h : a > 1099511627776 - n
  · rw [if_pos h, Int.min_eq_left (by omega)]
  · rw [if_neg h]
    have h2 : wrap64 (n + a) = n + a := by unfold wrap64; omega
    have h3 : wrap64 ((0 : Int) + 1) = 1 := by unfold wrap64; omega
    rw [h2, h3, if_neg (by simp), Int.min_eq_right (by omega)]
theorem sum_two (n a b : Int) (k : Nat) (h0 : 0 ≤ n) (h1 : n ≤ 1099511627776) (ha : 0 ≤ a) (hb : 0 ≤ b) (hk : 3 ≤ k) : scarpalike_Sum.f k n [a, b] = some (min 1099511627776 (n + a + b)) := by
  obtain ⟨k, rfl⟩ : ∃ m, k = m + 3 := ⟨k - 3, by omega⟩
  unfold scarpalike_Sum.f
  simp only [scarpalike_Sum.l0]
  have hw : wrap64 (1099511627776 - n) = 1099511627776 - n := by unfold wrap64; omega
  have hr : rd [a, b] 0 = a := rfl
  rw [if_pos (by simp), if_neg (by omega), if_pos (by decide), hr, hw]
  by_cases h : a > 1099511627776 - n
  · rw [if_pos h, Int.min_eq_left (by omega)]
  · rw [if_neg h]
    have h2 : wrap64 (n + a) = n + a := by unfold wrap64; omega
    have h3 : wrap64 ((0 : Int) + 1) = 1 := by unfold wrap64; omega
    have hr2 : rd [a, b] 1 = b := rfl
    have hw2 : wrap64 (1099511627776 - (n + a)) = 1099511627776 - (n + a) := by unfold wrap64; omega
    rw [h2, h3, if_pos (by simp), if_neg (by omega), if_pos (by decide), hr2, hw2]
    by_cases h4 : b > 1099511627776 - (n + a)
    · rw [if_pos h4, Int.min_eq_left (by omega)]
    · rw [if_neg h4]
      have h5 : wrap64 (n + a + b) = n + a + b := by unfold wrap64; omega
      have h6 : wrap64 ((1 : Int) + 1) = 2 := by unfold wrap64; omega
      rw [h5, h6, if_neg (by simp), Int.min_eq_right (by omega)]
theorem puts_l0 (l : List S31) (top : Int) (hl : l.length ≤ 9223372036854775807) (d : Nat) : ∀ (k i : Nat) (n : Int), i + d = l.length → d + 3 ≤ k → 0 ≤ n → n ≤ 1099511627776 → ∃ r, scarpalike_Puts.l0 k l top n (i : Int) = some r ∧ n ≤ r ∧ r ≤ 1099511627776 := by
  induction d with
  | zero =>
    intro k i n hi hk h0 h1
    obtain ⟨k, rfl⟩ : ∃ m, k = m + 1 := ⟨k - 1, by omega⟩
    simp only [scarpalike_Puts.l0]
    rw [if_neg (by omega)]
    exact ⟨n, rfl, Int.le_refl _, h1⟩
  | succ d ih =>
    intro k i n hi hk h0 h1
    obtain ⟨k, rfl⟩ : ∃ m, k = m + 1 := ⟨k - 1, by omega⟩
    simp only [scarpalike_Puts.l0]
    rw [if_pos (by omega)]
    by_cases ht : n ≤ top
    · rw [if_pos ht, if_pos (by omega), sum_one n _ k h0 h1 (by omega) (by omega), Option.bind_some]
      have w : wrap64 ((i : Int) + 1) = ((i + 1 : Nat) : Int) := by unfold wrap64; omega
      rw [w]
      obtain ⟨r, e1, e2, e3⟩ := ih k (i + 1) (min 1099511627776 (n + ((rd_T31 l (i : Int)).f1.length : Int))) (by omega) (by omega) (by omega) (by omega)
      exact ⟨r, e1, by omega, e3⟩
    · rw [if_neg ht]
      exact ⟨n, rfl, Int.le_refl _, h1⟩
theorem puts_ex (l : List S31) (top : Int) (k : Nat) (hl : l.length ≤ 9223372036854775807) (hk : l.length + 3 ≤ k) : ∃ r, scarpalike_Puts.f k l top = some r ∧ min 1099511627776 (l.length : Int) ≤ r ∧ r ≤ 1099511627776 := by
  unfold scarpalike_Puts.f
  rw [sum_one 0 _ k (by decide) (by decide) (by omega) (by omega), Option.bind_some]
  obtain ⟨r, e1, e2, e3⟩ := puts_l0 l top hl l.length k 0 (min 1099511627776 (0 + (l.length : Int))) (by omega) (by omega) (by omega) (by omega)
  exact ⟨r, e1, by omega, e3⟩
theorem small_l0 (l : List (List S31)) (hl : l.length ≤ 9223372036854775807) (B : Nat) (hB : ∀ x ∈ l, x.length ≤ B) (hB2 : B ≤ 9223372036854775807) (d : Nat) : ∀ (k i : Nat) (n : Int), i + d = l.length → d + B + 5 ≤ k → 0 ≤ n → n ≤ 1099511627776 →
    ∃ r, scarplaw14_small.l0 k l n (i : Int) = some r ∧ (r = true → l.length ≤ 100 ∧ ∀ j, i ≤ j → (hj : j < l.length) → (l[j]).length ≤ 20000) := by
  induction d with
  | zero =>
    intro k i n hi hk h0 h1
    obtain ⟨k, rfl⟩ : ∃ m, k = m + 1 := ⟨k - 1, by omega⟩
    simp only [scarplaw14_small.l0]
    rw [if_neg (by omega)]
    exact ⟨_, rfl, fun h => ⟨by simp at h; omega, fun j hj hj2 => by omega⟩⟩
  | succ d ih =>
    intro k i n hi hk h0 h1
    obtain ⟨k, rfl⟩ : ∃ m, k = m + 1 := ⟨k - 1, by omega⟩
    simp only [scarplaw14_small.l0]
    have hil : i < l.length := by omega
    have hrd : rd_L4 l (i : Int) = l[i] := by simp [rd_L4, List.getD_eq_getElem?_getD, List.getElem?_eq_getElem hil]
    have hbl := hB l[i] (List.getElem_mem hil)
    obtain ⟨p, p1, p2, p3⟩ := puts_ex l[i] 20000 k (by omega) (by omega)
    rw [if_pos (by omega), if_pos (by omega), hrd, p1, Option.bind_some, sum_two n p 1 k h0 h1 (by omega) (by decide) (by omega), Option.bind_some]
    by_cases hb : min 1099511627776 (n + p + 1) > 20000
    · rw [if_pos hb]
      exact ⟨false, rfl, fun h => by cases h⟩
    · rw [if_neg hb]
      have w : wrap64 ((i : Int) + 1) = ((i + 1 : Nat) : Int) := by unfold wrap64; omega
      rw [w]
      obtain ⟨r, e1, e2⟩ := ih k (i + 1) (min 1099511627776 (n + p + 1)) (by omega) (by omega) (by omega) (by omega)
      refine ⟨r, e1, fun h => ⟨(e2 h).1, fun j hj hj2 => ?_⟩⟩
      rcases Nat.eq_or_lt_of_le hj with h3 | h3
      · subst h3; omega
      · exact (e2 h).2 j h3 hj2
/-- small tells something; where it says yes, the rows are short. -/
theorem small_ex (l : List (List S31)) (hl : l.length ≤ 9223372036854775807) (hB : ∀ x ∈ l, x.length ≤ 9223372036854775807) : ∃ k r, scarplaw14_small.f k l = some r ∧ (r = true → l.length ≤ 100 ∧ ∀ x ∈ l, x.length ≤ 20000) := by
  obtain ⟨r, e1, e2⟩ := small_l0 l hl 9223372036854775807 hB (Nat.le_refl _) l.length (l.length + 9223372036854775807 + 5) 0 0 (by omega) (Nat.le_refl _) (by decide) (by decide)
  refine ⟨_, r, e1, fun h => ⟨(e2 h).1, fun x hx => ?_⟩⟩
  obtain ⟨j, hj, rfl⟩ := List.getElem_of_mem hx
  exact (e2 h).2 j (Nat.zero_le _) hj
/-! ### order and parts -/
theorem rise_ext : ∀ (A B : List S31), Rise A → Rise B → (∀ p, p ∈ A ↔ p ∈ B) → A = B := by
  intro A
  induction A with
  | nil =>
    intro B _ _ h
    cases B with
    | nil => rfl
    | cons y r => have := (h y).2 (by simp); simp at this
  | cons x a ih =>
    intro B hA hB h
    cases B with
    | nil => have := (h x).1 (by simp); simp at this
    | cons y b =>
      obtain ⟨a1, a2⟩ := List.pairwise_cons.1 hA
      obtain ⟨b1, b2⟩ := List.pairwise_cons.1 hB
      have hxy : x = y := by
        rcases List.mem_cons.1 ((h x).1 (by simp)) with e | e
        · exact e
        · rcases List.mem_cons.1 ((h y).2 (by simp)) with e2 | e2
          · exact e2.symm
          · have h1 := b1 x e; have h2 := a1 y e2; omega
      subst hxy
      rw [ih b a2 b2 (fun p => ?_)]
      constructor
      · intro hp
        rcases List.mem_cons.1 ((h p).1 (by simp [hp])) with e | e
        · subst e; have := a1 p hp; omega
        · exact e
      · intro hp
        rcases List.mem_cons.1 ((h p).2 (by simp [hp])) with e | e
        · subst e; have := b1 p hp; omega
        · exact e
theorem insL_cons (M : List S31) (x : S31) (r : List S31) : insL M (x :: r) = insL (ins M x) r := rfl
theorem insL_rise : ∀ (l M : List S31), Rise M → Rise (insL M l) := by
  intro l
  induction l with
  | nil => intro M h; exact h
  | cons x r ih => intro M h; rw [insL_cons]; exact ih _ (ins_rise M x h)
theorem insL_mem : ∀ (l M : List S31), Rise M → (l.map (·.f0)).Nodup → ∀ p, p ∈ insL M l ↔ p ∈ l ∨ (p ∈ M ∧ ∀ q ∈ l, q.f0 ≠ p.f0) := by
  intro l
  induction l with
  | nil => intro M _ _ p; simp [insL]
  | cons x r ih =>
    intro M hM hn p
    obtain ⟨n1, n2⟩ := List.nodup_cons.1 hn
    have n1' : ∀ q ∈ r, q.f0 ≠ x.f0 := fun q hq e => n1 (List.mem_map.2 ⟨q, hq, e⟩)
    rw [insL_cons, ih _ (ins_rise M x hM) n2 p, ins_mem M x hM p]
    simp only [List.mem_cons]
    constructor
    · rintro (h | ⟨h | ⟨h, h2⟩, h3⟩)
      · exact .inl (.inr h)
      · exact .inl (.inl h)
      · refine .inr ⟨h, fun q hq => ?_⟩
        rcases hq with rfl | hq
        · exact fun e => h2 e.symm
        · exact h3 q hq
    · rintro ((h | h) | ⟨h, h2⟩)
      · subst h; exact .inr ⟨.inl rfl, n1'⟩
      · exact .inl h
      · exact .inr ⟨.inr ⟨h, fun e => h2 x (.inl rfl) e.symm⟩, fun q hq => h2 q (.inr hq)⟩
theorem insL_perm (M l k : List S31) (hM : Rise M) (hn : (l.map (·.f0)).Nodup) (hp : l.Perm k) : insL M l = insL M k := by
  have hn2 : (k.map (·.f0)).Nodup := (hp.map _).nodup_iff.1 hn
  refine rise_ext _ _ (insL_rise l M hM) (insL_rise k M hM) (fun p => ?_)
  rw [insL_mem l M hM hn, insL_mem k M hM hn2, hp.mem_iff]
  constructor
  · rintro (h | ⟨h, h2⟩)
    · exact .inl h
    · exact .inr ⟨h, fun q hq => h2 q (hp.mem_iff.2 hq)⟩
  · rintro (h | ⟨h, h2⟩)
    · exact .inl h
    · exact .inr ⟨h, fun q hq => h2 q (hp.mem_iff.1 hq)⟩
theorem insL_app (M a b : List S31) : insL (insL M a) b = insL M (a ++ b) := by unfold insL; rw [List.foldl_append]
theorem insL_len_le : ∀ (l M : List S31), Rise M → (insL M l).length ≤ M.length + l.length := by
  intro l
  induction l with
  | nil => intro M _; exact Nat.le_refl _
  | cons x r ih =>
    intro M h
    rw [insL_cons]
    have h1 := ih _ (ins_rise M x h)
    have h2 := ins_len M x h
    split at h2 <;> simp only [List.length_cons] <;> omega
theorem fresh_ins (M r : List S31) (x : S31) (hM : Rise M) (h : ∀ q ∈ r, q.f0 ≠ x.f0) : freshN (ins M x) r = freshN M r := by
  unfold freshN
  refine List.countP_congr (fun q hq => ?_)
  have : hasM (ins M x) q.f0 = hasM M q.f0 := by
    rw [Bool.eq_iff_iff, hasM_iff, hasM_iff]
    constructor
    · rintro ⟨p, hp, e⟩
      rcases (ins_mem M x hM p).1 hp with rfl | hp
      · exact absurd e.symm (h q hq)
      · exact ⟨p, hp.1, e⟩
    · rintro ⟨p, hp, e⟩
      exact ⟨p, (ins_mem M x hM p).2 (.inr ⟨hp, by rw [e]; exact h q hq⟩), e⟩
  rw [this]
theorem insL_len : ∀ (l M : List S31), Rise M → (l.map (·.f0)).Nodup → (insL M l).length = M.length + freshN M l := by
  intro l
  induction l with
  | nil => intro M _ _; rfl
  | cons x r ih =>
    intro M hM hn
    obtain ⟨n1, n2⟩ := List.nodup_cons.1 hn
    have n1' : ∀ q ∈ r, q.f0 ≠ x.f0 := fun q hq e => n1 (List.mem_map.2 ⟨q, hq, e⟩)
    rw [insL_cons, ih _ (ins_rise M x hM) n2, fresh_ins M r x hM n1', ins_len M x hM]
    unfold freshN
    rw [List.countP_cons]
    cases hasM M x.f0 <;> simp <;> omega
theorem wrC_zero {blocks most : Int} {M l : List S31} (h : wrC blocks most M l = 0) : l ≠ [] ∧ l.any (outB blocks) = false ∧ l.any lenB = false ∧ dupB l = false ∧ ¬ most < (M.length : Int) + (freshN M l : Int) := by
  unfold wrC at h
  by_cases h1 : l = []
  · rw [if_pos h1] at h; omega
  rw [if_neg h1] at h
  cases h2 : l.any (outB blocks) with
  | true => rw [h2, if_pos rfl] at h; omega
  | false =>
    rw [h2, if_neg (by decide)] at h
    cases h3 : l.any lenB with
    | true => rw [h3, if_pos rfl] at h; omega
    | false =>
      rw [h3, if_neg (by decide)] at h
      cases h4 : dupB l with
      | true => rw [h4, if_pos rfl] at h; omega
      | false =>
        rw [h4, if_neg (by decide)] at h
        by_cases h5 : most < (M.length : Int) + (freshN M l : Int)
        · rw [if_pos h5] at h; omega
        · exact ⟨h1, rfl, rfl, rfl, h5⟩
theorem wrC_mk {blocks most : Int} {M l : List S31} (h1 : l ≠ []) (h2 : l.any (outB blocks) = false) (h3 : l.any lenB = false) (h4 : dupB l = false) (h5 : ¬ most < (M.length : Int) + (freshN M l : Int)) : wrC blocks most M l = 0 := by
  unfold wrC
  rw [if_neg h1, h2, if_neg (by decide), h3, if_neg (by decide), h4, if_neg (by decide), if_neg h5]
theorem any_sub {p : S31 → Bool} {l k : List S31} (h : l.any p = false) (hs : ∀ x ∈ k, x ∈ l) : k.any p = false :=
  List.any_eq_false.2 (fun x hx => List.any_eq_false.1 h x (hs x hx))
theorem dup_nodup {l : List S31} (h : dupB l = false) : (l.map (·.f0)).Nodup := by simpa [dupB] using h
theorem nodup_dup {l : List S31} (h : (l.map (·.f0)).Nodup) : dupB l = false := by simpa [dupB] using h
/-- A part of what may be written at once may be written, behind another part. -/
theorem part_ok {blocks most : Int} {l a b : List S31} (h : wrC blocks most [] l = 0) {r : List S31} (hp : (a ++ b ++ r).Perm l) (hb : b ≠ []) : wrC blocks most (insL [] a) b = 0 ∧ wrM blocks most (insL [] a) b = insL [] (a ++ b) := by
  obtain ⟨h1, h2, h3, h4, h5⟩ := wrC_zero h
  have hn := dup_nodup h4
  have hn2 : ((a ++ b ++ r).map (·.f0)).Nodup := (hp.map _).nodup_iff.2 hn
  rw [List.map_append, List.map_append] at hn2
  have hnb := (List.nodup_append.1 (List.nodup_append.1 hn2).1).2.1
  have hs : ∀ x ∈ b, x ∈ l := fun x hx => hp.mem_iff.1 (by simp [hx])
  have hla := insL_len_le a [] List.Pairwise.nil
  have hfb := fresh_le (insL [] a) b
  have hlen := hp.length_eq
  rw [List.length_append, List.length_append] at hlen
  have hf : freshN [] l = l.length := by
    unfold freshN; rw [List.countP_eq_length]; intro _ _; rfl
  have hc : wrC blocks most (insL [] a) b = 0 := wrC_mk hb (any_sub h2 hs) (any_sub h3 hs) (nodup_dup hnb) (by
    rw [hf] at h5; simp at h5 hla; omega)
  exact ⟨hc, by unfold wrM; rw [hc, if_pos rfl, insL_app]⟩
set_option maxHeartbeats 8000000 in
set_option maxRecDepth 100000 in
/-- Two rows that hold the same. -/
theorem sameputs_calls (A0 A1 : Option Addr) (c0 c1 : Nat) (l : List S31) (w : World) (h0 : Kd.C k31 w A0 l.length l) (h1 : Kd.C k31 w A1 l.length l) (hl : l.length ≤ 9223372036854775807) :
    Calls Try.prog 22 #[.slice A0 l.length c0, .slice A1 l.length c1] w fun e w' => e = .returned (.bool true) ∧ RowKit.Below w.heap.size w w' := by
  have H0 := Lib.hid (fun w' (h : RowKit.Below w.heap.size w w') => Kd.C_below h0 h)
  have H1 := Lib.hid (fun w' (h : RowKit.Below w.heap.size w w') => Kd.C_below h1 h)
  clear h0 h1
  go_enter Try.func22, Try.ntmps22
  go_wp2
  go_loopw [5] (fun i wr => ∃ k : Nat, k ≤ l.length ∧ i = .int .i64 k ∧ Aside0 (RowKit.Below w.heap.size w wr)) (fun i _ => l.length - (intOf i).toNat)
  case atStart => exact ⟨0, Nat.zero_le _, rfl, ⟨Below.refl _ _⟩⟩
  case round =>
    obtain ⟨k, hk, rfl, HB⟩ := hrel
    by_cases hlt : k < l.length
    · obtain ⟨ad, A2, c2, rfl, x0, x1, _, xC⟩ := at_T31 (H0.out _ HB.out) (k : Int) (by omega) (by omega)
      obtain ⟨ae, A3, c3, rfl, y0, y1, _, yC⟩ := at_T31 (H1.out _ HB.out) (k : Int) (by omega) (by omega)
      simp only [Int.toNat_natCast] at x0 x1 y0 y1
      obtain ⟨q, hq⟩ : ∃ q, q = rd_T31 l (k : Int) := ⟨_, rfl⟩
      rw [← hq] at x0 x1 y0 y1 xC yC
      have hx := fun n => Kd.C_string (P := Try.prog) (w := wr.drewN n) (A := A2) (c := c2) Try.underlying28 Try.underlying5 Try.underlying9 xC
      have hy := fun n => Kd.C_string (P := Try.prog) (w := wr.drewN n) (A := A3) (c := c3) Try.underlying28 Try.underlying5 Try.underlying9 yC
      have hx' := Kd.C_string (P := Try.prog) (w := wr) (A := A2) (c := c2) Try.underlying28 Try.underlying5 Try.underlying9 xC
      have hy' := Kd.C_string (P := Try.prog) (w := wr) (A := A3) (c := c3) Try.underlying28 Try.underlying5 Try.underlying9 yC
      obtain ⟨st, hst⟩ : ∃ st, st = strOfNums q.f1 := ⟨_, rfl⟩
      rw [← hst] at hx hy hx' hy'
      have b1 : 0 ≤ (k : Int) := by omega
      have b2 : (k : Int) < (l.length : Int) := by omega
      have HK := Lib.hid (show k + 1 ≤ l.length by omega)
      clear hq hst xC yC
      go_wp2
      go_quiet (fail)
      clear hx hy hx' hy'
      go_wp2
      go_roundw
      case rel => exact ⟨k + 1, HK.out, by go_num, ⟨pw_below_drewN HB.out _⟩⟩
      case measure => simp [intOf]; omega
    · obtain rfl : k = l.length := by omega
      have b2 : ¬ (l.length : Int) < (l.length : Int) := by omega
      go_wp2
      try rw [Exit.noGoto_ret]
      go_ret
      exact ⟨rfl, HB.out⟩
end Go.Proofs.Ytbebihphodafiaa.Iv
