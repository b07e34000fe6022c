/- Merged texts of this session: One more version of a block. A view: what it stands on, and what a reading keeps. Walk of a view's Read. A view in the midst of a reading. A transaction applied to a map. Walk of a view's Read that is answered. How much is looked at, told; two rows of writes held against each other; what a row of writes comes to, in whatever order and parts. -/
import Derived.Test.YtbebihphodafiaaProg
import Derived.Below
import Derived.Deep.Draws
import Derived.Deep.AppendLies
import Derived.Maps.AppendAt
import Derived.OwnWalk
import Derived.Laws.BytesArg
import Derived.Laws.MakeOwn
import Derived.Laws.OwnMore
import Derived.Deep.OwnRows
import Derived.Tactics
import Derived.Lib.ConvBytes
import Derived.Laws.Slices
import Derived.WalkKit
import Derived.KernelRfl
import Derived.RowKit3
import Derived.Deep.LoopGhost
import Derived.Deep.QuietTactic
import Derived.BigQuiet
import Derived.WideLaws
import Derived.Deep.DeepCutAuto
import Derived.Deep.CutBlock
import Derived.Deep.RegionHeld3
import Derived.Laws.Rows
import Derived.Lib.AppendStr
import Derived.ArgAppend
import Derived.Laws.IdiomCopy
import Derived.OrdersHeld
import Derived.Laws.BitsLemmas
import Derived.RowKit
import Derived.Test.YtbebihphodafiaaWWords
import Derived.Test.YtbebihphodafiaaWLast
import Derived.Test.YtbebihphodafiaaWTab
import Derived.Test.YtbebihphodafiaaWFour
import Derived.Test.YtbebihphodafiaaWQPut
import Derived.Test.YtbebihphodafiaaWApart
import Derived.Test.YtbebihphodafiaaWArr
import Derived.Test.YtbebihphodafiaaWZeros
import Derived.Test.YtbebihphodafiaaWFoot
import Derived.Test.YtbebihphodafiaaWKept
import Derived.Test.YtbebihphodafiaaWShare
import Derived.Test.YtbebihphodafiaaWN
import Derived.Test.YtbebihphodafiaaWFootNe
import Derived.Test.YtbebihphodafiaaWAt
import Derived.Test.YtbebihphodafiaaWEqStruct
import Derived.Test.YtbebihphodafiaaWRepsOne
import Derived.Test.YtbebihphodafiaaWInv
import Derived.Test.YtbebihphodafiaaWInvWords
import Derived.Test.YtbebihphodafiaaWGuard
import Derived.Test.YtbebihphodafiaaWNEv
import Derived.Test.YtbebihphodafiaaWMore
import Derived.Outline
import Derived.Lib.Hide
import Derived.Deep.DeepMust
import Derived.IntWalk
import Derived.StillTailTactics
import Derived.Deep.RegionLaw
import Derived.Test.YtbebihphodafiaaZRsetOwn1
import Derived.Test.YtbebihphodafiaaZRsetOwn2
import Derived.Test.YtbebihphodafiaaZRsetOwn3
import Derived.Test.YtbebihphodafiaaZRsetOwn4
namespace Go.Proofs.Ytbebihphodafiaa.Iv
open Go.RowKit Go.Proofs.YtbebihphodafiaaW.PrintWords Go.Proofs.YtbebihphodafiaaW.PrintLast Go.Proofs.YtbebihphodafiaaW.PrintMore Go.Proofs.Ytbebihphodafiaa.PWb Go.Maps
set_option linter.unusedVariables false
set_option linter.unusedSimpArgs false

def updV (V : Int → List S31) (x : Int) (p : S31) (y : Int) : List S31 := if y = x then V y ++ [p] else V y
def apV (V : Int → List S31) (t : Int) (l : List S31) : Int → List S31 := l.foldl (fun V q => updV V q.f0 ⟨t, q.f1⟩) V
theorem updV_same (V : Int → List S31) (x : Int) (p : S31) : updV V x p x = V x ++ [p] := by simp [updV]
theorem updV_other (V : Int → List S31) {x y : Int} (p : S31) (h : y ≠ x) : updV V x p y = V y := by simp [updV, h]
theorem apV_succ (V : Int → List S31) (t : Int) (l : List S31) (k : Nat) (h : k < l.length) : apV V t (l.take (k + 1)) = updV (apV V t (l.take k)) l[k].f0 ⟨t, l[k].f1⟩ := by
  rw [List.take_succ_eq_append_getElem h]
  unfold apV
  rw [List.foldl_append]
  rfl
theorem countP_upd (f g : Nat → Bool) (a n : Nat) (ha : a < n) (hg : ∀ i, i ≠ a → g i = f i) (hga : g a = true) : (List.range n).countP g = (List.range n).countP f + if f a = true then 0 else 1 := by
  induction n with
  | zero => omega
  | succ n ih =>
    rw [List.range_succ, List.countP_append, List.countP_append, List.countP_singleton, List.countP_singleton]
    by_cases e : a = n
    · subst e
      have h1 : (List.range a).countP g = (List.range a).countP f := List.countP_congr (fun i hi => by rw [hg i (by have := List.mem_range.1 hi; omega)])
      rw [h1, hga]
      cases f a <;> simp
    · rw [ih (by omega), hg n (Ne.symm e)]
      omega
theorem cntV_upd (blocks : Int) (V : Int → List S31) (x : Int) (p : S31) (hx : 0 ≤ x ∧ x < blocks) : cntV blocks (updV V x p) = cntV blocks V + if V x = [] then 1 else 0 := by
  obtain ⟨a, rfl⟩ : ∃ a : Nat, x = (a : Int) := ⟨x.toNat, by omega⟩
  unfold cntV
  rw [countP_upd (fun i : Nat => !(V (i : Int)).isEmpty) (fun i : Nat => !(updV V (a : Int) p (i : Int)).isEmpty) a blocks.toNat (by omega) (fun i hi => by rw [updV_other V p (by omega)]) (by simp [updV_same])]
  cases h : V (a : Int) <;> simp
theorem cntV_le (blocks : Int) (V : Int → List S31) : cntV blocks V ≤ blocks.toNat := by
  unfold cntV
  have := List.countP_le_length (p := fun i : Nat => !(V (i : Int)).isEmpty) (l := List.range blocks.toNat)
  rwa [List.length_range] at this
theorem R_apart2 {α : Type} {d : Kd α} {e : Nat} {w : World} {base : Nat} {ok : Nat → Prop} {u : Value} {xs : List α} {o : Option Nat} (h : d.R e w base ok u xs) (hne : ∀ k, u.ownBlock = some k → o ≠ some k) (hty : ∀ k, o = some k → ∃ cells, w.heap[k]? = some (.cells cells e (0, 0))) (hE : e ∉ d.E) : d.R e w base (fun k => ok k ∧ some k ≠ o) u xs := by
  obtain ⟨h0, inner, ho, hr⟩ := h
  refine ⟨fun k hk => ⟨h0 k hk, fun e => hne k hk e.symm⟩, inner, ho, hr.imp_ (fun _ _ hp => d.M_mono (fun k hk => ?_) (d.M_bound hp))⟩
  obtain ⟨⟨h1, h2⟩, h3, h4, q, hq, cells, hc⟩ := hk
  refine ⟨⟨h1, fun e' => ?_⟩, h2⟩
  obtain ⟨cs, hcs⟩ := hty k e'.symm
  rw [hc] at hcs
  injection hcs with hcs
  injection hcs with _ hcs
  subst hcs
  exact hE hq
/-- What a look-up gives, and what an update with one more version behind it leaves. -/
theorem IsExt.app {W : World} {fr em : Nat} {blocks last : Int} {V : Int → List S31} (h : IsExt W fr em blocks last V) (x : Int) (hx : 0 ≤ x ∧ x < blocks) :
    ∃ A c, (∀ W' : World, W'.heap[em]? = W.heap[em]? → (Instr.lookup 121 (.map (some em)) (.int .i64 x) false).run Try.prog W' = .ok (.slice A (V x).length c) W') ∧ Kd.R k31 126 W fr (fun k => fr ≤ k) (.slice A (V x).length c) (V x) ∧
      ∀ (w1 : World) (v1 : Value) (p : S31), p.f1.length = 40 → Kd.R k31 126 w1 fr (fun k => fr ≤ k) v1 (V x ++ [p]) → W.grownBy w1 (Value.slice A (V x).length c).ownBlock → (v1.ownBlock = (Value.slice A (V x).length c).ownBlock ∨ ∃ b, v1.ownBlock = some b ∧ W.heap.size ≤ b) →
        ∃ w2, (Instr.mapUpdate 121 (.map (some em)) (.int .i64 x) v1).run Try.prog w1 = .ok () w2 ∧ w1.grownBy w2 (some em) ∧ IsExt w2 fr em blocks last (updV V x p) := by
  have hbl := h.bl
  obtain ⟨hx0, hx1⟩ := hx
  have hwf := wf_small x hx0 (by omega)
  obtain ⟨n, D, vv, d1, ⟨d2, d2'⟩, d3, d4, d5⟩ := h.map
  have key : keyOf Try.prog 3 (.int .i64 x) = some (ky x) := keyOf_int_mk Try.underlying3 hwf
  have hz : Rh (.slice none 0 0) = some (.held (.slice none 0 0), []) := rfl
  have zero124 : ∀ w : World, (zeroValue 124).run Try.prog w = .ok (.slice none 0 0) w := fun w => by kernel_rfl
  have hlt := h.lt
  have hv : ∃ A c, D.atKey (ky x) (.held (.slice none 0 0)) = .held (.slice A (V x).length c) ∧ Kd.R k31 126 W fr (fun k => fr ≤ k) (.slice A (V x).length c) (V x) ∧ ∀ y, y ≠ x → V y ≠ [] → ∀ k, (vv y).ownBlock = some k → (Value.slice A (V x).length c).ownBlock ≠ some k := by
    by_cases hV : V x = []
    · refine ⟨none, 0, ?_, ?_, ?_⟩
      · rw [atKey_of_not_has (d3 x hV), hV]; rfl
      · rw [hV]; exact Kd.R_nil _ _ _ _ _
      · intro y _ _ k _ e; simp [Value.ownBlock] at e
    · obtain ⟨_, e2, e3⟩ := d4 x hV
      obtain ⟨A, c, hv⟩ := Kd.R_slice e3
      refine ⟨A, c, by rw [e2, hv], by rw [← hv]; exact e3, ?_⟩
      intro y hne hy k hk e
      rw [← hv] at e
      exact d5 x y (Ne.symm hne) hV hy (e.trans hk.symm)
  obtain ⟨A, c, v1, v2, v3⟩ := hv
  refine ⟨A, c, fun W' hW' => ?_, v2, ?_⟩
  · have d1' : W'.ownsMap Try.prog 3 Rh em n D := by
      obtain ⟨es, clock, hb, r⟩ := d1
      exact ⟨es, clock, hW'.trans hb, r⟩
    obtain ⟨v, ps, hrun, hR⟩ := d1'.lookup law3 Try.underlying121 (zero124 W') hz key
    rw [hrun]
    have : v = .slice A (V x).length c ∧ ps = [] := by
      rw [v1] at hR
      simpa [Rh] using hR
    rw [this.1]
  intro w1 u1 p hp hR1 hg hown
  obtain ⟨row, hrow⟩ : ∃ row, row = (Value.slice A (V x).length c).ownBlock := ⟨_, rfl⟩
  rw [← hrow] at hg hown v3
  have hbase : ∀ k, row = some k → fr ≤ k := fun k hk => Kd.R_base v2 k (hrow.symm.trans hk)
  have hty : ∀ k, row = some k → ∃ cells, W.heap[k]? = some (.cells cells 126 (0, 0)) := fun k hk => Kd.R_typed v2 k (hrow.symm.trans hk)
  have hem : some em ≠ row := fun e => by have := hbase em e.symm; omega
  have hem1 : some (em + 1) ≠ row := fun e => by have := hbase (em + 1) e.symm; omega
  have d1' := d1.kept hg hem
  have hT := tidy_of d1'
  have hle := cntV_le blocks V
  obtain ⟨w2, hrun, hm, hg2⟩ := d1'.update law3 Try.underlying121 (by unfold maxLen; omega) key (show Rh u1 = some (.held u1, []) from rfl)
  refine ⟨w2, hrun, hg2, ?_⟩
  have hblt := World.block_lt_of_cell? _ _ h.c0
  have g1 : some (em + 1) ≠ some em := by simp
  have hhx : has D (ky x) = !(V x).isEmpty := by
    cases hV : V x with
    | nil => rw [d3 x hV]; rfl
    | cons a r => rw [(d4 x (by rw [hV]; simp)).1]; rfl
  have hs2 : size (D.put (ky x) (.held u1)) = cntV blocks (updV V x p) := by
    rw [size_put hT, cntV_upd blocks V x p ⟨hx0, hx1⟩, hhx, ← d2', d2]
    cases V x <;> simp
  refine ⟨h.lt, hg2.cell (hg.cell h.c0 hem1) g1, hg2.cell (hg.cell h.c1 hem1) g1, hg2.cell (hg.cell h.c2 hem1) g1,
    ⟨size (D.put (ky x) (.held u1)), D.put (ky x) (.held u1), fun y => if y = x then u1 else vv y, tight hm, ⟨rfl, hs2⟩, fun y hy => ?_, fun y hy => ?_, fun y z hne hy hz => ?_⟩, fun y hy => ?_, fun y q hq => ?_, h.bl, by rw [frozen_grown hg2 (Nat.lt_of_lt_of_le hblt hg.size) g1, frozen_grown hg hblt hem1]; exact h.f2⟩
  · have hne : y ≠ x := fun e => by rw [e, updV_same] at hy; simp at hy
    rw [updV_other V p hne] at hy
    rw [has_put_other (ky_inj hne)]
    exact d3 y hy
  · by_cases e : y = x
    · subst e
      simp only [if_true]
      rw [updV_same]
      exact ⟨has_put_same hT.isMap (ky_key _) _, fun z => atKey_put_same hT.isMap (ky_key _) _ _, Kd.R_grown hR1 hg2 (fun k hk e => by injection e with e; omega)⟩
    · rw [updV_other V p e] at hy ⊢
      simp only [if_neg e]
      obtain ⟨e1, e2, e3⟩ := d4 y hy
      refine ⟨by rw [has_put_other (ky_inj e)]; exact e1, fun z => by rw [atKey_put_other (ky_inj e)]; exact e2 z, ?_⟩
      have e4 := R_apart2 e3 (v3 y e hy) hty (by decide)
      have e5 := Kd.R_grown e4 hg (fun k hk => hk.2)
      exact Kd.R_mono (Kd.R_grown e5 hg2 (fun k hk e => by injection e with e; have := hk.1; omega)) (fun _ hk => hk.1)
  · have key2 : ∀ y, y ≠ x → V y ≠ [] → (vv y).ownBlock ≠ u1.ownBlock := by
      intro y hyx hVy e
      obtain ⟨_, _, e3⟩ := d4 y hVy
      obtain ⟨g, cc, hvy, hg1, hg2, _⟩ := Kd.R_form e3 (List.length_pos_iff.2 hVy)
      have ho : (vv y).ownBlock = some g := by rw [hvy]; rfl
      rcases hown with h1 | ⟨b, h1, h2⟩
      · exact v3 y hyx hVy g ho (h1.symm.trans (e.symm.trans ho))
      · rw [ho, h1] at e; injection e with e; omega
    by_cases ey : y = x
    · subst ey
      have ez : z ≠ y := Ne.symm hne
      rw [updV_other V p ez] at hz
      simp only [if_true, if_neg ez]
      exact fun e => key2 z ez hz e.symm
    · rw [updV_other V p ey] at hy
      simp only [if_neg ey]
      by_cases ez : z = x
      · subst ez; simp only [if_true]; exact key2 y ey hy
      · rw [updV_other V p ez] at hz
        simp only [if_neg ez]
        exact d5 y z hne hy hz
  · by_cases e : y = x
    · subst e; exact ⟨hx0, hx1⟩
    · rw [updV_other V p e] at hy; exact h.rng y hy
  · by_cases e : y = x
    · subst e
      rw [updV_same] at hq
      rcases List.mem_append.1 hq with hq | hq
      · exact h.dat y q hq
      · simp at hq; subst hq; exact hp
    · rw [updV_other V p e] at hq; exact h.dat y q hq
/-- append(v, one version), at a step of a region that draws its order. -/
theorem info126 : (Try.prog.info? 126).map (fun i => (i.zero, i.size, i.bytes)) = some (some (.agg #[.int .i64 0, .slice none 0 0]), 2, 32) := by kernel_rfl
section
variable {ops : Array Oper} {o : Oper} {a : Act} {Q : Exit → Act → World → Prop}
theorem app_ver_step {W : World} {Kc : Act → World → Prop} (base : Nat) (hw : Region.wanted o (yielded ops a.tmps) = true) (s x : Operand)
    (ho : o.op = .call { callee := .builtin .append, args := #[s, x], argTypes := #[124, 124] })
    (v : Value) (xs : List S31) (p : S31) (u : Value) (hs : a.eval s = v) (hx : a.eval x = .slice (some ⟨W.heap.size, 0, none⟩) 1 1)
    (hp : Kd.R kb 5 W base (fun k => base ≤ k ∧ some k ≠ v.ownBlock) u p.f1) (HO : Kd.R k31 126 W base (fun k => base ≤ k) v xs)
    (hbase : base ≤ W.heap.size) (hl : (xs.length + 1) * 32 ≤ 140737488355328)
    (h : ∀ v1 w1, Kd.R k31 126 w1 base (fun k => base ≤ k) v1 (xs ++ [p]) → W.grownBy w1 v.ownBlock → (v1.ownBlock = v.ownBlock ∨ ∃ b, v1.ownBlock = some b ∧ W.heap.size ≤ b) → Kc (a.put o.dst v1) w1) :
    if Region.wanted o (yielded ops a.tmps) = true then Oper.wp Try.prog o a (W.alloc (.cells #[.int .i64 p.f0, u] 126)) Kc Q else Kc (a.put o.dst undef) (W.alloc (.cells #[.int .i64 p.f0, u] 126)) :=
  Kd.R_append_step k31 (w0 := W) base hw s x 124 126 (.agg #[.int .i64 0, .slice none 0 0]) 32 ho Try.underlying124 info126 rfl (by decide) (by decide) v xs p [.int .i64 p.f0, u] (fun k => base ≤ k) (fun k => base ≤ k ∧ some k ≠ v.ownBlock) hs hx (k31_mkM W base _ p hp) (fun _ h => h) (fun k hk => Nat.le_trans hbase hk) HO (Below.refl _ _) hbase hl
    (fun v1 w1 h1 _ h3 h4 => h v1 w1 h1 h3 h4)
end
end Go.Proofs.Ytbebihphodafiaa.Iv

namespace Go.Proofs.Ytbebihphodafiaa.Iv
open Go.RowKit Go.Proofs.YtbebihphodafiaaW.PrintWords Go.Proofs.YtbebihphodafiaaW.PrintLast Go.Proofs.YtbebihphodafiaaW.PrintMore Go.Proofs.Ytbebihphodafiaa.PWb Go.Maps
set_option linter.unusedVariables false
set_option linter.unusedSimpArgs false

structure IsView (W : World) (fr vb em mb sb : Nat) (at_ : Int) (ok : Nat → Prop) (R : List S77) : Prop where
  lt : vb < fr
  c0 : W.cell? ⟨vb, 0, none⟩ = some (.pointer (some ⟨em + 1, 0, none⟩))
  c1 : W.cell? ⟨vb, 1, none⟩ = some (.pointer (some ⟨mb + 1, 0, none⟩))
  c2 : W.cell? ⟨vb, 2, none⟩ = some (.int .i64 at_)
  c3 : W.cell? ⟨vb, 3, none⟩ = some (.pointer (some ⟨sb, 0, none⟩))
  c4 : ∃ A c, W.cell? ⟨vb, 4, none⟩ = some (.slice A R.length c) ∧ Kd.R k77 77 W fr (fun k => fr ≤ k ∧ ok k) (.slice A R.length c) R
  f4 : W.frozen? ⟨vb, 4, none⟩ = false
theorem IsView.step {W W' : World} {fr vb em mb sb : Nat} {at_ : Int} {ok : Nat → Prop} {R : List S77} (h : IsView W fr vb em mb sb at_ ok R) {row : Option Nat} (hg : W.grownBy W' row) (hr : some vb ≠ row)
    (hR : ∀ v, Kd.R k77 77 W fr (fun k => fr ≤ k ∧ ok k) v R → Kd.R k77 77 W' fr (fun k => fr ≤ k ∧ ok k) v R) : IsView W' fr vb em mb sb at_ ok R := by
  obtain ⟨h1, h2, h3, h4, h5, ⟨A, c, h6, h7⟩, h8⟩ := h
  have hlt := World.block_lt_of_cell? _ _ h2
  exact ⟨h1, hg.cell h2 hr, hg.cell h3 hr, hg.cell h4 hr, hg.cell h5 hr, ⟨A, c, hg.cell h6 hr, hR _ h7⟩, by rw [frozen_grown hg hlt hr]; exact h8⟩
theorem IsView.mono {W : World} {fr vb em mb sb : Nat} {at_ : Int} {ok ok' : Nat → Prop} {R : List S77} (h : IsView W fr vb em mb sb at_ ok R) (hok : ∀ k, k < W.heap.size → ok k → ok' k) : IsView W fr vb em mb sb at_ ok' R := by
  obtain ⟨h1, h2, h3, h4, h5, ⟨A, c, h6, h7⟩, h8⟩ := h
  exact ⟨h1, h2, h3, h4, h5, ⟨A, c, h6, Kd.R_mono (Kd.R_bound h7) (fun k hk => ⟨hk.1.1, hok k hk.2.2.1 hk.1.2⟩)⟩, h8⟩
/-- A map, a buffer, a set, a view on them. -/
structure IsW (W : World) (fr em mb sb vb : Nat) (blocks most last at_ : Int) (V : Int → List S31) (M : List S31) (L : List S60) (R : List S77) (ok : Nat → Prop) : Prop where
  ext : IsExt W fr em blocks last V
  buf : IsBuf W fr mb blocks most M
  set : IsSet W fr sb 64 L
  view : IsView W fr vb em mb sb at_ ok R
  ord : em + 1 < mb ∧ mb + 1 < sb ∧ sb < vb
  fits : fr ≤ W.heap.size
section
variable {W W' : World} {fr em mb sb vb : Nat} {blocks most last at_ : Int} {V : Int → List S31} {M : List S31} {L : List S60} {R : List S77} {ok : Nat → Prop}
theorem IsW.mono {ok' : Nat → Prop} (h : IsW W fr em mb sb vb blocks most last at_ V M L R ok) (hok : ∀ k, k < W.heap.size → ok k → ok' k) : IsW W fr em mb sb vb blocks most last at_ V M L R ok' :=
  ⟨h.ext, h.buf, h.set, h.view.mono hok, h.ord, h.fits⟩
theorem IsW.below (h : IsW W fr em mb sb vb blocks most last at_ V M L R ok) (hb : RowKit.Below W.heap.size W W') : IsW W' fr em mb sb vb blocks most last at_ V M L R ok :=
  ⟨h.ext.below hb, h.buf.below hb, h.set.below hb, h.view.step (grown_of_below hb none) (by simp) (fun v hv => Kd.R_below hv hb), h.ord, Nat.le_trans h.fits hb.size⟩
/-- A block below the data is written, none of the map, the buffer, the set, the view. -/
theorem IsW.old (h : IsW W fr em mb sb vb blocks most last at_ V M L R ok) {k : Nat} (hg : W.grownBy W' (some k)) (hk : k < fr) (h1 : k ≠ em ∧ k ≠ em + 1) (h2 : k ≠ mb ∧ k ≠ mb + 1) (h3 : k ≠ sb) (h4 : k ≠ vb) : IsW W' fr em mb sb vb blocks most last at_ V M L R ok := by
  have ho : ∀ ts, Off W fr ts (some k) := fun ts j hj => by cases hj; exact .inl hk
  exact ⟨h.ext.grown2 hg (fun j hj => by cases hj; exact h1) (ho _), h.buf.grown2 hg (fun j hj => by cases hj; exact ⟨h2.1, h2.2, .inl hk⟩), h.set.grown2 hg (fun j hj => by cases hj; exact h3) (ho _),
    h.view.step hg (fun e => by cases e; exact h4 rfl) (fun v hv => R_off hv hg (ho _)), h.ord, Nat.le_trans h.fits hg.size⟩
/-- A block that the reads do not lead to, of bytes, is written: newer than all that is held. -/
theorem IsW.bytes (h : IsW W fr em mb sb vb blocks most last at_ V M L R ok) {g : Nat} {W0 : World} (hg : W.grownBy W' (some g)) (h0 : IsExt W fr em blocks last V → IsBuf W fr mb blocks most M → IsExt W' fr em blocks last V ∧ IsBuf W' fr mb blocks most M) (hfr : fr ≤ g) (hty : ∃ cells, W.heap[g]? = some (.cells cells 5 (0, 0))) (hok : ∀ k, ok k → k ≠ g) : IsW W' fr em mb sb vb blocks most last at_ V M L R ok := by
  obtain ⟨e1, e2⟩ := h0 h.ext h.buf
  obtain ⟨cells, hc⟩ := hty
  have hv := h.view.lt
  have ho := h.ord
  refine ⟨e1, e2, h.set.grown2 hg (fun j hj => by cases hj; omega) (fun j hj => by cases hj; exact .inr ⟨cells, 5, by decide, hc⟩), h.view.step hg (fun e => by cases e; omega) (fun v hv => Kd.R_grown hv hg (fun k hk e => by injection e with e; exact hok k hk.2 e)), h.ord, Nat.le_trans h.fits hg.size⟩
/-- What an addition leaves. -/
theorem IsW.mv {L' : List S60} (h : IsW W fr em mb sb vb blocks most last at_ V M L R ok) (hm : Mv sb W W') (hs : IsSet W' fr sb 64 L') : IsW W' fr em mb sb vb blocks most last at_ V M L' R ok := by
  have ho := h.ord
  have hv := h.view.lt
  obtain ⟨w1, hb, rfl | ⟨v, rfl⟩⟩ := hm
  · have h1 := h.below hb
    exact ⟨h1.ext, h1.buf, hs, h1.view, h1.ord, h1.fits⟩
  · have h1 := h.below hb
    have hoff : ∀ ts, Off w1 fr ts (some sb) := fun ts j hj => by cases hj; exact .inl (by omega)
    have hg : w1.grownBy (w1.setCell ⟨sb, 1, none⟩ v) (some sb) := grown_set
    exact ⟨h1.ext.grown2 hg (fun j hj => by cases hj; omega) (hoff _), h1.buf.grown2 hg (fun j hj => by cases hj; exact ⟨by omega, by omega, .inl (by omega)⟩), hs,
      h1.view.step hg (fun e => by cases e; omega) (fun v hv => R_off hv hg (hoff _)), h1.ord, Nat.le_trans h1.fits hg.size⟩
/-- One more is read. -/
theorem IsW.app {p : S77} {v v1 : Value} (h : IsW W fr em mb sb vb blocks most last at_ V M L R ok) (hv : Kd.R k77 77 W fr (fun k => fr ≤ k ∧ ok k) v R) (hR : Kd.R k77 77 W' fr (fun k => fr ≤ k ∧ ok k) v1 (R ++ [p])) (hg : W.grownBy W' v.ownBlock) :
    IsW (W'.setCell ⟨vb, 4, none⟩ v1) fr em mb sb vb blocks most last at_ V M L (R ++ [p]) ok := by
  have ho := h.ord
  have hlt := h.view.lt
  have hbase : ∀ k, v.ownBlock = some k → fr ≤ k := fun k hk => Kd.R_base hv k hk
  have hoff : ∀ ts, 77 ∉ ts → Off W fr ts v.ownBlock := fun ts ht k hk => .inr ((Kd.R_typed hv k hk).elim fun cells e => ⟨cells, 77, ht, e⟩)
  have hne : ∀ k, k < fr → some k ≠ v.ownBlock := fun k hk e => by have := hbase k e.symm; omega
  have he := h.ext.grown2 hg (fun k hk => by have := hbase k hk; have := h.ext.lt; omega) (hoff _ (by decide))
  have hbu := h.buf.grown2 hg (fun k hk => by have := hbase k hk; have := h.buf.lt; exact ⟨by omega, by omega, .inr ((Kd.R_typed hv k hk).elim fun cells e => ⟨cells, 77, by decide, e⟩)⟩)
  have hse := h.set.grown2 hg (fun k hk => by have := hbase k hk; omega) (hoff _ (by decide))
  have hg2 : W'.grownBy (W'.setCell ⟨vb, 4, none⟩ v1) (some vb) := grown_set
  have hoff2 : ∀ ts, Off W' fr ts (some vb) := fun ts j hj => by cases hj; exact .inl hlt
  obtain ⟨h1, h2, h3, h4, h5, ⟨A, c, h6, h7⟩, h8⟩ := h.view
  have hvr := hne vb hlt
  have hblt := World.block_lt_of_cell? _ _ h2
  obtain ⟨A1, c1, hv1⟩ := Kd.R_slice hR
  subst hv1
  refine ⟨he.grown2 hg2 (fun j hj => by cases hj; have := h.ext.lt; omega) (hoff2 _), hbu.grown2 hg2 (fun j hj => by cases hj; exact ⟨by omega, by omega, .inl hlt⟩), hse.grown2 hg2 (fun j hj => by cases hj; omega) (hoff2 _), ?_, h.ord, Nat.le_trans h.fits (Nat.le_trans hg.size hg2.size)⟩
  refine ⟨h1, ?_, ?_, ?_, ?_, ⟨A1, c1, World.cell?_setCell_same' _ _ _ (by rw [hg.cell h6 hvr]; rfl), R_off hR hg2 (hoff2 _)⟩, by rw [World.frozen?_setCell, frozen_grown hg hblt hvr]; exact h8⟩
  · rw [World.cell?_setCell_other _ _ _ _ (by simp)]; exact hg.cell h2 hvr
  · rw [World.cell?_setCell_other _ _ _ _ (by simp)]; exact hg.cell h3 hvr
  · rw [World.cell?_setCell_other _ _ _ _ (by simp)]; exact hg.cell h4 hvr
  · rw [World.cell?_setCell_other _ _ _ _ (by simp)]; exact hg.cell h5 hvr
end
/-- What a reading may change of what was. -/
def Sv (w : World) (fr sb vb : Nat) (i : Nat) : Prop := i = sb ∨ i = vb ∨ fr ≤ i ∧ ∃ cells, w.heap[i]? = some (.cells cells 77 (0, 0))
/-! ### what is read -/
def rdB (V : Int → List S31) (M : List S31) (t x : Int) : List Int := if hasM M x = true then lookM M x else getE V x t
def rdK (V : Int → List S31) (M : List S31) (x t : Int) (k : Nat) : List Int := (List.range k).flatMap (fun i : Nat => rdB V M t (x + (i : Int)))
def newR (V : Int → List S31) (M : List S31) (x t : Int) (k : Nat) : List S77 := (List.range k).map (fun i : Nat => ⟨x + (i : Int), rdB V M t (x + (i : Int)), hasM M (x + (i : Int))⟩)
def mixK (V : Int → List S31) (M : List S31) (x t : Int) (k n : Nat) : List Int := rdK V M x t k ++ (rangeK V x t n).drop (40 * k)
theorem newR_succ (V : Int → List S31) (M : List S31) (x t : Int) (k : Nat) : newR V M x t (k + 1) = newR V M x t k ++ [⟨x + (k : Int), rdB V M t (x + (k : Int)), hasM M (x + (k : Int))⟩] := by
  unfold newR
  rw [List.range_succ, List.map_append]
  simp
theorem rdK_succ (V : Int → List S31) (M : List S31) (x t : Int) (k : Nat) : rdK V M x t (k + 1) = rdK V M x t k ++ rdB V M t (x + (k : Int)) := by
  unfold rdK
  rw [List.range_succ, List.flatMap_append]
  simp
def Forty (V : Int → List S31) (M : List S31) : Prop := (∀ x, ∀ p ∈ V x, p.f1.length = 40) ∧ Rise M ∧ ∀ p ∈ M, p.f1.length = 40
theorem Forty.rdB {V : Int → List S31} {M : List S31} (h : Forty V M) (t x : Int) : (rdB V M t x).length = 40 := by
  unfold Iv.rdB
  split
  · rename_i hh
    obtain ⟨p, hp, rfl⟩ := (hasM_iff M x).1 hh
    rw [lookM_mem h.2.1 hp]
    exact h.2.2 p hp
  · exact getE_len h.1 x t
theorem Forty.rdK {V : Int → List S31} {M : List S31} (h : Forty V M) (x t : Int) (k : Nat) : (rdK V M x t k).length = 40 * k := by
  induction k with
  | zero => rfl
  | succ k ih => rw [rdK_succ, List.length_append, ih, h.rdB]; omega
theorem rangeK_add {V : Int → List S31} (h : ∀ x, ∀ p ∈ V x, p.f1.length = 40) (x t : Int) (k : Nat) : ∀ n, k ≤ n → (rangeK V x t n).take (40 * k) = rangeK V x t k := by
  intro n
  induction n with
  | zero => intro hk; obtain rfl : k = 0 := by omega
            rfl
  | succ n ih =>
    intro hk
    by_cases e : k = n + 1
    · subst e; rw [List.take_of_length_le]; rw [rangeK_len h]; omega
    · rw [rangeK_succ, List.take_append_of_le_length (by rw [rangeK_len h]; omega)]
      exact ih (by omega)
theorem Forty.mix_len {V : Int → List S31} {M : List S31} (h : Forty V M) (x t : Int) (k n : Nat) (hk : k ≤ n) : (mixK V M x t k n).length = 40 * n := by
  unfold mixK
  rw [List.length_append, h.rdK, List.length_drop, rangeK_len h.1]
  omega
theorem Forty.mix_at {V : Int → List S31} {M : List S31} (h : Forty V M) (x t : Int) (k n : Nat) (hk : k < n) : ((mixK V M x t k n).take (40 * k + 40)).drop (40 * k) = getE V (x + (k : Int)) t := by
  unfold mixK
  rw [List.take_append, h.rdK, List.drop_append, List.length_take, h.rdK]
  have e1 : 40 * k - min (40 * k + 40) (40 * k) = 0 := by omega
  rw [e1, List.drop_zero, List.drop_of_length_le (by rw [List.length_take, h.rdK]; omega), List.nil_append]
  have e2 : 40 * k + 40 - 40 * k = 40 := by omega
  rw [e2, List.take_drop]
  have e3 := rangeK_add h.1 x t (k + 1) n (by omega)
  rw [show 40 * k + 40 = 40 * (k + 1) by omega, e3, rangeK_succ, List.drop_append, rangeK_len h.1, List.drop_of_length_le (by rw [rangeK_len h.1]; omega)]
  simp
theorem Forty.mix_own {V : Int → List S31} {M : List S31} (h : Forty V M) (x t : Int) (k n : Nat) (hk : k < n) (hh : hasM M (x + (k : Int)) = true) :
    (mixK V M x t k n).take (40 * k) ++ lookM M (x + (k : Int)) ++ (mixK V M x t k n).drop (40 * k + 40) = mixK V M x t (k + 1) n := by
  unfold mixK
  rw [List.take_append_of_le_length (by rw [h.rdK]; omega), List.take_of_length_le (by rw [h.rdK]; omega), List.drop_append, h.rdK, List.drop_of_length_le (by rw [h.rdK]; omega), rdK_succ, List.nil_append, List.drop_drop]
  have e1 : 40 * k + (40 * k + 40 - 40 * k) = 40 * (k + 1) := by omega
  rw [e1]
  have e2 : Iv.rdB V M t (x + (k : Int)) = lookM M (x + (k : Int)) := by unfold Iv.rdB; rw [if_pos hh]
  rw [e2]
theorem Forty.mix_map {V : Int → List S31} {M : List S31} (h : Forty V M) (x t : Int) (k n : Nat) (hk : k < n) (hh : hasM M (x + (k : Int)) = false) :
    mixK V M x t (k + 1) n = mixK V M x t k n := by
  have e0 := h.mix_at x t k n hk
  have e2 : Iv.rdB V M t (x + (k : Int)) = getE V (x + (k : Int)) t := by unfold Iv.rdB; rw [if_neg (by rw [hh]; decide)]
  unfold mixK
  rw [rdK_succ, e2, List.append_assoc]
  congr 1
  have e4 : (rangeK V x t n).drop (40 * k) = ((rangeK V x t n).drop (40 * k)).take 40 ++ ((rangeK V x t n).drop (40 * k)).drop 40 := (List.take_append_drop _ _).symm
  rw [e4, List.drop_drop, show 40 * k + 40 = 40 * (k + 1) by omega]
  congr 1
  rw [List.take_drop, show 40 * k + 40 = 40 * (k + 1) by omega, rangeK_add h.1 x t (k + 1) n (by omega), rangeK_succ, List.drop_append, rangeK_len h.1, List.drop_of_length_le (by rw [rangeK_len h.1]; omega)]
  simp
end Go.Proofs.Ytbebihphodafiaa.Iv

namespace Go.Proofs.Ytbebihphodafiaa.Iv
open Go.RowKit Go.Proofs.YtbebihphodafiaaW.PrintWords Go.Proofs.YtbebihphodafiaaW.PrintLast Go.Proofs.YtbebihphodafiaaW.PrintMore Go.Proofs.Ytbebihphodafiaa.PWb Go.Maps
set_option linter.unusedVariables false
set_option linter.unusedSimpArgs false

theorem info77 : (Try.prog.info? 77).map (fun i => (i.zero, i.size, i.bytes)) = some (some (.agg #[.int .i64 0, .slice none 0 0, .bool false]), 3, 40) := by kernel_rfl
section
variable {ops : Array Oper} {rest : List Oper} {o : Oper} {a : Act} {Q : Exit → Act → World → Prop}
/-- append(v, one read). -/
theorem app_read {W : World} (base : Nat) (ok : Nat → Prop) (hgd : o.guard = none) (s x : Operand)
    (ho : o.op = .call { callee := .builtin .append, args := #[s, x], argTypes := #[73, 73] })
    (v : Value) (xs : List S77) (p : S77) (u : Value) (hs : a.eval s = v) (hx : a.eval x = .slice (some ⟨W.heap.size, 0, none⟩) 1 1)
    (hp : Kd.R kb 5 W base (fun k => ok k ∧ some k ≠ v.ownBlock) u p.f1) (HO : Kd.R k77 77 W base ok v xs)
    (hbase : base ≤ W.heap.size) (hfresh : ∀ k, W.heap.size ≤ k → ok k) (hl : (xs.length + 1) * 40 ≤ 140737488355328)
    (h : ∀ v1 w1, Kd.R k77 77 w1 base ok v1 (xs ++ [p]) → W.grownBy w1 v.ownBlock → wpList Try.prog ops Q rest (a.put o.dst v1) w1) :
    wpList Try.prog ops Q (o :: rest) a (W.alloc (.cells #[.int .i64 p.f0, u, .bool p.f2] 77)) :=
  Kd.R_append k77 (w0 := W) base hgd s x 73 77 (.agg #[.int .i64 0, .slice none 0 0, .bool false]) 40 ho Try.underlying73 info77 rfl (by decide) (by decide) v xs p [.int .i64 p.f0, u, .bool p.f2] ok (fun k => ok k ∧ some k ≠ v.ownBlock) hs hx (k77_mkM W base _ p hp) (fun _ h => h) hfresh HO (Below.refl _ _) hbase hl
    (fun v1 w1 h1 _ h3 _ => h v1 w1 h1 h3)
/-- The same at a step of a region that draws its order. -/
theorem app_read_step {W : World} {Kc : Act → World → Prop} (base : Nat) (ok : Nat → Prop) (hw : Region.wanted o (yielded ops a.tmps) = true) (s x : Operand)
    (ho : o.op = .call { callee := .builtin .append, args := #[s, x], argTypes := #[73, 73] })
    (v : Value) (xs : List S77) (p : S77) (u : Value) (hs : a.eval s = v) (hx : a.eval x = .slice (some ⟨W.heap.size, 0, none⟩) 1 1)
    (hp : Kd.R kb 5 W base (fun k => ok k ∧ some k ≠ v.ownBlock) u p.f1) (HO : Kd.R k77 77 W base ok v xs)
    (hbase : base ≤ W.heap.size) (hfresh : ∀ k, W.heap.size ≤ k → ok k) (hl : (xs.length + 1) * 40 ≤ 140737488355328)
    (h : ∀ v1 w1, Kd.R k77 77 w1 base ok v1 (xs ++ [p]) → W.grownBy w1 v.ownBlock → Kc (a.put o.dst v1) w1) :
    if Region.wanted o (yielded ops a.tmps) = true then Oper.wp Try.prog o a (W.alloc (.cells #[.int .i64 p.f0, u, .bool p.f2] 77)) Kc Q else Kc (a.put o.dst undef) (W.alloc (.cells #[.int .i64 p.f0, u, .bool p.f2] 77)) :=
  Kd.R_append_step k77 (w0 := W) base hw s x 73 77 (.agg #[.int .i64 0, .slice none 0 0, .bool false]) 40 ho Try.underlying73 info77 rfl (by decide) (by decide) v xs p [.int .i64 p.f0, u, .bool p.f2] ok (fun k => ok k ∧ some k ≠ v.ownBlock) hs hx (k77_mkM W base _ p hp) (fun _ h => h) hfresh HO (Below.refl _ _) hbase hl
    (fun v1 w1 h1 _ h3 _ => h v1 w1 h1 h3)
/-- copy(v[lo:lo+m], ys). -/
theorem cp_mid {W : World} {base g lo cap cap2 m c : Nat} {ok : Nat → Prop} {xs ys : List Int} {A : Option Addr} (hgd : o.guard = none) (s x : Operand)
    (ho : o.op = .call { callee := .builtin .copy, args := #[s, x], argTypes := #[28, 28] }) (hs : a.eval s = .slice (some ⟨g, lo, none⟩) m cap2) (hx : a.eval x = .slice A m c)
    (HO : Kd.R kb 5 W base ok (.slice (some ⟨g, 0, none⟩) xs.length cap) xs) (HR : Kd.C kb W A m ys) (hm0 : 0 < m) (hlo : lo + m ≤ xs.length)
    (h : ∀ w1, Kd.R kb 5 w1 base ok (.slice (some ⟨g, 0, none⟩) xs.length cap) (xs.take lo ++ ys ++ xs.drop (lo + m)) → W.grownBy w1 (some g) → wpList Try.prog ops Q rest (a.put o.dst (.int .i64 (m : Int))) w1) :
    wpList Try.prog ops Q (o :: rest) a W := by
  obtain ⟨w1, hr, h1, h2⟩ := copy_mid (P := Try.prog) (ty := o.type) (cap2 := cap2) (c := c) Try.underlying28 (by kernel_rfl) HO HR hm0 hlo
  refine wpList_plain hgd fun K hK => ?_
  unfold Oper.wp execOp
  simp only [ho, resolve, invoke, builtin, Sem.run_bind, Sem.run_pure, Result.andThen_ok, List.map_toArray, List.map_cons, List.map_nil, hs, hx, hr]
  exact hK _ _ (h w1 h1 h2)
end
/-- out[lo:hi]. -/
theorem cut_out (g N cap lo hi : Nat) (h1 : lo < hi) (h2 : hi ≤ N) (hc : N ≤ cap) : ∀ W : World, (Instr.slice 28 (.slice (some ⟨g, 0, none⟩) N cap) (some (.int .i64 (lo : Int))) (some (.int .i64 (hi : Int))) none).run Try.prog W = .ok (.slice (some ⟨g, lo, none⟩) (hi - lo) (cap - lo)) W := by
  intro W
  obtain ⟨i, hi1, hi2⟩ := Option.map_eq_some_iff.1 info5
  simp only [Prod.mk.injEq] at hi2
  have := cut_mid (P := Try.prog) 28 5 .i64 .i64 Try.underlying28 hi1 1 hi2.2.1 (some ⟨g, 0, none⟩) N cap (lo : Int) (hi : Int) (by omega) (by omega) (by omega) hc W
  rw [this]
  have hne : ¬ cap = lo := by omega
  simp [hne, add_plain]
theorem inE_may {blocks : Int} {e : S60} (h : inE blocks e = true) (hb : 1 ≤ blocks ∧ blocks ≤ 1048576) : mayB e = true := by
  obtain ⟨h0, h1, h2, h3⟩ := (inE_iff blocks e).1 h
  exact (mayB_iff e).2 ⟨h0, by omega, h1, by omega, by omega⟩
end Go.Proofs.Ytbebihphodafiaa.Iv

namespace Go.Proofs.Ytbebihphodafiaa.Iv
open Go.RowKit Go.Proofs.YtbebihphodafiaaW.PrintWords Go.Proofs.YtbebihphodafiaaW.PrintLast Go.Proofs.YtbebihphodafiaaW.PrintMore Go.Proofs.Ytbebihphodafiaa.PWb Go.Maps
set_option linter.unusedVariables false
set_option linter.unusedSimpArgs false

theorem cell_at {w W : World} {p : Addr} {v : Value} (h : w.cell? p = some v) (hb : W.heap[p.block]? = w.heap[p.block]?) : W.cell? p = some v := by
  unfold World.cell? at h ⊢
  rw [hb]
  exact h
theorem R_keep {α : Type} {d : Kd α} {e : Nat} {w W : World} {base : Nat} {ok : Nat → Prop} {v : Value} {xs : List α} (h : d.R e w base ok v xs)
    (hk : ∀ k, base ≤ k → k < w.heap.size → (∃ q ∈ e :: d.E, ∃ cells, w.heap[k]? = some (.cells cells q (0, 0))) → W.heap[k]? = w.heap[k]?) : d.R e W base ok v xs := by
  refine Kd.R_mono (Kd.R_move (Kd.R_bound h) (fun k hk' => ?_)) (fun _ hk => hk.1)
  obtain ⟨_, h1, h2, q, h3, cells, h4⟩ := hk'
  exact hk k h1 h2 ⟨q, h3, cells, h4⟩
theorem Sv_not {w : World} {sb vb k fr : Nat} (hs : sb < fr) (hv : vb < fr) (hk : fr ≤ k) {cells : Array Value} {t : Nat} (ht : t ≠ 77) (hc : w.heap[k]? = some (.cells cells t (0, 0))) : ¬ Sv w fr sb vb k := by
  rintro (rfl | rfl | ⟨_, cs, h⟩)
  · omega
  · omega
  · rw [hc] at h; injection h with h; injection h with _ h; exact ht h
theorem Sv_not_map {w : World} {fr sb vb k : Nat} (hs : k ≠ sb) (hv : k ≠ vb) (hc : k < fr) : ¬ Sv w fr sb vb k := by
  rintro (h | h | ⟨h, _⟩)
  · exact hs h
  · exact hv h
  · omega
/-- Blocks of these types, from fr on, are none of S. -/
def Clear (w : World) (fr : Nat) (S : Nat → Prop) (ts : List Nat) : Prop := ∀ k, fr ≤ k → ∀ q ∈ ts, ∀ cells, w.heap[k]? = some (.cells cells q (0, 0)) → ¬ S k
theorem frozen_at {w W : World} {p : Addr} (hb : W.heap[p.block]? = w.heap[p.block]?) : W.frozen? p = w.frozen? p := by
  unfold World.frozen?
  rw [hb]
theorem IsExt.keepS {w W : World} {fr em : Nat} {S : Nat → Prop} {blocks last : Int} {V : Int → List S31} (h : IsExt w fr em blocks last V) (hk : Kept w W S) (s0 : ¬ S em) (s1 : ¬ S (em + 1)) (hc : Clear w fr S [126, 5]) : IsExt W fr em blocks last V := by
  obtain ⟨n, D, vv, d1, d2, d3, d4, d5⟩ := h.map
  have hlt := World.block_lt_of_cell? _ _ h.c0
  have h1 : W.heap[em + 1]? = w.heap[em + 1]? := hk.2 _ hlt s1
  have hem : W.heap[em]? = w.heap[em]? := by
    obtain ⟨es, clock, hb, r⟩ := d1
    exact hk.2 _ (lt_of_some hb) s0
  refine ⟨h.lt, cell_at h.c0 h1, cell_at h.c1 h1, cell_at h.c2 h1, ⟨n, D, vv, ?_, d2, d3, fun x hx => ?_, d5⟩, h.rng, h.dat, h.bl, (frozen_at h1).trans h.f2⟩
  · obtain ⟨es, clock, hb, r⟩ := d1
    exact ⟨es, clock, hem.trans hb, r⟩
  · obtain ⟨e1, e2, e3⟩ := d4 x hx
    exact ⟨e1, e2, R_keep e3 (fun k k1 k2 ⟨q, k3, cells, k4⟩ => hk.2 k k2 (hc k k1 q k3 cells k4))⟩
theorem Sv_clear {w : World} {fr sb vb : Nat} (hs : sb < fr) (hv : vb < fr) {ts : List Nat} (ht : 77 ∉ ts) : Clear w fr (Sv w fr sb vb) ts :=
  fun k hk q hq cells hc => Sv_not hs hv hk (fun e => ht (by rw [← e]; exact hq)) hc
theorem IsExt.keep {w W : World} {fr em sb vb : Nat} {blocks last : Int} {V : Int → List S31} (h : IsExt w fr em blocks last V) (hk : Kept w W (Sv w fr sb vb)) (hs : em + 1 < sb ∧ sb < vb ∧ vb < fr) : IsExt W fr em blocks last V :=
  h.keepS hk (Sv_not_map (by omega) (by omega) (by omega)) (Sv_not_map (by omega) (by omega) (by omega)) (Sv_clear (by omega) (by omega) (by decide))
theorem Cb_kept {w W : World} {g : Nat} {n : Nat} {l : List Int} (e4 : Kd.C kb w (some ⟨g, 0, none⟩) n l) (hg : W.heap[g]? = w.heap[g]?) : Kd.C kb W (some ⟨g, 0, none⟩) n l := by
  refine ⟨e4.1, e4.2.1, fun hp => ?_⟩
  obtain ⟨ad, he, hc⟩ := e4.2.2 hp
  refine ⟨ad, he, fun j p hj => ?_⟩
  obtain ⟨cs, c1, c2, c3⟩ := hc j p hj
  refine ⟨cs, c1, c2, fun i u hu => cell_at (c3 i u hu) ?_⟩
  rw [addr_block]
  cases he
  exact hg
theorem IsBuf.keepS {w W : World} {fr mb : Nat} {S : Nat → Prop} {blocks most : Int} {M : List S31} (h : IsBuf w fr mb blocks most M) (hk : Kept w W S) (s0 : ¬ S mb) (s1 : ¬ S (mb + 1)) (hc : Clear w fr S [5]) : IsBuf W fr mb blocks most M := by
  obtain ⟨D, d1, d2, d3, d4⟩ := h.map
  have hlt := World.block_lt_of_cell? _ _ h.c0
  have h1 : W.heap[mb + 1]? = w.heap[mb + 1]? := hk.2 _ hlt s1
  have hem : W.heap[mb]? = w.heap[mb]? := by
    obtain ⟨es, clock, hb, r⟩ := d1
    exact hk.2 _ (lt_of_some hb) s0
  refine ⟨h.lt, cell_at h.c0 h1, cell_at h.c1 h1, cell_at h.c2 h1, ⟨D, ?_, d2, d3, fun p hp => ?_⟩, h.srt, h.rng, h.bl⟩
  · obtain ⟨es, clock, hb, r⟩ := d1
    exact ⟨es, clock, hem.trans hb, r⟩
  · obtain ⟨g, c, e1, e2, e3, e4, e5, cells, e6⟩ := d4 p hp
    have hg := hk.2 g (lt_of_some e6) (hc g e5 5 (by simp) cells e6)
    exact ⟨g, c, e1, e2, e3, Cb_kept e4 hg, e5, cells, hg.trans e6⟩
theorem IsBuf.keep {w W : World} {fr mb sb vb : Nat} {blocks most : Int} {M : List S31} (h : IsBuf w fr mb blocks most M) (hk : Kept w W (Sv w fr sb vb)) (hs : mb + 1 < sb ∧ sb < vb ∧ vb < fr) : IsBuf W fr mb blocks most M :=
  h.keepS hk (Sv_not_map (by omega) (by omega) (by omega)) (Sv_not_map (by omega) (by omega) (by omega)) (Sv_clear (by omega) (by omega) (by decide))
theorem IsSet.keepS {w W : World} {fr b : Nat} {S : Nat → Prop} {most : Int} {L : List S60} (h : IsSet w fr b most L) (hk : Kept w W S) (s0 : ¬ S b) (hc : Clear w fr S [60]) : IsSet W fr b most L := by
  obtain ⟨h1, h2, ⟨A, c, h3, h4, h5, h6⟩, h7, h8, h9⟩ := h
  have hb : W.heap[b]? = w.heap[b]? := hk.2 _ (World.block_lt_of_cell? _ _ h2) s0
  have hrow : ∀ x, A = some x → W.heap[x.block]? = w.heap[x.block]? := fun x hx => by
    obtain ⟨g1, cells, g2⟩ := h6 x hx
    exact hk.2 _ (blk_lt g2) (hc x.block g1 60 (by simp) cells g2)
  refine ⟨h1, cell_at h2 hb, ⟨A, c, cell_at h3 hb, h4, ⟨h5.1, h5.2.1, fun hp => ?_⟩, fun x hx => ⟨(h6 x hx).1, (h6 x hx).2.elim fun cells e => ⟨cells, (hrow x hx).trans e⟩⟩⟩, (frozen_at hb).trans h7, h8, h9⟩
  obtain ⟨ad, he, hcc⟩ := h5.2.2 hp
  refine ⟨ad, he, fun j p hj => ?_⟩
  obtain ⟨cs, c1, c2, c3⟩ := hcc j p hj
  obtain rfl := k60_open c2
  exact ⟨_, c1, k60_mk _ _, fun i u hu => cell_at (c3 i u hu) (by rw [addr_block]; exact hrow ad he)⟩
theorem IsView.keepS {w W : World} {fr vb em mb sb : Nat} {at_ : Int} {ok : Nat → Prop} {R : List S77} {S : Nat → Prop} (h : IsView w fr vb em mb sb at_ ok R) (hk : Kept w W S) (s0 : ¬ S vb) (hc : Clear w fr S [77, 5]) : IsView W fr vb em mb sb at_ ok R := by
  obtain ⟨h1, h2, h3, h4, h5, ⟨A, c, h6, h7⟩, h8⟩ := h
  have hb : W.heap[vb]? = w.heap[vb]? := hk.2 _ (World.block_lt_of_cell? _ _ h2) s0
  exact ⟨h1, cell_at h2 hb, cell_at h3 hb, cell_at h4 hb, cell_at h5 hb, ⟨A, c, cell_at h6 hb, R_keep h7 (fun k k1 k2 ⟨q, k3, cells, k4⟩ => hk.2 k k2 (hc k k1 q k3 cells k4))⟩, (frozen_at hb).trans h8⟩
/-- Nothing but memory has changed. -/
def Same (w W : World) : Prop := W.os = w.os ∧ W.tape = w.tape ∧ W.output = w.output
theorem Same.refl (w : World) : Same w w := ⟨rfl, rfl, rfl⟩
theorem Same.below {w W W' : World} {B : Nat} (h : Same w W) (hb : RowKit.Below B W W') : Same w W' := ⟨hb.os.trans h.1, hb.tape.trans h.2.1, hb.output.trans h.2.2⟩
theorem Same.grown {w W W' : World} {row : Option Nat} (h : Same w W) (hb : W.grownBy W' row) : Same w W' := ⟨hb.os.trans h.1, hb.tape.trans h.2.1, hb.output.trans h.2.2⟩
/-- A view in the midst of a reading: its out block is ob. -/
structure RdS (w W : World) (fr em mb sb vb : Nat) (at_ : Int) (L : List S60) (R : List S77) (ob cap : Nat) (Z : List Int) : Prop where
  view : IsView W fr vb em mb sb at_ (fun k => k ≠ ob) R
  set : IsSet W fr sb 64 L
  out : Kd.R kb 5 W w.heap.size (fun _ => True) (.slice (some ⟨ob, 0, none⟩) Z.length cap) Z
  kept : Kept w W (Sv w fr sb vb)
  ge : w.heap.size ≤ ob ∧ ob < W.heap.size
  frs : fr ≤ w.heap.size ∧ sb < vb
  sm : Same w W
section
variable {w W W' : World} {fr em mb sb vb ob cap : Nat} {at_ : Int} {L : List S60} {R : List S77} {Z : List Int}
theorem RdS.below (h : RdS w W fr em mb sb vb at_ L R ob cap Z) (hb : RowKit.Below W.heap.size W W') : RdS w W' fr em mb sb vb at_ L R ob cap Z :=
  ⟨h.view.step (grown_of_below hb none) (by simp) (fun v hv => Kd.R_below hv hb), h.set.below hb, Kd.R_below h.out hb, h.kept.below hb, ⟨h.ge.1, Nat.lt_of_lt_of_le h.ge.2 hb.size⟩, h.frs, h.sm.below hb⟩
theorem RdS.cpy {Z' : List Int} (h : RdS w W fr em mb sb vb at_ L R ob cap Z) (hg : W.grownBy W' (some ob)) (hz : Z'.length = Z.length) (hp : 0 < Z.length) (hR : Kd.R kb 5 W' w.heap.size (fun _ => True) (.slice (some ⟨ob, 0, none⟩) Z.length cap) Z') : RdS w W' fr em mb sb vb at_ L R ob cap Z' := by
  have hlt := h.view.lt
  have hfr := h.frs
  have hge := h.ge
  obtain ⟨cells, hc⟩ := Kd.R_typed h.out ob rfl
  exact ⟨h.view.step hg (fun e => by injection e with e; omega) (fun v hv => Kd.R_grown hv hg (fun k hk e => by injection e with e; exact hk.2 e)),
    h.set.grown2 hg (fun k hk => by cases hk; have := h.set.lt; omega) (fun k hk => by cases hk; exact .inr ⟨cells, 5, by decide, hc⟩),
    by rw [hz]; exact hR, h.kept.of_grown hg (fun k hk => by cases hk; exact .inr hge.1), ⟨hge.1, Nat.lt_of_lt_of_le hge.2 hg.size⟩, hfr, h.sm.grown hg⟩
theorem RdS.app {p : S77} {v v1 : Value} (h : RdS w W fr em mb sb vb at_ L R ob cap Z) (hv : Kd.R k77 77 W fr (fun k => fr ≤ k ∧ k ≠ ob) v R) (hR : Kd.R k77 77 W' fr (fun k => fr ≤ k ∧ k ≠ ob) v1 (R ++ [p])) (hg : W.grownBy W' v.ownBlock) :
    RdS w (W'.setCell ⟨vb, 4, none⟩ v1) fr em mb sb vb at_ L (R ++ [p]) ob cap Z := by
  have hlt := h.view.lt
  have hslt := h.set.lt
  have hfr := h.frs
  have hge := h.ge
  have hbase : ∀ k, v.ownBlock = some k → fr ≤ k := fun k hk => Kd.R_base hv k hk
  have hty : ∀ k, v.ownBlock = some k → ∃ cells, W.heap[k]? = some (.cells cells 77 (0, 0)) := Kd.R_typed hv
  have hoff : ∀ b ts, 77 ∉ ts → Off W b ts v.ownBlock := fun b ts ht k hk => .inr ((hty k hk).elim fun cells e => ⟨cells, 77, ht, e⟩)
  have hne : ∀ k, k < fr → some k ≠ v.ownBlock := fun k hk e => by have := hbase k e.symm; omega
  have hg2 : W'.grownBy (W'.setCell ⟨vb, 4, none⟩ v1) (some vb) := grown_set
  have hoff2 : ∀ b ts, fr ≤ b → Off W' b ts (some vb) := fun b ts hb j hj => by cases hj; exact .inl (by omega)
  have hk1 : Kept w W' (Sv w fr sb vb) := h.kept.of_grown hg (fun k hk => by
    by_cases hkl : k < w.heap.size
    · refine .inl ?_
      by_cases hs : Sv w fr sb vb k
      · exact hs
      · obtain ⟨cells, hc⟩ := hty k hk
        exact .inr (.inr ⟨hbase k hk, cells, by rw [← h.kept.2 k hkl hs]; exact hc⟩)
    · exact .inr (by omega))
  obtain ⟨h1, h2, h3, h4, h5, ⟨A, c, h6, h7⟩, h8⟩ := h.view
  have hvr := hne vb hlt
  have hblt := World.block_lt_of_cell? _ _ h2
  obtain ⟨A1, c1, hv1⟩ := Kd.R_slice hR
  subst hv1
  refine ⟨⟨h1, ?_, ?_, ?_, ?_, ⟨A1, c1, World.cell?_setCell_same' _ _ _ (by rw [hg.cell h6 hvr]; rfl), R_off hR hg2 (hoff2 _ _ (Nat.le_refl _))⟩, by rw [World.frozen?_setCell, frozen_grown hg hblt hvr]; exact h8⟩,
    (h.set.grown2 hg (fun k hk e => by have := hbase k hk; omega) (hoff _ _ (by decide))).grown2 hg2 (fun k hk => by cases hk; omega) (hoff2 _ _ (Nat.le_refl _)),
    R_off (R_off h.out hg (hoff _ _ (by decide))) hg2 (hoff2 _ _ hfr.1), hk1.of_grown hg2 (fun k hk => by cases hk; exact .inl (.inr (.inl rfl))), ⟨hge.1, Nat.lt_of_lt_of_le hge.2 (Nat.le_trans hg.size hg2.size)⟩, hfr, (h.sm.grown hg).grown hg2⟩
  · rw [World.cell?_setCell_other _ _ _ _ (by simp)]; exact hg.cell h2 hvr
  · rw [World.cell?_setCell_other _ _ _ _ (by simp)]; exact hg.cell h3 hvr
  · rw [World.cell?_setCell_other _ _ _ _ (by simp)]; exact hg.cell h4 hvr
  · rw [World.cell?_setCell_other _ _ _ _ (by simp)]; exact hg.cell h5 hvr
end
section
variable {w w5 w6 W W' : World} {fr em mb sb vb ob cap : Nat} {blocks most last at_ : Int} {V : Int → List S31} {M : List S31} {L L' : List S60} {R : List S77} {Z : List Int}
theorem RdS.start (h : IsW w fr em mb sb vb blocks most last at_ V M L R (fun _ => True)) (hb : RowKit.Below w.heap.size w W) (hm : Mv sb W W') (hs : IsSet W' fr sb 64 L') (hge : w.heap.size ≤ ob) (ho : Kd.R kb 5 W w.heap.size (fun _ => True) (.slice (some ⟨ob, 0, none⟩) Z.length cap) Z) (hlt : ob < W.heap.size) :
    RdS w W' fr em mb sb vb at_ L' R ob cap Z := by
  have hor := h.ord
  have hvl := h.view.lt
  have hfi := h.fits
  have hsb := World.block_lt_of_cell? _ _ h.set.c0
  have v0 := h.view.mono (ok' := fun k => k ≠ ob) (fun k hk _ => by omega)
  have v1 := v0.step (grown_of_below hb none) (by simp) (fun v hv => Kd.R_below hv hb)
  obtain ⟨w1, hb1, rfl | ⟨v, rfl⟩⟩ := hm
  · exact ⟨v1.step (grown_of_below hb1 none) (by simp) (fun v hv => Kd.R_below hv hb1), hs, Kd.R_below ho hb1, ((Kept.of_below hb _).below hb1), ⟨hge, Nat.lt_of_lt_of_le hlt hb1.size⟩, ⟨hfi, hor.2.2⟩, ((Same.refl w).below hb).below hb1⟩
  · have hg : w1.grownBy (w1.setCell ⟨sb, 1, none⟩ v) (some sb) := grown_set
    have hoff : ∀ b ts, fr ≤ b → Off w1 b ts (some sb) := fun b ts hb j hj => by cases hj; exact .inl (by omega)
    have v2 := v1.step (grown_of_below hb1 none) (by simp) (fun v hv => Kd.R_below hv hb1)
    exact ⟨v2.step hg (fun e => by injection e with e; omega) (fun v hv => R_off hv hg (hoff _ _ (Nat.le_refl _))), hs, R_off (Kd.R_below ho hb1) hg (hoff _ _ hfi), ((Kept.of_below hb _).below hb1).of_grown hg (fun k hk => by cases hk; exact .inl (.inl rfl)), ⟨hge, Nat.lt_of_lt_of_le hlt (Nat.le_trans hb1.size hg.size)⟩, ⟨hfi, hor.2.2⟩, (((Same.refl w).below hb).below hb1).grown hg⟩
end
theorem RdS.isW {w W : World} {fr em mb sb vb ob cap : Nat} {blocks most last at_ : Int} {V : Int → List S31} {M : List S31} {L L' : List S60} {R R' : List S77} {Z : List Int}
    (h : IsW w fr em mb sb vb blocks most last at_ V M L R (fun _ => True)) (hr : RdS w W fr em mb sb vb at_ L' R' ob cap Z) : IsW W fr em mb sb vb blocks most last at_ V M L' R' (fun _ => True) := by
  have ho := h.ord
  have hv := h.view.lt
  exact ⟨h.ext.keep hr.kept (by omega), h.buf.keep hr.kept (by omega), hr.set, hr.view.mono (fun _ _ _ => trivial), ho, Nat.le_trans h.fits hr.kept.1⟩
end Go.Proofs.Ytbebihphodafiaa.Iv

namespace Go.Proofs.Ytbebihphodafiaa.Iv
open Go.RowKit Go.Proofs.YtbebihphodafiaaW.PrintWords Go.Proofs.YtbebihphodafiaaW.PrintLast Go.Proofs.YtbebihphodafiaaW.PrintMore Go.Proofs.Ytbebihphodafiaa.PWb Go.Maps
set_option linter.unusedVariables false
set_option linter.unusedSimpArgs false

/-- What applying may change of what was. -/
def Sm (w : World) (fr em : Nat) (i : Nat) : Prop := i = em ∨ i = em + 1 ∨ fr ≤ i ∧ ∃ cells, w.heap[i]? = some (.cells cells 126 (0, 0))
def apC (blocks last t : Int) (l : List S31) : Int :=
  if t ≤ last ∨ 1099511627776 < t then 11 else if riseB l = false then 1 else if l.any (outB blocks) = true then 2 else if l.any lenB = true then 3 else 0
def apW (blocks last t : Int) (V : Int → List S31) (l : List S31) : Int → List S31 := if apC blocks last t l = 0 then apV V t l else V
def apL (blocks last t : Int) (l : List S31) : Int := if apC blocks last t l = 0 then t else last
theorem apW_no {blocks last t : Int} {V : Int → List S31} {l : List S31} (h : apC blocks last t l ≠ 0) : apW blocks last t V l = V := by unfold apW; rw [if_neg h]
theorem apL_no {blocks last t : Int} {l : List S31} (h : apC blocks last t l ≠ 0) : apL blocks last t l = last := by unfold apL; rw [if_neg h]
theorem apV_len (V : Int → List S31) (t : Int) (l : List S31) (x : Int) : ∀ k, k ≤ l.length → (apV V t (l.take k) x).length ≤ (V x).length + k := by
  intro k
  induction k with
  | zero => intro _; simp [apV]
  | succ k ih =>
    intro hk
    have := ih (by omega)
    rw [apV_succ V t l k (by omega)]
    unfold updV
    split
    · rw [List.length_append]; simp only [List.length_cons, List.length_nil]; omega
    · omega
/-- The box of a transaction. -/
def Bt (W : World) (bx : Nat) (t : Int) (v : Value) : Prop := W.heap[bx]? = some (.cells #[.int .i64 t, v] 68 (0, 0))
theorem Bt.c0 {W : World} {bx : Nat} {t : Int} {v : Value} (h : Bt W bx t v) : W.cell? ⟨bx, 0, none⟩ = some (.int .i64 t) := by rw [cell_of_row W bx 0 _ 68 (0, 0) h]; rfl
theorem Bt.c1 {W : World} {bx : Nat} {t : Int} {v : Value} (h : Bt W bx t v) : W.cell? ⟨bx, 1, none⟩ = some v := by rw [cell_of_row W bx 1 _ 68 (0, 0) h]; rfl
theorem Bt.below {W W' : World} {bx : Nat} {t : Int} {v : Value} (h : Bt W bx t v) (hb : RowKit.Below W.heap.size W W') : Bt W' bx t v := (hb.block bx (lt_of_some h)).trans h
theorem Bt.grown {W W' : World} {bx : Nat} {t : Int} {v : Value} (h : Bt W bx t v) {row : Option Nat} (hg : W.grownBy W' row) (hr : ∀ k, row = some k → k ≠ bx) : Bt W' bx t v :=
  (hg.block bx (lt_of_some h) (fun e => hr _ e.symm rfl)).trans h
theorem ne_typed {W : World} {k bx : Nat} {cs cells : Array Value} {t u : Nat} (h : W.heap[bx]? = some (.cells cs t (0, 0))) (hk : W.heap[k]? = some (.cells cells u (0, 0))) (ht : t ≠ u) : k ≠ bx := by
  intro e
  subst e
  rw [h] at hk
  injection hk with hk
  injection hk with _ hk
  exact ht hk
/-- What stands in the midst of applying. -/
structure ApS (w W : World) (fr em : Nat) (blocks last t : Int) (V : Int → List S31) (v : Value) : Prop where
  ext : IsExt W fr em blocks last V
  kept : Kept w W (Sm w fr em)
  sm : Same w W
  box : Bt W w.heap.size t v
theorem ApS.below {w W W' : World} {fr em : Nat} {blocks last t : Int} {V : Int → List S31} {v : Value} (h : ApS w W fr em blocks last t V v) (hb : RowKit.Below W.heap.size W W') : ApS w W' fr em blocks last t V v :=
  ⟨h.ext.below hb, h.kept.below hb, h.sm.below hb, h.box.below hb⟩

set_option maxHeartbeats 16000000 in
set_option maxRecDepth 100000 in
theorem apply_calls (fr em : Nat) (blocks last : Int) (V : Int → List S31) (t : Int) (A : Option Addr) (c : Nat) (l : List S31) (w : World)
    (hE : IsExt w fr em blocks last V) (hr : ∀ W', Kept w W' (Sm w fr em) → Same w W' → Kd.C k31 W' A l.length l) (hc : l.length ≤ c) (hl : l.length ≤ 1099511627776) (hV : ∀ x, (V x).length ≤ 1099511627776) (hfr : fr ≤ w.heap.size) :
    Calls Try.prog 30 #[.pointer (some ⟨em + 1, 0, none⟩), .agg #[.int .i64 t, .slice A l.length c]] w fun r w' => r = .returned (.int .i64 (apC blocks last t l)) ∧ IsExt w' fr em blocks (apL blocks last t l) (apW blocks last t V l) ∧ Kept w w' (Sm w fr em) ∧ Same w w' := by
  have HE := Lib.hid (fun w' (h : RowKit.Below w.heap.size w w') => hE.below h)
  have HBL := Lib.hid hE.bl
  have HR := Lib.hid hr
  have HLC := Lib.hid hc
  have HLL := Lib.hid hl
  have HVL := Lib.hid hV
  have HFR := Lib.hid (show fr ≤ w.heap.size ∧ em + 1 < fr from ⟨hfr, hE.lt⟩)
  have hb5 := below_alloc (Below.refl w.heap.size w) (.cells #[.int .i64 t, .slice A l.length c] 68)
  have y0 : (w.alloc (.cells #[.int .i64 t, .slice A l.length c] 68)).cell? ⟨w.heap.size, 0, none⟩ = some (.int .i64 t) := World.cell?_alloc_at _ _ _ _ rfl
  have y1 : (w.alloc (.cells #[.int .i64 t, .slice A l.length c] 68)).cell? ⟨w.heap.size, 1, none⟩ = some (.slice A l.length c) := World.cell?_alloc_at _ _ _ _ rfl
  have y2 := pw_cell_below hb5 hE.c2
  have HB5 := Lib.hid hb5
  have HBX := Lib.hid (show Bt (w.alloc (.cells #[.int .i64 t, .slice A l.length c] 68)) w.heap.size t (.slice A l.length c) by unfold Bt World.alloc; simp)
  clear hE hr hc hl hV hfr hb5
  by_cases g1 : t ≤ last
  · have d1 : decide (t ≤ last) = true := by simpa using g1
    go_enter Try.func30, Try.ntmps30
    go_wp2_with (go_at_call 58; go_must (refine (gone_calls em blocks _ (HE.out _ HB5.out).c0 HBL.out.1).mono ?_; rintro _ w1 ⟨rfl, rfl⟩))
    obtain ⟨w5, h5⟩ : ∃ y, y = w.alloc (.cells #[.int .i64 t, .slice A l.length c] 68) := ⟨_, rfl⟩
    rw [← h5] at y0 y1 y2 HB5 HBX ⊢
    clear h5
    go_quiet (fail)
    obtain ⟨w6, h6⟩ : ∃ y, y = w5.drewN nq := ⟨_, rfl⟩
    have HB6 := Lib.hid (pw_below_drewN HB5.out nq)
    have HX6 := Lib.hid (show Bt (w5.drewN nq) w.heap.size t (.slice A l.length c) from HBX.out.below (pw_below_drewN (Below.refl _ _) nq))
    rw [← h6] at HB6 HX6 ⊢
    clear h6 y0 y1 y2
    have y1 := HX6.out.c1
    go_wp2
    try rw [Exit.noGoto_ret]
    go_ret
    have hc : apC blocks last t l = 11 := by unfold apC; rw [if_pos (.inl g1)]
    rw [hc, apW_no (by rw [hc]; decide), apL_no (by rw [hc]; decide)]
    exact ⟨rfl, HE.out _ HB6.out, Kept.of_below HB6.out _, (Same.refl w).below HB6.out⟩

  have d1 : decide (t ≤ last) = false := by simpa using g1
  by_cases g2 : (1099511627776 : Int) < t
  · have d2 : decide ((1099511627776 : Int) < t) = true := by simpa using g2
    go_enter Try.func30, Try.ntmps30
    go_wp2_with (go_at_call 58; go_must (refine (gone_calls em blocks _ (HE.out _ HB5.out).c0 HBL.out.1).mono ?_; rintro _ w1 ⟨rfl, rfl⟩))
    obtain ⟨w5, h5⟩ : ∃ y, y = w.alloc (.cells #[.int .i64 t, .slice A l.length c] 68) := ⟨_, rfl⟩
    rw [← h5] at y0 y1 y2 HB5 HBX ⊢
    clear h5
    go_quiet (fail)
    obtain ⟨w6, h6⟩ : ∃ y, y = w5.drewN nq := ⟨_, rfl⟩
    have HB6 := Lib.hid (pw_below_drewN HB5.out nq)
    have HX6 := Lib.hid (show Bt (w5.drewN nq) w.heap.size t (.slice A l.length c) from HBX.out.below (pw_below_drewN (Below.refl _ _) nq))
    rw [← h6] at HB6 HX6 ⊢
    clear h6 y0 y1 y2
    have y1 := HX6.out.c1
    go_wp2
    try rw [Exit.noGoto_ret]
    go_ret
    have hc : apC blocks last t l = 11 := by unfold apC; rw [if_pos (.inr g2)]
    rw [hc, apW_no (by rw [hc]; decide), apL_no (by rw [hc]; decide)]
    exact ⟨rfl, HE.out _ HB6.out, Kept.of_below HB6.out _, (Same.refl w).below HB6.out⟩

  have d2 : decide ((1099511627776 : Int) < t) = false := by simpa using g2
  have HT := Lib.hid (show ¬ (t ≤ last ∨ (1099511627776 : Int) < t) from fun h => h.elim g1 g2)
  cases hri : riseB l with
  | false =>
    have HRI := Lib.hid hri
    clear hri
    go_enter Try.func30, Try.ntmps30
    go_wp2_with (go_at_call 58; go_must (refine (gone_calls em blocks _ (HE.out _ HB5.out).c0 HBL.out.1).mono ?_; rintro _ w1 ⟨rfl, rfl⟩))
    obtain ⟨w5, h5⟩ : ∃ y, y = w.alloc (.cells #[.int .i64 t, .slice A l.length c] 68) := ⟨_, rfl⟩
    rw [← h5] at y0 y1 y2 HB5 HBX ⊢
    clear h5
    go_quiet (fail)
    obtain ⟨w6, h6⟩ : ∃ y, y = w5.drewN nq := ⟨_, rfl⟩
    have HB6 := Lib.hid (pw_below_drewN HB5.out nq)
    have HX6 := Lib.hid (show Bt (w5.drewN nq) w.heap.size t (.slice A l.length c) from HBX.out.below (pw_below_drewN (Below.refl _ _) nq))
    rw [← h6] at HB6 HX6 ⊢
    clear h6 y0 y1 y2
    have y1 := HX6.out.c1
    go_wp2_with (go_at_call 59; go_must (refine (rise_calls A c l _ (HR.out _ (Kept.of_below HB6.out _) ((Same.refl w).below HB6.out)) HLC.out (by have := HLL.out; omega)).mono ?_; rw [HRI.out]; rintro _ w7 ⟨rfl, hB7⟩; have HB7 := Lib.hid (below_step HB6.out hB7); have HX7 := Lib.hid (HX6.out.below hB7); have y7 := HX7.out.c1; clear y1 hB7))
    try rw [Exit.noGoto_ret]
    go_ret
    have hc : apC blocks last t l = 1 := by unfold apC; rw [if_neg HT.out, if_pos HRI.out]
    rw [hc, apW_no (by rw [hc]; decide), apL_no (by rw [hc]; decide)]
    exact ⟨rfl, HE.out _ HB7.out, Kept.of_below HB7.out _, (Same.refl w).below HB7.out⟩

  | true =>
    have HRI := Lib.hid hri
    obtain ⟨hri1, hri2⟩ : Rise l ∧ 0 < l.length := by simpa [riseB] using hri
    have HRS := Lib.hid hri1
    have b0 : (0 : Int) < (l.length : Int) := by omega
    have HEN := Lib.hid (rise_ends l hri1 hri2 blocks)
    have HP0 := Lib.hid hri2
    clear hri hri1
    obtain ⟨m, hm⟩ : ∃ m, m = l.length - 1 := ⟨_, rfl⟩
    have wl : IntKind.i64.wrap ((l.length : Int) - 1) = (m : Int) := by have := HLL.out; rw [IntWalk.i64_in _ (by omega)]; omega
    have bm : (m : Int) < (l.length : Int) := by omega
    have bm0 : (0 : Int) ≤ (m : Int) := by omega
    have HM := Lib.hid hm
    clear hm
    obtain ⟨q0, hq0⟩ : ∃ q, q = rd_T31 l 0 := ⟨_, rfl⟩
    obtain ⟨qm, hqm⟩ : ∃ q, q = rd_T31 l (m : Int) := ⟨_, rfl⟩
    have HQ0 := Lib.hid hq0.symm
    have HQM := Lib.hid hqm.symm
    have HIN := Lib.hid (fun x : S31 => (show (decide (0 ≤ x.f0) && decide (x.f0 < blocks)) = !outB blocks x by by_cases h1 : 0 ≤ x.f0 <;> by_cases h2 : x.f0 < blocks <;> simp [outB, h1, h2] <;> omega))
    have HANY := Lib.hid (show l.any (outB blocks) = (outB blocks q0 || outB blocks qm) from by
      have h0 := HP0.out
      rw [HEN.out, hq0, hqm, show rd_T31 l 0 = l[0] from rd_at l 0 h0, rd_at l m (by have := HM.out; omega)]
      simp only [HM.out])
    clear hq0 hqm HEN hri2
    obtain ⟨ad, A0', c0', hA, _⟩ := at_T31 (HR.out w (Kept.refl _ _) (Same.refl w)) 0 (by decide) b0
    subst hA
    have HAP := Lib.hid (show apC blocks last t l = if l.any (outB blocks) = true then 2 else if l.any lenB = true then 3 else 0 by unfold apC; rw [if_neg HT.out, if_neg (by rw [HRI.out]; decide)])
    cases ho0 : outB blocks q0 with
    | true =>
      have HO0 := Lib.hid (show (decide (0 ≤ q0.f0) && decide (q0.f0 < blocks)) = false by rw [HIN.out, ho0]; rfl)
      have HOM := Lib.hid trivial
      have HZ := Lib.hid (show apC blocks last t l = 2 by rw [HAP.out, HANY.out, ho0]; rfl)
      clear ho0
      go_enter Try.func30, Try.ntmps30
      go_wp2_with (go_at_call 58; go_must (refine (gone_calls em blocks _ (HE.out _ HB5.out).c0 HBL.out.1).mono ?_; rintro _ w1 ⟨rfl, rfl⟩))
      obtain ⟨w5, h5⟩ : ∃ y, y = w.alloc (.cells #[.int .i64 t, .slice (some ad) l.length c] 68) := ⟨_, rfl⟩
      rw [← h5] at y0 y1 y2 HB5 HBX ⊢
      clear h5
      go_quiet (fail)
      obtain ⟨w6, h6⟩ : ∃ y, y = w5.drewN nq := ⟨_, rfl⟩
      have HB6 := Lib.hid (pw_below_drewN HB5.out nq)
      have HX6 := Lib.hid (show Bt (w5.drewN nq) w.heap.size t (.slice (some ad) l.length c) from HBX.out.below (pw_below_drewN (Below.refl _ _) nq))
      rw [← h6] at HB6 HX6 ⊢
      clear h6 y0 y1 y2
      have y1 := HX6.out.c1
      go_wp2_with (first | (go_at_call 59; go_must (refine (rise_calls (some ad) c l _ (HR.out _ (Kept.of_below HB6.out _) ((Same.refl w).below HB6.out)) HLC.out (by have := HLL.out; omega)).mono ?_; rw [HRI.out]; rintro _ w7 ⟨rfl, hB7⟩; have HB7 := Lib.hid (below_step HB6.out hB7); have HX7 := Lib.hid (HX6.out.below hB7); have y7 := HX7.out.c1; obtain ⟨ad1, A1, c1, e1, x0, _, _, _⟩ := at_T31 (HR.out _ (Kept.of_below HB7.out _) ((Same.refl w).below HB7.out)) 0 (by decide) b0; cases e1; obtain ⟨ad2, A2, c2, e2, x1, _, _, _⟩ := at_T31 (HR.out _ (Kept.of_below HB7.out _) ((Same.refl w).below HB7.out)) (m : Int) bm0 bm; cases e2; rw [HQ0.out] at x0; rw [HQM.out] at x1; simp only [Int.toNat_natCast] at x1; rw [show (Int.toNat 0 * 2) = 0 from rfl, Addr.add_zero'] at x0; clear y1 hB7)) | (go_at_call 60; go_must (refine (blockE_calls em blocks _ _ (HE.out _ HB7.out).c0).mono ?_; (first | rw [HO0.out] | rw [HOM.out]); rintro _ w8 ⟨rfl, rfl⟩)))
      try rw [Exit.noGoto_ret]
      go_ret
      have hc : apC blocks last t l = 2 := by exact HZ.out
      rw [hc, apW_no (by rw [hc]; decide), apL_no (by rw [hc]; decide)]
      exact ⟨rfl, HE.out _ HB7.out, Kept.of_below HB7.out _, (Same.refl w).below HB7.out⟩

    | false =>
      have HO0 := Lib.hid (show (decide (0 ≤ q0.f0) && decide (q0.f0 < blocks)) = true by rw [HIN.out, ho0]; rfl)
      cases hom : outB blocks qm with
      | true =>
        have HOM := Lib.hid (show (decide (0 ≤ qm.f0) && decide (qm.f0 < blocks)) = false by rw [HIN.out, hom]; rfl)
        have HZ := Lib.hid (show apC blocks last t l = 2 by rw [HAP.out, HANY.out, ho0, hom]; rfl)
        clear ho0 hom
        go_enter Try.func30, Try.ntmps30
        go_wp2_with (go_at_call 58; go_must (refine (gone_calls em blocks _ (HE.out _ HB5.out).c0 HBL.out.1).mono ?_; rintro _ w1 ⟨rfl, rfl⟩))
        obtain ⟨w5, h5⟩ : ∃ y, y = w.alloc (.cells #[.int .i64 t, .slice (some ad) l.length c] 68) := ⟨_, rfl⟩
        rw [← h5] at y0 y1 y2 HB5 HBX ⊢
        clear h5
        go_quiet (fail)
        obtain ⟨w6, h6⟩ : ∃ y, y = w5.drewN nq := ⟨_, rfl⟩
        have HB6 := Lib.hid (pw_below_drewN HB5.out nq)
        have HX6 := Lib.hid (show Bt (w5.drewN nq) w.heap.size t (.slice (some ad) l.length c) from HBX.out.below (pw_below_drewN (Below.refl _ _) nq))
        rw [← h6] at HB6 HX6 ⊢
        clear h6 y0 y1 y2
        have y1 := HX6.out.c1
        go_wp2_with (first | (go_at_call 59; go_must (refine (rise_calls (some ad) c l _ (HR.out _ (Kept.of_below HB6.out _) ((Same.refl w).below HB6.out)) HLC.out (by have := HLL.out; omega)).mono ?_; rw [HRI.out]; rintro _ w7 ⟨rfl, hB7⟩; have HB7 := Lib.hid (below_step HB6.out hB7); have HX7 := Lib.hid (HX6.out.below hB7); have y7 := HX7.out.c1; obtain ⟨ad1, A1, c1, e1, x0, _, _, _⟩ := at_T31 (HR.out _ (Kept.of_below HB7.out _) ((Same.refl w).below HB7.out)) 0 (by decide) b0; cases e1; obtain ⟨ad2, A2, c2, e2, x1, _, _, _⟩ := at_T31 (HR.out _ (Kept.of_below HB7.out _) ((Same.refl w).below HB7.out)) (m : Int) bm0 bm; cases e2; rw [HQ0.out] at x0; rw [HQM.out] at x1; simp only [Int.toNat_natCast] at x1; rw [show (Int.toNat 0 * 2) = 0 from rfl, Addr.add_zero'] at x0; clear y1 hB7)) | (go_at_call 60; go_must (refine (blockE_calls em blocks _ _ (HE.out _ HB7.out).c0).mono ?_; (first | rw [HO0.out] | rw [HOM.out]); rintro _ w8 ⟨rfl, rfl⟩)))
        try rw [Exit.noGoto_ret]
        go_ret
        have hc : apC blocks last t l = 2 := by exact HZ.out
        rw [hc, apW_no (by rw [hc]; decide), apL_no (by rw [hc]; decide)]
        exact ⟨rfl, HE.out _ HB7.out, Kept.of_below HB7.out _, (Same.refl w).below HB7.out⟩

      | false =>
        have HOM := Lib.hid (show (decide (0 ≤ qm.f0) && decide (qm.f0 < blocks)) = true by rw [HIN.out, hom]; rfl)
        have hany : l.any (outB blocks) = false := by rw [HANY.out, ho0, hom]; rfl
        clear ho0 hom
        cases hlb : l.any lenB with
        | true =>
          have HZ := Lib.hid (show apC blocks last t l = 3 by rw [HAP.out, hany, hlb]; rfl)
          have HLB := Lib.hid hlb
          clear hany hlb
          go_enter Try.func30, Try.ntmps30
          go_wp2_with (go_at_call 58; go_must (refine (gone_calls em blocks _ (HE.out _ HB5.out).c0 HBL.out.1).mono ?_; rintro _ w1 ⟨rfl, rfl⟩))
          obtain ⟨w5, h5⟩ : ∃ y, y = w.alloc (.cells #[.int .i64 t, .slice (some ad) l.length c] 68) := ⟨_, rfl⟩
          rw [← h5] at y0 y1 y2 HB5 HBX ⊢
          clear h5
          go_quiet (fail)
          obtain ⟨w6, h6⟩ : ∃ y, y = w5.drewN nq := ⟨_, rfl⟩
          have HB6 := Lib.hid (pw_below_drewN HB5.out nq)
          have HX6 := Lib.hid (show Bt (w5.drewN nq) w.heap.size t (.slice (some ad) l.length c) from HBX.out.below (pw_below_drewN (Below.refl _ _) nq))
          rw [← h6] at HB6 HX6 ⊢
          clear h6 y0 y1 y2
          have y1 := HX6.out.c1
          go_wp2_with (first | (go_at_call 59; go_must (refine (rise_calls (some ad) c l _ (HR.out _ (Kept.of_below HB6.out _) ((Same.refl w).below HB6.out)) HLC.out (by have := HLL.out; omega)).mono ?_; rw [HRI.out]; rintro _ w7 ⟨rfl, hB7⟩; have HB7 := Lib.hid (below_step HB6.out hB7); have HX7 := Lib.hid (HX6.out.below hB7); have y7 := HX7.out.c1; obtain ⟨ad1, A1, c1, e1, x0, _, _, _⟩ := at_T31 (HR.out _ (Kept.of_below HB7.out _) ((Same.refl w).below HB7.out)) 0 (by decide) b0; cases e1; obtain ⟨ad2, A2, c2, e2, x1, _, _, _⟩ := at_T31 (HR.out _ (Kept.of_below HB7.out _) ((Same.refl w).below HB7.out)) (m : Int) bm0 bm; cases e2; rw [HQ0.out] at x0; rw [HQM.out] at x1; simp only [Int.toNat_natCast] at x1; rw [show (Int.toNat 0 * 2) = 0 from rfl, Addr.add_zero'] at x0; clear y1 hB7)) | (go_at_call 60; go_must (refine (blockE_calls em blocks _ _ (HE.out _ HB7.out).c0).mono ?_; (first | rw [HO0.out] | rw [HOM.out]); rintro _ w8 ⟨rfl, rfl⟩)) | (go_at_call 45; go_must (refine (contains61 (some ad) c l _ (HR.out _ (Kept.of_below HB7.out _) ((Same.refl w).below HB7.out)) (by have := HLL.out; omega)).mono ?_; rw [HLB.out]; rintro _ w9 ⟨rfl, hB9⟩; have HB9 := Lib.hid (below_step HB7.out hB9); have HX9 := Lib.hid (HX7.out.below hB9); have y9 := HX9.out.c1; clear y7 x0 x1 hB9)))
          try rw [Exit.noGoto_ret]
          go_ret
          have hc : apC blocks last t l = 3 := by exact HZ.out
          rw [hc, apW_no (by rw [hc]; decide), apL_no (by rw [hc]; decide)]
          exact ⟨rfl, HE.out _ HB9.out, Kept.of_below HB9.out _, (Same.refl w).below HB9.out⟩

        | false =>
          have HZ := Lib.hid (show apC blocks last t l = 0 by rw [HAP.out, hany, hlb]; rfl)
          have HLB := Lib.hid hlb
          have HIN2 := Lib.hid (fun p (hp : p ∈ l) => (show (0 ≤ p.f0 ∧ p.f0 < blocks) ∧ p.f1.length = 40 from by
            have h1 := List.any_eq_false.1 hany p hp
            have h2 := List.any_eq_false.1 hlb p hp
            simp [outB] at h1
            simp [lenB] at h2
            exact ⟨h1, h2⟩))
          clear hany hlb
          go_enter Try.func30, Try.ntmps30
          go_wp2_with (go_at_call 58; go_must (refine (gone_calls em blocks _ (HE.out _ HB5.out).c0 HBL.out.1).mono ?_; rintro _ w1 ⟨rfl, rfl⟩))
          obtain ⟨w5, h5⟩ : ∃ y, y = w.alloc (.cells #[.int .i64 t, .slice (some ad) l.length c] 68) := ⟨_, rfl⟩
          rw [← h5] at y0 y1 y2 HB5 HBX ⊢
          clear h5
          go_quiet (fail)
          obtain ⟨w6, h6⟩ : ∃ y, y = w5.drewN nq := ⟨_, rfl⟩
          have HB6 := Lib.hid (pw_below_drewN HB5.out nq)
          have HX6 := Lib.hid (show Bt (w5.drewN nq) w.heap.size t (.slice (some ad) l.length c) from HBX.out.below (pw_below_drewN (Below.refl _ _) nq))
          rw [← h6] at HB6 HX6 ⊢
          clear h6 y0 y1 y2
          have y1 := HX6.out.c1
          go_wp2_with (first | (go_at_call 59; go_must (refine (rise_calls (some ad) c l _ (HR.out _ (Kept.of_below HB6.out _) ((Same.refl w).below HB6.out)) HLC.out (by have := HLL.out; omega)).mono ?_; rw [HRI.out]; rintro _ w7 ⟨rfl, hB7⟩; have HB7 := Lib.hid (below_step HB6.out hB7); have HX7 := Lib.hid (HX6.out.below hB7); have y7 := HX7.out.c1; obtain ⟨ad1, A1, c1, e1, x0, _, _, _⟩ := at_T31 (HR.out _ (Kept.of_below HB7.out _) ((Same.refl w).below HB7.out)) 0 (by decide) b0; cases e1; obtain ⟨ad2, A2, c2, e2, x1, _, _, _⟩ := at_T31 (HR.out _ (Kept.of_below HB7.out _) ((Same.refl w).below HB7.out)) (m : Int) bm0 bm; cases e2; rw [HQ0.out] at x0; rw [HQM.out] at x1; simp only [Int.toNat_natCast] at x1; rw [show (Int.toNat 0 * 2) = 0 from rfl, Addr.add_zero'] at x0; clear y1 hB7)) | (go_at_call 60; go_must (refine (blockE_calls em blocks _ _ (HE.out _ HB7.out).c0).mono ?_; (first | rw [HO0.out] | rw [HOM.out]); rintro _ w8 ⟨rfl, rfl⟩)) | (go_at_call 45; go_must (refine (contains61 (some ad) c l _ (HR.out _ (Kept.of_below HB7.out _) ((Same.refl w).below HB7.out)) (by have := HLL.out; omega)).mono ?_; rw [HLB.out]; rintro _ w9 ⟨rfl, hB9⟩; have HB9 := Lib.hid (below_step HB7.out hB9); have HX9 := Lib.hid (HX7.out.below hB9); have y9 := HX9.out.c1; clear y7 x0 x1 hB9)))
          clear y9
          go_loopw [6, 58] (fun _ i wr => ∃ k : Nat, k ≤ l.length ∧ i = .int .i64 k ∧ Aside0 (ApS w wr fr em blocks last t (apV V t (l.take k)) (.slice (some ad) l.length c))) (fun _ i _ => l.length - (intOf i).toNat)
          case atStart => exact ⟨0, Nat.zero_le _, rfl, ⟨⟨HE.out _ HB9.out, Kept.of_below HB9.out _, (Same.refl w).below HB9.out, HX9.out⟩⟩⟩
          case round =>
            obtain ⟨k, hk, rfl, HO⟩ := hrel
            have HS := Lib.hid HO.out
            clear HO
            by_cases hkl : k < l.length
            · obtain ⟨ad3, A1, c1, e3, x0, x1, x2, x3⟩ := at_T31 (HR.out _ HS.out.kept HS.out.sm) (k : Int) (by omega) (by omega)
              cases e3
              simp only [Int.toNat_natCast] at x0 x1
              obtain ⟨q, hq⟩ : ∃ q, q = rd_T31 l (k : Int) := ⟨_, rfl⟩
              rw [← hq] at x0 x1 x2 x3
              have hqe : q = l[k] := by rw [hq]; exact rd_at l k hkl
              have HQ := Lib.hid (HIN2.out q (by rw [hqe]; exact List.getElem_mem hkl))
              have HVS := Lib.hid (show apV V t (l.take (k + 1)) = updV (apV V t (l.take k)) q.f0 ⟨t, q.f1⟩ by rw [apV_succ V t l k hkl, hqe])
              have HVN := Lib.hid (show (apV V t (l.take k) q.f0).length + 1 ≤ 2199023255553 by have h1 := apV_len V t l q.f0 k hk; have h2 := HVL.out q.f0; have h3 := HLL.out; omega)
              obtain ⟨VK, hVK⟩ : ∃ VK, VK = apV V t (l.take k) := ⟨_, rfl⟩
              rw [← hVK] at HVS HVN HS
              have b2 : (k : Int) < (l.length : Int) := by omega
              have HX3 := Lib.hid x3
              clear hq hqe hVK x2 x3
              go_wp2
              obtain ⟨w5', h5⟩ : ∃ y, y = wr.alloc (.cells #[.int .i64 q.f0, .slice A1 q.f1.length c1] 31) := ⟨_, rfl⟩
              have y0 : (wr.alloc (.cells #[.int .i64 q.f0, .slice A1 q.f1.length c1] 31)).cell? ⟨wr.heap.size, 0, none⟩ = some (.int .i64 q.f0) := World.cell?_alloc_at _ _ _ _ rfl
              have y1 : (wr.alloc (.cells #[.int .i64 q.f0, .slice A1 q.f1.length c1] 31)).cell? ⟨wr.heap.size, 1, none⟩ = some (.slice A1 q.f1.length c1) := World.cell?_alloc_at _ _ _ _ rfl
              have hb5 := below_alloc (Below.refl wr.heap.size wr) (.cells #[.int .i64 q.f0, .slice A1 q.f1.length c1] 31)
              have hg5 : (wr.alloc (.cells #[.int .i64 q.f0, .slice A1 q.f1.length c1] 31)).heap[wr.heap.size]? = some (.cells #[.int .i64 q.f0, .slice A1 q.f1.length c1] 31 (0, 0)) := by unfold World.alloc; simp
              rw [← h5] at y0 y1 hb5 hg5 ⊢
              clear h5
              have HS5 := Lib.hid (HS.out.below (below_drew1 hb5))
              have HX5 := Lib.hid (Kd.C_below HX3.out (below_drew1 hb5))
              have HG5 := Lib.hid (show w5'.drew.heap[wr.heap.size]? = some (.cells #[.int .i64 q.f0, .slice A1 q.f1.length c1] 31 (0, 0)) from hg5)
              clear hb5 x0 x1 HX3 hg5
              obtain ⟨A0, c0, hlook, hR0, happ⟩ := HS5.out.ext.app q.f0 HQ.out.1
              have HLK := Lib.hid hlook
              have HR0 := Lib.hid hR0
              have HAPP := Lib.hid happ
              clear hlook hR0 happ
              have HEM := Lib.hid (show em < w5'.drew.heap.size by have h1 := HFR.out; have h2 := HS5.out.kept.1; omega)
              have z1 : w5'.drew.cell? ⟨em + 1, 1, none⟩ = some (.map (some em)) := HS5.out.ext.c1
              have z2 : w5'.drew.cell? ⟨w.heap.size, 0, none⟩ = some (.int .i64 t) := HS5.out.box.c0
              have z3 := HLK.out w5'.drew rfl
              have z1' : w5'.cell? ⟨em + 1, 1, none⟩ = some (.map (some em)) := z1
              have z2' : w5'.cell? ⟨w.heap.size, 0, none⟩ = some (.int .i64 t) := z2
              have z3' := HLK.out w5' rfl
              have y0' : w5'.drew.cell? ⟨wr.heap.size, 0, none⟩ = some (.int .i64 q.f0) := y0
              have y1' : w5'.drew.cell? ⟨wr.heap.size, 1, none⟩ = some (.slice A1 q.f1.length c1) := y1
              have HSC5 := Lib.hid (show w5'.cell? ⟨em + 1, 1, none⟩ = some (.map (some em)) ∧ w5'.cell? ⟨wr.heap.size, 0, none⟩ = some (.int .i64 q.f0) ∧ w5'.cell? ⟨wr.heap.size, 1, none⟩ = some (.slice A1 q.f1.length c1) ∧ w5'.cell? ⟨w.heap.size, 0, none⟩ = some (.int .i64 t) from ⟨z1', y0, y1, z2'⟩)
              have HSC5d := Lib.hid (show w5'.drew.cell? ⟨em + 1, 1, none⟩ = some (.map (some em)) ∧ w5'.drew.cell? ⟨wr.heap.size, 0, none⟩ = some (.int .i64 q.f0) ∧ w5'.drew.cell? ⟨wr.heap.size, 1, none⟩ = some (.slice A1 q.f1.length c1) ∧ w5'.drew.cell? ⟨w.heap.size, 0, none⟩ = some (.int .i64 t) from ⟨z1, y0', y1', z2⟩)
              clear z1 z2 z1' z2' y0 y1 y0' y1'
              have hll := HLL.out
              go_region_held3 (fun w' => w'.cell? ⟨em + 1, 1, none⟩ = some (.map (some em)) ∧ w'.cell? ⟨wr.heap.size, 0, none⟩ = some (.int .i64 q.f0) ∧ w'.cell? ⟨wr.heap.size, 1, none⟩ = some (.slice A1 q.f1.length c1) ∧ w'.cell? ⟨w.heap.size, 0, none⟩ = some (.int .i64 t))
                (first | exact HSC8.out | exact HSC7.out | exact HSC6a.out | exact HSC6.out | exact HSC5d.out | exact HSC5.out)
                (first
                | (go_at_call 49; refine (cloneB_calls A1 c1 q.f1 _ HX5.out (by have := HQ.out.2; omega)).mono ?_; rintro _ w6 ⟨v6, rfl, hB6, hR6⟩; obtain ⟨A6, c6, hv6⟩ := Kd.R_slice hR6; subst hv6; have HB65 := Lib.hid hB6; have HS6 := Lib.hid (HS5.out.below hB6); have HR6 := Lib.hid (Kd.R_below HR0.out hB6); have HSZ6 := Lib.hid (show fr ≤ w6.heap.size by have h1 := HFR.out; have h2 := HS6.out.kept.1; omega); have HO6 := Lib.hid (show Kd.R kb 5 w6 fr (fun k => fr ≤ k ∧ some k ≠ (Value.slice A0 (VK q.f0).length c0).ownBlock) (.slice A6 q.f1.length c6) q.f1 from Kd.R_lower (Kd.R_mono (Kd.R_bound hR6) (fun j hj => ⟨by have h1 := HFR.out; have h2 := HS5.out.kept.1; have h3 := hj.2.1; omega, fun e => by have h1 := Kd.R_lt HR0.out j e.symm; have h2 := hj.2.1; omega⟩)) (by have h1 := HFR.out; have h2 := HS5.out.kept.1; omega)); have HG6 := Lib.hid ((hB6.block _ (lt_of_some HG5.out)).trans HG5.out); have r3 := HLK.out w6 (hB6.block em HEM.out); have s3 := HLK.out (w6.alloc (.cells #[.int .i64 t, .slice A6 q.f1.length c6] 126)) (((below_alloc (Below.refl w6.heap.size w6) _).block em (Nat.lt_of_lt_of_le HEM.out hB6.size)).trans (hB6.block em HEM.out)); have HSC6 := Lib.hid (show w6.cell? ⟨em + 1, 1, none⟩ = some (.map (some em)) ∧ w6.cell? ⟨wr.heap.size, 0, none⟩ = some (.int .i64 q.f0) ∧ w6.cell? ⟨wr.heap.size, 1, none⟩ = some (.slice A1 q.f1.length c1) ∧ w6.cell? ⟨w.heap.size, 0, none⟩ = some (.int .i64 t) from ⟨pw_cell_below hB6 HSC5d.out.1, pw_cell_below hB6 HSC5d.out.2.1, pw_cell_below hB6 HSC5d.out.2.2.1, pw_cell_below hB6 HSC5d.out.2.2.2⟩); have HSC6a := Lib.hid (show (w6.alloc (.cells #[.int .i64 t, .slice A6 q.f1.length c6] 126)).cell? ⟨em + 1, 1, none⟩ = some (.map (some em)) ∧ (w6.alloc (.cells #[.int .i64 t, .slice A6 q.f1.length c6] 126)).cell? ⟨wr.heap.size, 0, none⟩ = some (.int .i64 q.f0) ∧ (w6.alloc (.cells #[.int .i64 t, .slice A6 q.f1.length c6] 126)).cell? ⟨wr.heap.size, 1, none⟩ = some (.slice A1 q.f1.length c1) ∧ (w6.alloc (.cells #[.int .i64 t, .slice A6 q.f1.length c6] 126)).cell? ⟨w.heap.size, 0, none⟩ = some (.int .i64 t) from ⟨pw_cell_below (below_alloc (Below.refl w6.heap.size w6) _) HSC6.out.1, pw_cell_below (below_alloc (Below.refl w6.heap.size w6) _) HSC6.out.2.1, pw_cell_below (below_alloc (Below.refl w6.heap.size w6) _) HSC6.out.2.2.1, pw_cell_below (below_alloc (Below.refl w6.heap.size w6) _) HSC6.out.2.2.2⟩); clear hB6 hR6)
                | (refine app_ver_step fr (by rfl) (.tmp 74) (.tmp 81) rfl (.slice A0 (VK q.f0).length c0) (VK q.f0) ⟨t, q.f1⟩ (.slice A6 q.f1.length c6) rfl (by rfl) HO6.out HR6.out HSZ6.out (by have := HVN.out; omega) ?_; intro v7 w7 hR7 hg7 ho7; obtain ⟨A7, c7, hv7⟩ := Kd.R_slice hR7; subst hv7; obtain ⟨w8, hrun8, hg8, hE8⟩ := HAPP.out w7 _ ⟨t, q.f1⟩ HQ.out.2 hR7 (grown_trans (grown_of_below HB65.out _) hg7) (ho7.imp id (fun ⟨b, h1, h2⟩ => ⟨b, h1, Nat.le_trans HB65.out.size h2⟩)); (simp only [List.length_append, List.length_cons, List.length_nil, Nat.zero_add] at hrun8); have HN7 := Lib.hid (fun bx cs ty (h : w6.heap[bx]? = some (.cells cs ty (0, 0))) (ht : ty ≠ 126) => (show some bx ≠ (Value.slice A0 (VK q.f0).length c0).ownBlock from fun e => by obtain ⟨cells, h1⟩ := Kd.R_typed HR6.out bx e.symm; exact ne_typed h h1 ht rfl)); have HSC7 := Lib.hid (show w7.cell? ⟨em + 1, 1, none⟩ = some (.map (some em)) ∧ w7.cell? ⟨wr.heap.size, 0, none⟩ = some (.int .i64 q.f0) ∧ w7.cell? ⟨wr.heap.size, 1, none⟩ = some (.slice A1 q.f1.length c1) ∧ w7.cell? ⟨w.heap.size, 0, none⟩ = some (.int .i64 t) from ⟨hg7.cell HSC6.out.1 (fun e => by have h1 := Kd.R_base HR6.out (em + 1) e.symm; have h2 := HFR.out; omega), hg7.cell HSC6.out.2.1 (HN7.out _ _ _ HG6.out (by decide)), hg7.cell HSC6.out.2.2.1 (HN7.out _ _ _ HG6.out (by decide)), hg7.cell HSC6.out.2.2.2 (HN7.out _ _ _ HS6.out.box (by decide))⟩); have HSC8 := Lib.hid (show w8.cell? ⟨em + 1, 1, none⟩ = some (.map (some em)) ∧ w8.cell? ⟨wr.heap.size, 0, none⟩ = some (.int .i64 q.f0) ∧ w8.cell? ⟨wr.heap.size, 1, none⟩ = some (.slice A1 q.f1.length c1) ∧ w8.cell? ⟨w.heap.size, 0, none⟩ = some (.int .i64 t) from ⟨hg8.cell HSC7.out.1 (by simp), hg8.cell HSC7.out.2.1 (fun e => by have e2 : wr.heap.size = em := (by injection e); have h2 := HFR.out; have h3 := HS.out.kept.1; omega), hg8.cell HSC7.out.2.2.1 (fun e => by have e2 : wr.heap.size = em := (by injection e); have h2 := HFR.out; have h3 := HS.out.kept.1; omega), hg8.cell HSC7.out.2.2.2 (fun e => by have e2 : w.heap.size = em := (by injection e); have h2 := HFR.out; omega)⟩); have HW8 := Lib.hid (show ApS w w8 fr em blocks last t (updV VK q.f0 ⟨t, q.f1⟩) (.slice (some ad) l.length c) from ⟨hE8, (HS6.out.kept.of_grown hg7 (fun j hj => by by_cases hjl : j < w.heap.size; (by_cases hs : Sm w fr em j; (exact .inl hs); (obtain ⟨cells, h1⟩ := Kd.R_typed HR6.out j hj; exact .inl (.inr (.inr ⟨Kd.R_base HR6.out j hj, cells, by rw [← HS6.out.kept.2 j hjl hs]; exact h1⟩)))); (exact .inr (by omega)))).of_grown hg8 (fun j hj => by cases hj; exact .inl (.inl rfl)), (HS6.out.sm.grown hg7).grown hg8, (HS6.out.box.grown hg7 (fun j hj => by intro e; subst e; exact HN7.out _ _ _ HS6.out.box (by decide) hj.symm)).grown hg8 (fun j hj => by cases hj; have := HFR.out; omega)⟩); clear hR7 hg7 ho7 hg8 hE8))
              all_goals go_wp2
              all_goals go_roundw
              all_goals first
                | exact ⟨k + 1, by omega, by go_num, ⟨by rw [HVS.out]; exact HW8.out⟩⟩
                | (simp [intOf]; omega)
            · obtain rfl : k = l.length := by omega
              have hF : l.take l.length = l := List.take_length
              rw [hF] at HS
              have b2 : ¬ (l.length : Int) < (l.length : Int) := by omega
              have z2 := HS.out.box.c0
              have z3 := HS.out.ext.c2
              have z4 := HS.out.ext.f2
              clear hF
              go_wp2
              try rw [Exit.noGoto_ret]
              go_ret
              have hE := HS.out.ext
              have hg2 : wr.grownBy (wr.setCell ⟨em + 1, 2, none⟩ (.int .i64 t)) (some (em + 1)) := grown_set
              have hoff : ∀ v xs, Kd.R k31 126 wr fr (fun k => fr ≤ k) v xs → Kd.R k31 126 (wr.setCell ⟨em + 1, 2, none⟩ (.int .i64 t)) fr (fun k => fr ≤ k) v xs := fun v xs h => Kd.R_grown h hg2 (fun k hk e => by injection e with e; have := HFR.out; omega)
              have heq : apL blocks last t l = t ∧ apW blocks last t V l = apV V t l := ⟨by unfold apL; rw [if_pos HZ.out], by unfold apW; rw [if_pos HZ.out]⟩
              rw [HZ.out, heq.1, heq.2]
              obtain ⟨n, D, vv, d1, d2, d3, d4, d5⟩ := hE.map
              refine ⟨rfl, ⟨hE.lt, ?_, ?_, World.cell?_setCell_same' _ _ _ (by rw [hE.c2]; rfl), ⟨n, D, vv, d1.kept hg2 (by simp), d2, d3, fun x hx => ⟨(d4 x hx).1, (d4 x hx).2.1, hoff _ _ (d4 x hx).2.2⟩, d5⟩, hE.rng, hE.dat, hE.bl, by rw [World.frozen?_setCell]; exact hE.f2⟩, HS.out.kept.of_grown hg2 (fun j hj => by cases hj; exact .inl (.inr (.inl rfl))), HS.out.sm.grown hg2⟩
              · rw [World.cell?_setCell_other _ _ _ _ (by simp)]; exact hE.c0
              · rw [World.cell?_setCell_other _ _ _ _ (by simp)]; exact hE.c1
end Go.Proofs.Ytbebihphodafiaa.Iv

namespace Go.Proofs.Ytbebihphodafiaa.Iv
open Go.RowKit Go.Proofs.YtbebihphodafiaaW.PrintWords Go.Proofs.YtbebihphodafiaaW.PrintLast Go.Proofs.YtbebihphodafiaaW.PrintMore Go.Proofs.Ytbebihphodafiaa.PWb Go.Maps
set_option linter.unusedVariables false
set_option linter.unusedSimpArgs false

def Bx (W : World) (bx : Nat) (f0 n : Int) : Prop := W.heap[bx]? = some (.cells #[.int .i64 f0, .int .i64 n] 60 (0, 0))
theorem Bx.c0 {W : World} {bx : Nat} {f0 n : Int} (h : Bx W bx f0 n) : W.cell? ⟨bx, 0, none⟩ = some (.int .i64 f0) := by rw [cell_of_row W bx 0 _ 60 (0, 0) h]; rfl
theorem Bx.c1 {W : World} {bx : Nat} {f0 n : Int} (h : Bx W bx f0 n) : W.cell? ⟨bx, 1, none⟩ = some (.int .i64 n) := by rw [cell_of_row W bx 1 _ 60 (0, 0) h]; rfl
theorem Bx.below {W W' : World} {bx : Nat} {f0 n : Int} (h : Bx W bx f0 n) (hb : RowKit.Below W.heap.size W W') : Bx W' bx f0 n := (hb.block bx (lt_of_some h)).trans h
theorem Bx.grown {W W' : World} {bx : Nat} {f0 n : Int} (h : Bx W bx f0 n) {row : Option Nat} (hg : W.grownBy W' row) (hr : ∀ k, row = some k → k ≠ bx ∨ ∃ cells t, t ≠ 60 ∧ W.heap[k]? = some (.cells cells t (0, 0))) : Bx W' bx f0 n :=
  (hg.block bx (lt_of_some h) (fun e => by
    rcases hr _ e.symm with h1 | ⟨cells, t, h1, h2⟩
    · exact h1 rfl
    · unfold Bx at h; rw [h] at h2; injection h2 with h2; injection h2 with _ h2; exact h1 h2.symm)).trans h
theorem Bx.mv {W W' : World} {bx b : Nat} {f0 n : Int} (h : Bx W bx f0 n) (hm : Mv b W W') (hne : b ≠ bx) : Bx W' bx f0 n := by
  obtain ⟨w1, hb, rfl | ⟨v, rfl⟩⟩ := hm
  · exact h.below hb
  · exact (h.below hb).grown grown_set (fun k hk => by cases hk; exact .inl hne)

set_option maxHeartbeats 8000000 in
set_option maxRecDepth 100000 in
theorem readOk_calls (fr em mb sb vb : Nat) (blocks most last at_ : Int) (V : Int → List S31) (M : List S31) (L L' : List S60) (R : List S77) (f0 : Int) (n : Nat) (w : World)
    (h : IsW w fr em mb sb vb blocks most last at_ V M L R (fun _ => True)) (hn : 1 ≤ n ∧ n ≤ 16) (hi : inE blocks ⟨f0, n⟩ = true) (ha : addS 64 L [⟨f0, n⟩] = (0, L')) (hR : (R.length + 16) * 40 ≤ 140737488355328) (hL : L.length ≤ 1000000) :
    Calls Try.prog 28 #[.pointer (some ⟨vb, 0, none⟩), .agg #[.int .i64 f0, .int .i64 n]] w fun r w' => ∃ v, r = .returned (.tuple #[v, .int .i64 0]) ∧ IsW w' fr em mb sb vb blocks most last at_ V M L' (R ++ newR V M f0 at_ n) (fun _ => True) ∧ Kept w w' (Sv w fr sb vb) ∧ Same w w' ∧ Kd.R kb 5 w' w.heap.size (fun _ => True) v (rdK V M f0 at_ n) := by
  obtain ⟨n1, n16⟩ := hn
  obtain ⟨i0, i1, i2, i3⟩ := (inE_iff blocks _).1 hi
  simp only at i0 i1 i2 i3
  have hbl := h.ext.bl
  have HF := Lib.hid (show Forty V M from ⟨h.ext.dat, h.buf.srt, fun p hp => (h.buf.rng p hp).2.2⟩)
  have HW := Lib.hid h
  have HI := Lib.hid hi
  have HA := Lib.hid ha
  have HRL := Lib.hid hR
  have HLL := Lib.hid hL
  have hb5 := below_alloc (Below.refl w.heap.size w) (.cells #[.int .i64 f0, .int .i64 n] 60)
  have v0 := pw_cell_below hb5 h.view.c0
  have v2 := pw_cell_below hb5 h.view.c2
  have k0 := World.cell?_alloc_at (w := w) #[.int .i64 f0, .int .i64 n] 60 w.heap.size 0 rfl
  have k1 := World.cell?_alloc_at (w := w) #[.int .i64 f0, .int .i64 n] 60 w.heap.size 1 rfl
  have k0' : (w.alloc (.cells #[.int .i64 f0, .int .i64 n] 60)).cell? ⟨w.heap.size, 0, none⟩ = some (.int .i64 f0) := k0
  have k1' : (w.alloc (.cells #[.int .i64 f0, .int .i64 n] 60)).cell? ⟨w.heap.size, 1, none⟩ = some (.int .i64 n) := k1
  have HB5 := Lib.hid hb5
  have HBX5 := Lib.hid (show Bx (w.alloc (.cells #[.int .i64 f0, .int .i64 n] 60)) w.heap.size f0 n by unfold Bx World.alloc; simp)
  have d1 : decide ((n : Int) < 1) = false := by simp; omega
  have d2 : decide ((16 : Int) < (n : Int)) = false := by simp; omega
  have e1 : ¬ (n : Int) < 1 := by omega
  have e2 : ¬ (16 : Int) < (n : Int) := by omega
  have HX := Lib.hid (show vb < w.heap.size ∧ sb < vb ∧ fr ≤ w.heap.size ∧ vb < fr from ⟨World.block_lt_of_cell? _ _ h.view.c0, h.ord.2.2, h.fits, h.view.lt⟩)
  have HBL := Lib.hid hbl
  clear h hi ha hR hL hb5 k0 k1
  go_enter Try.func28, Try.ntmps28
  go_wp2
  go_step3
  go_wp2
  obtain ⟨w5, h5⟩ : ∃ y, y = w.alloc (.cells #[.int .i64 f0, .int .i64 n] 60) := ⟨_, rfl⟩
  rw [← h5] at v0 v2 k0' k1' HB5 HBX5 ⊢
  clear h5
  have HB5 := Lib.hid (below_drew1 HB5.out)
  have HBX5 := Lib.hid HBX5.out
  obtain ⟨bx, hbx⟩ : ∃ bx, bx = w.heap.size := ⟨_, rfl⟩
  have HBX := Lib.hid hbx
  rw [← hbx] at k0' k1' HBX5 ⊢
  clear hbx
  have HC5 := Lib.hid (show w5.cell? ⟨vb, 0, none⟩ = some (.pointer (some ⟨em + 1, 0, none⟩)) ∧ w5.cell? ⟨vb, 2, none⟩ = some (.int .i64 at_) ∧ w5.cell? ⟨bx, 0, none⟩ = some (.int .i64 f0) ∧ w5.cell? ⟨bx, 1, none⟩ = some (.int .i64 n) from ⟨v0, v2, k0', k1'⟩)
  go_region_held3 (fun w' => w'.cell? ⟨vb, 0, none⟩ = some (.pointer (some ⟨em + 1, 0, none⟩)) ∧ w'.cell? ⟨vb, 2, none⟩ = some (.int .i64 at_) ∧ w'.cell? ⟨bx, 0, none⟩ = some (.int .i64 f0) ∧ w'.cell? ⟨bx, 1, none⟩ = some (.int .i64 n))
    (first | exact HC6.out | exact HC5.out)
    ((go_at_call 56; refine (range_calls fr em blocks last V ⟨f0, n⟩ at_ _ (HW.out.ext.below HB5.out) HI.out).mono ?_; rintro _ w6 ⟨v6, rfl, hB6, hR6⟩; have HC6 := Lib.hid (show w6.cell? ⟨vb, 0, none⟩ = some (.pointer (some ⟨em + 1, 0, none⟩)) ∧ w6.cell? ⟨vb, 2, none⟩ = some (.int .i64 at_) ∧ w6.cell? ⟨bx, 0, none⟩ = some (.int .i64 f0) ∧ w6.cell? ⟨bx, 1, none⟩ = some (.int .i64 n) from ⟨pw_cell_below hB6 HC5.out.1, pw_cell_below hB6 HC5.out.2.1, pw_cell_below hB6 HC5.out.2.2.1, pw_cell_below hB6 HC5.out.2.2.2⟩); have HBX6 := Lib.hid ((HBX5.out.below (below_drew1 (Below.refl _ _))).below hB6); have HB6 := Lib.hid (below_step HB5.out hB6); have HR6 := Lib.hid (Kd.R_lower hR6 HB5.out.size); clear hB6 hR6))
  have hz := rangeK_len HF.out.1 f0 at_ n
  obtain ⟨ob, cap, hv6, hob, hob2, _⟩ := Kd.R_form HR6.out (by simp only [Int.toNat_natCast]; omega)
  simp only [Int.toNat_natCast] at hv6
  have hr0 : rangeK V f0 at_ n = mixK V M f0 at_ 0 n := by simp [mixK, rdK]
  have HR6m := Lib.hid (show Kd.R kb 5 w6 w.heap.size (fun _ => True) (.slice (some ⟨ob, 0, none⟩) (mixK V M f0 at_ 0 n).length cap) (mixK V M f0 at_ 0 n) by rw [← hr0, ← hv6]; simpa using HR6.out)
  obtain ⟨N, hN⟩ : ∃ N, N = (rangeK V f0 at_ n).length := ⟨_, rfl⟩
  have HZ := Lib.hid (fun (k : Nat) (hk : k ≤ n) => show (mixK V M f0 at_ k n).length = N by rw [HF.out.mix_len f0 at_ k n hk, hN, hz])
  have HN := Lib.hid (show 40 * n ≤ N ∧ N ≤ 40 * n by omega)
  have hcap : N ≤ cap := by
    have := (Kd.R_reads' HR6m.out).2.1
    rw [HZ.out 0 (Nat.zero_le _)] at this
    exact this
  have HCAP := Lib.hid hcap
  have HOB := Lib.hid (And.intro hob hob2)
  rw [← hN] at hv6
  subst hv6
  clear hN hz hr0 hcap hob hob2
  go_wp2
  have y3 := pw_cell_below HB6.out HW.out.view.c3
  have z0 := HC6.out.2.2.1
  have z1 := HC6.out.2.2.2
  have HB7 := Lib.hid (below_drew1 HB6.out)
  have HR7 := Lib.hid (Kd.R_below HR6m.out (below_drew1 (Below.refl _ _)))
  have HBX7 := Lib.hid (HBX6.out.below (below_drew1 (Below.refl _ _)))
  have HOB7 := Lib.hid (show w.heap.size ≤ ob ∧ ob < w6.drew.heap.size from HOB.out)
  have HLT7 := Lib.hid (show w.heap.size ≤ w6.drew.heap.size from HB7.out.size)
  have HC7 := Lib.hid (show w6.cell? ⟨vb, 3, none⟩ = some (.pointer (some ⟨sb, 0, none⟩)) ∧ w6.cell? ⟨bx, 0, none⟩ = some (.int .i64 f0) ∧ w6.cell? ⟨bx, 1, none⟩ = some (.int .i64 n) from ⟨y3, z0, z1⟩)
  have HC7a := Lib.hid (show (w6.drew.alloc (.cells #[.int .i64 f0, .int .i64 n] 60)).cell? ⟨vb, 3, none⟩ = some (.pointer (some ⟨sb, 0, none⟩)) ∧ (w6.drew.alloc (.cells #[.int .i64 f0, .int .i64 n] 60)).cell? ⟨bx, 0, none⟩ = some (.int .i64 f0) ∧ (w6.drew.alloc (.cells #[.int .i64 f0, .int .i64 n] 60)).cell? ⟨bx, 1, none⟩ = some (.int .i64 n) from ⟨pw_cell_below (below_drew1 HB6.out |> fun h => below_alloc (Below.refl w6.drew.heap.size w6.drew) _) y3, pw_cell_below (below_alloc (Below.refl w6.drew.heap.size w6.drew) _) z0, pw_cell_below (below_alloc (Below.refl w6.drew.heap.size w6.drew) _) z1⟩)
  go_region_held3 (fun w' => w'.cell? ⟨vb, 3, none⟩ = some (.pointer (some ⟨sb, 0, none⟩)) ∧ w'.cell? ⟨bx, 0, none⟩ = some (.int .i64 f0) ∧ w'.cell? ⟨bx, 1, none⟩ = some (.int .i64 n))
    (first | exact HC8.out | exact HC7.out | exact HC7a.out)
    ((go_at_call 57; refine (add_calls fr sb 64 L (some ⟨w6.drew.heap.size, 0, none⟩) 1 [⟨f0, n⟩] _ (HW.out.set.below (below_step HB7.out (below_alloc (Below.refl _ _) _))) (C60_one _ _ _ _ rfl) (Nat.le_refl 1) (by have := HLL.out; simp; omega) (by have h1 := HX.out; have h2 := HLT7.out; simp at h2 ⊢; omega)).mono ?_; rintro _ w8 ⟨rfl, hI8, hM8⟩; rw [HA.out] at hI8 ⊢; have HS8 := Lib.hid (RdS.start HW.out (below_step HB7.out (below_alloc (Below.refl _ _) _)) hM8 hI8 HOB7.out.1 (Kd.R_below HR7.out (below_alloc (Below.refl _ _) _)) (by have := HOB7.out; simp at this ⊢; omega)); have HBX8 := Lib.hid ((HBX7.out.below (below_alloc (Below.refl _ _) _)).mv hM8 (by have h1 := HX.out; have h2 := HBX.out; omega)); have HC8 := Lib.hid (show w8.cell? ⟨vb, 3, none⟩ = some (.pointer (some ⟨sb, 0, none⟩)) ∧ w8.cell? ⟨bx, 0, none⟩ = some (.int .i64 f0) ∧ w8.cell? ⟨bx, 1, none⟩ = some (.int .i64 n) from ⟨HS8.out.view.c3, HBX8.out.c0, HBX8.out.c1⟩); clear hI8 hM8))
  go_wp2
  have z1 := HBX8.out.c1
  go_step3
  go_wp2
  have H40 := Lib.hid (fun (x : Int) (hx : hasM M x = true) => (show (lookM M x).length = 40 from by
    obtain ⟨p, hp, rfl⟩ := (hasM_iff M x).1 hx
    rw [lookM_mem HF.out.2.1 hp]
    exact HF.out.2.2 p hp))
  have HBLK := Lib.hid (show f0 + (n : Int) ≤ 1048576 ∧ 0 ≤ f0 from ⟨by omega, i0⟩)
  clear z1 v0 v2 k0' k1'
  go_loopw [8, 9, 10, 11, 55] (fun _ _ _ _ i wr => ∃ k : Nat, k ≤ n ∧ i = .int .i64 k ∧ Aside0 (RdS w wr fr em mb sb vb at_ L' (R ++ newR V M f0 at_ k) ob cap (mixK V M f0 at_ k n) ∧ Bx wr bx f0 n)) (fun _ _ _ _ i _ => n - (intOf i).toNat)
  case atStart => exact ⟨0, Nat.zero_le _, rfl, ⟨by simpa [newR] using HS8.out, HBX8.out⟩⟩
  case round =>
    obtain ⟨k, hk, rfl, HO⟩ := hrel
    have HS := Lib.hid HO.out.1
    have HXB := Lib.hid HO.out.2
    clear HO
    by_cases hlt : k < n
    · have HT := Lib.hid (newR_succ V M f0 at_ k)
      have b2 : (k : Int) < (n : Int) := by omega
      have HKN := Lib.hid hlt
      have HMA := Lib.hid (HF.out.mix_at f0 at_ k n hlt)
      have HMO := Lib.hid (HF.out.mix_own f0 at_ k n hlt)
      have HMM := Lib.hid (HF.out.mix_map f0 at_ k n hlt)
      have hzk := HZ.out k hk
      have hzk1 := HZ.out (k + 1) hlt
      have hN := HN.out
      have hC := HCAP.out
      have hBK := HBLK.out
      obtain ⟨A4, c4, y4, hR4⟩ := HS.out.view.c4
      have HR4 := Lib.hid hR4
      have HRK := Lib.hid (show (R ++ newR V M f0 at_ k).length + 1 ≤ R.length + 16 by simp [newR]; omega)
      obtain ⟨x, hx⟩ : ∃ x, x = f0 + (k : Int) := ⟨_, rfl⟩
      have hxr : 0 ≤ x ∧ x < 1048576 := by omega
      have wx : IntKind.i64.wrap (f0 + (k : Int)) = x := by rw [hx]; exact IntWalk.i64_in _ (by omega)
      obtain ⟨lo, hlo⟩ : ∃ lo, lo = 40 * k := ⟨_, rfl⟩
      obtain ⟨hi2, hhi⟩ : ∃ hi2, hi2 = 40 * k + 40 := ⟨_, rfl⟩
      obtain ⟨k1, hk1⟩ : ∃ k1, k1 = k + 1 := ⟨_, rfl⟩
      have wl : IntKind.i64.wrap ((k : Int) * 40) = (lo : Int) := by rw [hlo, IntWalk.i64_in _ (by omega)]; omega
      have wk : IntKind.i64.wrap ((k : Int) + 1) = (k1 : Int) := by rw [hk1, IntWalk.i64_in _ (by omega)]; omega
      have wh : IntKind.i64.wrap ((k1 : Int) * 40) = (hi2 : Int) := by rw [hhi, hk1, IntWalk.i64_in _ (by omega)]; omega
      have hcut := cut_out ob N cap lo hi2 (by omega) (by omega) (by omega) wr
      have e40 : hi2 - lo = 40 := by omega
      rw [e40] at hcut
      have HK1 := Lib.hid (show k1 = k + 1 ∧ lo = 40 * k ∧ hi2 = 40 * k + 40 from ⟨hk1, hlo, hhi⟩)
      rw [← hhi, ← hlo] at HMA
      rw [← hhi, ← hlo] at HMO
      rw [← hx] at HMA HMO HMM HT
      obtain ⟨RK, hRK⟩ : ∃ RK, RK = R ++ newR V M f0 at_ k := ⟨_, rfl⟩
      have HRK' := Lib.hid (show R ++ newR V M f0 at_ (k + 1) = RK ++ [⟨x, rdB V M at_ x, hasM M x⟩] by rw [HT.out, hRK, List.append_assoc])
      rw [← hRK] at y4 HR4 HRK HS
      obtain ⟨Z, hZ⟩ : ∃ Z, Z = mixK V M f0 at_ k n := ⟨_, rfl⟩
      rw [← hZ] at HMA HMO HMM HS hzk
      obtain ⟨Z1, hZ1⟩ : ∃ Z, Z = mixK V M f0 at_ (k + 1) n := ⟨_, rfl⟩
      rw [← hZ1] at HMO HMM hzk1
      have HZ1 := Lib.hid hZ1
      have HZK := Lib.hid (And.intro hzk hzk1)
      have HLO := Lib.hid (show lo + 40 ≤ N by omega)
      have y1 := HS.out.view.c1
      have z0 := HXB.out.c0
      have HXR := Lib.hid hxr
      clear hk1 hlo hhi hx hRK hZ hZ1 hzk hzk1 hN hC hBK hR4 e40 hlt HT hxr
      cases hm : hasM M x with
      | true =>
        have HM := Lib.hid hm
        have HLL40 := Lib.hid (H40.out x hm)
        have HZE := Lib.hid (HMO.out hm)
        have HRB := Lib.hid (show rdB V M at_ x = lookM M x by unfold rdB; rw [if_pos hm])
        clear hm
        have HBUF := Lib.hid ((HW.out.buf.keep HS.out.kept (by have h1 := HW.out.ord; have h2 := HX.out; omega)).below (below_drew1 (Below.refl wr.heap.size wr)))
        have HSIZ := Lib.hid (show fr ≤ wr.drew.heap.size ∧ ob < wr.drew.heap.size from ⟨Nat.le_trans HS.out.frs.1 HS.out.kept.1, HS.out.ge.2⟩)
        go_wp2
        go_region_held3 (fun w' => w'.cell? ⟨vb, 1, none⟩ = some (.pointer (some ⟨mb + 1, 0, none⟩)) ∧ w'.cell? ⟨bx, 0, none⟩ = some (.int .i64 f0))
          (first | exact HC9.out | exact ⟨y1, z0⟩)
          ((go_at_call 24; refine (get_calls fr mb blocks most M x _ HBUF.out (wf_small x HXR.out.1 (by have := HXR.out.2; omega))).mono ?_; rintro _ w9 ⟨v9, rfl, hB9, hR9⟩; rw [HM.out]; have HS9 := Lib.hid ((HS.out.below (below_drew1 (Below.refl _ _))).below hB9); have HXB9 := Lib.hid ((HXB.out.below (below_drew1 (Below.refl _ _))).below hB9); have HR49 := Lib.hid (Kd.R_below (Kd.R_below HR4.out (below_drew1 (Below.refl _ _))) hB9); have HR9 := Lib.hid (show Kd.R kb 5 w9 fr (fun k => (fr ≤ k ∧ k ≠ ob) ∧ some k ≠ (Value.slice A4 RK.length c4).ownBlock) v9 (lookM M x) from Kd.R_lower (Kd.R_mono (Kd.R_bound hR9) (fun j hj => ⟨⟨Nat.le_trans HSIZ.out.1 hj.2.1, by have h1 := hj.2.1; have h2 := HSIZ.out.2; omega⟩, fun e => by have h1 := Kd.R_lt HR4.out j e.symm; have h2 := hj.2.1; have h3 : wr.drew.heap.size = wr.heap.size := rfl; omega⟩)) HSIZ.out.1); have Y49 := Lib.hid (show w9.cell? ⟨vb, 4, none⟩ = some (.slice A4 RK.length c4) from pw_cell_below hB9 y4); have HC9 := Lib.hid (show w9.cell? ⟨vb, 1, none⟩ = some (.pointer (some ⟨mb + 1, 0, none⟩)) ∧ w9.cell? ⟨bx, 0, none⟩ = some (.int .i64 f0) from ⟨HS9.out.view.c1, HXB9.out.c0⟩); clear hB9 hR9))
        clear y1 z0 y4
        obtain ⟨A9, c9, hv9, hl9, hC9⟩ := Kd.R_reads HR9.out
        have HR9v := Lib.hid HR9.out
        rw [HLL40.out] at hv9 hl9 hC9
        rw [hv9] at HR9v ⊢
        have HC9r := Lib.hid hC9
        clear hl9 hC9
        go_wp2_with ((with_reducible refine gate_builtin (b := .copy) (xs := #[.tmp 78, .tmp 79]) rfl ?_); go_must (refine cp_mid (base := w.heap.size) (ok := fun _ => True) (g := ob) (lo := lo) (cap := cap) (cap2 := cap - lo) (m := 40) (c := c9) (xs := Z) rfl (.tmp 78) (.tmp 79) rfl rfl rfl HS9.out.out HC9r.out (by decide) (by have := HLO.out; have := HZK.out; omega) ?_; intro w10 hR10 hg10; have HS10 := Lib.hid (HS9.out.cpy (Z' := Z1) hg10 (by have := HZK.out; omega) (by have := HLO.out; have := HZK.out; omega) (by have h1 := HZE.out; have h2 := HK1.out; rw [show hi2 = lo + 40 by omega] at h1; rw [← h1]; exact hR10)); have HXB10 := Lib.hid (HXB9.out.grown hg10 (fun j hj => by cases hj; exact (Kd.R_typed HS9.out.out ob rfl).elim fun cells e => .inr ⟨cells, 5, by decide, e⟩)); have Y410 := Lib.hid (hg10.cell Y49.out (fun e => by have e' : vb = ob := (by injection e); have h1 := HX.out; have h2 := HOB.out; omega)); have HR410 := Lib.hid (Kd.R_grown HR49.out hg10 (fun k hk e => by injection e with e; exact hk.2 e)); have HO10 := Lib.hid (Kd.R_grown HR9v.out hg10 (fun k hk e => by injection e with e; exact hk.1.2 e)); clear hR10 hg10))
        have p4 : w10.drew.cell? ⟨vb, 4, none⟩ = some (.slice A4 RK.length c4) := Y410.out
        have p5 : w10.drew.frozen? ⟨vb, 4, none⟩ = false := HS10.out.view.f4
        have p0 : w10.drew.cell? ⟨bx, 0, none⟩ = some (.int .i64 f0) := HXB10.out.c0
        have p4a : (w10.drew.alloc (.cells #[.int .i64 x, .slice A9 40 c9, .bool true] 77)).cell? ⟨vb, 4, none⟩ = some (.slice A4 RK.length c4) := pw_cell_below (below_alloc (Below.refl w10.drew.heap.size w10.drew) _) p4
        have p0a : (w10.drew.alloc (.cells #[.int .i64 x, .slice A9 40 c9, .bool true] 77)).cell? ⟨bx, 0, none⟩ = some (.int .i64 f0) := pw_cell_below (below_alloc (Below.refl w10.drew.heap.size w10.drew) _) p0
        have p4b : (w10.alloc (.cells #[.int .i64 x, .slice A9 40 c9, .bool true] 77)).cell? ⟨vb, 4, none⟩ = some (.slice A4 RK.length c4) := p4a
        have p0b : (w10.alloc (.cells #[.int .i64 x, .slice A9 40 c9, .bool true] 77)).cell? ⟨bx, 0, none⟩ = some (.int .i64 f0) := p0a
        have p4c : w10.cell? ⟨vb, 4, none⟩ = some (.slice A4 RK.length c4) := p4
        have p0c : w10.cell? ⟨bx, 0, none⟩ = some (.int .i64 f0) := p0
        have HS10d := Lib.hid (HS10.out.below (below_drew1 (Below.refl _ _)))
        have HXB10d := Lib.hid (HXB10.out.below (below_drew1 (Below.refl _ _)))
        have HR410d := Lib.hid (Kd.R_below HR410.out (below_drew1 (Below.refl _ _)))
        have HO10d := Lib.hid (Kd.R_below HO10.out (below_drew1 (Below.refl _ _)))
        have HNE := Lib.hid (show some vb ≠ (Value.slice A4 RK.length c4).ownBlock from fun e => by have h1 := Kd.R_base HR410.out vb e.symm; have h2 := HX.out; omega)
        have HVL := Lib.hid (World.block_lt_of_cell? _ _ p4)
        have HP5 := Lib.hid p5
        have HP4 := Lib.hid p4
        have HSD := Lib.hid (show fr ≤ w10.drew.heap.size ∧ ∀ k, w10.drew.heap.size ≤ k → (fr ≤ k ∧ k ≠ ob) from ⟨Nat.le_trans HS10d.out.frs.1 HS10d.out.kept.1, fun k hk => ⟨Nat.le_trans (Nat.le_trans HS10d.out.frs.1 HS10d.out.kept.1) hk, by have := HS10d.out.ge; omega⟩⟩)
        have HLR := Lib.hid (show (RK.length + 1) * 40 ≤ 140737488355328 from by have h1 := HRK.out; have h2 := HRL.out; omega)
        go_region_law (first | (refine app_read_step fr (fun k => fr ≤ k ∧ k ≠ ob) (by rfl) (.tmp 85) (.tmp 92) rfl (.slice A4 RK.length c4) RK ⟨x, lookM M x, true⟩ (.slice A9 40 c9) rfl (by rfl) HO10d.out HR410d.out HSD.out.1 HSD.out.2 HLR.out ?_; intro v11 w11 hR11 hg11; obtain ⟨A11, c11, hv11⟩ := Kd.R_slice hR11; subst hv11; have q4 := hg11.cell HP4.out HNE.out; have q5 := (frozen_grown (j := 4) hg11 HVL.out HNE.out).trans HP5.out; have HS11 := Lib.hid (HS10d.out.app HR410d.out hR11 hg11); have HXB11 := Lib.hid (HXB10d.out.grown hg11 (fun j hj => (Kd.R_typed HR410d.out j hj).elim fun cells e => .inr ⟨cells, 77, by decide, e⟩)); clear hR11 hg11))
        all_goals go_wp2
        all_goals
          refine ⟨⟨k1, by have h1 := HK1.out; have h2 := HKN.out; omega, by go_num, ⟨by rw [HK1.out.1, HRK'.out, HRB.out, HM.out, ← HZ1.out]; (have h := HS11.out; simp only [List.length_append, List.length_cons, List.length_nil, Nat.zero_add] at h; exact h), HXB11.out.grown grown_set (fun j hj => by cases hj; exact .inl (by have h1 := HX.out; have h2 := HBX.out; omega))⟩⟩, ?_⟩
          have h1 := HK1.out
          have h2 := HKN.out
          simp [intOf]
          omega
      | false =>
        have HM := Lib.hid hm
        have HG40 := Lib.hid (getE_len HF.out.1 x at_)
        have HZE := Lib.hid (HMM.out hm)
        have HRB := Lib.hid (show rdB V M at_ x = getE V x at_ by unfold rdB; rw [if_neg (by rw [hm]; decide)])
        clear hm
        have HBUF := Lib.hid ((HW.out.buf.keep HS.out.kept (by have h1 := HW.out.ord; have h2 := HX.out; omega)).below (below_drew1 (Below.refl wr.heap.size wr)))
        go_wp2
        go_region_held3 (fun w' => w'.cell? ⟨vb, 1, none⟩ = some (.pointer (some ⟨mb + 1, 0, none⟩)) ∧ w'.cell? ⟨bx, 0, none⟩ = some (.int .i64 f0))
          (first | exact HC9.out | exact ⟨y1, z0⟩)
          ((go_at_call 24; refine (get_calls fr mb blocks most M x _ HBUF.out (wf_small x HXR.out.1 (by have := HXR.out.2; omega))).mono ?_; rintro _ w9 ⟨v9, rfl, hB9, hR9⟩; rw [HM.out]; have HS9 := Lib.hid ((HS.out.below (below_drew1 (Below.refl _ _))).below hB9); have HXB9 := Lib.hid ((HXB.out.below (below_drew1 (Below.refl _ _))).below hB9); have HR49 := Lib.hid (Kd.R_below (Kd.R_below HR4.out (below_drew1 (Below.refl _ _))) hB9); have Y49 := Lib.hid (show w9.cell? ⟨vb, 4, none⟩ = some (.slice A4 RK.length c4) from pw_cell_below hB9 y4); have HC9 := Lib.hid (show w9.cell? ⟨vb, 1, none⟩ = some (.pointer (some ⟨mb + 1, 0, none⟩)) ∧ w9.cell? ⟨bx, 0, none⟩ = some (.int .i64 f0) from ⟨HS9.out.view.c1, HXB9.out.c0⟩); clear hB9 hR9))
        clear y1 z0 y4
        have HCE := Lib.hid (show Kd.C kb w9.drew (some ⟨ob, lo, none⟩) 40 (getE V x at_) from by
          have h1 := (Kd.R_reads' (Kd.R_below HS9.out.out (below_drew1 (Below.refl _ _)))).2
          have h2 := Kd.C_mid (lo := lo) (hi := hi2) h1.2 (by have := HK1.out; omega) (by have h3 := HK1.out; have h4 := HLO.out; have h5 := HZK.out; omega) h1.1
          have h6 : ¬ cap = lo := by have h3 := HK1.out; have h4 := HLO.out; have h5 := HCAP.out; omega
          rw [HMA.out, HG40.out, if_neg h6] at h2
          simpa [add_plain, kb, show (Kd.int IntKind.u8).sz = 1 from rfl] using h2)
        have HCL := Lib.hid (fun W (h : Kd.C kb W (some ⟨ob, lo, none⟩) 40 (getE V x at_)) => (show Calls Try.prog 49 #[.slice (some ⟨ob, lo, none⟩) 40 (cap - lo)] W _ from by
          have h1 := cloneB_calls (some ⟨ob, lo, none⟩) (cap - lo) (getE V x at_) W (by rw [HG40.out]; exact h) (by rw [HG40.out]; decide)
          rw [HG40.out] at h1
          exact h1))
        have p4 : w9.drew.cell? ⟨vb, 4, none⟩ = some (.slice A4 RK.length c4) := Y49.out
        have p0 : w9.drew.cell? ⟨bx, 0, none⟩ = some (.int .i64 f0) := HXB9.out.c0
        have p4c : w9.cell? ⟨vb, 4, none⟩ = some (.slice A4 RK.length c4) := p4
        have p0c : w9.cell? ⟨bx, 0, none⟩ = some (.int .i64 f0) := p0
        have HS9d := Lib.hid (HS9.out.below (below_drew1 (Below.refl _ _)))
        have HXB9d := Lib.hid (HXB9.out.below (below_drew1 (Below.refl _ _)))
        have HR49d := Lib.hid (Kd.R_below HR49.out (below_drew1 (Below.refl _ _)))
        have HP4 := Lib.hid p4
        have HNE := Lib.hid (show some vb ≠ (Value.slice A4 RK.length c4).ownBlock from fun e => by have h1 := Kd.R_base HR49.out vb e.symm; have h2 := HX.out; omega)
        have HSD := Lib.hid (show fr ≤ w9.drew.heap.size ∧ ob < w9.drew.heap.size from ⟨Nat.le_trans HS9d.out.frs.1 HS9d.out.kept.1, HS9d.out.ge.2⟩)
        have HLR := Lib.hid (show (RK.length + 1) * 40 ≤ 140737488355328 from by have h1 := HRK.out; have h2 := HRL.out; omega)
        go_wp2
        go_region_law (first
          | (refine app_read_step fr (fun k => fr ≤ k ∧ k ≠ ob) (by rfl) (.tmp 100) (.tmp 108) rfl (.slice A4 RK.length c4) RK ⟨x, getE V x at_, false⟩ (.slice A10 40 c10) rfl (by rfl) HO10.out HR410.out HSD10.out.1 HSD10.out.2 HLR.out ?_; intro v11 w11 hR11 hg11; obtain ⟨A11, c11, hv11⟩ := Kd.R_slice hR11; subst hv11; have q4 := hg11.cell HP410.out HNE.out; have q5 := (frozen_grown (j := 4) hg11 (World.block_lt_of_cell? _ _ HP410.out) HNE.out).trans HS10.out.view.f4; have HS11 := Lib.hid (HS10.out.app HR410.out hR11 hg11); have HXB11 := Lib.hid (HXB10.out.grown hg11 (fun j hj => (Kd.R_typed HR410.out j hj).elim fun cells e => .inr ⟨cells, 77, by decide, e⟩)); clear hR11 hg11)
          | (go_simp; go_at_call 49; refine (HCL.out _ HCE.out).mono ?_; rintro _ w10 ⟨v10, rfl, hB10, hR10⟩; obtain ⟨A10, c10, hv10, _, _⟩ := Kd.R_reads hR10; rw [HG40.out] at hv10; subst hv10; have HS10 := Lib.hid (HS9d.out.below hB10); have HXB10 := Lib.hid (HXB9d.out.below hB10); have HR410 := Lib.hid (Kd.R_below HR49d.out hB10); have HSD10 := Lib.hid (show fr ≤ w10.heap.size ∧ ∀ k, w10.heap.size ≤ k → (fr ≤ k ∧ k ≠ ob) from ⟨Nat.le_trans HSD.out.1 hB10.size, fun k hk => ⟨Nat.le_trans (Nat.le_trans HSD.out.1 hB10.size) hk, by have h1 := HSD.out.2; have h2 := hB10.size; omega⟩⟩); have HO10 := Lib.hid (show Kd.R kb 5 w10 fr (fun k => (fr ≤ k ∧ k ≠ ob) ∧ some k ≠ (Value.slice A4 RK.length c4).ownBlock) (.slice A10 40 c10) (getE V x at_) from Kd.R_lower (Kd.R_mono (Kd.R_bound hR10) (fun j hj => ⟨⟨Nat.le_trans HSD.out.1 hj.2.1, by have h1 := hj.2.1; have h2 := HSD.out.2; omega⟩, fun e => by have h1 := Kd.R_lt HR49d.out j e.symm; have h2 := hj.2.1; omega⟩)) HSD.out.1); have HP410 := Lib.hid (pw_cell_below hB10 HP4.out); have r4 : w10.cell? ⟨vb, 4, none⟩ = some (.slice A4 RK.length c4) := HP410.out; have r0 : w10.cell? ⟨bx, 0, none⟩ = some (.int .i64 f0) := HXB10.out.c0; have s4 : (w10.alloc (.cells #[.int .i64 x, .slice A10 40 c10, .bool false] 77)).cell? ⟨vb, 4, none⟩ = some (.slice A4 RK.length c4) := pw_cell_below (below_alloc (Below.refl w10.heap.size w10) _) r4; have s0 : (w10.alloc (.cells #[.int .i64 x, .slice A10 40 c10, .bool false] 77)).cell? ⟨bx, 0, none⟩ = some (.int .i64 f0) := pw_cell_below (below_alloc (Below.refl w10.heap.size w10) _) r0; clear hB10 hR10))
        all_goals go_wp2
        all_goals
          refine ⟨⟨k1, by have h1 := HK1.out; have h2 := HKN.out; omega, by go_num, ⟨by rw [HK1.out.1, HRK'.out, HRB.out, HM.out, ← HZ1.out, HZE.out]; (have h := HS11.out; simp only [List.length_append, List.length_cons, List.length_nil, Nat.zero_add] at h; exact h), HXB11.out.grown grown_set (fun j hj => by cases hj; exact .inl (by have h1 := HX.out; have h2 := HBX.out; omega))⟩⟩, ?_⟩
          have h1 := HK1.out
          have h2 := HKN.out
          simp [intOf]
          omega
    · obtain rfl : k = n := by omega
      have b2 : ¬ (k : Int) < (k : Int) := by omega
      have HZF := Lib.hid (show mixK V M f0 at_ k k = rdK V M f0 at_ k by unfold mixK; rw [List.drop_of_length_le (by rw [rangeK_len HF.out.1]; omega), List.append_nil])
      have HZN := Lib.hid (HZ.out k hk)
      have HB5 := HB5
      go_wp2
      try rw [Exit.noGoto_ret]
      go_ret2
      have HR := HS.out.out
      rw [HZN.out] at HR
      exact ⟨_, rfl, RdS.isW HW.out HS.out, HS.out.kept, HS.out.sm, by rw [← HZF.out]; exact HR⟩
end Go.Proofs.Ytbebihphodafiaa.Iv

namespace Go.Proofs.Ytbebihphodafiaa.Iv
open Go.RowKit Go.Proofs.YtbebihphodafiaaW.PrintWords Go.Proofs.YtbebihphodafiaaW.PrintLast Go.Proofs.YtbebihphodafiaaW.PrintMore Go.Proofs.Ytbebihphodafiaa.PWb Go.Maps
set_option linter.unusedVariables false
set_option linter.unusedSimpArgs false

theorem sum_one (n a : Int) (k : Nat) (h0 : 0 ≤ n) (h1 : n ≤ 1099511627776) (ha : 0 ≤ a) (hk : 2 ≤ k) : scarpalike_Sum.f k n [a] = some (min 1099511627776 (n + a)) := by
  obtain ⟨k, rfl⟩ : ∃ m, k = m + 2 := ⟨k - 2, by omega⟩
  unfold scarpalike_Sum.f
  simp only [scarpalike_Sum.l0]
  have hw : wrap64 (1099511627776 - n) = 1099511627776 - n := by unfold wrap64; omega
  have hr : rd [a] 0 = a := rfl
  rw [if_pos (by simp), if_neg (by omega), if_pos (by decide), hr, hw]
  by_cases h : a > 1099511627776 - n
  · rw [if_pos h, Int.min_eq_left (by omega)]
  · rw [if_neg h]
    have h2 : wrap64 (n + a) = n + a := by unfold wrap64; omega
    have h3 : wrap64 ((0 : Int) + 1) = 1 := by unfold wrap64; omega
    rw [h2, h3, if_neg (by simp), Int.min_eq_right (by omega)]
theorem sum_two (n a b : Int) (k : Nat) (h0 : 0 ≤ n) (h1 : n ≤ 1099511627776) (ha : 0 ≤ a) (hb : 0 ≤ b) (hk : 3 ≤ k) : scarpalike_Sum.f k n [a, b] = some (min 1099511627776 (n + a + b)) := by
  obtain ⟨k, rfl⟩ : ∃ m, k = m + 3 := ⟨k - 3, by omega⟩
  unfold scarpalike_Sum.f
  simp only [scarpalike_Sum.l0]
  have hw : wrap64 (1099511627776 - n) = 1099511627776 - n := by unfold wrap64; omega
  have hr : rd [a, b] 0 = a := rfl
  rw [if_pos (by simp), if_neg (by omega), if_pos (by decide), hr, hw]
  by_cases h : a > 1099511627776 - n
  · rw [if_pos h, Int.min_eq_left (by omega)]
  · rw [if_neg h]
    have h2 : wrap64 (n + a) = n + a := by unfold wrap64; omega
    have h3 : wrap64 ((0 : Int) + 1) = 1 := by unfold wrap64; omega
    have hr2 : rd [a, b] 1 = b := rfl
    have hw2 : wrap64 (1099511627776 - (n + a)) = 1099511627776 - (n + a) := by unfold wrap64; omega
    rw [h2, h3, if_pos (by simp), if_neg (by omega), if_pos (by decide), hr2, hw2]
    by_cases h4 : b > 1099511627776 - (n + a)
    · rw [if_pos h4, Int.min_eq_left (by omega)]
    · rw [if_neg h4]
      have h5 : wrap64 (n + a + b) = n + a + b := by unfold wrap64; omega
      have h6 : wrap64 ((1 : Int) + 1) = 2 := by unfold wrap64; omega
      rw [h5, h6, if_neg (by simp), Int.min_eq_right (by omega)]
theorem puts_l0 (l : List S31) (top : Int) (hl : l.length ≤ 9223372036854775807) (d : Nat) : ∀ (k i : Nat) (n : Int), i + d = l.length → d + 3 ≤ k → 0 ≤ n → n ≤ 1099511627776 → ∃ r, scarpalike_Puts.l0 k l top n (i : Int) = some r ∧ n ≤ r ∧ r ≤ 1099511627776 := by
  induction d with
  | zero =>
    intro k i n hi hk h0 h1
    obtain ⟨k, rfl⟩ : ∃ m, k = m + 1 := ⟨k - 1, by omega⟩
    simp only [scarpalike_Puts.l0]
    rw [if_neg (by omega)]
    exact ⟨n, rfl, Int.le_refl _, h1⟩
  | succ d ih =>
    intro k i n hi hk h0 h1
    obtain ⟨k, rfl⟩ : ∃ m, k = m + 1 := ⟨k - 1, by omega⟩
    simp only [scarpalike_Puts.l0]
    rw [if_pos (by omega)]
    by_cases ht : n ≤ top
    · rw [if_pos ht, if_pos (by omega), sum_one n _ k h0 h1 (by omega) (by omega), Option.bind_some]
      have w : wrap64 ((i : Int) + 1) = ((i + 1 : Nat) : Int) := by unfold wrap64; omega
      rw [w]
      obtain ⟨r, e1, e2, e3⟩ := ih k (i + 1) (min 1099511627776 (n + ((rd_T31 l (i : Int)).f1.length : Int))) (by omega) (by omega) (by omega) (by omega)
      exact ⟨r, e1, by omega, e3⟩
    · rw [if_neg ht]
      exact ⟨n, rfl, Int.le_refl _, h1⟩
theorem puts_ex (l : List S31) (top : Int) (k : Nat) (hl : l.length ≤ 9223372036854775807) (hk : l.length + 3 ≤ k) : ∃ r, scarpalike_Puts.f k l top = some r ∧ min 1099511627776 (l.length : Int) ≤ r ∧ r ≤ 1099511627776 := by
  unfold scarpalike_Puts.f
  rw [sum_one 0 _ k (by decide) (by decide) (by omega) (by omega), Option.bind_some]
  obtain ⟨r, e1, e2, e3⟩ := puts_l0 l top hl l.length k 0 (min 1099511627776 (0 + (l.length : Int))) (by omega) (by omega) (by omega) (by omega)
  exact ⟨r, e1, by omega, e3⟩
theorem small_l0 (l : List (List S31)) (hl : l.length ≤ 9223372036854775807) (B : Nat) (hB : ∀ x ∈ l, x.length ≤ B) (hB2 : B ≤ 9223372036854775807) (d : Nat) : ∀ (k i : Nat) (n : Int), i + d = l.length → d + B + 5 ≤ k → 0 ≤ n → n ≤ 1099511627776 →
    ∃ r, scarplaw14_small.l0 k l n (i : Int) = some r ∧ (r = true → l.length ≤ 100 ∧ ∀ j, i ≤ j → (hj : j < l.length) → (l[j]).length ≤ 20000) := by
  induction d with
  | zero =>
    intro k i n hi hk h0 h1
    obtain ⟨k, rfl⟩ : ∃ m, k = m + 1 := ⟨k - 1, by omega⟩
    simp only [scarplaw14_small.l0]
    rw [if_neg (by omega)]
    exact ⟨_, rfl, fun h => ⟨by simp at h; omega, fun j hj hj2 => by omega⟩⟩
  | succ d ih =>
    intro k i n hi hk h0 h1
    obtain ⟨k, rfl⟩ : ∃ m, k = m + 1 := ⟨k - 1, by omega⟩
    simp only [scarplaw14_small.l0]
    have hil : i < l.length := by omega
    have hrd : rd_L4 l (i : Int) = l[i] := by simp [rd_L4, List.getD_eq_getElem?_getD, List.getElem?_eq_getElem hil]
    have hbl := hB l[i] (List.getElem_mem hil)
    obtain ⟨p, p1, p2, p3⟩ := puts_ex l[i] 20000 k (by omega) (by omega)
    rw [if_pos (by omega), if_pos (by omega), hrd, p1, Option.bind_some, sum_two n p 1 k h0 h1 (by omega) (by decide) (by omega), Option.bind_some]
    by_cases hb : min 1099511627776 (n + p + 1) > 20000
    · rw [if_pos hb]
      exact ⟨false, rfl, fun h => by cases h⟩
    · rw [if_neg hb]
      have w : wrap64 ((i : Int) + 1) = ((i + 1 : Nat) : Int) := by unfold wrap64; omega
      rw [w]
      obtain ⟨r, e1, e2⟩ := ih k (i + 1) (min 1099511627776 (n + p + 1)) (by omega) (by omega) (by omega) (by omega)
      refine ⟨r, e1, fun h => ⟨(e2 h).1, fun j hj hj2 => ?_⟩⟩
      rcases Nat.eq_or_lt_of_le hj with h3 | h3
      · subst h3; omega
      · exact (e2 h).2 j h3 hj2
/-- small tells something; where it says yes, the rows are short. -/
theorem small_ex (l : List (List S31)) (hl : l.length ≤ 9223372036854775807) (hB : ∀ x ∈ l, x.length ≤ 9223372036854775807) : ∃ k r, scarplaw14_small.f k l = some r ∧ (r = true → l.length ≤ 100 ∧ ∀ x ∈ l, x.length ≤ 20000) := by
  obtain ⟨r, e1, e2⟩ := small_l0 l hl 9223372036854775807 hB (Nat.le_refl _) l.length (l.length + 9223372036854775807 + 5) 0 0 (by omega) (Nat.le_refl _) (by decide) (by decide)
  refine ⟨_, r, e1, fun h => ⟨(e2 h).1, fun x hx => ?_⟩⟩
  obtain ⟨j, hj, rfl⟩ := List.getElem_of_mem hx
  exact (e2 h).2 j (Nat.zero_le _) hj
/-! ### order and parts -/
theorem rise_ext : ∀ (A B : List S31), Rise A → Rise B → (∀ p, p ∈ A ↔ p ∈ B) → A = B := by
  intro A
  induction A with
  | nil =>
    intro B _ _ h
    cases B with
    | nil => rfl
    | cons y r => have := (h y).2 (by simp); simp at this
  | cons x a ih =>
    intro B hA hB h
    cases B with
    | nil => have := (h x).1 (by simp); simp at this
    | cons y b =>
      obtain ⟨a1, a2⟩ := List.pairwise_cons.1 hA
      obtain ⟨b1, b2⟩ := List.pairwise_cons.1 hB
      have hxy : x = y := by
        rcases List.mem_cons.1 ((h x).1 (by simp)) with e | e
        · exact e
        · rcases List.mem_cons.1 ((h y).2 (by simp)) with e2 | e2
          · exact e2.symm
          · have h1 := b1 x e; have h2 := a1 y e2; omega
      subst hxy
      rw [ih b a2 b2 (fun p => ?_)]
      constructor
      · intro hp
        rcases List.mem_cons.1 ((h p).1 (by simp [hp])) with e | e
        · subst e; have := a1 p hp; omega
        · exact e
      · intro hp
        rcases List.mem_cons.1 ((h p).2 (by simp [hp])) with e | e
        · subst e; have := b1 p hp; omega
        · exact e
theorem insL_cons (M : List S31) (x : S31) (r : List S31) : insL M (x :: r) = insL (ins M x) r := rfl
theorem insL_rise : ∀ (l M : List S31), Rise M → Rise (insL M l) := by
  intro l
  induction l with
  | nil => intro M h; exact h
  | cons x r ih => intro M h; rw [insL_cons]; exact ih _ (ins_rise M x h)
theorem insL_mem : ∀ (l M : List S31), Rise M → (l.map (·.f0)).Nodup → ∀ p, p ∈ insL M l ↔ p ∈ l ∨ (p ∈ M ∧ ∀ q ∈ l, q.f0 ≠ p.f0) := by
  intro l
  induction l with
  | nil => intro M _ _ p; simp [insL]
  | cons x r ih =>
    intro M hM hn p
    obtain ⟨n1, n2⟩ := List.nodup_cons.1 hn
    have n1' : ∀ q ∈ r, q.f0 ≠ x.f0 := fun q hq e => n1 (List.mem_map.2 ⟨q, hq, e⟩)
    rw [insL_cons, ih _ (ins_rise M x hM) n2 p, ins_mem M x hM p]
    simp only [List.mem_cons]
    constructor
    · rintro (h | ⟨h | ⟨h, h2⟩, h3⟩)
      · exact .inl (.inr h)
      · exact .inl (.inl h)
      · refine .inr ⟨h, fun q hq => ?_⟩
        rcases hq with rfl | hq
        · exact fun e => h2 e.symm
        · exact h3 q hq
    · rintro ((h | h) | ⟨h, h2⟩)
      · subst h; exact .inr ⟨.inl rfl, n1'⟩
      · exact .inl h
      · exact .inr ⟨.inr ⟨h, fun e => h2 x (.inl rfl) e.symm⟩, fun q hq => h2 q (.inr hq)⟩
theorem insL_perm (M l k : List S31) (hM : Rise M) (hn : (l.map (·.f0)).Nodup) (hp : l.Perm k) : insL M l = insL M k := by
  have hn2 : (k.map (·.f0)).Nodup := (hp.map _).nodup_iff.1 hn
  refine rise_ext _ _ (insL_rise l M hM) (insL_rise k M hM) (fun p => ?_)
  rw [insL_mem l M hM hn, insL_mem k M hM hn2, hp.mem_iff]
  constructor
  · rintro (h | ⟨h, h2⟩)
    · exact .inl h
    · exact .inr ⟨h, fun q hq => h2 q (hp.mem_iff.2 hq)⟩
  · rintro (h | ⟨h, h2⟩)
    · exact .inl h
    · exact .inr ⟨h, fun q hq => h2 q (hp.mem_iff.1 hq)⟩
theorem insL_app (M a b : List S31) : insL (insL M a) b = insL M (a ++ b) := by unfold insL; rw [List.foldl_append]
theorem insL_len_le : ∀ (l M : List S31), Rise M → (insL M l).length ≤ M.length + l.length := by
  intro l
  induction l with
  | nil => intro M _; exact Nat.le_refl _
  | cons x r ih =>
    intro M h
    rw [insL_cons]
    have h1 := ih _ (ins_rise M x h)
    have h2 := ins_len M x h
    split at h2 <;> simp only [List.length_cons] <;> omega
theorem fresh_ins (M r : List S31) (x : S31) (hM : Rise M) (h : ∀ q ∈ r, q.f0 ≠ x.f0) : freshN (ins M x) r = freshN M r := by
  unfold freshN
  refine List.countP_congr (fun q hq => ?_)
  have : hasM (ins M x) q.f0 = hasM M q.f0 := by
    rw [Bool.eq_iff_iff, hasM_iff, hasM_iff]
    constructor
    · rintro ⟨p, hp, e⟩
      rcases (ins_mem M x hM p).1 hp with rfl | hp
      · exact absurd e.symm (h q hq)
      · exact ⟨p, hp.1, e⟩
    · rintro ⟨p, hp, e⟩
      exact ⟨p, (ins_mem M x hM p).2 (.inr ⟨hp, by rw [e]; exact h q hq⟩), e⟩
  rw [this]
theorem insL_len : ∀ (l M : List S31), Rise M → (l.map (·.f0)).Nodup → (insL M l).length = M.length + freshN M l := by
  intro l
  induction l with
  | nil => intro M _ _; rfl
  | cons x r ih =>
    intro M hM hn
    obtain ⟨n1, n2⟩ := List.nodup_cons.1 hn
    have n1' : ∀ q ∈ r, q.f0 ≠ x.f0 := fun q hq e => n1 (List.mem_map.2 ⟨q, hq, e⟩)
    rw [insL_cons, ih _ (ins_rise M x hM) n2, fresh_ins M r x hM n1', ins_len M x hM]
    unfold freshN
    rw [List.countP_cons]
    cases hasM M x.f0 <;> simp <;> omega
theorem wrC_zero {blocks most : Int} {M l : List S31} (h : wrC blocks most M l = 0) : l ≠ [] ∧ l.any (outB blocks) = false ∧ l.any lenB = false ∧ dupB l = false ∧ ¬ most < (M.length : Int) + (freshN M l : Int) := by
  unfold wrC at h
  by_cases h1 : l = []
  · rw [if_pos h1] at h; omega
  rw [if_neg h1] at h
  cases h2 : l.any (outB blocks) with
  | true => rw [h2, if_pos rfl] at h; omega
  | false =>
    rw [h2, if_neg (by decide)] at h
    cases h3 : l.any lenB with
    | true => rw [h3, if_pos rfl] at h; omega
    | false =>
      rw [h3, if_neg (by decide)] at h
      cases h4 : dupB l with
      | true => rw [h4, if_pos rfl] at h; omega
      | false =>
        rw [h4, if_neg (by decide)] at h
        by_cases h5 : most < (M.length : Int) + (freshN M l : Int)
        · rw [if_pos h5] at h; omega
        · exact ⟨h1, rfl, rfl, rfl, h5⟩
theorem wrC_mk {blocks most : Int} {M l : List S31} (h1 : l ≠ []) (h2 : l.any (outB blocks) = false) (h3 : l.any lenB = false) (h4 : dupB l = false) (h5 : ¬ most < (M.length : Int) + (freshN M l : Int)) : wrC blocks most M l = 0 := by
  unfold wrC
  rw [if_neg h1, h2, if_neg (by decide), h3, if_neg (by decide), h4, if_neg (by decide), if_neg h5]
theorem any_sub {p : S31 → Bool} {l k : List S31} (h : l.any p = false) (hs : ∀ x ∈ k, x ∈ l) : k.any p = false :=
  List.any_eq_false.2 (fun x hx => List.any_eq_false.1 h x (hs x hx))
theorem dup_nodup {l : List S31} (h : dupB l = false) : (l.map (·.f0)).Nodup := by simpa [dupB] using h
theorem nodup_dup {l : List S31} (h : (l.map (·.f0)).Nodup) : dupB l = false := by simpa [dupB] using h
/-- A part of what may be written at once may be written, behind another part. -/
theorem part_ok {blocks most : Int} {l a b : List S31} (h : wrC blocks most [] l = 0) {r : List S31} (hp : (a ++ b ++ r).Perm l) (hb : b ≠ []) : wrC blocks most (insL [] a) b = 0 ∧ wrM blocks most (insL [] a) b = insL [] (a ++ b) := by
  obtain ⟨h1, h2, h3, h4, h5⟩ := wrC_zero h
  have hn := dup_nodup h4
  have hn2 : ((a ++ b ++ r).map (·.f0)).Nodup := (hp.map _).nodup_iff.2 hn
  rw [List.map_append, List.map_append] at hn2
  have hnb := (List.nodup_append.1 (List.nodup_append.1 hn2).1).2.1
  have hs : ∀ x ∈ b, x ∈ l := fun x hx => hp.mem_iff.1 (by simp [hx])
  have hla := insL_len_le a [] List.Pairwise.nil
  have hfb := fresh_le (insL [] a) b
  have hlen := hp.length_eq
  rw [List.length_append, List.length_append] at hlen
  have hf : freshN [] l = l.length := by
    unfold freshN; rw [List.countP_eq_length]; intro _ _; rfl
  have hc : wrC blocks most (insL [] a) b = 0 := wrC_mk hb (any_sub h2 hs) (any_sub h3 hs) (nodup_dup hnb) (by
    rw [hf] at h5; simp at h5 hla; omega)
  exact ⟨hc, by unfold wrM; rw [hc, if_pos rfl, insL_app]⟩
set_option maxHeartbeats 8000000 in
set_option maxRecDepth 100000 in
/-- Two rows that hold the same. -/
theorem sameputs_calls (A0 A1 : Option Addr) (c0 c1 : Nat) (l : List S31) (w : World) (h0 : Kd.C k31 w A0 l.length l) (h1 : Kd.C k31 w A1 l.length l) (hl : l.length ≤ 9223372036854775807) :
    Calls Try.prog 22 #[.slice A0 l.length c0, .slice A1 l.length c1] w fun e w' => e = .returned (.bool true) ∧ RowKit.Below w.heap.size w w' := by
  have H0 := Lib.hid (fun w' (h : RowKit.Below w.heap.size w w') => Kd.C_below h0 h)
  have H1 := Lib.hid (fun w' (h : RowKit.Below w.heap.size w w') => Kd.C_below h1 h)
  clear h0 h1
  go_enter Try.func22, Try.ntmps22
  go_wp2
  go_loopw [5] (fun i wr => ∃ k : Nat, k ≤ l.length ∧ i = .int .i64 k ∧ Aside0 (RowKit.Below w.heap.size w wr)) (fun i _ => l.length - (intOf i).toNat)
  case atStart => exact ⟨0, Nat.zero_le _, rfl, ⟨Below.refl _ _⟩⟩
  case round =>
    obtain ⟨k, hk, rfl, HB⟩ := hrel
    by_cases hlt : k < l.length
    · obtain ⟨ad, A2, c2, rfl, x0, x1, _, xC⟩ := at_T31 (H0.out _ HB.out) (k : Int) (by omega) (by omega)
      obtain ⟨ae, A3, c3, rfl, y0, y1, _, yC⟩ := at_T31 (H1.out _ HB.out) (k : Int) (by omega) (by omega)
      simp only [Int.toNat_natCast] at x0 x1 y0 y1
      obtain ⟨q, hq⟩ : ∃ q, q = rd_T31 l (k : Int) := ⟨_, rfl⟩
      rw [← hq] at x0 x1 y0 y1 xC yC
      have hx := fun n => Kd.C_string (P := Try.prog) (w := wr.drewN n) (A := A2) (c := c2) Try.underlying28 Try.underlying5 Try.underlying9 xC
      have hy := fun n => Kd.C_string (P := Try.prog) (w := wr.drewN n) (A := A3) (c := c3) Try.underlying28 Try.underlying5 Try.underlying9 yC
      have hx' := Kd.C_string (P := Try.prog) (w := wr) (A := A2) (c := c2) Try.underlying28 Try.underlying5 Try.underlying9 xC
      have hy' := Kd.C_string (P := Try.prog) (w := wr) (A := A3) (c := c3) Try.underlying28 Try.underlying5 Try.underlying9 yC
      obtain ⟨st, hst⟩ : ∃ st, st = strOfNums q.f1 := ⟨_, rfl⟩
      rw [← hst] at hx hy hx' hy'
      have b1 : 0 ≤ (k : Int) := by omega
      have b2 : (k : Int) < (l.length : Int) := by omega
      have HK := Lib.hid (show k + 1 ≤ l.length by omega)
      clear hq hst xC yC
      go_wp2
      go_quiet (fail)
      clear hx hy hx' hy'
      go_wp2
      go_roundw
      case rel => exact ⟨k + 1, HK.out, by go_num, ⟨pw_below_drewN HB.out _⟩⟩
      case measure => simp [intOf]; omega
    · obtain rfl : k = l.length := by omega
      have b2 : ¬ (l.length : Int) < (l.length : Int) := by omega
      go_wp2
      try rw [Exit.noGoto_ret]
      go_ret
      exact ⟨rfl, HB.out⟩
end Go.Proofs.Ytbebihphodafiaa.Iv
