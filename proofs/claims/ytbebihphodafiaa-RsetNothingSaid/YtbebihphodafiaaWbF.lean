/- Walks of the statements' own bytes, and of what the document fixes of a buffer. -/
import Derived.Test.YtbebihphodafiaaProg
import Derived.Below
import Derived.Deep.Draws
import Derived.Deep.AppendLies
import Derived.Maps.AppendAt
import Derived.OwnWalk
import Derived.Laws.BytesArg
import Derived.Laws.MakeOwn
import Derived.Laws.OwnMore
import Derived.Deep.OwnRows
import Derived.Tactics
import Derived.Lib.ConvBytes
import Derived.Laws.Slices
import Derived.WalkKit
import Derived.KernelRfl
import Derived.RowKit3
import Derived.Deep.LoopGhost
import Derived.Deep.QuietTactic
import Derived.BigQuiet
import Derived.WideLaws
import Derived.Deep.DeepCutAuto
import Derived.Deep.CutBlock
import Derived.Deep.RegionHeld3
import Derived.Laws.Rows
import Derived.Lib.AppendStr
import Derived.ArgAppend
import Derived.Laws.IdiomCopy
import Derived.OrdersHeld
import Derived.Laws.BitsLemmas
import Derived.RowKit
import Derived.Test.YtbebihphodafiaaWWords
import Derived.Test.YtbebihphodafiaaWLast
import Derived.Test.YtbebihphodafiaaWTab
import Derived.Test.YtbebihphodafiaaWFour
import Derived.Test.YtbebihphodafiaaWQPut
import Derived.Test.YtbebihphodafiaaWApart
import Derived.Test.YtbebihphodafiaaWArr
import Derived.Test.YtbebihphodafiaaWZeros
import Derived.Test.YtbebihphodafiaaWFoot
import Derived.Test.YtbebihphodafiaaWKept
import Derived.Test.YtbebihphodafiaaWShare
import Derived.Test.YtbebihphodafiaaWN
import Derived.Test.YtbebihphodafiaaWFootNe
import Derived.Test.YtbebihphodafiaaWAt
import Derived.Test.YtbebihphodafiaaWEqStruct
import Derived.Test.YtbebihphodafiaaWRepsOne
import Derived.Test.YtbebihphodafiaaWInv
import Derived.Test.YtbebihphodafiaaWInvWords
import Derived.Test.YtbebihphodafiaaWGuard
import Derived.Test.YtbebihphodafiaaWNEv
import Derived.Test.YtbebihphodafiaaWMore
import Derived.Outline
import Derived.Lib.Hide
import Derived.Deep.DeepMust
import Derived.IntWalk
import Derived.Test.YtbebihphodafiaaWbE
import Derived.Test.YtbebihphodafiaaPWbx2
namespace Go.Proofs.Ytbebihphodafiaa.Iv
open Go.RowKit Go.Proofs.YtbebihphodafiaaW.PrintWords Go.Proofs.YtbebihphodafiaaW.PrintLast Go.Proofs.YtbebihphodafiaaW.PrintMore Go.Proofs.Ytbebihphodafiaa.PWb Go.Maps
set_option linter.unusedVariables false
set_option linter.unusedSimpArgs false

theorem round251 (a : Int) : ∃ r, scarpalike_Round.f a 251 = some r := by
  unfold scarpalike_Round.f
  rw [if_neg (by decide)]
  split <;> exact ⟨_, rfl⟩
theorem block_l0 (x1 : Int) (d : Nat) : ∀ (k : Nat) (l : List Int) (i : Nat), i + d = l.length → d + 1 ≤ k → l.length ≤ 1000000 → ∃ r, scarpalike_Block.l0 k x1 l (i : Int) = some r ∧ r.length = l.length := by
  induction d with
  | zero =>
    intro k l i hi hk hl
    obtain ⟨k, rfl⟩ : ∃ m, k = m + 1 := ⟨k - 1, by omega⟩
    simp only [scarpalike_Block.l0]
    rw [if_neg (by omega)]
    exact ⟨_, rfl, rfl⟩
  | succ d ih =>
    intro k l i hi hk hl
    obtain ⟨k, rfl⟩ : ∃ m, k = m + 1 := ⟨k - 1, by omega⟩
    simp only [scarpalike_Block.l0]
    rw [if_pos (by omega)]
    obtain ⟨t, ht⟩ := round251 (wrap64 ((wrap64 ((wrap64 ((i : Int) * i)) + (wrap64 (x1 * 7)))) + 1))
    rw [ht, Option.bind_some, if_pos (by omega)]
    have w : wrap64 ((i : Int) + 1) = ((i + 1 : Nat) : Int) := by unfold wrap64; omega
    rw [w]
    obtain ⟨r, h1, h2⟩ := ih k (l.set ((i : Int).toNat) (t % 256)) (i + 1) (by rw [List.length_set]; omega) (by omega) (by rw [List.length_set]; exact hl)
    exact ⟨r, h1, by rw [h2, List.length_set]⟩
theorem block_ok (n : Nat) (x : Int) (hn : n ≤ 1000000) : ∃ r, scarpalike_Block.f (n + 1) n x = some r ∧ r.length = n := by
  unfold scarpalike_Block.f
  have hm : mx (n : Int) 0 = n := by unfold mx; omega
  rw [hm, if_pos (by omega), if_pos (by omega)]
  obtain ⟨r, h1, h2⟩ := block_l0 x n (n + 1) (List.replicate (n : Int).toNat 0) 0 (by simp) (by omega) (by simp; omega)
  exact ⟨r, h1, by rw [h2]; simp⟩
/-- The bytes that hang on a number. -/
theorem data_ex (x : Int) : ∃ r, scarpalike_Data.f 41 x = some r ∧ r.length = 40 := by
  obtain ⟨r, h1, h2⟩ := block_ok 40 x (by decide)
  refine ⟨r, ?_, h2⟩
  unfold scarpalike_Data.f
  rw [show ((40 : Nat) : Int) = 40 from rfl] at h1
  rw [h1]; rfl
noncomputable def dat (x : Int) : List Int := Classical.choose (data_ex x)
theorem dat_f (x : Int) : scarpalike_Data.f 41 x = some (dat x) := (Classical.choose_spec (data_ex x)).1
theorem dat_len (x : Int) : (dat x).length = 40 := (Classical.choose_spec (data_ex x)).2
theorem data_calls (x : Int) (w : World) : Calls Try.prog 15 #[.int .i64 x] w fun e w' => ∃ v : Value, e = .returned v ∧ Kd.R kb 5 w' w.heap.size (fun _ => True) v (dat x) ∧ Below w.heap.size w w' :=
  scarpalike_Data.calls 41 x (dat x) w (dat_f x)
theorem C31_cells (w : World) (g : Nat) (l : List S31) (hl : l.length ≤ 9223372036854775807)
    (h : ∀ j, (hj : j < l.length) → ∃ A c, w.cell? ⟨g, j * 2, none⟩ = some (.int .i64 l[j].f0) ∧ w.cell? ⟨g, j * 2 + 1, none⟩ = some (.slice A l[j].f1.length c) ∧ l[j].f1.length ≤ c ∧ Kd.C kb w A l[j].f1.length l[j].f1) : Kd.C k31 w (some ⟨g, 0, none⟩) l.length l := by
  refine ⟨rfl, hl, fun _ => ⟨_, rfl, fun j p hj => ?_⟩⟩
  obtain ⟨hj', he⟩ := List.getElem?_eq_some_iff.1 hj
  obtain ⟨A, c, h0, h1, h2, h3⟩ := h j hj'
  subst he
  refine ⟨_, rfl, k31_mk w _ h2 h3, fun i u hu => ?_⟩
  rw [add_plain]
  match i, hu with
  | 0, hu => cases hu; have hs : k31.sz = 2 := rfl; simpa [hs] using h0
  | 1, hu => cases hu; have hs : k31.sz = 2 := rfl; simpa [hs] using h1
theorem C31_one (w : World) (n : Nat) (a c : Int) (A : Option Addr) (m : Nat) (d : List Int) (hn : n = w.heap.size) (hm : d.length ≤ m) (hC : Kd.C kb w A d.length d) :
    Kd.C k31 (w.alloc (.cells #[.int .i64 a, .slice A d.length m] 31)) (some ⟨n, 0, none⟩) 1 [⟨a, d⟩] := by
  subst hn
  refine C31_cells _ _ [⟨a, d⟩] (by simp) (fun j hj => ?_)
  obtain rfl : j = 0 := by simp at hj; exact hj
  exact ⟨A, m, by rw [World.cell?_alloc_at _ _ _ _ rfl]; rfl, by rw [World.cell?_alloc_at _ _ _ _ rfl]; rfl, hm, Kd.C_alloc hC _⟩
theorem C31_two (w : World) (n : Nat) (a b : Int) (A B : Option Addr) (m k : Nat) (d e : List Int) (hn : n = w.heap.size) (hm : d.length ≤ m) (hk : e.length ≤ k) (hC : Kd.C kb w A d.length d) (hD : Kd.C kb w B e.length e) :
    Kd.C k31 (w.alloc (.cells #[.int .i64 a, .slice A d.length m, .int .i64 b, .slice B e.length k] 31)) (some ⟨n, 0, none⟩) 2 [⟨a, d⟩, ⟨b, e⟩] := by
  subst hn
  refine C31_cells _ _ [⟨a, d⟩, ⟨b, e⟩] (by simp) (fun j hj => ?_)
  match j, hj with
  | 0, _ => exact ⟨A, m, by rw [World.cell?_alloc_at _ _ _ _ rfl]; rfl, by rw [World.cell?_alloc_at _ _ _ _ rfl]; rfl, hm, Kd.C_alloc hC _⟩
  | 1, _ => exact ⟨B, k, by rw [World.cell?_alloc_at _ _ _ _ rfl]; rfl, by rw [World.cell?_alloc_at _ _ _ _ rfl]; rfl, hk, Kd.C_alloc hD _⟩
/-- A buffer that the call made. -/
structure JB (w : World) (fr mb : Nat) (blocks most : Int) (M : List S31) (W : World) : Prop where
  below : RowKit.Below w.heap.size w W
  ge : w.heap.size ≤ mb
  b : IsBuf W fr mb blocks most M
  size : fr ≤ W.heap.size
section
variable {w W W' : World} {fr mb : Nat} {blocks most : Int} {M M' : List S31}
theorem JB.step (h : JB w fr mb blocks most M W) (hb : RowKit.Below W.heap.size W W') : JB w fr mb blocks most M W' :=
  ⟨below_step h.below hb, h.ge, h.b.below hb, Nat.le_trans h.size hb.size⟩
theorem JB.wr (h : JB w fr mb blocks most M W) (hI : IsBuf W' fr mb blocks most M') (hg : W.grownBy W' (some mb)) : JB w fr mb blocks most M' W' := by
  have h1 := h.ge; have h2 := h.b.lt; have h3 := h.size
  exact ⟨h.below.grown hg (by omega) (fun k hk => by cases hk; exact h1), h1, hI, Nat.le_trans h3 hg.size⟩
theorem JB.row (h : JB w fr mb blocks most M W) (hg : W.grownBy W' (some mb)) {A : Option Addr} {n : Nat} {l : List Int} (hC : Kd.C kb W A n l) : Kd.C kb W' A n l := Cb_map hC hg h.b.isMap
end
theorem wr_dup (d : List Int) (hd : d.length = 40) : wrC 10 16 [] [⟨3, d⟩, ⟨3, d⟩] = 4 := by simp [wrC, outB, lenB, dupB, hd]
theorem wr_one (d : List Int) (hd : d.length = 40) : wrC 10 16 [] [⟨3, d⟩] = 0 := by simp [wrC, outB, lenB, dupB, hd, freshN, hasM]
set_option maxHeartbeats 4000000 in
set_option maxRecDepth 100000 in
theorem awakeB_calls (w : World) : Calls Try.prog 13 #[] w fun e w' => e = .returned (.bool true) ∧ RowKit.Below w.heap.size w w' := by
  have t1 : True := trivial
  have HE4 := Lib.hid (wr_dup (dat 1) (dat_len 1))
  have HM4 := Lib.hid (show wrM 10 16 [] [⟨3, dat 1⟩, ⟨3, dat 1⟩] = [] by unfold wrM; rw [wr_dup _ (dat_len 1)]; rfl)
  have HE0 := Lib.hid (wr_one (dat 1) (dat_len 1))
  have HM0 := Lib.hid (show wrM 10 16 [] [⟨3, dat 1⟩] = [⟨3, dat 1⟩] by unfold wrM; rw [wr_one _ (dat_len 1)]; rfl)
  have HDL := Lib.hid (dat_len 1)
  go_enter Try.func13, Try.ntmps13
  go_wp2_with (first
    | (go_at_call 14; go_must (refine (newB_calls 10 16 (w.heap.size + 2) w.heap.size w ⟨by decide, by decide, by decide⟩ rfl (by omega)).mono ?_; rintro _ w1 ⟨rfl, hB1, hI1, hS1⟩; have H1 := Lib.hid (show JB w (w.heap.size + 2) w.heap.size 10 16 [] w1 from ⟨hB1, Nat.le_refl _, hI1, by omega⟩); clear hB1 hI1 hS1))
    | (go_at_call 15; go_must (refine (data_calls 1 _).mono ?_; rintro _ w2 ⟨v2, rfl, hR2, hB2⟩; obtain ⟨A2, c2, hv2, hc2, hC2⟩ := Kd.R_reads hR2; subst hv2; have H2 := Lib.hid (H1.out.step hB2); have D2 := Lib.hid hC2; have L2 := Lib.hid hc2; clear hR2 hB2 hC2 hc2))
    | (go_at_call 17; have _t := t1; clear t1; go_must (refine (write_calls (w.heap.size + 2) w.heap.size 10 16 [] _ 2 [⟨3, dat 1⟩, ⟨3, dat 1⟩] _ (H2.out.step (below_alloc (Below.refl _ _) _)).b (C31_two _ _ 3 3 A2 A2 c2 c2 (dat 1) (dat 1) rfl L2.out L2.out D2.out D2.out) (by decide) (H2.out.step (below_alloc (Below.refl _ _) _)).size).mono ?_; rintro _ w3 ⟨rfl, hI3, hg3⟩; rw [HE4.out, HM4.out] at *; have H3 := Lib.hid ((H2.out.step (below_alloc (Below.refl _ _) _)).wr hI3 hg3); have D3 := Lib.hid ((H2.out.step (below_alloc (Below.refl _ _) _)).row hg3 (Kd.C_alloc D2.out _)); clear hI3 hg3))
    | (go_at_call 17; go_must (refine (write_calls (w.heap.size + 2) w.heap.size 10 16 [] _ 1 [⟨3, dat 1⟩] _ (H3.out.step (below_alloc (Below.refl _ _) _)).b (C31_one _ _ 3 0 A2 c2 (dat 1) rfl L2.out D3.out) (by decide) (H3.out.step (below_alloc (Below.refl _ _) _)).size).mono ?_; rintro _ w4 ⟨rfl, hI4, hg4⟩; rw [HE0.out, HM0.out] at *; have H4 := Lib.hid ((H3.out.step (below_alloc (Below.refl _ _) _)).wr hI4 hg4); clear hI4 hg4))
    | (go_at_call 18; go_must (refine (len_calls (w.heap.size + 2) w.heap.size 10 16 [⟨3, dat 1⟩] _ H4.out.b).mono ?_; rintro _ w5 ⟨rfl, hB5⟩; have H5 := Lib.hid (H4.out.step hB5); clear hB5)))
  go_ret
  exact ⟨rfl, H5.out.below⟩
end Go.Proofs.Ytbebihphodafiaa.Iv
