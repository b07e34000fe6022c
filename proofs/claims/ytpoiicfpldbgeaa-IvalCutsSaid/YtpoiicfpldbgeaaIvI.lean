/- Walks of what the document fixes, and of IvalNothing: nothing is no set, and takes nothing in. -/
import Derived.Test.YtpoiicfpldbgeaaProg
import Derived.Below
import Derived.Deep.Draws
import Derived.Deep.AppendLies
import Derived.Maps.AppendAt
import Derived.OwnWalk
import Derived.Laws.BytesArg
import Derived.Laws.MakeOwn
import Derived.Laws.OwnMore
import Derived.Deep.OwnRows
import Derived.Tactics
import Derived.Lib.ConvBytes
import Derived.Laws.Slices
import Derived.WalkKit
import Derived.KernelRfl
import Derived.RowKit3
import Derived.Deep.LoopGhost
import Derived.Deep.QuietTactic
import Derived.BigQuiet
import Derived.WideLaws
import Derived.Deep.DeepCutAuto
import Derived.Deep.CutBlock
import Derived.Deep.RegionHeld3
import Derived.Laws.Rows
import Derived.Lib.AppendStr
import Derived.ArgAppend
import Derived.Laws.IdiomCopy
import Derived.OrdersHeld
import Derived.Laws.BitsLemmas
import Derived.RowKit
import Derived.Test.YtpoiicfpldbgeaaWWords
import Derived.Test.YtpoiicfpldbgeaaWLast
import Derived.Test.YtpoiicfpldbgeaaWTab
import Derived.Test.YtpoiicfpldbgeaaWFour
import Derived.Test.YtpoiicfpldbgeaaWQPut
import Derived.Test.YtpoiicfpldbgeaaWApart
import Derived.Test.YtpoiicfpldbgeaaWArr
import Derived.Test.YtpoiicfpldbgeaaWZeros
import Derived.Test.YtpoiicfpldbgeaaWFoot
import Derived.Test.YtpoiicfpldbgeaaWKept
import Derived.Test.YtpoiicfpldbgeaaWShare
import Derived.Test.YtpoiicfpldbgeaaWN
import Derived.Test.YtpoiicfpldbgeaaWFootNe
import Derived.Test.YtpoiicfpldbgeaaWAt
import Derived.Test.YtpoiicfpldbgeaaWEqStruct
import Derived.Test.YtpoiicfpldbgeaaWRepsOne
import Derived.Test.YtpoiicfpldbgeaaWInv
import Derived.Test.YtpoiicfpldbgeaaWInvWords
import Derived.Test.YtpoiicfpldbgeaaWGuard
import Derived.Test.YtpoiicfpldbgeaaWNEv
import Derived.Test.YtpoiicfpldbgeaaWMore
import Derived.Outline
import Derived.Lib.Hide
import Derived.Deep.DeepMust
import Derived.Test.YtpoiicfpldbgeaaIvH
namespace Go.Proofs.Ytpoiicfpldbgeaa.Iv
open Go.RowKit Go.Proofs.YtpoiicfpldbgeaaW.PrintWords Go.Proofs.YtpoiicfpldbgeaaW.PrintLast Go.Proofs.YtpoiicfpldbgeaaW.PrintMore Go.Proofs.Ytpoiicfpldbgeaa.PIv
set_option linter.unusedVariables false
set_option linter.unusedSimpArgs false

theorem nrm_awake : nrm [⟨1, 2⟩, ⟨3, 1⟩] = [⟨1, 3⟩] := by
  refine nrm_of _ _ (by simp) ⟨List.pairwise_singleton _ _, by simp⟩ (fun x => ?_)
  simp [Cov, In]
  omega
theorem add_awake : addS 5 [] [⟨1, 2⟩, ⟨3, 1⟩] = (0, [⟨1, 3⟩]) := by
  have h : ([⟨1, 2⟩, ⟨3, 1⟩] : List S28).all mayB = true := by decide
  unfold addS
  rw [if_pos h, if_neg (by simp), List.nil_append, nrm_awake]
  rfl
theorem C_lit2 (w : World) (a0 a1 b0 b1 : Int) : Kd.C k28 (w.alloc (.cells #[.int .i64 a0, .int .i64 a1, .int .i64 b0, .int .i64 b1] 28)) (some ⟨w.heap.size, 0, none⟩) 2 [⟨a0, a1⟩, ⟨b0, b1⟩] := by
  refine C_cells _ _ [⟨a0, a1⟩, ⟨b0, b1⟩] (show 2 ≤ 9223372036854775807 by decide) (fun j hj => ?_)
  have hj2 : j < 2 := hj
  rcases Nat.lt_or_ge j 1 with h | h
  · obtain rfl : j = 0 := by omega
    exact ⟨by rw [World.cell?_alloc_at _ _ _ _ rfl]; rfl, by rw [World.cell?_alloc_at _ _ _ _ rfl]; rfl⟩
  · obtain rfl : j = 1 := by omega
    exact ⟨by rw [World.cell?_alloc_at _ _ _ _ rfl]; rfl, by rw [World.cell?_alloc_at _ _ _ _ rfl]; rfl⟩
/-- The copy of a row that holds one. -/
theorem R_one {w : World} {base : Nat} {v : Value} {x : S28} (h : Kd.R k28 28 w base (fun _ => True) v [x]) : ∃ g cap, v = .slice (some ⟨g, 0, none⟩) 1 cap ∧ w.cell? ⟨g, 0, none⟩ = some (.int .i64 x.f0) ∧ w.cell? ⟨g, 1, none⟩ = some (.int .i64 x.f1) := by
  obtain ⟨g, cap, rfl, _, _, _⟩ := Kd.R_form h (by simp)
  have := R_last (o := []) (t := x) h
  exact ⟨g, cap, rfl, by simpa using this.2.1, by simpa using this.2.2.1⟩
set_option maxHeartbeats 1000000 in
theorem awake_calls (w : World) : Calls Try.prog 8 #[] w fun e w' => e = .returned (.bool true) ∧ RowKit.Below w.heap.size w w' := by
  have hn := new_calls 5 (w.heap.size + 1) w (by omega)
  have HC := Lib.hid (C_lit2 (w.alloc (.cells #[.int .i64 5, .slice none 0 0] 41)) 1 2 3 1)
  have HA := Lib.hid add_awake
  go_enter Try.func8, Try.ntmps8
  go_wp2_with (first
    | (go_at_call 9; go_must (refine hn.mono ?_; rintro _ _ ⟨rfl, rfl, hI⟩; have HI := Lib.hid hI; clear hI))
    | (go_at_call 10; go_must (refine (add_calls (w.heap.size + 1) w.heap.size 5 [] (some ⟨w.heap.size + 1, 0, none⟩) 2 [⟨1, 2⟩, ⟨3, 1⟩] _ (HI.out.below (below_alloc (Below.refl _ _) _)) (by simpa using HC.out) (by decide) (by decide) (by simp)).mono ?_; rintro _ w1 ⟨rfl, hI1, hM1⟩; rw [HA.out] at hI1 ⊢; have HI1 := Lib.hid hI1; have HM1 := Lib.hid hM1; clear hI1 hM1))
    | (go_at_call 11; go_must (refine (extents_calls (w.heap.size + 1) w.heap.size 5 [⟨1, 3⟩] w1 HI1.out (by decide)).mono ?_; rintro _ w2 ⟨v2, rfl, hB2, hR2⟩; obtain ⟨g, cap, rfl, k0, k1⟩ := R_one hR2; have HB2 := Lib.hid hB2; clear hB2 hR2)))
  go_ret
  refine ⟨rfl, Below.trans (HM1.out.below (n0 := w.heap.size) (w0 := w) (below_alloc (below_alloc (Below.refl _ _) _) _) (Nat.le_refl _) (by simp <;> omega) (by simp <;> omega)) (HB2.out.mono ?_)⟩
  have := HM1.out.size
  simp at this
  omega
/-- What stays while nothing is taken in. -/
structure Nt (w : World) (e : S28) (W : World) : Prop where
  below : RowKit.Below w.heap.size w W
  set : IsSet W (w.heap.size + 2) (w.heap.size + 1) 0 []
  e0 : W.cell? ⟨w.heap.size, 0, none⟩ = some (.int .i64 e.f0)
  e1 : W.cell? ⟨w.heap.size, 1, none⟩ = some (.int .i64 e.f1)
  size : w.heap.size + 2 ≤ W.heap.size
theorem Nt.step {w W W' : World} {e : S28} (h : Nt w e W) (hb : RowKit.Below W.heap.size W W') : Nt w e W' :=
  ⟨below_step h.below hb, h.set.below hb, pw_cell_below hb h.e0, pw_cell_below hb h.e1, Nat.le_trans h.size hb.size⟩
theorem Nt.mv {w W W' : World} {e : S28} {o : Obj} (h : Nt w e W) (hs : IsSet W' (w.heap.size + 2) (w.heap.size + 1) 0 []) (hm : Mv (w.heap.size + 1) (W.alloc o) W') : Nt w e W' := by
  have h1 := h.step (below_alloc (Below.refl W.heap.size W) o)
  have h2 := h1.size
  exact ⟨hm.below h1.below (by omega) (by omega) (by omega), hs, hm.cell (by simp) h1.e0, hm.cell (by simp) h1.e1, Nat.le_trans h2 hm.size⟩
set_option maxHeartbeats 4000000 in
theorem nothing_calls (e : S28) (lba : Int) (w : World) : Calls Try.prog 6 #[ag e, .int .i64 lba] w fun r w' => r = .returned (.bool true) ∧ RowKit.Below w.heap.size w w' := by
  have hm := fun W => refMay_calls e W
  have RN := Lib.hid (show (if [e].all mayB = true then (if [e] = [] then 0 else 7) else 1 : Int) = if mayB e = true then 7 else 1 by simp)
  have RS := Lib.hid (show addS 0 [] [e] = (if mayB e = true then 7 else 1, []) by
    by_cases h : mayB e = true
    · have h1 := ((mayB_iff e).1 h).2.2.1
      have hn : nrm [e] = [e] := nrm_of _ _ (by simp; omega) ⟨List.pairwise_singleton _ _, by simp; omega⟩ (fun x => Iff.rfl)
      simp [addS, h, hn]
    · simp [addS, h])
  have hI : IsSet ((w.alloc (.cells #[.int .i64 e.f0, .int .i64 e.f1] 28)).alloc (.cells #[.int .i64 0, .slice none 0 0] 41)) (w.heap.size + 2) (w.heap.size + 1) 0 [] :=
    ⟨by omega, by rw [World.cell?_alloc_at _ _ _ _ (by simp)]; rfl, ⟨none, 0, by rw [World.cell?_alloc_at _ _ _ _ (by simp)]; rfl, Nat.le_refl _, Kd.C_nil _ _, by simp⟩, by rw [World.frozen?_alloc_at _ _ _ _ (by simp)], ⟨List.Pairwise.nil, by simp⟩, by simp⟩
  have H0 := Lib.hid (show Nt w e ((w.alloc (.cells #[.int .i64 e.f0, .int .i64 e.f1] 28)).alloc (.cells #[.int .i64 0, .slice none 0 0] 41)) from
    ⟨below_alloc (below_alloc (Below.refl _ _) _) _, hI, by rw [World.cell?_alloc_past _ _ _ (by simp), World.cell?_alloc_at _ _ _ _ rfl]; rfl, by rw [World.cell?_alloc_past _ _ _ (by simp), World.cell?_alloc_at _ _ _ _ rfl]; rfl, by simp⟩)
  clear hI
  have t1 : True := trivial
  have t2 : True := trivial
  show Calls Try.prog 6 #[.agg #[.int .i64 e.f0, .int .i64 e.f1], .int .i64 lba] w _
  unfold ag at hm
  cases hmay : mayB e with
  | true =>
    rw [hmay] at hm RN RS
    simp only [if_true] at RN RS
    clear hmay
    go_enter Try.func6, Try.ntmps6
    go_wp2_with (first
      | (go_at_call 17; go_must (refine (hm _).mono ?_; rintro _ w1 ⟨rfl, hB1⟩; have H1 := Lib.hid (H0.out.step hB1); have e0 := H1.out.e0; have e1 := H1.out.e1; clear hB1))
      | (go_at_call 10; have _t := t1; clear t1; go_must (refine (addNil_calls _ 1 [e] _ (C_one _ e) (show 1 ≤ 9223372036854775807 by decide)).mono ?_; rintro _ w2 ⟨rfl, hB2⟩; rw [RN.out]; have H2 := Lib.hid (H1.out.step (below_step (below_alloc (Below.refl _ _) _) hB2)); have e2 := H2.out.e0; have e3 := H2.out.e1; clear hB2 e0 e1))
      | (go_at_call 10; have _t := t2; clear t2; go_must (refine (add_calls (w.heap.size + 2) (w.heap.size + 1) 0 [] _ 1 [e] _ (H2.out.set.below (below_alloc (Below.refl _ _) _)) (C_one _ e) (Nat.le_refl 1) (show (0 + 1) * 16 ≤ 140737488355328 by decide) ?hz).mono ?_; (case hz => have := H2.out.size; simp; omega); rintro _ w3 ⟨rfl, hI3, hM3⟩; rw [RS.out] at hI3 ⊢; have H3 := Lib.hid (H2.out.mv hI3 hM3); have e4 := H3.out.e0; have e5 := H3.out.e1; clear hI3 hM3 e2 e3))
      | (go_at_call 10; go_must (refine (addNil_calls none 0 [] _ (Kd.C_nil _ _) (show 0 ≤ 9223372036854775807 by decide)).mono ?_; rintro _ w4 ⟨rfl, hB4⟩; have H4 := Lib.hid (H3.out.step hB4); have e6 := H4.out.e0; have e7 := H4.out.e1; clear hB4 e4 e5))
      | (go_at_call 15; go_must (refine (hasNil_calls lba _).mono ?_; rintro _ w5 ⟨rfl, hB5⟩; have H5 := Lib.hid (H4.out.step hB5); have e8 := H5.out.e0; have e9 := H5.out.e1; clear hB5 e6 e7))
      | (go_at_call 18; go_must (refine (meetsNil_calls e _).mono ?_; rintro _ w6 ⟨rfl, hB6⟩; have H6 := Lib.hid (H5.out.step hB6); clear hB6 e8 e9))
      | (go_at_call 16; go_must (refine (crossesNil_calls (w.heap.size + 1) _).mono ?_; rintro _ w7 ⟨rfl, hB7⟩; have H7 := Lib.hid (H6.out.step hB7); clear hB7))
      | (go_at_call 12; go_must (refine (countNil_calls _).mono ?_; rintro _ _ ⟨rfl, rfl⟩))
      | (go_at_call 11; go_must (refine (extents_calls (w.heap.size + 2) (w.heap.size + 1) 0 [] _ H7.out.set (by decide)).mono ?_; rintro _ w8 ⟨v8, rfl, hB8, hR8⟩; obtain ⟨A8, c8, hv8⟩ := Kd.R_slice hR8; subst hv8; have H8 := Lib.hid (H7.out.step hB8); clear hB8 hR8))
      | (go_at_call 8; go_must (refine (awake_calls _).mono ?_; rintro _ w9 ⟨rfl, hB9⟩; have H9 := Lib.hid (H8.out.step hB9); clear hB9)))
    go_ret
    exact ⟨rfl, H9.out.below⟩
  | false =>
    rw [hmay] at hm RN RS
    simp only [Bool.false_eq_true, if_false] at RN RS
    clear hmay
    go_enter Try.func6, Try.ntmps6
    go_wp2_with (first
      | (go_at_call 17; go_must (refine (hm _).mono ?_; rintro _ w1 ⟨rfl, hB1⟩; have H1 := Lib.hid (H0.out.step hB1); have e0 := H1.out.e0; have e1 := H1.out.e1; clear hB1))
      | (go_at_call 10; have _t := t1; clear t1; go_must (refine (addNil_calls _ 1 [e] _ (C_one _ e) (show 1 ≤ 9223372036854775807 by decide)).mono ?_; rintro _ w2 ⟨rfl, hB2⟩; rw [RN.out]; have H2 := Lib.hid (H1.out.step (below_step (below_alloc (Below.refl _ _) _) hB2)); have e2 := H2.out.e0; have e3 := H2.out.e1; clear hB2 e0 e1))
      | (go_at_call 10; have _t := t2; clear t2; go_must (refine (add_calls (w.heap.size + 2) (w.heap.size + 1) 0 [] _ 1 [e] _ (H2.out.set.below (below_alloc (Below.refl _ _) _)) (C_one _ e) (Nat.le_refl 1) (show (0 + 1) * 16 ≤ 140737488355328 by decide) ?hz).mono ?_; (case hz => have := H2.out.size; simp; omega); rintro _ w3 ⟨rfl, hI3, hM3⟩; rw [RS.out] at hI3 ⊢; have H3 := Lib.hid (H2.out.mv hI3 hM3); have e4 := H3.out.e0; have e5 := H3.out.e1; clear hI3 hM3 e2 e3))
      | (go_at_call 10; go_must (refine (addNil_calls none 0 [] _ (Kd.C_nil _ _) (show 0 ≤ 9223372036854775807 by decide)).mono ?_; rintro _ w4 ⟨rfl, hB4⟩; have H4 := Lib.hid (H3.out.step hB4); have e6 := H4.out.e0; have e7 := H4.out.e1; clear hB4 e4 e5))
      | (go_at_call 15; go_must (refine (hasNil_calls lba _).mono ?_; rintro _ w5 ⟨rfl, hB5⟩; have H5 := Lib.hid (H4.out.step hB5); have e8 := H5.out.e0; have e9 := H5.out.e1; clear hB5 e6 e7))
      | (go_at_call 18; go_must (refine (meetsNil_calls e _).mono ?_; rintro _ w6 ⟨rfl, hB6⟩; have H6 := Lib.hid (H5.out.step hB6); clear hB6 e8 e9))
      | (go_at_call 16; go_must (refine (crossesNil_calls (w.heap.size + 1) _).mono ?_; rintro _ w7 ⟨rfl, hB7⟩; have H7 := Lib.hid (H6.out.step hB7); clear hB7))
      | (go_at_call 12; go_must (refine (countNil_calls _).mono ?_; rintro _ _ ⟨rfl, rfl⟩))
      | (go_at_call 11; go_must (refine (extents_calls (w.heap.size + 2) (w.heap.size + 1) 0 [] _ H7.out.set (by decide)).mono ?_; rintro _ w8 ⟨v8, rfl, hB8, hR8⟩; obtain ⟨A8, c8, hv8⟩ := Kd.R_slice hR8; subst hv8; have H8 := Lib.hid (H7.out.step hB8); clear hB8 hR8))
      | (go_at_call 8; go_must (refine (awake_calls _).mono ?_; rintro _ w9 ⟨rfl, hB9⟩; have H9 := Lib.hid (H8.out.step hB9); clear hB9)))
    go_ret
    exact ⟨rfl, H9.out.below⟩
end Go.Proofs.Ytpoiicfpldbgeaa.Iv
