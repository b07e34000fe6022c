/- The walk of IvalRoom: a set may have so many extents, and not one more; one that joins others makes room. -/
import Derived.Test.YtpoiicfpldbgeaaProg
import Derived.Below
import Derived.Deep.Draws
import Derived.Deep.AppendLies
import Derived.Maps.AppendAt
import Derived.OwnWalk
import Derived.Laws.BytesArg
import Derived.Laws.MakeOwn
import Derived.Laws.OwnMore
import Derived.Deep.OwnRows
import Derived.Tactics
import Derived.Lib.ConvBytes
import Derived.Laws.Slices
import Derived.WalkKit
import Derived.KernelRfl
import Derived.RowKit3
import Derived.Deep.LoopGhost
import Derived.Deep.QuietTactic
import Derived.BigQuiet
import Derived.WideLaws
import Derived.Deep.DeepCutAuto
import Derived.Deep.CutBlock
import Derived.Deep.RegionHeld3
import Derived.Laws.Rows
import Derived.Lib.AppendStr
import Derived.ArgAppend
import Derived.Laws.IdiomCopy
import Derived.OrdersHeld
import Derived.Laws.BitsLemmas
import Derived.RowKit
import Derived.Test.YtpoiicfpldbgeaaWWords
import Derived.Test.YtpoiicfpldbgeaaWLast
import Derived.Test.YtpoiicfpldbgeaaWTab
import Derived.Test.YtpoiicfpldbgeaaWFour
import Derived.Test.YtpoiicfpldbgeaaWQPut
import Derived.Test.YtpoiicfpldbgeaaWApart
import Derived.Test.YtpoiicfpldbgeaaWArr
import Derived.Test.YtpoiicfpldbgeaaWZeros
import Derived.Test.YtpoiicfpldbgeaaWFoot
import Derived.Test.YtpoiicfpldbgeaaWKept
import Derived.Test.YtpoiicfpldbgeaaWShare
import Derived.Test.YtpoiicfpldbgeaaWN
import Derived.Test.YtpoiicfpldbgeaaWFootNe
import Derived.Test.YtpoiicfpldbgeaaWAt
import Derived.Test.YtpoiicfpldbgeaaWEqStruct
import Derived.Test.YtpoiicfpldbgeaaWRepsOne
import Derived.Test.YtpoiicfpldbgeaaWInv
import Derived.Test.YtpoiicfpldbgeaaWInvWords
import Derived.Test.YtpoiicfpldbgeaaWGuard
import Derived.Test.YtpoiicfpldbgeaaWNEv
import Derived.Test.YtpoiicfpldbgeaaWMore
import Derived.Outline
import Derived.Lib.Hide
import Derived.Deep.DeepMust
import Derived.Test.YtpoiicfpldbgeaaIvI
import Derived.Test.YtpoiicfpldbgeaaIvQ
namespace Go.Proofs.Ytpoiicfpldbgeaa.Iv
open Go.RowKit Go.Proofs.YtpoiicfpldbgeaaW.PrintWords Go.Proofs.YtpoiicfpldbgeaaW.PrintLast Go.Proofs.YtpoiicfpldbgeaaW.PrintMore Go.Proofs.Ytpoiicfpldbgeaa.PIv
set_option linter.unusedVariables false
set_option linter.unusedSimpArgs false

attribute [local go_sem] max2_int min2_int   -- for this text's walks alone
/-- What stands while the set is filled. -/
structure Fl (w : World) (M : Int) (L : List S28) (W : World) : Prop where
  below : RowKit.Below w.heap.size w W
  set : IsSet W (w.heap.size + 1) w.heap.size M L
  size : w.heap.size + 1 ≤ W.heap.size
theorem Fl.step {w W W' : World} {M : Int} {L : List S28} (h : Fl w M L W) (hb : RowKit.Below W.heap.size W W') : Fl w M L W' :=
  ⟨below_step h.below hb, h.set.below hb, Nat.le_trans h.size hb.size⟩
theorem Fl.mv {w W W' : World} {M : Int} {L L' : List S28} {o : Obj} (h : Fl w M L W) (hs : IsSet W' (w.heap.size + 1) w.heap.size M L') (hm : Mv w.heap.size (W.alloc o) W') : Fl w M L' W' := by
  have h1 := h.step (below_alloc (Below.refl W.heap.size W) o)
  have h2 := h1.size
  exact ⟨hm.below h1.below (Nat.le_refl _) (by omega) (by omega), hs, Nat.le_trans h2 hm.size⟩
set_option maxHeartbeats 4000000 in
set_option maxRecDepth 100000 in
theorem room_calls (most n : Int) (w : World) : Calls Try.prog 3 #[.int .i64 most, .int .i64 n] w fun r w' => r = .returned (.bool true) ∧ RowKit.Below w.heap.size w w' := by
  by_cases c1 : most < 0
  · have d1 : decide (most < 0) = true := by simpa using c1
    go_enter Try.func3, Try.ntmps3
    go_wp2_with (go_at_call 8; go_must (refine (awake_calls _).mono ?_; rintro _ w1 ⟨rfl, hB1⟩))
    go_ret
    exact ⟨rfl, hB1⟩
  have d1 : decide (most < 0) = false := by simpa using c1
  by_cases c2 : 40 < most
  · have d2 : decide (40 < most) = true := by simpa using c2
    go_enter Try.func3, Try.ntmps3
    go_wp2_with (go_at_call 8; go_must (refine (awake_calls _).mono ?_; rintro _ w1 ⟨rfl, hB1⟩))
    go_ret
    exact ⟨rfl, hB1⟩
  have d2 : decide (40 < most) = false := by simpa using c2
  by_cases c3 : n < 0
  · have d3 : decide (n < 0) = true := by simpa using c3
    go_enter Try.func3, Try.ntmps3
    go_wp2_with (go_at_call 8; go_must (refine (awake_calls _).mono ?_; rintro _ w1 ⟨rfl, hB1⟩))
    go_ret
    exact ⟨rfl, hB1⟩
  have d3 : decide (n < 0) = false := by simpa using c3
  by_cases c4 : 60 < n
  · have d4 : decide (60 < n) = true := by simpa using c4
    go_enter Try.func3, Try.ntmps3
    go_wp2_with (go_at_call 8; go_must (refine (awake_calls _).mono ?_; rintro _ w1 ⟨rfl, hB1⟩))
    go_ret
    exact ⟨rfl, hB1⟩
  have d4 : decide (60 < n) = false := by simpa using c4
  obtain ⟨M, rfl⟩ : ∃ M : Nat, most = M := ⟨most.toNat, by omega⟩
  obtain ⟨K, rfl⟩ : ∃ K : Nat, n = K := ⟨n.toNat, by omega⟩
  have hM : M ≤ 40 := by omega
  have hK : K ≤ 60 := by omega
  clear c1 c2 c3 c4
  have hn := new_calls M (w.heap.size + 1) w (by omega)
  go_enter Try.func3, Try.ntmps3
  go_wp2_with (go_at_call 9; go_must (refine hn.mono ?_; rintro _ _ ⟨rfl, rfl, hI⟩; have H0 := Lib.hid (show Fl w M [] _ from ⟨below_alloc (Below.refl _ _) _, hI, by simp⟩); clear hI))
  clear hn d1 d2 d3 d4
  go_loopw [6, 7] (fun i _ wr => ∃ k : Nat, k ≤ K ∧ i = .int .i64 k ∧ Aside0 (Fl w M (rowR (min k M)) wr)) (fun i _ _ => K - (intOf i).toNat)
  case atStart => exact ⟨0, Nat.zero_le _, rfl, ⟨by rw [Nat.zero_min]; exact H0.out⟩⟩
  case round =>
    clear H0
    obtain ⟨k, hk, rfl, HF⟩ := hrel
    by_cases hlt : k < K
    · have b2 : (k : Int) < (K : Int) := by omega
      have ww : wrap64 (2 * (k : Int)) = 2 * (k : Int) := by unfold wrap64; omega
      by_cases hkm : k < M
      · have d5 : decide ((k : Int) < (M : Int)) = true := by simpa using hkm
        have HA := Lib.hid (room_in M k hkm (by omega))
        have e1 : min k M = k := by omega
        have HE := Lib.hid (show min (k + 1) M = k + 1 by omega)
        rw [e1] at HF
        clear e1
        go_wp2_with (go_at_call 10; go_must (refine (add_calls (w.heap.size + 1) w.heap.size M (rowR k) _ 1 [⟨2 * (k : Int), 1⟩] _ (HF.out.set.below (below_alloc (Below.refl _ _) _)) (C_one _ ⟨2 * (k : Int), 1⟩) (Nat.le_refl 1) (by rw [rowR_len]; simp; omega) ?hz).mono ?_; (case hz => have := HF.out.size; simp; omega); rintro _ w3 ⟨rfl, hI3, hM3⟩; rw [HA.out] at hI3 ⊢; have HF3 := Lib.hid (HF.out.mv hI3 hM3); clear hI3 hM3))
        go_roundw
        case rel => exact ⟨k + 1, by omega, by go_num, ⟨by rw [HE.out]; exact HF3.out⟩⟩
        case measure => simp [intOf]; omega
      · have d5 : decide ((k : Int) < (M : Int)) = false := by simpa using hkm
        have HA := Lib.hid (room_out M k (by omega) (by omega))
        have e1 : min k M = M := by omega
        have HE := Lib.hid (show min (k + 1) M = M by omega)
        rw [e1] at HF
        clear e1
        go_wp2_with (go_at_call 10; go_must (refine (add_calls (w.heap.size + 1) w.heap.size M (rowR M) _ 1 [⟨2 * (k : Int), 1⟩] _ (HF.out.set.below (below_alloc (Below.refl _ _) _)) (C_one _ ⟨2 * (k : Int), 1⟩) (Nat.le_refl 1) (by rw [rowR_len]; simp; omega) ?hz).mono ?_; (case hz => have := HF.out.size; simp; omega); rintro _ w3 ⟨rfl, hI3, hM3⟩; rw [HA.out] at hI3 ⊢; have HF3 := Lib.hid (HF.out.mv hI3 hM3); clear hI3 hM3))
        go_roundw
        case rel => exact ⟨k + 1, by omega, by go_num, ⟨by rw [HE.out]; exact HF3.out⟩⟩
        case measure => simp [intOf]; omega
    · obtain rfl : k = K := by omega
      have b2 : ¬ (k : Int) < (k : Int) := by omega
      obtain ⟨m, hm⟩ : ∃ m, m = min k M := ⟨_, rfl⟩
      rw [← hm] at HF
      have hmi : min (k : Int) (M : Int) = (m : Int) := by omega
      have hmk : m ≤ M := by omega
      have hm60 : m ≤ 60 := by omega
      have hll := rowR_len m
      have HSM := Lib.hid (rowR_sum m)
      clear hm
      have t1 : True := trivial
      have t2 : True := trivial
      by_cases h0 : m = 0
      · subst h0
        go_wp2_with (first
          | (go_at_call 11; go_must (refine (extents_calls (w.heap.size + 1) w.heap.size M (rowR 0) _ HF.out.set (by decide)).mono ?_; rintro _ w4 ⟨v4, rfl, hB4, hR4⟩; obtain ⟨A4, c4, hv4⟩ := Kd.R_slice hR4; subst hv4; have H4 := Lib.hid (HF.out.step hB4); clear hB4 hR4))
          | (go_at_call 12; go_must (refine (count_calls (w.heap.size + 1) w.heap.size M (rowR 0) _ H4.out.set (by decide)).mono ?_; rintro _ w5 ⟨rfl, hB5⟩; rw [HSM.out]; have H5 := Lib.hid (H4.out.step hB5); clear hB5))
          | (go_at_call 8; go_must (refine (awake_calls _).mono ?_; rintro _ w6 ⟨rfl, hB6⟩)))
        try rw [Exit.noGoto_ret]
        go_ret
        exact ⟨rfl, below_step H5.out.below hB6⟩
      · have h0' : ¬ ((m : Int) = 0) := by omega
        have d6 : decide ((m : Int) = 0) = false := by simpa using h0
        have ww : wrap64 (2 * (m : Int)) = 2 * (m : Int) := by unfold wrap64; omega
        have HJ := Lib.hid (room_join M m (by omega) hmk hm60)
        go_wp2_with (first
          | (go_at_call 11; have _t := t1; clear t1; go_must (refine (extents_calls (w.heap.size + 1) w.heap.size M (rowR m) _ HF.out.set (by rw [rowR_len]; omega)).mono ?_; rintro _ w4 ⟨v4, rfl, hB4, hR4⟩; obtain ⟨A4, c4, hv4⟩ := Kd.R_slice hR4; subst hv4; have H4 := Lib.hid (HF.out.step hB4); clear hB4 hR4))
          | (go_at_call 12; have _t := t2; clear t2; go_must (refine (count_calls (w.heap.size + 1) w.heap.size M (rowR m) _ H4.out.set (by rw [rowR_len]; omega)).mono ?_; rintro _ w5 ⟨rfl, hB5⟩; rw [HSM.out]; have H5 := Lib.hid (H4.out.step hB5); clear hB5))
          | (go_at_call 10; go_must (refine (add_calls (w.heap.size + 1) w.heap.size M (rowR m) _ 1 [⟨0, 2 * (m : Int)⟩] _ (H5.out.set.below (below_alloc (Below.refl _ _) _)) (C_one _ ⟨0, 2 * (m : Int)⟩) (Nat.le_refl 1) (by rw [rowR_len]; simp; omega) ?hz).mono ?_; (case hz => have := H5.out.size; simp; omega); rintro _ w6 ⟨rfl, hI6, hM6⟩; rw [HJ.out] at hI6 ⊢; have H6 := Lib.hid (H5.out.mv hI6 hM6); clear hI6 hM6))
          | (go_at_call 11; go_must (refine (extents_calls (w.heap.size + 1) w.heap.size M [⟨0, 2 * (m : Int)⟩] _ H6.out.set (by simp)).mono ?_; rintro _ w7 ⟨v7, rfl, hB7, hR7⟩; obtain ⟨A7, c7, hv7⟩ := Kd.R_slice hR7; subst hv7; have H7 := Lib.hid (H6.out.step hB7); clear hB7 hR7))
          | (go_at_call 12; go_must (refine (count_calls (w.heap.size + 1) w.heap.size M [⟨0, 2 * (m : Int)⟩] _ H7.out.set (by simp)).mono ?_; rintro _ w8 ⟨rfl, hB8⟩; rw [show sumS [(⟨0, 2 * (m : Int)⟩ : S28)] = 2 * (m : Int) by simp [sumS]]; have H8 := Lib.hid (H7.out.step hB8); clear hB8))
          | (go_at_call 8; go_must (refine (awake_calls _).mono ?_; rintro _ w9 ⟨rfl, hB9⟩)))
        try rw [Exit.noGoto_ret]
        go_ret
        exact ⟨rfl, below_step H8.out.below hB9⟩
end Go.Proofs.Ytpoiicfpldbgeaa.Iv
