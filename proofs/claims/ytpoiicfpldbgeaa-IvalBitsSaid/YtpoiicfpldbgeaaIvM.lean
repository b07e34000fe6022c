/- The walk of IvalBits: a set has just the blocks that were added, in whatever order and pieces; its extents do not touch. -/
import Derived.Test.YtpoiicfpldbgeaaProg
import Derived.Below
import Derived.Deep.Draws
import Derived.Deep.AppendLies
import Derived.Maps.AppendAt
import Derived.OwnWalk
import Derived.Laws.BytesArg
import Derived.Laws.MakeOwn
import Derived.Laws.OwnMore
import Derived.Deep.OwnRows
import Derived.Tactics
import Derived.Lib.ConvBytes
import Derived.Laws.Slices
import Derived.WalkKit
import Derived.KernelRfl
import Derived.RowKit3
import Derived.Deep.LoopGhost
import Derived.Deep.QuietTactic
import Derived.BigQuiet
import Derived.WideLaws
import Derived.Deep.DeepCutAuto
import Derived.Deep.CutBlock
import Derived.Deep.RegionHeld3
import Derived.Laws.Rows
import Derived.Lib.AppendStr
import Derived.ArgAppend
import Derived.Laws.IdiomCopy
import Derived.OrdersHeld
import Derived.Laws.BitsLemmas
import Derived.RowKit
import Derived.Test.YtpoiicfpldbgeaaWWords
import Derived.Test.YtpoiicfpldbgeaaWLast
import Derived.Test.YtpoiicfpldbgeaaWTab
import Derived.Test.YtpoiicfpldbgeaaWFour
import Derived.Test.YtpoiicfpldbgeaaWQPut
import Derived.Test.YtpoiicfpldbgeaaWApart
import Derived.Test.YtpoiicfpldbgeaaWArr
import Derived.Test.YtpoiicfpldbgeaaWZeros
import Derived.Test.YtpoiicfpldbgeaaWFoot
import Derived.Test.YtpoiicfpldbgeaaWKept
import Derived.Test.YtpoiicfpldbgeaaWShare
import Derived.Test.YtpoiicfpldbgeaaWN
import Derived.Test.YtpoiicfpldbgeaaWFootNe
import Derived.Test.YtpoiicfpldbgeaaWAt
import Derived.Test.YtpoiicfpldbgeaaWEqStruct
import Derived.Test.YtpoiicfpldbgeaaWRepsOne
import Derived.Test.YtpoiicfpldbgeaaWInv
import Derived.Test.YtpoiicfpldbgeaaWInvWords
import Derived.Test.YtpoiicfpldbgeaaWGuard
import Derived.Test.YtpoiicfpldbgeaaWNEv
import Derived.Test.YtpoiicfpldbgeaaWMore
import Derived.Outline
import Derived.Lib.Hide
import Derived.Deep.DeepMust
import Derived.IntWalk
import Derived.Test.YtpoiicfpldbgeaaIvL
import Derived.Test.YtpoiicfpldbgeaaIvN
namespace Go.Proofs.Ytpoiicfpldbgeaa.Iv
open Go.RowKit Go.Proofs.YtpoiicfpldbgeaaW.PrintWords Go.Proofs.YtpoiicfpldbgeaaW.PrintLast Go.Proofs.YtpoiicfpldbgeaaW.PrintMore Go.Proofs.Ytpoiicfpldbgeaa.PIv
set_option linter.unusedVariables false
set_option linter.unusedSimpArgs false

theorem bl_skip (f : Nat → Bool) (idx : Nat → Nat) (n : Nat) (h : f (idx n) = false) : bl f idx (n + 1) = bl f idx n := by
  rw [bl_succ, if_neg (by simp [h]), List.append_nil]
theorem count66 (f : Nat → Bool) : (List.range 66).countP (fun j => decide (j < 64) && f j) = (List.range 64).countP f := by
  rw [List.range_succ, List.countP_append, List.range_succ, List.countP_append]
  simp only [List.countP_singleton]
  have h : (List.range 64).countP (fun j => decide (j < 64) && f j) = (List.range 64).countP f := by
    apply List.countP_congr
    intro i hi
    have : i < 64 := by simpa using hi
    simp [this]
  rw [h]
  simp
structure J2 (w : World) (Ls Lt : List S28) (W : World) : Prop where
  below : RowKit.Below w.heap.size w W
  s : IsSet W (w.heap.size + 2) w.heap.size 100 Ls
  t : IsSet W (w.heap.size + 2) (w.heap.size + 1) 100 Lt
  size : w.heap.size + 2 ≤ W.heap.size
section
variable {w W W' : World} {Ls Lt L' : List S28}
theorem J2.step (h : J2 w Ls Lt W) (hb : RowKit.Below W.heap.size W W') : J2 w Ls Lt W' :=
  ⟨below_step h.below hb, h.s.below hb, h.t.below hb, Nat.le_trans h.size hb.size⟩
theorem J2.mvS (h : J2 w Ls Lt W) (hs : IsSet W' (w.heap.size + 2) w.heap.size 100 L') (hm : Mv w.heap.size W W') : J2 w L' Lt W' := by
  have h2 := h.size
  exact ⟨hm.below h.below (by omega) (by omega) (by omega), hs, h.t.mv hm (by omega) (by omega), Nat.le_trans h2 hm.size⟩
theorem J2.mvT (h : J2 w Ls Lt W) (hs : IsSet W' (w.heap.size + 2) (w.heap.size + 1) 100 L') (hm : Mv (w.heap.size + 1) W W') : J2 w Ls L' W' := by
  have h2 := h.size
  exact ⟨hm.below h.below (by omega) (by omega) (by omega), h.s.mv hm (by omega) (by omega), hs, Nat.le_trans h2 hm.size⟩
end
set_option maxHeartbeats 8000000 in
set_option maxRecDepth 100000 in
theorem bits_calls (a b : Int) (turn : Bool) (w : World) (ha : 0 ≤ a) (ha2 : a < 18446744073709551616) (hb : 0 ≤ b) (hb2 : b < 18446744073709551616) :
    Calls Try.prog 5 #[.int .u64 a, .int .u64 b, .bool turn] w fun r w' => r = .returned (.bool true) ∧ RowKit.Below w.heap.size w w' := by
  have t1 : True := trivial
  have t2 : True := trivial
  obtain ⟨idx, hix⟩ : ∃ idx : Nat → Nat, idx = (if turn = true then fun j => 63 - j else id) := ⟨_, rfl⟩
  have hTn : nrm (bl (bitA a) idx 64) = setB (bitA a) := by
    rw [hix]
    cases turn with
    | true => exact bl_turn _
    | false => rfl
  have HT := Lib.hid hTn
  have HIX := Lib.hid hix
  have HNZ := Lib.hid (show (Go.bits .and .u64 a b ≠ 0) ↔ ∃ j, j < 64 ∧ bitA a j = true ∧ bitA b j = true by
    obtain ⟨x, rfl⟩ := Int.eq_ofNat_of_zero_le ha
    obtain ⟨y, rfl⟩ := Int.eq_ofNat_of_zero_le hb
    exact and_bits x y (by omega) (by omega))
  clear hTn hix
  go_enter Try.func5, Try.ntmps5
  go_wp2_with (first
    | (go_at_call 9; have _t := t1; clear t1; go_must (refine (newAt_calls 100 (w.heap.size + 2) w.heap.size _ rfl (by omega)).mono ?_; rintro _ _ ⟨rfl, rfl, hI⟩; have HI1 := Lib.hid hI; clear hI))
    | (go_at_call 9; go_must (refine (newAt_calls 100 (w.heap.size + 2) (w.heap.size + 1) _ (by simp) (by omega)).mono ?_; rintro _ _ ⟨rfl, rfl, hI⟩; have H0 := Lib.hid (show J2 w [] [] _ from ⟨below_alloc (below_alloc (Below.refl _ _) _) _, HI1.out.below (below_alloc (Below.refl _ _) _), hI, by simp⟩); clear hI HI1)))
  go_loopw [9, 10] (fun k _ wr => ∃ n : Nat, n ≤ 64 ∧ k = .int .i64 n ∧ Aside0 (J2 w (nrm (bl (bitA a) idx n)) (nrm (bl (bitA b) id n)) wr)) (fun k _ _ => 64 - (intOf k).toNat)
  case atStart => exact ⟨0, by omega, rfl, ⟨by rw [show bl (bitA a) idx 0 = [] from rfl, show bl (bitA b) id 0 = [] from rfl, nrm_nil]; exact H0.out⟩⟩
  case round =>
    clear H0
    obtain ⟨n, hn, rfl, HJ⟩ := hrel
    by_cases hlt : n < 64
    · have d1 : decide ((n : Int) < 64) = true := by simp <;> omega
      have d2 : (n : Int) < 64 := by omega
      cases turn with
      | true =>
        obtain ⟨i, hi'⟩ : ∃ i, i = 63 - n := ⟨_, rfl⟩
        have e63 : (63 : Int) - (n : Int) = (i : Int) := by omega
        have hin : idx n = i := by rw [HIX.out, hi']; rfl
        have hi : idx n ≤ 63 := by omega
        have i1 : (i : Int) < 64 := by omega
        have i2 : i ≤ 64 := by omega
        clear hi'
        cases hba : bitA a i with
        | true =>
          cases hbb : bitA b n with
          | true =>
            have hA : Go.bits .and .u64 (a / 2 ^ i) 1 = 1 := by simpa [bitA] using hba
            have hB : Go.bits .and .u64 (b / 2 ^ n) 1 = 1 := by simpa [bitA] using hbb
            have HSA := Lib.hid (bl_add (bitA a) idx n hlt hi (by rw [hin]; exact hba))
            rw [hin] at HSA
            have HSB := Lib.hid (bl_add (bitA b) id n hlt (by simp only [id]; omega) hbb)
            simp only [id] at HSB
            have HLA := Lib.hid (show ((nrm (bl (bitA a) idx n)).length + 1) * 16 ≤ 140737488355328 by have h1 := nrm_len (bl (bitA a) idx n); have h2 := bl_len (bitA a) idx n; omega)
            have HLB := Lib.hid (show ((nrm (bl (bitA b) id n)).length + 1) * 16 ≤ 140737488355328 by have h1 := nrm_len (bl (bitA b) id n); have h2 := bl_len (bitA b) id n; omega)
            have HD := Lib.hid (show n + 1 ≤ 64 by omega)
            clear hba hbb hin
            go_wp2_with (first
              | (go_at_call 10; have _t := t2; clear t2; go_must (refine (add_calls (w.heap.size + 2) w.heap.size 100 (nrm (bl (bitA a) idx n)) _ 1 [⟨(i : Nat), 1⟩] _ (HJ.out.step (below_alloc (Below.refl _ _) _)).s (C_one _ ⟨(i : Nat), 1⟩) (Nat.le_refl 1) HLA.out (HJ.out.step (below_alloc (Below.refl _ _) _)).size).mono ?_; rintro _ w5 ⟨rfl, hI5, hM5⟩; rw [HSA.out] at hI5 ⊢; have H5 := Lib.hid ((HJ.out.step (below_alloc (Below.refl _ _) _)).mvS hI5 hM5); clear hI5 hM5))
              | (go_at_call 10; go_must (refine (add_calls (w.heap.size + 2) (w.heap.size + 1) 100 (nrm (bl (bitA b) id n)) _ 1 [⟨(n : Nat), 1⟩] _ (H5.out.step (below_alloc (Below.refl _ _) _)).t (C_one _ ⟨(n : Nat), 1⟩) (Nat.le_refl 1) HLB.out (H5.out.step (below_alloc (Below.refl _ _) _)).size).mono ?_; rintro _ w6 ⟨rfl, hI6, hM6⟩; rw [HSB.out] at hI6 ⊢; have H6 := Lib.hid ((H5.out.step (below_alloc (Below.refl _ _) _)).mvT hI6 hM6); clear hI6 hM6)))
            clear hA hB
            go_roundw
            case rel => exact ⟨n + 1, HD.out, by go_num, ⟨by exact H6.out⟩⟩
            case measure => simp [intOf]; omega
          | false =>
            have hA : Go.bits .and .u64 (a / 2 ^ i) 1 = 1 := by simpa [bitA] using hba
            have hB : ¬ (Go.bits .and .u64 (b / 2 ^ n) 1 = 1) := by simpa [bitA] using hbb
            have HSA := Lib.hid (bl_add (bitA a) idx n hlt hi (by rw [hin]; exact hba))
            rw [hin] at HSA
            have HSB := Lib.hid (bl_skip (bitA b) id n hbb)
            have HLA := Lib.hid (show ((nrm (bl (bitA a) idx n)).length + 1) * 16 ≤ 140737488355328 by have h1 := nrm_len (bl (bitA a) idx n); have h2 := bl_len (bitA a) idx n; omega)
            have HLB := Lib.hid (show ((nrm (bl (bitA b) id n)).length + 1) * 16 ≤ 140737488355328 by have h1 := nrm_len (bl (bitA b) id n); have h2 := bl_len (bitA b) id n; omega)
            have HD := Lib.hid (show n + 1 ≤ 64 by omega)
            clear hba hbb hin
            go_wp2_with (first
              | (go_at_call 10; have _t := t2; clear t2; go_must (refine (add_calls (w.heap.size + 2) w.heap.size 100 (nrm (bl (bitA a) idx n)) _ 1 [⟨(i : Nat), 1⟩] _ (HJ.out.step (below_alloc (Below.refl _ _) _)).s (C_one _ ⟨(i : Nat), 1⟩) (Nat.le_refl 1) HLA.out (HJ.out.step (below_alloc (Below.refl _ _) _)).size).mono ?_; rintro _ w5 ⟨rfl, hI5, hM5⟩; rw [HSA.out] at hI5 ⊢; have H5 := Lib.hid ((HJ.out.step (below_alloc (Below.refl _ _) _)).mvS hI5 hM5); clear hI5 hM5)))
            clear hA hB
            go_roundw
            case rel => exact ⟨n + 1, HD.out, by go_num, ⟨by rw [HSB.out]; exact H5.out⟩⟩
            case measure => simp [intOf]; omega
        | false =>
          cases hbb : bitA b n with
          | true =>
            have hA : ¬ (Go.bits .and .u64 (a / 2 ^ i) 1 = 1) := by simpa [bitA] using hba
            have hB : Go.bits .and .u64 (b / 2 ^ n) 1 = 1 := by simpa [bitA] using hbb
            have HSA := Lib.hid (bl_skip (bitA a) idx n (by rw [hin]; exact hba))
            have HSB := Lib.hid (bl_add (bitA b) id n hlt (by simp only [id]; omega) hbb)
            simp only [id] at HSB
            have HLA := Lib.hid (show ((nrm (bl (bitA a) idx n)).length + 1) * 16 ≤ 140737488355328 by have h1 := nrm_len (bl (bitA a) idx n); have h2 := bl_len (bitA a) idx n; omega)
            have HLB := Lib.hid (show ((nrm (bl (bitA b) id n)).length + 1) * 16 ≤ 140737488355328 by have h1 := nrm_len (bl (bitA b) id n); have h2 := bl_len (bitA b) id n; omega)
            have HD := Lib.hid (show n + 1 ≤ 64 by omega)
            clear hba hbb hin
            go_wp2_with (first
              | (go_at_call 10; go_must (refine (add_calls (w.heap.size + 2) (w.heap.size + 1) 100 (nrm (bl (bitA b) id n)) _ 1 [⟨(n : Nat), 1⟩] _ (HJ.out.step (below_alloc (Below.refl _ _) _)).t (C_one _ ⟨(n : Nat), 1⟩) (Nat.le_refl 1) HLB.out (HJ.out.step (below_alloc (Below.refl _ _) _)).size).mono ?_; rintro _ w6 ⟨rfl, hI6, hM6⟩; rw [HSB.out] at hI6 ⊢; have H6 := Lib.hid ((HJ.out.step (below_alloc (Below.refl _ _) _)).mvT hI6 hM6); clear hI6 hM6)))
            clear hA hB
            go_roundw
            case rel => exact ⟨n + 1, HD.out, by go_num, ⟨by rw [HSA.out]; exact H6.out⟩⟩
            case measure => simp [intOf]; omega
          | false =>
            have hA : ¬ (Go.bits .and .u64 (a / 2 ^ i) 1 = 1) := by simpa [bitA] using hba
            have hB : ¬ (Go.bits .and .u64 (b / 2 ^ n) 1 = 1) := by simpa [bitA] using hbb
            have HSA := Lib.hid (bl_skip (bitA a) idx n (by rw [hin]; exact hba))
            have HSB := Lib.hid (bl_skip (bitA b) id n hbb)
            have HLA := Lib.hid (show ((nrm (bl (bitA a) idx n)).length + 1) * 16 ≤ 140737488355328 by have h1 := nrm_len (bl (bitA a) idx n); have h2 := bl_len (bitA a) idx n; omega)
            have HLB := Lib.hid (show ((nrm (bl (bitA b) id n)).length + 1) * 16 ≤ 140737488355328 by have h1 := nrm_len (bl (bitA b) id n); have h2 := bl_len (bitA b) id n; omega)
            have HD := Lib.hid (show n + 1 ≤ 64 by omega)
            clear hba hbb hin
            go_wp2
            clear hA hB
            go_roundw
            case rel => exact ⟨n + 1, HD.out, by go_num, ⟨by rw [HSA.out, HSB.out]; exact HJ.out⟩⟩
            case measure => simp [intOf]; omega
      | false =>
        have hin : idx n = n := by rw [HIX.out]; rfl
        have hi : idx n ≤ 63 := by omega
        cases hba : bitA a n with
        | true =>
          cases hbb : bitA b n with
          | true =>
            have hA : Go.bits .and .u64 (a / 2 ^ n) 1 = 1 := by simpa [bitA] using hba
            have hB : Go.bits .and .u64 (b / 2 ^ n) 1 = 1 := by simpa [bitA] using hbb
            have HSA := Lib.hid (bl_add (bitA a) idx n hlt hi (by rw [hin]; exact hba))
            rw [hin] at HSA
            have HSB := Lib.hid (bl_add (bitA b) id n hlt (by simp only [id]; omega) hbb)
            simp only [id] at HSB
            have HLA := Lib.hid (show ((nrm (bl (bitA a) idx n)).length + 1) * 16 ≤ 140737488355328 by have h1 := nrm_len (bl (bitA a) idx n); have h2 := bl_len (bitA a) idx n; omega)
            have HLB := Lib.hid (show ((nrm (bl (bitA b) id n)).length + 1) * 16 ≤ 140737488355328 by have h1 := nrm_len (bl (bitA b) id n); have h2 := bl_len (bitA b) id n; omega)
            have HD := Lib.hid (show n + 1 ≤ 64 by omega)
            clear hba hbb hin
            go_wp2_with (first
              | (go_at_call 10; have _t := t2; clear t2; go_must (refine (add_calls (w.heap.size + 2) w.heap.size 100 (nrm (bl (bitA a) idx n)) _ 1 [⟨(n : Nat), 1⟩] _ (HJ.out.step (below_alloc (Below.refl _ _) _)).s (C_one _ ⟨(n : Nat), 1⟩) (Nat.le_refl 1) HLA.out (HJ.out.step (below_alloc (Below.refl _ _) _)).size).mono ?_; rintro _ w5 ⟨rfl, hI5, hM5⟩; rw [HSA.out] at hI5 ⊢; have H5 := Lib.hid ((HJ.out.step (below_alloc (Below.refl _ _) _)).mvS hI5 hM5); clear hI5 hM5))
              | (go_at_call 10; go_must (refine (add_calls (w.heap.size + 2) (w.heap.size + 1) 100 (nrm (bl (bitA b) id n)) _ 1 [⟨(n : Nat), 1⟩] _ (H5.out.step (below_alloc (Below.refl _ _) _)).t (C_one _ ⟨(n : Nat), 1⟩) (Nat.le_refl 1) HLB.out (H5.out.step (below_alloc (Below.refl _ _) _)).size).mono ?_; rintro _ w6 ⟨rfl, hI6, hM6⟩; rw [HSB.out] at hI6 ⊢; have H6 := Lib.hid ((H5.out.step (below_alloc (Below.refl _ _) _)).mvT hI6 hM6); clear hI6 hM6)))
            clear hA hB
            go_roundw
            case rel => exact ⟨n + 1, HD.out, by go_num, ⟨by exact H6.out⟩⟩
            case measure => simp [intOf]; omega
          | false =>
            have hA : Go.bits .and .u64 (a / 2 ^ n) 1 = 1 := by simpa [bitA] using hba
            have hB : ¬ (Go.bits .and .u64 (b / 2 ^ n) 1 = 1) := by simpa [bitA] using hbb
            have HSA := Lib.hid (bl_add (bitA a) idx n hlt hi (by rw [hin]; exact hba))
            rw [hin] at HSA
            have HSB := Lib.hid (bl_skip (bitA b) id n hbb)
            have HLA := Lib.hid (show ((nrm (bl (bitA a) idx n)).length + 1) * 16 ≤ 140737488355328 by have h1 := nrm_len (bl (bitA a) idx n); have h2 := bl_len (bitA a) idx n; omega)
            have HLB := Lib.hid (show ((nrm (bl (bitA b) id n)).length + 1) * 16 ≤ 140737488355328 by have h1 := nrm_len (bl (bitA b) id n); have h2 := bl_len (bitA b) id n; omega)
            have HD := Lib.hid (show n + 1 ≤ 64 by omega)
            clear hba hbb hin
            go_wp2_with (first
              | (go_at_call 10; have _t := t2; clear t2; go_must (refine (add_calls (w.heap.size + 2) w.heap.size 100 (nrm (bl (bitA a) idx n)) _ 1 [⟨(n : Nat), 1⟩] _ (HJ.out.step (below_alloc (Below.refl _ _) _)).s (C_one _ ⟨(n : Nat), 1⟩) (Nat.le_refl 1) HLA.out (HJ.out.step (below_alloc (Below.refl _ _) _)).size).mono ?_; rintro _ w5 ⟨rfl, hI5, hM5⟩; rw [HSA.out] at hI5 ⊢; have H5 := Lib.hid ((HJ.out.step (below_alloc (Below.refl _ _) _)).mvS hI5 hM5); clear hI5 hM5)))
            clear hA hB
            go_roundw
            case rel => exact ⟨n + 1, HD.out, by go_num, ⟨by rw [HSB.out]; exact H5.out⟩⟩
            case measure => simp [intOf]; omega
        | false =>
          cases hbb : bitA b n with
          | true =>
            have hA : ¬ (Go.bits .and .u64 (a / 2 ^ n) 1 = 1) := by simpa [bitA] using hba
            have hB : Go.bits .and .u64 (b / 2 ^ n) 1 = 1 := by simpa [bitA] using hbb
            have HSA := Lib.hid (bl_skip (bitA a) idx n (by rw [hin]; exact hba))
            have HSB := Lib.hid (bl_add (bitA b) id n hlt (by simp only [id]; omega) hbb)
            simp only [id] at HSB
            have HLA := Lib.hid (show ((nrm (bl (bitA a) idx n)).length + 1) * 16 ≤ 140737488355328 by have h1 := nrm_len (bl (bitA a) idx n); have h2 := bl_len (bitA a) idx n; omega)
            have HLB := Lib.hid (show ((nrm (bl (bitA b) id n)).length + 1) * 16 ≤ 140737488355328 by have h1 := nrm_len (bl (bitA b) id n); have h2 := bl_len (bitA b) id n; omega)
            have HD := Lib.hid (show n + 1 ≤ 64 by omega)
            clear hba hbb hin
            go_wp2_with (first
              | (go_at_call 10; go_must (refine (add_calls (w.heap.size + 2) (w.heap.size + 1) 100 (nrm (bl (bitA b) id n)) _ 1 [⟨(n : Nat), 1⟩] _ (HJ.out.step (below_alloc (Below.refl _ _) _)).t (C_one _ ⟨(n : Nat), 1⟩) (Nat.le_refl 1) HLB.out (HJ.out.step (below_alloc (Below.refl _ _) _)).size).mono ?_; rintro _ w6 ⟨rfl, hI6, hM6⟩; rw [HSB.out] at hI6 ⊢; have H6 := Lib.hid ((HJ.out.step (below_alloc (Below.refl _ _) _)).mvT hI6 hM6); clear hI6 hM6)))
            clear hA hB
            go_roundw
            case rel => exact ⟨n + 1, HD.out, by go_num, ⟨by rw [HSA.out]; exact H6.out⟩⟩
            case measure => simp [intOf]; omega
          | false =>
            have hA : ¬ (Go.bits .and .u64 (a / 2 ^ n) 1 = 1) := by simpa [bitA] using hba
            have hB : ¬ (Go.bits .and .u64 (b / 2 ^ n) 1 = 1) := by simpa [bitA] using hbb
            have HSA := Lib.hid (bl_skip (bitA a) idx n (by rw [hin]; exact hba))
            have HSB := Lib.hid (bl_skip (bitA b) id n hbb)
            have HLA := Lib.hid (show ((nrm (bl (bitA a) idx n)).length + 1) * 16 ≤ 140737488355328 by have h1 := nrm_len (bl (bitA a) idx n); have h2 := bl_len (bitA a) idx n; omega)
            have HLB := Lib.hid (show ((nrm (bl (bitA b) id n)).length + 1) * 16 ≤ 140737488355328 by have h1 := nrm_len (bl (bitA b) id n); have h2 := bl_len (bitA b) id n; omega)
            have HD := Lib.hid (show n + 1 ≤ 64 by omega)
            clear hba hbb hin
            go_wp2
            clear hA hB
            go_roundw
            case rel => exact ⟨n + 1, HD.out, by go_num, ⟨by rw [HSA.out, HSB.out]; exact HJ.out⟩⟩
            case measure => simp [intOf]; omega
    · obtain rfl : n = 64 := by omega
      rw [HT.out] at HJ
      have HJ' := Lib.hid (show J2 w (setB (bitA a)) (setB (bitA b)) wr from HJ.out)
      clear HJ
      have d0 : ¬ ((64 : Nat) : Int) < 64 := by decide
      go_wp2
      obtain ⟨wq, hwq⟩ : ∃ x, x = wr := ⟨_, rfl⟩
      clear hwq wq
      go_loopw [11, 12, 13] (fun c i _ wr => ∃ m : Nat, m ≤ 66 ∧ i = .int .i64 m ∧ c = .int .i64 ((List.range m).countP (fun j => decide (j < 64) && bitA a j) : Nat) ∧ Aside0 (J2 w (setB (bitA a)) (setB (bitA b)) wr)) (fun _ i _ _ => 66 - (intOf i).toNat)
      case atStart => exact ⟨0, by omega, rfl, rfl, ⟨HJ'.out⟩⟩
      case round =>
        clear HJ'
        obtain ⟨m, hm, rfl, rfl, HJ⟩ := hrel
        by_cases hlt : m < 66
        · have d1 : (m : Int) < 66 := by omega
          have hcs : (List.range (m + 1)).countP (fun j => decide (j < 64) && bitA a j) = (List.range m).countP (fun j => decide (j < 64) && bitA a j) + if (decide (m < 64) && bitA a m) = true then 1 else 0 := by
            rw [List.range_succ, List.countP_append, List.countP_singleton]
          have hcl : (List.range m).countP (fun j => decide (j < 64) && bitA a j) ≤ m := by
            have := List.countP_le_length (p := fun j => decide (j < 64) && bitA a j) (l := List.range m)
            simpa using this
          obtain ⟨c, hc⟩ : ∃ c, c = (List.range m).countP (fun j => decide (j < 64) && bitA a j) := ⟨_, rfl⟩
          rw [← hc] at hcs hcl ⊢
          have HB := Lib.hid (hasB_setB (bitA a) m hlt)
          have HL := Lib.hid (show (setB (bitA a)).length ≤ 1000000 from Nat.le_trans (setB_len _) (by decide))
          have wc : wrap64 ((c : Int) + 1) = ((c + 1 : Nat) : Int) := by unfold wrap64; omega
          have HWC := Lib.hid wc
          have HD := Lib.hid (show m + 1 ≤ 66 by omega)
          clear hc
          by_cases h64 : m < 64
          · have d3 : (m : Int) < 64 := by omega
            have d4 : m ≤ 64 := by omega
            cases hba : bitA a m with
            | true =>
              have hA : Go.bits .and .u64 (a / 2 ^ m) 1 = 1 := by simpa [bitA] using hba
              have HV := Lib.hid (show (decide (m < 64) && bitA a m) = true by simp [h64, hba])
              rw [HV.out, if_pos rfl] at hcs
              have HCS := Lib.hid hcs
              clear hba hcs h64
              go_wp2_with (go_at_call 15; go_must (refine (has_calls (w.heap.size + 2) w.heap.size 100 (setB (bitA a)) m _ HJ.out.s HL.out).mono ?_; rintro _ w5 ⟨rfl, hB5⟩; rw [HB.out, HV.out]; have H5 := Lib.hid (HJ.out.step hB5); clear hB5))
              clear hA
              go_roundw
              case rel => exact ⟨m + 1, HD.out, by go_num, by rw [HCS.out]; first | rfl | (rw [HWC.out]) | (rw [← HWC.out]; rfl), ⟨H5.out⟩⟩
              case measure => simp [intOf]; omega
            | false =>
              have hA : ¬ (Go.bits .and .u64 (a / 2 ^ m) 1 = 1) := by simpa [bitA] using hba
              have HV := Lib.hid (show (decide (m < 64) && bitA a m) = false by simp [hba])
              rw [HV.out, if_neg (by decide)] at hcs
              have HCS := Lib.hid hcs
              clear hba hcs h64
              go_wp2_with (go_at_call 15; go_must (refine (has_calls (w.heap.size + 2) w.heap.size 100 (setB (bitA a)) m _ HJ.out.s HL.out).mono ?_; rintro _ w5 ⟨rfl, hB5⟩; rw [HB.out, HV.out]; have H5 := Lib.hid (HJ.out.step hB5); clear hB5))
              clear hA
              go_roundw
              case rel => exact ⟨m + 1, HD.out, by go_num, by rw [HCS.out]; rfl, ⟨H5.out⟩⟩
              case measure => simp [intOf]; omega
          · have d3 : ¬ (m : Int) < 64 := by omega
            have HV := Lib.hid (show (decide (m < 64) && bitA a m) = false by simp [h64])
            rw [HV.out, if_neg (by decide)] at hcs
            have HCS := Lib.hid hcs
            clear hcs h64
            go_wp2_with (go_at_call 15; go_must (refine (has_calls (w.heap.size + 2) w.heap.size 100 (setB (bitA a)) m _ HJ.out.s HL.out).mono ?_; rintro _ w5 ⟨rfl, hB5⟩; rw [HB.out, HV.out]; have H5 := Lib.hid (HJ.out.step hB5); clear hB5))
            go_roundw
            case rel => exact ⟨m + 1, HD.out, by go_num, by rw [HCS.out]; rfl, ⟨H5.out⟩⟩
            case measure => simp [intOf]; omega
        · obtain rfl : m = 66 := by omega
          have HCT := Lib.hid (show (List.range 66).countP (fun j => decide (j < 64) && bitA a j) = (List.range 64).countP (bitA a) from count66 (bitA a))
          rw [HCT.out]
          have HSUM := Lib.hid (count_setB (bitA a))
          obtain ⟨c, hc⟩ : ∃ c, c = (List.range 64).countP (bitA a) := ⟨_, rfl⟩
          rw [← hc] at HSUM ⊢
          clear hc HCT
          have d0 : ¬ ((66 : Nat) : Int) < 66 := by decide
          have hcab := cross_setB (bitA a) (bitA b)
          have hcba := cross_setB (bitA b) (bitA a)
          have hnf := setB_nf (bitA a)
          have hsl := setB_len (bitA a)
          have hsl2 := setB_len (bitA b)
          obtain ⟨S, hS⟩ : ∃ S, S = setB (bitA a) := ⟨_, rfl⟩
          obtain ⟨T, hT⟩ : ∃ T, T = setB (bitA b) := ⟨_, rfl⟩
          rw [← hS] at HSUM HJ hcab hcba hnf hsl
          rw [← hT] at HJ hcab hcba hsl2
          have HNF := Lib.hid hnf
          have HSL := Lib.hid hsl
          have HSL2 := Lib.hid hsl2
          have HZ := Lib.hid (show ∀ q : Bool, (q = decide (Go.bits .and .u64 a b ≠ 0)) → crossB S T = q ∧ crossB T S = q by
            intro q hq
            by_cases h : Go.bits .and .u64 a b ≠ 0
            · have hx := HNZ.out.1 h
              have hx2 : ∃ j, j < 64 ∧ bitA b j = true ∧ bitA a j = true := by obtain ⟨j, h1, h2, h3⟩ := hx; exact ⟨j, h1, h3, h2⟩
              rw [hq, decide_eq_true h]
              exact ⟨hcab.2 hx, hcba.2 hx2⟩
            · rw [hq, decide_eq_false h]
              refine ⟨Bool.eq_false_iff.2 fun hc => h (HNZ.out.2 (hcab.1 hc)), Bool.eq_false_iff.2 fun hc => h (HNZ.out.2 ?_)⟩
              obtain ⟨j, h1, h2, h3⟩ := hcba.1 hc
              exact ⟨j, h1, h3, h2⟩)
          clear hnf hsl hsl2 hcab hcba hS hT
          go_wp2_with (go_at_call 11; go_must (refine (extents_calls (w.heap.size + 2) w.heap.size 100 S _ HJ.out.s (by have := HSL.out; omega)).mono ?_; rintro _ w5 ⟨v5, rfl, hB5, hR5⟩; obtain ⟨A5, c5, hv5, _, hC5⟩ := Kd.R_reads hR5; subst hv5; have H5 := Lib.hid (HJ.out.step hB5); have HC5 := Lib.hid (fun w' (h : RowKit.Below w5.heap.size w5 w') => Kd.C_below hC5 h); clear hB5 hR5 hC5))
          go_loopw [15] (fun i wr => ∃ m : Nat, 1 ≤ m ∧ i = .int .i64 m ∧ Aside0 (RowKit.Below w5.heap.size w5 wr)) (fun i _ => S.length - (intOf i).toNat)
          case atStart => exact ⟨1, Nat.le_refl _, rfl, ⟨Below.refl _ _⟩⟩
          case round =>
            obtain ⟨m, hm1, rfl, HW⟩ := hrel
            by_cases hlt : m < S.length
            · obtain ⟨p, hp⟩ : ∃ p, m = p + 1 := ⟨m - 1, by omega⟩
              obtain ⟨ad, rfl, x0, x1⟩ := at_T28 (HC5.out _ HW.out) (m : Int) (by omega) (by omega)
              obtain ⟨ad', he, y0, y1⟩ := at_T28 (HC5.out _ HW.out) (p : Int) (by omega) (by omega)
              injection he with he
              subst he
              simp only [Int.toNat_natCast] at x0 x1 y0 y1
              obtain ⟨q, hq⟩ : ∃ q, q = rd_T28 S (m : Int) := ⟨_, rfl⟩
              obtain ⟨r, hr⟩ : ∃ r, r = rd_T28 S (p : Int) := ⟨_, rfl⟩
              rw [← hq] at x0 x1
              rw [← hr] at y0 y1
              have hqe : q = S[m] := by rw [hq]; simp only [rd_T28, Int.toNat_natCast, List.getD_eq_getElem?_getD, List.getElem?_eq_getElem hlt, Option.getD_some]
              have hre : r = S[p]'(by omega) := by rw [hr]; simp only [rd_T28, Int.toNat_natCast, List.getD_eq_getElem?_getD, List.getElem?_eq_getElem (show p < S.length by omega), Option.getD_some]
              have hgap : r.f0 + r.f1 < q.f0 := by
                rw [hqe, hre]
                exact (List.pairwise_iff_getElem.1 HNF.out.1) p m (by omega) hlt (by omega)
              have hro := H5.out.s.ok r (by rw [hre]; exact List.getElem_mem _)
              obtain ⟨r0, r1, r2⟩ := hro
              have hs64 := HSL.out
              have wr1 : IntKind.i64.wrap (r.f0 + r.f1) = r.f0 + r.f1 := IntWalk.i64_in _ (by omega)
              have wr2 : IntKind.i64.wrap ((m : Int) - 1) = (p : Int) := by rw [IntWalk.i64_in _ (by omega)]; omega
              have d1 : decide (q.f0 ≤ r.f0 + r.f1) = false := by simp; omega
              have d1' : ¬ (q.f0 ≤ r.f0 + r.f1) := by omega
              have d2 : (m : Int) < (S.length : Int) := by omega
              have d4 : (p : Int) < (S.length : Int) := by omega
              have d5 : 0 ≤ (m : Int) := by omega
              have d6 : 0 ≤ (p : Int) := by omega
              have dm : m ≤ 64 := by omega
              have HD := Lib.hid (show 1 ≤ m + 1 by omega)
              clear hq hr hqe hre hgap r0 r1 r2 hs64 hp hm1
              go_wp2
              go_quiet (fail)
              clear wr1 wr2
              go_wp2
              go_roundw
              case rel => exact ⟨m + 1, HD.out, by go_num, ⟨pw_below_drewN HW.out _⟩⟩
              case measure => simp [intOf]; omega
            · have d2 : ¬ (m : Int) < (S.length : Int) := by omega
              have H6 := Lib.hid (H5.out.step HW.out)
              have HC6 := Lib.hid (HC5.out _ HW.out)
              clear HC5
              by_cases hz : Go.bits .and .u64 a b = 0
              · skip
                obtain ⟨z1, z2⟩ := HZ.out false (by simp [hz])
                have Z1 := Lib.hid z1
                have Z2 := Lib.hid z2
                clear z1 z2
                go_wp2_with (first
                  | (go_at_call 12; go_must (refine (count_calls (w.heap.size + 2) w.heap.size 100 S _ H6.out.s (by have := HSL.out; omega)).mono ?_; rintro _ w7 ⟨rfl, hB7⟩; rw [HSUM.out]; have H7 := Lib.hid (H6.out.step hB7); clear hB7))
                  | (go_at_call 16; have _t := t2; clear t2; go_must (refine (crosses_calls (w.heap.size + 2) w.heap.size (w.heap.size + 1) 100 100 S T _ H7.out.s H7.out.t (by have := HSL.out; omega) (by have := HSL2.out; omega)).mono ?_; rintro _ w8 ⟨rfl, hB8⟩; rw [Z1.out]; have H8 := Lib.hid (H7.out.step hB8); clear hB8))
                  | (go_at_call 16; go_must (refine (crosses_calls (w.heap.size + 2) (w.heap.size + 1) w.heap.size 100 100 T S _ H8.out.t H8.out.s (by have := HSL2.out; omega) (by have := HSL.out; omega)).mono ?_; rintro _ w9 ⟨rfl, hB9⟩; rw [Z2.out]; have H9 := Lib.hid (H8.out.step hB9); clear hB9))
                  | (go_at_call 8; go_must (refine (awake_calls _).mono ?_; rintro _ w10 ⟨rfl, hB10⟩)))
                try rw [Exit.noGoto_ret]
                go_ret
                exact ⟨rfl, below_step H9.out.below hB10⟩
              · skip
                obtain ⟨z1, z2⟩ := HZ.out true (by simp [hz])
                have Z1 := Lib.hid z1
                have Z2 := Lib.hid z2
                clear z1 z2
                go_wp2_with (first
                  | (go_at_call 12; go_must (refine (count_calls (w.heap.size + 2) w.heap.size 100 S _ H6.out.s (by have := HSL.out; omega)).mono ?_; rintro _ w7 ⟨rfl, hB7⟩; rw [HSUM.out]; have H7 := Lib.hid (H6.out.step hB7); clear hB7))
                  | (go_at_call 16; have _t := t2; clear t2; go_must (refine (crosses_calls (w.heap.size + 2) w.heap.size (w.heap.size + 1) 100 100 S T _ H7.out.s H7.out.t (by have := HSL.out; omega) (by have := HSL2.out; omega)).mono ?_; rintro _ w8 ⟨rfl, hB8⟩; rw [Z1.out]; have H8 := Lib.hid (H7.out.step hB8); clear hB8))
                  | (go_at_call 16; go_must (refine (crosses_calls (w.heap.size + 2) (w.heap.size + 1) w.heap.size 100 100 T S _ H8.out.t H8.out.s (by have := HSL2.out; omega) (by have := HSL.out; omega)).mono ?_; rintro _ w9 ⟨rfl, hB9⟩; rw [Z2.out]; have H9 := Lib.hid (H8.out.step hB9); clear hB9))
                  | (go_at_call 8; go_must (refine (awake_calls _).mono ?_; rintro _ w10 ⟨rfl, hB10⟩)))
                try rw [Exit.noGoto_ret]
                go_ret
                exact ⟨by show Ending.returned (.bool (Go.bits .and .u64 a b != 0)) = _; rw [show (Go.bits .and .u64 a b != 0) = true by simpa using hz], below_step H9.out.below hB10⟩
end Go.Proofs.Ytpoiicfpldbgeaa.Iv
