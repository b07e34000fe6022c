/- Walks of a buffer's Set, and of WbufNothing: nothing is no buffer. -/
import Derived.Test.YtbebihphodafiaaProg
import Derived.Below
import Derived.Deep.Draws
import Derived.Deep.AppendLies
import Derived.Maps.AppendAt
import Derived.OwnWalk
import Derived.Laws.BytesArg
import Derived.Laws.MakeOwn
import Derived.Laws.OwnMore
import Derived.Deep.OwnRows
import Derived.Tactics
import Derived.Lib.ConvBytes
import Derived.Laws.Slices
import Derived.WalkKit
import Derived.KernelRfl
import Derived.RowKit3
import Derived.Deep.LoopGhost
import Derived.Deep.QuietTactic
import Derived.BigQuiet
import Derived.WideLaws
import Derived.Deep.DeepCutAuto
import Derived.Deep.CutBlock
import Derived.Deep.RegionHeld3
import Derived.Laws.Rows
import Derived.Lib.AppendStr
import Derived.ArgAppend
import Derived.Laws.IdiomCopy
import Derived.OrdersHeld
import Derived.Laws.BitsLemmas
import Derived.RowKit
import Derived.Test.YtbebihphodafiaaWWords
import Derived.Test.YtbebihphodafiaaWLast
import Derived.Test.YtbebihphodafiaaWTab
import Derived.Test.YtbebihphodafiaaWFour
import Derived.Test.YtbebihphodafiaaWQPut
import Derived.Test.YtbebihphodafiaaWApart
import Derived.Test.YtbebihphodafiaaWArr
import Derived.Test.YtbebihphodafiaaWZeros
import Derived.Test.YtbebihphodafiaaWFoot
import Derived.Test.YtbebihphodafiaaWKept
import Derived.Test.YtbebihphodafiaaWShare
import Derived.Test.YtbebihphodafiaaWN
import Derived.Test.YtbebihphodafiaaWFootNe
import Derived.Test.YtbebihphodafiaaWAt
import Derived.Test.YtbebihphodafiaaWEqStruct
import Derived.Test.YtbebihphodafiaaWRepsOne
import Derived.Test.YtbebihphodafiaaWInv
import Derived.Test.YtbebihphodafiaaWInvWords
import Derived.Test.YtbebihphodafiaaWGuard
import Derived.Test.YtbebihphodafiaaWNEv
import Derived.Test.YtbebihphodafiaaWMore
import Derived.Outline
import Derived.Lib.Hide
import Derived.Deep.DeepMust
import Derived.IntWalk
import Derived.Test.YtbebihphodafiaaWbF
namespace Go.Proofs.Ytbebihphodafiaa.Iv
open Go.RowKit Go.Proofs.YtbebihphodafiaaW.PrintWords Go.Proofs.YtbebihphodafiaaW.PrintLast Go.Proofs.YtbebihphodafiaaW.PrintMore Go.Proofs.Ytbebihphodafiaa.PWb Go.Maps
set_option linter.unusedVariables false
set_option linter.unusedSimpArgs false

theorem newAt_calls (most : Int) (fr b : Nat) (w : World) (hb : b = w.heap.size) (hfr : b < fr) : Calls Try.prog 62 #[.int .i64 most] w fun e w' => e = .returned (.pointer (some ⟨b, 0, none⟩)) ∧ w' = w.alloc (.cells #[.int .i64 most, .slice none 0 0] 137) ∧ IsSet w' fr b most [] := by
  subst hb
  exact new_calls most fr w hfr
theorem C60_one (w : World) (a b : Int) (n : Nat) (hn : n = w.heap.size) : Kd.C k60 (w.alloc (.cells #[.int .i64 a, .int .i64 b] 60)) (some ⟨n, 0, none⟩) 1 [⟨a, b⟩] := by
  subst hn
  exact C_one w ⟨a, b⟩
def units (M : List S31) : List S60 := M.map fun p => ⟨p.f0, 1⟩
theorem units_may (M : List S31) (h : ∀ p ∈ M, 0 ≤ p.f0 ∧ p.f0 < 1048576) : (units M).all mayB = true := by
  refine List.all_eq_true.2 (fun x hx => ?_)
  obtain ⟨p, hp, rfl⟩ := List.mem_map.1 hx
  have := h p hp
  exact (mayB_iff _).2 ⟨this.1, by simp only; omega, by simp, by simp, by simp only; omega⟩
set_option maxHeartbeats 4000000 in
set_option maxRecDepth 100000 in
theorem setB_calls (fr mb : Nat) (blocks most : Int) (M : List S31) (w : World) (hb : IsBuf w fr mb blocks most M) :
    Calls Try.prog 43 #[.pointer (some ⟨mb + 1, 0, none⟩)] w fun e w' => ∃ g, e = .returned (.pointer (some ⟨g, 0, none⟩)) ∧ RowKit.Below w.heap.size w w' ∧ IsSet w' (g + 1) g M.length (nrm (units M)) := by
  have HS := Lib.hid (puts_calls fr mb blocks most M w hb)
  have HL := Lib.hid hb.len
  have HR := Lib.hid (show ∀ p ∈ M, 0 ≤ p.f0 ∧ p.f0 < 1048576 from fun p hp => by have h1 := hb.rng p hp; have h2 := hb.bl; omega)
  clear hb
  go_enter Try.func43, Try.ntmps43
  go_wp2_with (first
    | (go_at_call 21; go_must (refine HS.out.mono ?_; rintro _ w1 ⟨v1, rfl, hB1, hR1⟩; obtain ⟨A1, c1, hv1, _, hC1⟩ := Kd.R_reads hR1; subst hv1; have HB1 := Lib.hid hB1; have HC1 := Lib.hid (fun w' (h : RowKit.Below w1.heap.size w1 w') => Kd.C_below hC1 h); clear hB1 hR1 hC1))
    | (go_at_call 62; go_must (refine (newAt_calls M.length (w1.heap.size + 1) w1.heap.size _ rfl (by omega)).mono ?_; rintro _ _ ⟨rfl, rfl, hI⟩; have H0 := Lib.hid hI; clear hI)))
  have hl := HL.out
  go_loopw [6, 14] (fun _ i wr => ∃ k : Nat, k ≤ M.length ∧ i = .int .i64 k ∧ Aside0 (RowKit.Below w1.heap.size w1 wr ∧ IsSet wr (w1.heap.size + 1) w1.heap.size M.length (nrm (units (M.take k))) ∧ w1.heap.size + 1 ≤ wr.heap.size)) (fun _ i _ => M.length - (intOf i).toNat)
  case atStart => exact ⟨0, Nat.zero_le _, rfl, ⟨below_alloc (Below.refl _ _) _, by rw [List.take_zero]; rw [show units [] = [] from rfl, nrm_nil]; exact H0.out, by simp⟩⟩
  case round =>
    clear H0
    obtain ⟨k, hk, rfl, HO⟩ := hrel
    by_cases hlt : k < M.length
    · obtain ⟨ad, A2, c2, rfl, x0, x1, _, _⟩ := at_T31 (HC1.out _ HO.out.1) (k : Int) (by omega) (by omega)
      simp only [Int.toNat_natCast] at x0 x1
      obtain ⟨q, hq⟩ : ∃ q, q = rd_T31 M (k : Int) := ⟨_, rfl⟩
      rw [← hq] at x0 x1
      have hqe : q = M[k] := by rw [hq]; simp [rd_T31, List.getD_eq_getElem?_getD, List.getElem?_eq_getElem hlt]
      have hu : units (M.take (k + 1)) = units (M.take k) ++ [⟨q.f0, 1⟩] := by
        rw [List.take_succ_eq_append_getElem hlt, hqe]; unfold units; rw [List.map_append]; rfl
      have hmk : (units (M.take k)).all mayB = true := units_may _ (fun p hp => HR.out p (List.mem_of_mem_take hp))
      have hq1 : [(⟨q.f0, 1⟩ : S60)].all mayB = true := units_may [q] (fun p hp => by simp at hp; subst hp; rw [hqe]; exact HR.out _ (List.getElem_mem hlt))
      have hnl := nrm_len (units (M.take k))
      have hul : (units (M.take k)).length = k := by simp [units]; omega
      have HA := Lib.hid (add_ok M.length (nrm (units (M.take k))) [⟨q.f0, 1⟩] (nrm_nf _ (may_len _ hmk)).1 hq1 (by simp; omega))
      have HE := Lib.hid (nrm_absorb (units (M.take k)) [⟨q.f0, 1⟩] (units (M.take (k + 1))) (may_len _ hmk) (may_len _ hq1) (by rw [hu]))
      have HL2 := Lib.hid (show ((nrm (units (M.take k))).length + 1) * 16 ≤ 140737488355328 by omega)
      have b2 : (k : Int) < (M.length : Int) := by omega
      have HO' := Lib.hid HO.out
      clear hq hqe hu hmk hq1 hnl hul HO
      go_wp2_with (go_at_call 57; go_must (refine (add_calls (w1.heap.size + 1) w1.heap.size M.length (nrm (units (M.take k))) _ 1 [⟨q.f0, 1⟩] _ (HO'.out.2.1.below (below_alloc (below_alloc (Below.refl _ _) _) _)) (C60_one _ _ _ _ (by simp)) (Nat.le_refl 1) HL2.out (by have := HO'.out.2.2; simp; omega)).mono ?_; rintro _ w5 ⟨rfl, hI5, hM5⟩; rw [HA.out, HE.out] at hI5; rw [HA.out]; have HI5 := Lib.hid hI5; have HB5 := Lib.hid (hM5.below (n0 := w1.heap.size) (below_alloc (below_alloc HO'.out.1 _) _) (Nat.le_refl _) (by have := HO'.out.2.2; simp; omega) (by have := HO'.out.2.2; simp; omega)); have HS5 := Lib.hid (Nat.le_trans (show w1.heap.size + 1 ≤ _ by have := HO'.out.2.2; simp; omega) hM5.size); clear hI5 hM5))
      go_roundw
      case rel => exact ⟨k + 1, by omega, by go_num, ⟨HB5.out, HI5.out, HS5.out⟩⟩
      case measure => simp [intOf]; omega
    · obtain rfl : k = M.length := by omega
      rw [List.take_length] at HO
      have b2 : ¬ (M.length : Int) < (M.length : Int) := by omega
      go_wp2
      try rw [Exit.noGoto_ret]
      go_ret
      exact ⟨_, rfl, Below.trans HB1.out (HO.out.1.mono HB1.out.size), HO.out.2.1⟩
set_option maxHeartbeats 1000000 in
theorem setNil_calls (w : World) :
    Calls Try.prog 43 #[.pointer none] w fun e w' => e = .returned (.pointer (some ⟨w.heap.size, 0, none⟩)) ∧ RowKit.Below w.heap.size w w' ∧ IsSet w' (w.heap.size + 1) w.heap.size 0 [] := by
  go_enter Try.func43, Try.ntmps43
  go_wp2_with (first
    | (go_at_call 21; go_must (refine (putsNil_calls w).mono ?_; rintro _ w1 ⟨rfl, rfl⟩))
    | (go_at_call 62; go_must (refine (newAt_calls 0 (w1.heap.size + 1) w1.heap.size _ rfl (by omega)).mono ?_; rintro _ _ ⟨rfl, rfl, hI⟩; have H0 := Lib.hid hI; clear hI)))
  go_loop [6, 14] (fun _ i => i = .int .i64 0) (fun _ i => 0)
  case atStart => rfl
  case round =>
    obtain rfl := hrel
    go_wp2
    try rw [Exit.noGoto_ret]
    go_ret
    exact ⟨rfl, below_alloc (Below.refl _ _) _, H0.out⟩
set_option maxHeartbeats 1000000 in
theorem writeNil_calls (A : Option Addr) (c : Nat) (l : List S31) (w : World) :
    Calls Try.prog 17 #[.pointer none, .slice A l.length c] w fun e w' => e = .returned (.int .i64 (if l = [] then 1 else 2)) ∧ RowKit.Below w.heap.size w w' := by
  by_cases he : l = []
  · subst he
    rw [if_pos rfl]
    go_enter Try.func17, Try.ntmps17
    go_wp2
    try rw [Exit.noGoto_ret]
    go_ret
    exact ⟨rfl, below_alloc (Below.refl _ _) _⟩
  · have hne : ¬ ((l.length : Int) = 0) := by
      intro h; exact he (List.length_eq_zero_iff.1 (by omega))
    have hne' : ¬ (l.length = 0) := by omega
    rw [if_neg he]
    go_enter Try.func17, Try.ntmps17
    go_wp2
    try rw [Exit.noGoto_ret]
    go_ret
    exact ⟨rfl, below_alloc (Below.refl _ _) _⟩
set_option maxHeartbeats 4000000 in
set_option maxRecDepth 100000 in
theorem wnothing_calls (lba : Int) (w : World) :
    Calls Try.prog 12 #[.int .i64 lba] w fun e w' => e = .returned (.bool true) ∧ RowKit.Below w.heap.size w w' := by
  have t1 : True := trivial
  go_enter Try.func12, Try.ntmps12
  go_wp2_with (first
    | (go_at_call 24; go_must (refine (getNil_calls lba w).mono ?_; rintro _ w1 ⟨rfl, rfl⟩))
    | (go_at_call 43; go_must (refine (setNil_calls _).mono ?_; rintro _ w2 ⟨rfl, hB2, hI2⟩; have HB2 := Lib.hid hB2; have HI2 := Lib.hid hI2; clear hB2 hI2))
    | (go_at_call 15; go_must (refine (data_calls 1 _).mono ?_; rintro _ w3 ⟨v3, rfl, hR3, hB3⟩; obtain ⟨A3, c3, hv3, hc3, hC3⟩ := Kd.R_reads hR3; subst hv3; have HB3 := Lib.hid (below_step HB2.out hB3); have HI3 := Lib.hid (HI2.out.below hB3); clear hR3 hB3 hC3 hc3))
    | (go_at_call 17; have _t := t1; clear t1; go_must (refine (writeNil_calls _ 1 [⟨lba, dat 1⟩] _).mono ?_; rintro _ w4 ⟨rfl, hB4⟩; have HB4 := Lib.hid (below_step HB3.out (below_step (below_alloc (Below.refl _ _) _) hB4)); have HI4 := Lib.hid (HI3.out.below (below_step (below_alloc (Below.refl _ _) _) hB4)); clear hB4))
    | (go_at_call 17; go_must (refine (writeNil_calls none 0 [] _).mono ?_; rintro _ w5 ⟨rfl, hB5⟩; have HB5 := Lib.hid (below_step HB4.out hB5); have HI5 := Lib.hid (HI4.out.below hB5); clear hB5))
    | (go_at_call 18; go_must (refine (lenNil_calls _).mono ?_; rintro _ w6 ⟨rfl, rfl⟩))
    | (go_at_call 21; go_must (refine (putsNil_calls _).mono ?_; rintro _ w7 ⟨rfl, rfl⟩))
    | (go_at_call 35; go_must (refine (count_calls _ _ 0 [] _ HI5.out (by decide)).mono ?_; rintro _ w8 ⟨rfl, hB8⟩; have HB8 := Lib.hid (below_step HB5.out hB8); clear hB8; rw [show sumS [] = 0 from rfl]))
    | (go_at_call 13; go_must (refine (awakeB_calls _).mono ?_; rintro _ w9 ⟨rfl, hB9⟩; have HB9 := Lib.hid (below_step HB8.out hB9); clear hB9)))
  go_ret
  exact ⟨rfl, HB9.out⟩
end Go.Proofs.Ytbebihphodafiaa.Iv
