/- The walk of IvalCuts: what is cut off and what is left are an extent's blocks, each once. -/
import Derived.Test.YtpoiicfpldbgeaaProg
import Derived.Below
import Derived.Deep.Draws
import Derived.Deep.AppendLies
import Derived.Maps.AppendAt
import Derived.OwnWalk
import Derived.Laws.BytesArg
import Derived.Laws.MakeOwn
import Derived.Laws.OwnMore
import Derived.Deep.OwnRows
import Derived.Tactics
import Derived.Lib.ConvBytes
import Derived.Laws.Slices
import Derived.WalkKit
import Derived.KernelRfl
import Derived.RowKit3
import Derived.Deep.LoopGhost
import Derived.Deep.QuietTactic
import Derived.BigQuiet
import Derived.WideLaws
import Derived.Deep.DeepCutAuto
import Derived.Deep.CutBlock
import Derived.Deep.RegionHeld3
import Derived.Laws.Rows
import Derived.Lib.AppendStr
import Derived.ArgAppend
import Derived.Laws.IdiomCopy
import Derived.OrdersHeld
import Derived.Laws.BitsLemmas
import Derived.RowKit
import Derived.Test.YtpoiicfpldbgeaaWWords
import Derived.Test.YtpoiicfpldbgeaaWLast
import Derived.Test.YtpoiicfpldbgeaaWTab
import Derived.Test.YtpoiicfpldbgeaaWFour
import Derived.Test.YtpoiicfpldbgeaaWQPut
import Derived.Test.YtpoiicfpldbgeaaWApart
import Derived.Test.YtpoiicfpldbgeaaWArr
import Derived.Test.YtpoiicfpldbgeaaWZeros
import Derived.Test.YtpoiicfpldbgeaaWFoot
import Derived.Test.YtpoiicfpldbgeaaWKept
import Derived.Test.YtpoiicfpldbgeaaWShare
import Derived.Test.YtpoiicfpldbgeaaWN
import Derived.Test.YtpoiicfpldbgeaaWFootNe
import Derived.Test.YtpoiicfpldbgeaaWAt
import Derived.Test.YtpoiicfpldbgeaaWEqStruct
import Derived.Test.YtpoiicfpldbgeaaWRepsOne
import Derived.Test.YtpoiicfpldbgeaaWInv
import Derived.Test.YtpoiicfpldbgeaaWInvWords
import Derived.Test.YtpoiicfpldbgeaaWGuard
import Derived.Test.YtpoiicfpldbgeaaWNEv
import Derived.Test.YtpoiicfpldbgeaaWMore
import Derived.Outline
import Derived.Lib.Hide
import Derived.Deep.DeepMust
import Derived.IntWalk
import Derived.StillTailTactics
import Derived.Test.YtpoiicfpldbgeaaIvL
import Derived.Test.YtpoiicfpldbgeaaIvN
import Derived.Test.YtpoiicfpldbgeaaIvU
namespace Go.Proofs.Ytpoiicfpldbgeaa.Iv
open Go.RowKit Go.Proofs.YtpoiicfpldbgeaaW.PrintWords Go.Proofs.YtpoiicfpldbgeaaW.PrintLast Go.Proofs.YtpoiicfpldbgeaaW.PrintMore Go.Proofs.Ytpoiicfpldbgeaa.PIv
set_option linter.unusedVariables false
set_option linter.unusedSimpArgs false

structure JC (w : World) (e : S28) (L : List S28) (W : World) : Prop where
  below : RowKit.Below w.heap.size w W
  s : IsSet W (w.heap.size + 2) (w.heap.size + 1) 1000 L
  size : w.heap.size + 2 ≤ W.heap.size
  k0 : W.cell? ⟨w.heap.size, 0, none⟩ = some (.int .i64 e.f0)
  k1 : W.cell? ⟨w.heap.size, 1, none⟩ = some (.int .i64 e.f1)
section
variable {w W W' : World} {e : S28} {L L' : List S28}
theorem JC.step (h : JC w e L W) (hb : RowKit.Below W.heap.size W W') : JC w e L W' :=
  ⟨below_step h.below hb, h.s.below hb, Nat.le_trans h.size hb.size, pw_cell_below hb h.k0, pw_cell_below hb h.k1⟩
theorem JC.mvS (h : JC w e L W) (hs : IsSet W' (w.heap.size + 2) (w.heap.size + 1) 1000 L') (hm : Mv (w.heap.size + 1) W W') : JC w e L' W' := by
  have h2 := h.size
  exact ⟨hm.below h.below (by omega) (by omega) (by omega), hs, Nat.le_trans h2 hm.size, hm.cell (by simp) h.k0, hm.cell (by simp) h.k1⟩
end
def Vld (x : S28) : Prop := 0 ≤ x.f0 ∧ x.f0 ≤ 2000 ∧ 1 ≤ x.f1 ∧ x.f1 ≤ 300
theorem Vld.may {x : S28} (h : Vld x) : mayB x = true := by
  obtain ⟨a, b, c, d⟩ := h
  exact (mayB_iff x).2 ⟨a, by omega, c, by omega, by omega⟩
/-- What is left, asked block by block. -/
theorem left_iff (e : S28) (L : List S28) (hL : Nf L) (i : Int) (h0 : e.f0 ≤ i) (h1 : i < e.f0 + e.f1) : Cov (cutF (e.f0 + e.f1) L e.f0 []) i ↔ ¬ Cov L i := by
  rw [cutF_cov _ _ _ _ hL]
  simp [cov_nil, h0, h1]
set_option maxHeartbeats 8000000 in
set_option maxRecDepth 100000 in
theorem cuts_calls (e : S28) (A : Option Addr) (c : Nat) (t : List S28) (w : World) (hr : Kd.C k28 w A t.length t) (hc : t.length ≤ c) (hl : t.length ≤ 9223372036854775807) :
    Calls Try.prog 7 #[ag e, .slice A t.length c] w fun r w' => r = .returned (.bool true) ∧ RowKit.Below w.heap.size w w' := by
  show Calls Try.prog 7 #[.agg #[.int .i64 e.f0, .int .i64 e.f1], .slice A t.length c] w _
  have HR := Lib.hid (fun w' (h : RowKit.Below w.heap.size w w') => Kd.C_below hr h)
  have HC := Lib.hid hc
  clear hr hc
  by_cases hsm : t.length ≤ 150
  · have HSM := Lib.hid (show scarplaw11_small.f t = some true by unfold scarplaw11_small.f; simp; omega)
    by_cases g1 : e.f0 < 0
    · go_enter Try.func7, Try.ntmps7
      go_wp2_with (first
        | (go_at_call 19; go_must (refine (scarplaw11_small.calls A c t _ _ (HR.out _ (below_alloc (Below.refl _ _) _)) HC.out HSM.out).mono ?_; rintro _ _ ⟨rfl, ⟨⟨nq, rfl⟩⟩⟩))
        | (go_at_call 8; go_must (refine (awake_calls _).mono ?_; rintro _ w1 ⟨rfl, hB1⟩)))
      go_ret
      exact ⟨rfl, below_step (pw_below_drewN (below_alloc (Below.refl _ _) _) nq) hB1⟩
    by_cases g2 : 1000 < e.f0
    · go_enter Try.func7, Try.ntmps7
      go_wp2_with (first
        | (go_at_call 19; go_must (refine (scarplaw11_small.calls A c t _ _ (HR.out _ (below_alloc (Below.refl _ _) _)) HC.out HSM.out).mono ?_; rintro _ _ ⟨rfl, ⟨⟨nq, rfl⟩⟩⟩))
        | (go_at_call 8; go_must (refine (awake_calls _).mono ?_; rintro _ w1 ⟨rfl, hB1⟩)))
      go_ret
      exact ⟨rfl, below_step (pw_below_drewN (below_alloc (Below.refl _ _) _) nq) hB1⟩
    by_cases g3 : e.f1 < 1
    · go_enter Try.func7, Try.ntmps7
      go_wp2_with (first
        | (go_at_call 19; go_must (refine (scarplaw11_small.calls A c t _ _ (HR.out _ (below_alloc (Below.refl _ _) _)) HC.out HSM.out).mono ?_; rintro _ _ ⟨rfl, ⟨⟨nq, rfl⟩⟩⟩))
        | (go_at_call 8; go_must (refine (awake_calls _).mono ?_; rintro _ w1 ⟨rfl, hB1⟩)))
      go_ret
      exact ⟨rfl, below_step (pw_below_drewN (below_alloc (Below.refl _ _) _) nq) hB1⟩
    by_cases g4 : 300 < e.f1
    · go_enter Try.func7, Try.ntmps7
      go_wp2_with (first
        | (go_at_call 19; go_must (refine (scarplaw11_small.calls A c t _ _ (HR.out _ (below_alloc (Below.refl _ _) _)) HC.out HSM.out).mono ?_; rintro _ _ ⟨rfl, ⟨⟨nq, rfl⟩⟩⟩))
        | (go_at_call 8; go_must (refine (awake_calls _).mono ?_; rintro _ w1 ⟨rfl, hB1⟩)))
      go_ret
      exact ⟨rfl, below_step (pw_below_drewN (below_alloc (Below.refl _ _) _) nq) hB1⟩
    have e0 : 0 ≤ e.f0 := by omega
    have e1 : e.f0 ≤ 1000 := by omega
    have e2 : 1 ≤ e.f1 := by omega
    have e3 : e.f1 ≤ 300 := by omega
    have HME := Lib.hid ((mayB_iff e).2 ⟨e0, by omega, e2, by omega, by omega⟩)
    clear g1 g2 g3 g4
    go_enter Try.func7, Try.ntmps7
    go_wp2_with (first
      | (go_at_call 19; go_must (refine (scarplaw11_small.calls A c t _ _ (HR.out _ (below_alloc (Below.refl _ _) _)) HC.out HSM.out).mono ?_; rintro _ _ ⟨rfl, ⟨⟨nq, rfl⟩⟩⟩))
      | (go_at_call 9; go_must (refine (newAt_calls 1000 (w.heap.size + 2) (w.heap.size + 1) _ (by simp) (by omega)).mono ?_; rintro _ _ ⟨rfl, rfl, hI⟩; have H0 := Lib.hid (show JC w e [] _ from ⟨below_alloc (pw_below_drewN (below_alloc (Below.refl _ _) _) _) _, hI, by simp, pw_cell_below (below_alloc (pw_below_drewN (Below.refl _ _) nq) _) (World.cell?_alloc_at (w := w) #[.int .i64 e.f0, .int .i64 e.f1] 28 w.heap.size 0 rfl), pw_cell_below (below_alloc (pw_below_drewN (Below.refl _ _) nq) _) (World.cell?_alloc_at (w := w) #[.int .i64 e.f0, .int .i64 e.f1] 28 w.heap.size 1 rfl)⟩); clear hI)))
    go_loopw [6] (fun i wr => ∃ k : Nat, k ≤ t.length ∧ i = .int .i64 k ∧ Aside0 (JC w e (nrm (t.take k)) wr ∧ ∀ x ∈ t.take k, Vld x)) (fun i _ => t.length - (intOf i).toNat)
    case atStart => exact ⟨0, Nat.zero_le _, rfl, ⟨by rw [List.take_zero, nrm_nil]; exact H0.out, by simp⟩⟩
    case round =>
      clear H0
      obtain ⟨k, hk, rfl, HJV⟩ := hrel
      have HJ := Lib.hid HJV.out.1
      have HV := Lib.hid HJV.out.2
      clear HJV
      by_cases hlt : k < t.length
      · obtain ⟨ad, rfl, c0, c1⟩ := at_T28 (HR.out _ HJ.out.below) (k : Int) (by omega) (by omega)
        simp only [Int.toNat_natCast] at c0 c1
        obtain ⟨q, hq⟩ : ∃ q, q = rd_T28 t (k : Int) := ⟨_, rfl⟩
        rw [← hq] at c0 c1
        have HQ := Lib.hid (show t.take (k + 1) = t.take k ++ [q] by
          have hqe : q = t[k] := by rw [hq]; simp [rd_T28, List.getD_eq_getElem?_getD, List.getElem?_eq_getElem hlt]
          rw [hqe]; exact List.take_succ_eq_append_getElem hlt)
        have b2 : (k : Int) < (t.length : Int) := by omega
        clear hq
        by_cases g1 : q.f0 < 0
        · go_wp2_with (go_at_call 8; go_must (refine (awake_calls _).mono ?_; rintro _ w5 ⟨rfl, hB5⟩))
          try rw [Exit.noGoto_ret]
          go_ret
          exact ⟨rfl, below_step HJ.out.below hB5⟩
        by_cases g2 : 2000 < q.f0
        · go_wp2_with (go_at_call 8; go_must (refine (awake_calls _).mono ?_; rintro _ w5 ⟨rfl, hB5⟩))
          try rw [Exit.noGoto_ret]
          go_ret
          exact ⟨rfl, below_step HJ.out.below hB5⟩
        by_cases g3 : q.f1 < 1
        · go_wp2_with (go_at_call 8; go_must (refine (awake_calls _).mono ?_; rintro _ w5 ⟨rfl, hB5⟩))
          try rw [Exit.noGoto_ret]
          go_ret
          exact ⟨rfl, below_step HJ.out.below hB5⟩
        by_cases g4 : 300 < q.f1
        · go_wp2_with (go_at_call 8; go_must (refine (awake_calls _).mono ?_; rintro _ w5 ⟨rfl, hB5⟩))
          try rw [Exit.noGoto_ret]
          go_ret
          exact ⟨rfl, below_step HJ.out.below hB5⟩
        have hvq : Vld q := ⟨by omega, by omega, by omega, by omega⟩
        have hall : (t.take k).all mayB = true := List.all_eq_true.2 (fun x hx => (HV.out x hx).may)
        have hq1 : [q].all mayB = true := by simp [hvq.may]
        have hnl := nrm_len (t.take k)
        have htl : (t.take k).length ≤ t.length := by rw [List.length_take]; omega
        have HA2 := Lib.hid (add_ok 1000 (nrm (t.take k)) [q] (nrm_nf _ (may_len _ hall)).1 hq1 (by simp; omega))
        have HE2 := Lib.hid (nrm_absorb (t.take k) [q] (t.take (k + 1)) (may_len _ hall) (may_len _ hq1) (by rw [HQ.out]))
        have HL2 := Lib.hid (show ((nrm (t.take k)).length + 1) * 16 ≤ 140737488355328 by omega)
        have HV2 := Lib.hid (show ∀ x ∈ t.take (k + 1), Vld x by
          intro x hx
          rw [HQ.out] at hx
          rcases List.mem_append.1 hx with h | h
          · exact HV.out x h
          · simp at h; subst h; exact hvq)
        have HD := Lib.hid (show k + 1 ≤ t.length by omega)
        clear hvq hall hq1 hnl htl
        go_wp2_with (go_at_call 10; go_must (refine (add_calls (w.heap.size + 2) (w.heap.size + 1) 1000 (nrm (t.take k)) _ 1 [q] _ (HJ.out.step (below_alloc (Below.refl _ _) _)).s (C_one _ q) (Nat.le_refl 1) HL2.out (HJ.out.step (below_alloc (Below.refl _ _) _)).size).mono ?_; rintro _ w5 ⟨rfl, hI5, hM5⟩; rw [HA2.out, HE2.out] at hI5; rw [HA2.out]; have H5 := Lib.hid ((HJ.out.step (below_alloc (Below.refl _ _) _)).mvS hI5 hM5); clear hI5 hM5))
        go_roundw
        case rel => exact ⟨k + 1, HD.out, by go_num, ⟨H5.out, HV2.out⟩⟩
        case measure => simp [intOf]; omega
      · obtain rfl : k = t.length := by omega
        rw [List.take_length] at HJ HV
        have b2 : ¬ (t.length : Int) < (t.length : Int) := by omega
        have hall : t.all mayB = true := List.all_eq_true.2 (fun x hx => (HV.out x hx).may)
        have HALL := Lib.hid hall
        have hNF := nrm_nf t (may_len _ hall)
        have hlen := nrm_len t
        obtain ⟨P, hP⟩ : ∃ P, P = cutF (e.f0 + e.f1) (nrm t) e.f0 [] := ⟨_, rfl⟩
        have hpc := cutF_pcs e.f0 (e.f0 + e.f1) (nrm t) e.f0 [] hNF.1 ⟨⟨List.Pairwise.nil, by simp⟩, by simp⟩ (by simp) (Int.le_refl _)
        have hpl := cutF_len (e.f0 + e.f1) (nrm t) e.f0 []
        have hcv := left_iff e (nrm t) hNF.1
        rw [← hP] at hpc hpl hcv
        have hpl2 : P.length ≤ 151 := by simp at hpl; omega
        obtain ⟨L, hL⟩ : ∃ L, L = nrm t := ⟨_, rfl⟩
        rw [← hL] at hlen hcv HJ hNF hP
        have HP := Lib.hid hP
        have HL := Lib.hid hL
        have HPC := Lib.hid hpc
        have HCV := Lib.hid hcv
        have HNF := Lib.hid hNF.1
        have hL150 : L.length ≤ 150 := by omega
        have HLL := Lib.hid (show L.length ≤ 1000000 by omega)
        have k0 := HJ.out.k0
        have k1 := HJ.out.k1
        clear hall hNF hlen hP hpc hpl hcv hL
        go_wp2_with (go_at_call 20; go_must (refine (cut_calls e A c t _ (HR.out _ HJ.out.below) hsm HME.out HALL.out).mono ?_; rw [← HL.out, ← HP.out]; rintro _ w7 ⟨v7, rfl, hB7, hR7⟩; obtain ⟨A7, c7, hv7, _, hC7⟩ := Kd.R_reads hR7; subst hv7; have H7 := Lib.hid (HJ.out.step hB7); have HC7 := Lib.hid (fun w' (h : RowKit.Below w7.heap.size w7 w') => Kd.C_below hC7 h); have k0 := H7.out.k0; have k1 := H7.out.k1; clear hB7 hR7 hC7))
        clear HJ HV HME HALL
        go_loopw [8, 9, 10] (fun a i _ wr => ∃ (k : Nat) (x : Int), k ≤ P.length ∧ a = .int .i64 k ∧ i = .int .i64 x ∧ e.f0 ≤ x ∧ x ≤ e.f0 + e.f1 ∧ Aside0 (JC w e L wr ∧ RowKit.Below w7.heap.size w7 wr ∧ ∀ j, j < k → ∀ hj : j < P.length, (P[j]).f0 + (P[j]).f1 ≤ x)) (fun _ i _ _ => (e.f0 + e.f1 - intOf i).toNat)
        case atStart => exact ⟨0, e.f0, Nat.zero_le _, rfl, rfl, Int.le_refl _, by omega, ⟨H7.out, Below.refl _ _, fun j hj => absurd hj (Nat.not_lt_zero _)⟩⟩
        case round =>
          clear k0 k1
          obtain ⟨k, x, hk, rfl, rfl, hx0, hx1, HO⟩ := hrel
          have k0 := HO.out.1.k0
          have k1 := HO.out.1.k1
          by_cases hlt : x < e.f0 + e.f1
          · have HCX := Lib.hid (HCV.out x hx0 hlt)
            have HHA := Lib.hid (cov_mayhas L x (by omega) (by omega))
            have wx : wrap64 (x + 1) = x + 1 := by unfold wrap64; omega
            have HK := Lib.hid hk
            have HOO := Lib.hid HO.out
            have wxx := Lib.hid wx
            clear HO wx hk
            obtain ⟨wo, hwo⟩ : ∃ wo : World, wo = wr := ⟨_, rfl⟩
            subst hwo
            go_wp2
            go_loopw [8] (fun a wr => ∃ k : Nat, k ≤ P.length ∧ a = .int .i64 k ∧ Aside0 (JC w e L wr ∧ RowKit.Below w7.heap.size w7 wr ∧ ∀ j, j < k → ∀ hj : j < P.length, (P[j]).f0 + (P[j]).f1 ≤ x)) (fun a _ => P.length - (intOf a).toNat)
            case atStart => exact ⟨k, HK.out, rfl, ⟨HOO.out⟩⟩
            case round =>
              clear HOO HK k0 k1
              obtain ⟨m, hm, rfl, HI⟩ := hrel
              have HM := Lib.hid hm
              have HJ := Lib.hid HI.out.1
              have HB := Lib.hid HI.out.2.1
              have HF := Lib.hid HI.out.2.2
              clear HI
              by_cases hmt : m < P.length
              · obtain ⟨ad, rfl, c0, c1⟩ := at_T28 (HC7.out _ HB.out) (m : Int) (by omega) (by omega)
                simp only [Int.toNat_natCast] at c0 c1
                obtain ⟨q, hq⟩ : ∃ q, q = rd_T28 P (m : Int) := ⟨_, rfl⟩
                rw [← hq] at c0 c1
                have hqe : q = P[m] := by rw [hq]; simp only [rd_T28, Int.toNat_natCast, List.getD_eq_getElem?_getD, List.getElem?_eq_getElem hmt, Option.getD_some]
                have hqm : q ∈ P := by rw [hqe]; exact List.getElem_mem _
                obtain ⟨q0, q1⟩ := HPC.out.2 q hqm
                have q2 := HPC.out.1.2 q hqm
                have HQE := Lib.hid hqe
                have b1 : 0 ≤ (m : Int) := by omega
                have b2 : (m : Int) < (P.length : Int) := by omega
                have b3 : decide (m < P.length) = true := by simpa using hmt
                have b4 : decide ((m : Int) < (P.length : Int)) = true := by simpa using b2
                have wq : IntKind.i64.wrap (q.f0 + q.f1) = q.f0 + q.f1 := IntWalk.i64_in _ (by omega)
                clear hq hqe hqm
                by_cases hx : q.f0 + q.f1 ≤ x
                · have d1 : decide (q.f0 + q.f1 ≤ x) = true := by simpa using hx
                  have HF2 := Lib.hid (show ∀ j, j < m + 1 → ∀ hj : j < P.length, (P[j]).f0 + (P[j]).f1 ≤ x by
                    intro j hj hj2
                    rcases Nat.lt_succ_iff_lt_or_eq.1 hj with h | h
                    · exact HF.out j h hj2
                    · subst h; rw [← HQE.out]; exact hx)
                  go_wp2
                  go_quiet (fail)
                  clear wq
                  go_wp2
                  go_roundw
                  case rel => exact ⟨m + 1, by omega, by go_num, ⟨HJ.out.step (pw_below_drewN (Below.refl _ _) _), pw_below_drewN HB.out _, HF2.out⟩⟩
                  case measure => simp [intOf]; omega
                · have d1 : decide (q.f0 + q.f1 ≤ x) = false := by simpa using hx
                  have hca := cov_at P HPC.out.1 m x HF.out (fun hj => by rw [← HQE.out]; omega)
                  have HCA := Lib.hid (show Cov P x ↔ q.f0 ≤ x by
                    rw [hca]
                    constructor
                    · rintro ⟨hj, h⟩; rw [HQE.out]; exact h
                    · intro h; exact ⟨hmt, by rw [← HQE.out]; exact h⟩)
                  clear hca
                  go_wp2
                  go_quiet (fail)
                  clear wq
                  have c0 : (wr.drewN nq).cell? (ad.add (m * 2)) = some (.int .i64 q.f0) := c0
                  have HJ2 := Lib.hid (HJ.out.step (pw_below_drewN (Below.refl _ _) nq))
                  have HB2 := Lib.hid (pw_below_drewN HB.out nq)
                  clear HJ HB
                  by_cases hin : q.f0 ≤ x
                  · have HA := Lib.hid (show hasB L x = false by
                      rw [Bool.eq_false_iff]; intro h; exact (HCX.out.1 (HCA.out.2 hin)) (HHA.out.1 h))
                    have d2 : decide (q.f0 ≤ x) = true := by simpa using hin
                    clear HCA
                    go_wp2_with (go_at_call 15; go_must (refine (has_calls (w.heap.size + 2) (w.heap.size + 1) 1000 L x _ HJ2.out.s HLL.out).mono ?_; rw [HA.out]; rintro _ w8 ⟨rfl, hB8⟩; have H8 := Lib.hid (HJ2.out.step hB8); have HB8 := Lib.hid (below_step HB2.out hB8); clear hB8))
                    go_roundw
                    case rel => exact ⟨m, x + 1, HM.out, rfl, rfl, by omega, by omega, ⟨H8.out, HB8.out, fun j hj hj2 => Int.le_trans (HF.out j hj hj2) (by omega)⟩⟩
                    case measure => simp [intOf]; omega
                  · have HA := Lib.hid (show hasB L x = true by
                      refine HHA.out.2 (Classical.byContradiction fun h => hin (HCA.out.1 (HCX.out.2 h))))
                    have d2 : decide (q.f0 ≤ x) = false := by simpa using hin
                    clear HCA
                    go_wp2_with (go_at_call 15; go_must (refine (has_calls (w.heap.size + 2) (w.heap.size + 1) 1000 L x _ HJ2.out.s HLL.out).mono ?_; rw [HA.out]; rintro _ w8 ⟨rfl, hB8⟩; have H8 := Lib.hid (HJ2.out.step hB8); have HB8 := Lib.hid (below_step HB2.out hB8); clear hB8))
                    go_roundw
                    case rel => exact ⟨m, x + 1, HM.out, rfl, rfl, by omega, by omega, ⟨H8.out, HB8.out, fun j hj hj2 => Int.le_trans (HF.out j hj hj2) (by omega)⟩⟩
                    case measure => simp [intOf]; omega
              · have hca := cov_at P HPC.out.1 m x HF.out (fun hj => absurd hj hmt)
                have HA := Lib.hid (show hasB L x = true by
                  refine HHA.out.2 (Classical.byContradiction fun h => ?_)
                  obtain ⟨hj, _⟩ := hca.1 (HCX.out.2 h)
                  exact hmt hj)
                have b2 : ¬ (m : Int) < (P.length : Int) := by omega
                have b3 : decide (m < P.length) = false := by simpa using hmt
                have b4 : decide ((m : Int) < (P.length : Int)) = false := by simpa using b2
                clear hca
                go_wp2
                go_quiet (fail)
                have HJ2 := Lib.hid (HJ.out.step (pw_below_drewN (Below.refl _ _) nq))
                have HB2 := Lib.hid (pw_below_drewN HB.out nq)
                clear HJ HB
                go_wp2_with (go_at_call 15; go_must (refine (has_calls (w.heap.size + 2) (w.heap.size + 1) 1000 L x _ HJ2.out.s HLL.out).mono ?_; rw [HA.out]; rintro _ w8 ⟨rfl, hB8⟩; have H8 := Lib.hid (HJ2.out.step hB8); have HB8 := Lib.hid (below_step HB2.out hB8); clear hB8))
                go_roundw
                case rel => exact ⟨m, x + 1, HM.out, rfl, rfl, by omega, by omega, ⟨H8.out, HB8.out, fun j hj hj2 => Int.le_trans (HF.out j hj hj2) (by omega)⟩⟩
                case measure => simp [intOf]; omega
          · have HJ := Lib.hid HO.out.1
            have HB := Lib.hid HO.out.2.1
            clear HO
            obtain ⟨wo, hwo⟩ : ∃ wo : World, wo = wr := ⟨_, rfl⟩
            subst hwo
            go_wp2
            go_loopw [11] (fun i wr => ∃ m : Nat, m ≤ P.length ∧ i = .int .i64 m ∧ Aside0 (JC w e L wr ∧ RowKit.Below w7.heap.size w7 wr)) (fun i _ => P.length - (intOf i).toNat)
            case atStart => exact ⟨0, Nat.zero_le _, rfl, ⟨HJ.out, HB.out⟩⟩
            case round =>
              clear HJ HB k0 k1
              obtain ⟨m, hm, rfl, HI⟩ := hrel
              have HJ := Lib.hid HI.out.1
              have HB := Lib.hid HI.out.2
              have k0 := HJ.out.k0
              have k1 := HJ.out.k1
              clear HI
              by_cases hmt : m < P.length
              · obtain ⟨ad, rfl, c0, c1⟩ := at_T28 (HC7.out _ HB.out) (m : Int) (by omega) (by omega)
                simp only [Int.toNat_natCast] at c0 c1
                obtain ⟨q, hq⟩ : ∃ q, q = rd_T28 P (m : Int) := ⟨_, rfl⟩
                rw [← hq] at c0 c1
                have hqe : q = P[m] := by rw [hq]; simp only [rd_T28, Int.toNat_natCast, List.getD_eq_getElem?_getD, List.getElem?_eq_getElem hmt, Option.getD_some]
                have hqm : q ∈ P := by rw [hqe]; exact List.getElem_mem _
                obtain ⟨q0, q1⟩ := HPC.out.2 q hqm
                have q2 := HPC.out.1.2 q hqm
                have HNO := Lib.hid (show (mayB q && L.any fun x => meetB x q) = false by
                  rw [meet_none L HNF.out q q2 (fun y hy0 hy1 => (HCV.out y (by omega) (by omega)).1 ⟨q, hqm, hy0, hy1⟩), Bool.and_false])
                have hmc := fun W (h : IsSet W (w.heap.size + 2) (w.heap.size + 1) 1000 L) => meets_calls (w.heap.size + 2) (w.heap.size + 1) 1000 L q W h HLL.out
                rw [HNO.out] at hmc
                unfold ag at hmc
                have HMC := Lib.hid hmc
                have b1 : 0 ≤ (m : Int) := by omega
                have b2 : (m : Int) < (P.length : Int) := by omega
                have wq : IntKind.i64.wrap (q.f0 + q.f1) = q.f0 + q.f1 := IntWalk.i64_in _ (by omega)
                have we : IntKind.i64.wrap (e.f0 + e.f1) = e.f0 + e.f1 := IntWalk.i64_in _ (by omega)
                have d1 : decide (q.f0 < e.f0) = false := by simp; omega
                have d2 : decide (q.f1 < 1) = false := by simp; omega
                have d3 : decide (e.f0 + e.f1 < q.f0 + q.f1) = false := by simp; omega
                have HD := Lib.hid (show m + 1 ≤ P.length by omega)
                clear hq hqe hqm hmc
                go_wp2
                go_still_tail 41, (by kernel_rfl)
                change wpList _ _ _ _ _ wr.drew
                have HJ2 := Lib.hid (HJ.out.step (below_drew1 (Below.refl _ _)))
                have HB2 := Lib.hid (below_drew1 HB.out)
                clear HJ HB k0 k1 c0 c1 wq we
                generalize wr.drew = w2 at *
                go_wp2_with (go_at_call 18; go_must (refine (HMC.out _ HJ2.out.s).mono ?_; rintro _ w8 ⟨rfl, hB8⟩; have H8 := Lib.hid (HJ2.out.step hB8); have HB8 := Lib.hid (below_step HB2.out hB8); clear hB8))
                go_roundw
                case rel => exact ⟨m + 1, HD.out, by go_num, ⟨H8.out, HB8.out⟩⟩
                case measure => simp [intOf]; omega
              · have b2 : ¬ (m : Int) < (P.length : Int) := by omega
                go_wp2_with (go_at_call 8; go_must (refine (awake_calls _).mono ?_; rintro _ w9 ⟨rfl, hB9⟩))
                try rw [Exit.noGoto_ret]
                go_ret
                exact ⟨rfl, below_step HJ.out.below hB9⟩
  · have HSM := Lib.hid (show scarplaw11_small.f t = some false by unfold scarplaw11_small.f; simp; omega)
    go_enter Try.func7, Try.ntmps7
    go_wp2_with (first
      | (go_at_call 19; go_must (refine (scarplaw11_small.calls A c t _ _ (HR.out _ (below_alloc (Below.refl _ _) _)) HC.out HSM.out).mono ?_; rintro _ _ ⟨rfl, ⟨⟨nq, rfl⟩⟩⟩))
      | (go_at_call 8; go_must (refine (awake_calls _).mono ?_; rintro _ w1 ⟨rfl, hB1⟩)))
    go_ret
    exact ⟨rfl, below_step (pw_below_drewN (below_alloc (Below.refl _ _) _) nq) hB1⟩
end Go.Proofs.Ytpoiicfpldbgeaa.Iv
