/- The walk of ival.Cut: the blocks of an extent that are in none of others. -/
import Derived.Test.YtpoiicfpldbgeaaProg
import Derived.Below
import Derived.Deep.Draws
import Derived.Deep.AppendLies
import Derived.Maps.AppendAt
import Derived.OwnWalk
import Derived.Laws.BytesArg
import Derived.Laws.MakeOwn
import Derived.Laws.OwnMore
import Derived.Deep.OwnRows
import Derived.Tactics
import Derived.Lib.ConvBytes
import Derived.Laws.Slices
import Derived.WalkKit
import Derived.KernelRfl
import Derived.RowKit3
import Derived.Deep.LoopGhost
import Derived.Deep.QuietTactic
import Derived.BigQuiet
import Derived.WideLaws
import Derived.Deep.DeepCutAuto
import Derived.Deep.CutBlock
import Derived.Deep.RegionHeld3
import Derived.Laws.Rows
import Derived.Lib.AppendStr
import Derived.ArgAppend
import Derived.Laws.IdiomCopy
import Derived.OrdersHeld
import Derived.Laws.BitsLemmas
import Derived.RowKit
import Derived.Test.YtpoiicfpldbgeaaWWords
import Derived.Test.YtpoiicfpldbgeaaWLast
import Derived.Test.YtpoiicfpldbgeaaWTab
import Derived.Test.YtpoiicfpldbgeaaWFour
import Derived.Test.YtpoiicfpldbgeaaWQPut
import Derived.Test.YtpoiicfpldbgeaaWApart
import Derived.Test.YtpoiicfpldbgeaaWArr
import Derived.Test.YtpoiicfpldbgeaaWZeros
import Derived.Test.YtpoiicfpldbgeaaWFoot
import Derived.Test.YtpoiicfpldbgeaaWKept
import Derived.Test.YtpoiicfpldbgeaaWShare
import Derived.Test.YtpoiicfpldbgeaaWN
import Derived.Test.YtpoiicfpldbgeaaWFootNe
import Derived.Test.YtpoiicfpldbgeaaWAt
import Derived.Test.YtpoiicfpldbgeaaWEqStruct
import Derived.Test.YtpoiicfpldbgeaaWRepsOne
import Derived.Test.YtpoiicfpldbgeaaWInv
import Derived.Test.YtpoiicfpldbgeaaWInvWords
import Derived.Test.YtpoiicfpldbgeaaWGuard
import Derived.Test.YtpoiicfpldbgeaaWNEv
import Derived.Test.YtpoiicfpldbgeaaWMore
import Derived.Outline
import Derived.Lib.Hide
import Derived.Deep.DeepMust
import Derived.IntWalk
import Derived.Test.YtpoiicfpldbgeaaIvI
import Derived.Test.YtpoiicfpldbgeaaIvT
namespace Go.Proofs.Ytpoiicfpldbgeaa.Iv
open Go.RowKit Go.Proofs.YtpoiicfpldbgeaaW.PrintWords Go.Proofs.YtpoiicfpldbgeaaW.PrintLast Go.Proofs.YtpoiicfpldbgeaaW.PrintMore Go.Proofs.Ytpoiicfpldbgeaa.PIv
set_option linter.unusedVariables false
set_option linter.unusedSimpArgs false

attribute [local go_sem] max2_int min2_int   -- for this text's walks alone
theorem C_oneAt (w : World) (a b : Int) (n : Nat) (hn : n = w.heap.size) : Kd.C k28 (w.alloc (.cells #[.int .i64 a, .int .i64 b] 28)) (some ⟨n, 0, none⟩) 1 [⟨a, b⟩] := by
  subst hn
  exact C_one w ⟨a, b⟩
set_option maxHeartbeats 4000000 in
set_option maxRecDepth 100000 in
theorem cut_calls (e : S28) (A : Option Addr) (c : Nat) (t : List S28) (w : World) (hr : Kd.C k28 w A t.length t) (hl : t.length ≤ 150) (he : mayB e = true) (ht : t.all mayB = true) :
    Calls Try.prog 20 #[ag e, .slice A t.length c] w fun r w' => ∃ v, r = .returned v ∧ RowKit.Below w.heap.size w w' ∧ Kd.R k28 28 w' w.heap.size (fun _ => True) v (cutF (e.f0 + e.f1) (nrm t) e.f0 []) := by
  show Calls Try.prog 20 #[.agg #[.int .i64 e.f0, .int .i64 e.f1], .slice A t.length c] w _
  have HR := Lib.hid (fun w' (h : RowKit.Below w.heap.size w w') => Kd.C_below hr h)
  have hm := fun W => may_calls e W
  unfold ag at hm
  rw [he] at hm
  have HALL := Lib.hid ht
  obtain ⟨e0, e1, e2⟩ := Okx.of_may he
  have htok : ∀ x ∈ t, Okx x := fun x hx => Okx.of_may (List.all_eq_true.1 ht x hx)
  have HOK := Lib.hid htok
  have HLok := Lib.hid (nrm_ok t htok)
  have hLl := nrm_len t
  obtain ⟨R, hR0⟩ : ∃ R, R = cutF (e.f0 + e.f1) (nrm t) e.f0 [] := ⟨_, rfl⟩
  rw [← hR0]
  obtain ⟨L, hL⟩ : ∃ L, L = nrm t := ⟨_, rfl⟩
  rw [← hL] at hLl HLok hR0
  have HL := Lib.hid hL
  have HR0 := Lib.hid hR0
  clear hr he ht htok hL hR0
  go_enter Try.func20, Try.ntmps20
  go_wp2_with (first
    | (go_at_call 29; go_must (refine (hm _).mono ?_; rintro _ w1 ⟨rfl, hB1⟩; have HB1 := Lib.hid (below_step (below_alloc (Below.refl _ _) _) hB1); have K0 := Lib.hid (pw_cell_below hB1 (World.cell?_alloc_at (w := w) #[.int .i64 e.f0, .int .i64 e.f1] 28 w.heap.size 0 rfl)); have K1 := Lib.hid (pw_cell_below hB1 (World.cell?_alloc_at (w := w) #[.int .i64 e.f0, .int .i64 e.f1] 28 w.heap.size 1 rfl)); clear hB1))
    | (go_at_call 21; go_must (refine (all_calls A c t _ (HR.out _ HB1.out) (by omega)).mono ?_; rw [HALL.out]; rintro _ w2 ⟨rfl, hB2⟩; have HB2 := Lib.hid (below_step HB1.out hB2); have k0 := pw_cell_below hB2 K0.out; have k1 := pw_cell_below hB2 K1.out; clear hB2 K0 K1 hm)))
  have wr0 : IntKind.i64.wrap (e.f0 + e.f1) = e.f0 + e.f1 := IntWalk.i64_in _ (by omega)
  go_quiet (fail)
  clear wr0 k0 k1
  have HB2' := Lib.hid (pw_below_drewN HB2.out nq)
  go_wp2_with (go_at_call 22; go_must (refine (joined_nrm A c t _ (HR.out _ HB2'.out) (by omega) HOK.out).mono ?_; rintro _ w3 ⟨v3, rfl, hB3, hR3⟩; rw [← HL.out] at hR3; obtain ⟨A3, c3, hv3, _, hC3⟩ := Kd.R_reads hR3; subst hv3; have HB3 := Lib.hid (below_step HB2'.out hB3); have HC3 := Lib.hid (fun w' (h : RowKit.Below w3.heap.size w3 w') => Kd.C_below hC3 h); clear hB3 hR3 hC3))
  clear HB1 HB2 HB2' HALL HOK HR HL
  go_loopw [4, 5, 8, 27] (fun v a _ i ww => ∃ (k : Nat) (at0 : Int) (o : List S28), k ≤ L.length ∧ i = .int .i64 k ∧ a = .int .i64 at0 ∧ 0 ≤ at0 ∧ at0 ≤ 2097154 ∧ o.length ≤ k ∧ Aside0 (RowKit.Below w3.heap.size w3 ww ∧ Kd.R k28 28 ww w3.heap.size (fun _ => True) v o ∧ cutF (e.f0 + e.f1) (L.drop k) at0 o = R)) (fun _ _ _ i _ => L.length - (intOf i).toNat)
  case atStart => exact ⟨0, e.f0, [], Nat.zero_le _, rfl, rfl, e0, by omega, Nat.le_refl _, ⟨Below.refl _ _, Kd.R_nil _ _ _ _ _, by rw [List.drop_zero]; exact HR0.out.symm⟩⟩
  case round =>
    obtain ⟨k, at0, o, hk, rfl, rfl, ha0, ha1, hol, HO⟩ := hrel
    have HRn := Lib.hid HO.out.2.1
    have HBs := Lib.hid HO.out.1.size
    obtain ⟨A5, c5, hv5, _, _⟩ := Kd.R_reads HO.out.2.1
    subst hv5
    have HNE := Lib.hid (fun he : some wr.heap.size = (Value.slice A5 o.length c5).ownBlock => Nat.lt_irrefl _ (Kd.R_lt HRn.out _ he.symm))
    have HOL := Lib.hid (show (o.length + 1) * 16 ≤ 140737488355328 by omega)
    have HK1 := Lib.hid (show o.length + 1 ≤ k + 1 by omega)
    have HK0 := Lib.hid (show o.length ≤ k + 1 by omega)
    by_cases hlt : k < L.length
    · obtain ⟨ad, rfl, c0, c1⟩ := at_T28 (HC3.out _ HO.out.1) (k : Int) (by omega) (by omega)
      simp only [Int.toNat_natCast] at c0 c1
      obtain ⟨q, hq⟩ : ∃ q, q = rd_T28 L (k : Int) := ⟨_, rfl⟩
      rw [← hq] at c0 c1
      have hqe : q = L[k] := by rw [hq]; simp [rd_T28, List.getD_eq_getElem?_getD, List.getElem?_eq_getElem hlt]
      obtain ⟨q0, q1, q2⟩ := HLok.out q (by rw [hqe]; exact List.getElem_mem hlt)
      have HD := Lib.hid (show L.drop k = q :: L.drop (k + 1) by rw [hqe]; exact List.drop_eq_getElem_cons hlt)
      have b2 : (k : Int) < (L.length : Int) := by omega
      clear hq hqe
      by_cases hge : e.f0 + e.f1 ≤ q.f0
      · have HE := Lib.hid (show tailC (e.f0 + e.f1) at0 o = R by rw [← HO.out.2.2, HD.out, cutF_stop _ _ _ _ _ hge])
        have HBx := Lib.hid (below_alloc HO.out.1 (.cells #[.int .i64 q.f0, .int .i64 q.f1] 28))
        have HRx := Lib.hid (Kd.R_alloc HRn.out (.cells #[.int .i64 q.f0, .int .i64 q.f1] 28))
        clear HO HRn
        by_cases hz : at0 < e.f0 + e.f1
        · have HT := Lib.hid (show tailC (e.f0 + e.f1) at0 o = o ++ [⟨at0, e.f0 + e.f1 - at0⟩] by unfold tailC; rw [if_pos hz])
          go_wp2_with ((with_reducible refine gate_builtin (b := .append) (xs := #[.tmp 59, .tmp 65]) rfl ?_); at_builtin; go_must (refine app_rows (w0 := w3) w3.heap.size rfl (.tmp 59) (.tmp 65) rfl (.slice A5 o.length c5) o [⟨at0, e.f0 + e.f1 - at0⟩] _ 1 1 rfl rfl (Kd.R_alloc HRx.out _) (C_oneAt _ _ _ _ (by simp)) (below_alloc HBx.out _) ?aS (by have := HOL.out; omega) ?_; (case aS => have := HBs.out; simp; omega); intro v6 w6 hR6 hB6 hg6; have HR6 := Lib.hid hR6; have HB6 := Lib.hid hB6; clear hR6 hB6 hg6))
          try rw [Exit.noGoto_ret]
          go_ret
          exact ⟨_, rfl, Below.trans HB3.out (HB6.out.mono HB3.out.size), by rw [← HE.out, HT.out]; exact Kd.R_lower HR6.out HB3.out.size⟩
        · have HT := Lib.hid (show tailC (e.f0 + e.f1) at0 o = o by unfold tailC; rw [if_neg hz])
          go_wp2
          try rw [Exit.noGoto_ret]
          go_ret
          exact ⟨_, rfl, Below.trans HB3.out ((HBx.out).mono HB3.out.size), by rw [← HE.out, HT.out]; exact Kd.R_lower (HRx.out) HB3.out.size⟩

      · have hge' : q.f0 < e.f0 + e.f1 := by omega
        by_cases hgt : at0 < q.f0
        · have HE := Lib.hid (show cutF (e.f0 + e.f1) (L.drop (k + 1)) (max at0 (q.f0 + q.f1)) (o ++ [⟨at0, q.f0 - at0⟩]) = R by rw [← HO.out.2.2, HD.out, cutF_on _ _ _ _ _ hge, if_pos hgt])
          have HBx := Lib.hid (below_alloc HO.out.1 (.cells #[.int .i64 q.f0, .int .i64 q.f1] 28))
          have HRx := Lib.hid (Kd.R_alloc HRn.out (.cells #[.int .i64 q.f0, .int .i64 q.f1] 28))
          have hbx := World.cell?_alloc_at (w := wr) #[.int .i64 q.f0, .int .i64 q.f1] 28 wr.heap.size 0 rfl
          have hby := World.cell?_alloc_at (w := wr) #[.int .i64 q.f0, .int .i64 q.f1] 28 wr.heap.size 1 rfl
          have HXY := Lib.hid (And.intro hbx hby)
          clear HO HRn hbx hby
          go_wp2_with ((with_reducible refine gate_builtin (b := .append) (xs := #[.tmp 39, .tmp 46]) rfl ?_); at_builtin; go_must (refine app_rows (w0 := w3) w3.heap.size rfl (.tmp 39) (.tmp 46) rfl (.slice A5 o.length c5) o [⟨at0, q.f0 - at0⟩] _ 1 1 rfl rfl (Kd.R_alloc HRx.out _) (C_oneAt _ _ _ _ (by simp)) (below_alloc HBx.out _) ?aS (by have := HOL.out; omega) ?_; (case aS => have := HBs.out; simp; omega); intro v6 w6 hR6 hB6 hg6; have HR6 := Lib.hid hR6; have HB6 := Lib.hid hB6; have x0 : w6.cell? ⟨wr.heap.size, 0, none⟩ = some (.int .i64 q.f0) := hg6.cell (a := ⟨wr.heap.size, 0, none⟩) (pw_cell_below (below_alloc (Below.refl _ _) _) HXY.out.1) HNE.out; have x1 : w6.cell? ⟨wr.heap.size, 1, none⟩ = some (.int .i64 q.f1) := hg6.cell (a := ⟨wr.heap.size, 1, none⟩) (pw_cell_below (below_alloc (Below.refl _ _) _) HXY.out.2) HNE.out; clear hR6 hB6 hg6))

          go_roundw
          case rel => exact ⟨k + 1, _, _, by omega, by go_num, rfl, by omega, by omega, by simp only [List.length_append, List.length_cons, List.length_nil]; exact HK1.out, ⟨HB6.out, HR6.out, HE.out⟩⟩
          case measure => simp [intOf]; omega
        · have HE := Lib.hid (show cutF (e.f0 + e.f1) (L.drop (k + 1)) (max at0 (q.f0 + q.f1)) o = R by rw [← HO.out.2.2, HD.out, cutF_on _ _ _ _ _ hge, if_neg hgt])
          have HBx := Lib.hid (below_alloc HO.out.1 (.cells #[.int .i64 q.f0, .int .i64 q.f1] 28))
          have HRx := Lib.hid (Kd.R_alloc HRn.out (.cells #[.int .i64 q.f0, .int .i64 q.f1] 28))
          clear HO HRn
          go_wp2
          go_roundw
          case rel => exact ⟨k + 1, _, _, by omega, by go_num, rfl, by omega, by omega, HK0.out, ⟨HBx.out, HRx.out, HE.out⟩⟩
          case measure => simp [intOf]; omega
    · obtain rfl : k = L.length := by omega
      have hF : L.drop L.length = [] := List.drop_length
      have HE := Lib.hid (show tailC (e.f0 + e.f1) at0 o = R by rw [← HO.out.2.2, hF, cutF_nil])
      have HBx := Lib.hid HO.out.1
      have b2 : ¬ (L.length : Int) < (L.length : Int) := by omega
      clear HO hF
      by_cases hz : at0 < e.f0 + e.f1
      · have HT := Lib.hid (show tailC (e.f0 + e.f1) at0 o = o ++ [⟨at0, e.f0 + e.f1 - at0⟩] by unfold tailC; rw [if_pos hz])
        go_wp2_with ((with_reducible refine gate_builtin (b := .append) (xs := #[.tmp 59, .tmp 65]) rfl ?_); at_builtin; go_must (refine app_rows (w0 := w3) w3.heap.size rfl (.tmp 59) (.tmp 65) rfl (.slice A5 o.length c5) o [⟨at0, e.f0 + e.f1 - at0⟩] _ 1 1 rfl rfl (Kd.R_alloc HRn.out _) (C_oneAt _ _ _ _ (by simp)) (below_alloc HBx.out _) ?aS (by have := HOL.out; omega) ?_; (case aS => have := HBs.out; simp; omega); intro v6 w6 hR6 hB6 hg6; have HR6 := Lib.hid hR6; have HB6 := Lib.hid hB6; clear hR6 hB6 hg6))
        try rw [Exit.noGoto_ret]
        go_ret
        exact ⟨_, rfl, Below.trans HB3.out (HB6.out.mono HB3.out.size), by rw [← HE.out, HT.out]; exact Kd.R_lower HR6.out HB3.out.size⟩
      · have HT := Lib.hid (show tailC (e.f0 + e.f1) at0 o = o by unfold tailC; rw [if_neg hz])
        go_wp2
        try rw [Exit.noGoto_ret]
        go_ret
        exact ⟨_, rfl, Below.trans HB3.out ((HBx.out).mono HB3.out.size), by rw [← HE.out, HT.out]; exact Kd.R_lower (HRn.out) HB3.out.size⟩
end Go.Proofs.Ytpoiicfpldbgeaa.Iv
