/- The walk of WbufRefused: each thing that may not be has its own error, and the first of these is told. -/
import Derived.Test.YtbebihphodafiaaProg
import Derived.Below
import Derived.Deep.Draws
import Derived.Deep.AppendLies
import Derived.Maps.AppendAt
import Derived.OwnWalk
import Derived.Laws.BytesArg
import Derived.Laws.MakeOwn
import Derived.Laws.OwnMore
import Derived.Deep.OwnRows
import Derived.Tactics
import Derived.Lib.ConvBytes
import Derived.Laws.Slices
import Derived.WalkKit
import Derived.KernelRfl
import Derived.RowKit3
import Derived.Deep.LoopGhost
import Derived.Deep.QuietTactic
import Derived.BigQuiet
import Derived.WideLaws
import Derived.Deep.DeepCutAuto
import Derived.Deep.CutBlock
import Derived.Deep.RegionHeld3
import Derived.Laws.Rows
import Derived.Lib.AppendStr
import Derived.ArgAppend
import Derived.Laws.IdiomCopy
import Derived.OrdersHeld
import Derived.Laws.BitsLemmas
import Derived.RowKit
import Derived.Test.YtbebihphodafiaaWWords
import Derived.Test.YtbebihphodafiaaWLast
import Derived.Test.YtbebihphodafiaaWTab
import Derived.Test.YtbebihphodafiaaWFour
import Derived.Test.YtbebihphodafiaaWQPut
import Derived.Test.YtbebihphodafiaaWApart
import Derived.Test.YtbebihphodafiaaWArr
import Derived.Test.YtbebihphodafiaaWZeros
import Derived.Test.YtbebihphodafiaaWFoot
import Derived.Test.YtbebihphodafiaaWKept
import Derived.Test.YtbebihphodafiaaWShare
import Derived.Test.YtbebihphodafiaaWN
import Derived.Test.YtbebihphodafiaaWFootNe
import Derived.Test.YtbebihphodafiaaWAt
import Derived.Test.YtbebihphodafiaaWEqStruct
import Derived.Test.YtbebihphodafiaaWRepsOne
import Derived.Test.YtbebihphodafiaaWInv
import Derived.Test.YtbebihphodafiaaWInvWords
import Derived.Test.YtbebihphodafiaaWGuard
import Derived.Test.YtbebihphodafiaaWNEv
import Derived.Test.YtbebihphodafiaaWMore
import Derived.Outline
import Derived.Lib.Hide
import Derived.Deep.DeepMust
import Derived.IntWalk
import Derived.Test.YtbebihphodafiaaWbH
namespace Go.Proofs.Ytbebihphodafiaa.Iv
open Go.RowKit Go.Proofs.YtbebihphodafiaaW.PrintWords Go.Proofs.YtbebihphodafiaaW.PrintLast Go.Proofs.YtbebihphodafiaaW.PrintMore Go.Proofs.Ytbebihphodafiaa.PWb Go.Maps
set_option linter.unusedVariables false
set_option linter.unusedSimpArgs false

set_option maxHeartbeats 40000000 in
set_option maxRecDepth 100000 in
theorem refused_calls (lba n : Int) (tw : Bool) (many : Int) (w : World) :
    Calls Try.prog 3 #[.int .i64 lba, .int .i64 n, .bool tw, .int .i64 many] w fun e w' => e = .returned (.bool true) ∧ RowKit.Below w.heap.size w w' := by
  have t1 : True := trivial
  by_cases g1 : many < 1
  · go_enter Try.func3, Try.ntmps3
    go_wp2_with (go_at_call 13; go_must (refine (awakeB_calls _).mono ?_; rintro _ w1 ⟨rfl, hB1⟩))
    go_ret
    exact ⟨rfl, hB1⟩
  by_cases g2 : 20 < many
  · go_enter Try.func3, Try.ntmps3
    go_wp2_with (go_at_call 13; go_must (refine (awakeB_calls _).mono ?_; rintro _ w1 ⟨rfl, hB1⟩))
    go_ret
    exact ⟨rfl, hB1⟩
  by_cases g3 : n < 0
  · go_enter Try.func3, Try.ntmps3
    go_wp2_with (go_at_call 13; go_must (refine (awakeB_calls _).mono ?_; rintro _ w1 ⟨rfl, hB1⟩))
    go_ret
    exact ⟨rfl, hB1⟩
  by_cases g4 : 80 < n
  · go_enter Try.func3, Try.ntmps3
    go_wp2_with (go_at_call 13; go_must (refine (awakeB_calls _).mono ?_; rintro _ w1 ⟨rfl, hB1⟩))
    go_ret
    exact ⟨rfl, hB1⟩
  obtain ⟨m, rfl⟩ : ∃ m : Nat, many = m := ⟨many.toNat, by omega⟩
  obtain ⟨nn, rfl⟩ : ∃ nn : Nat, n = nn := ⟨n.toNat, by omega⟩
  obtain ⟨bk, hbk, hbl⟩ := block_ok nn 1 (by omega)
  have HBK := Lib.hid hbk
  have HBL := Lib.hid hbl
  have hm1 : 1 ≤ m := by omega
  have hm2 : m ≤ 20 := by omega
  have hn2 : nn ≤ 80 := by omega
  have HLAW0 := Lib.hid (refused_law lba nn bk tw m hm1 hm2 (by omega))
  clear g1 g2 g3 g4 hbk hbl
  go_enter Try.func3, Try.ntmps3
  go_wp2_with (go_at_call 14; go_must (refine (newB_calls 100 16 (w.heap.size + 2) w.heap.size w ⟨by decide, by decide, by decide⟩ rfl (by omega)).mono ?_; rintro _ w1 ⟨rfl, hB1, hI1, hS1⟩; have H1 := Lib.hid (show JB w (w.heap.size + 2) w.heap.size 100 16 [] w1 from ⟨hB1, Nat.le_refl _, hI1, by omega⟩); clear hB1 hI1 hS1))
  go_loopw [11, 12] (fun v i wr => ∃ k : Nat, k ≤ m ∧ i = .int .i64 k ∧ Aside0 (RowKit.Below w1.heap.size w1 wr ∧ Kd.R k31 31 wr w1.heap.size (fun _ => True) v (rowP k))) (fun _ i _ => m - (intOf i).toNat)
  case atStart => exact ⟨0, Nat.zero_le _, rfl, ⟨Below.refl _ _, by simpa [rowP] using Kd.R_nil _ _ _ _ _⟩⟩
  case round =>
    obtain ⟨k, hk, rfl, HO⟩ := hrel
    obtain ⟨A2, c2, hv2⟩ := Kd.R_slice HO.out.2
    subst hv2
    rw [rowP_len] at HO ⊢
    have HR := Lib.hid HO.out.2
    have HB := Lib.hid HO.out.1
    clear HO
    by_cases hlt : k < m
    · have HT := Lib.hid (rowP_succ k)
      have HPL := Lib.hid (rowP_len k)
      have b2 : (k : Int) < (m : Int) := by omega
      go_wp2_with (first
        | (go_at_call 15; go_must (refine (data_calls (k : Int) _).mono ?_; rintro _ w6 ⟨v6, rfl, hR6, hB6⟩; obtain ⟨A7, c7, hv7⟩ := Kd.R_slice hR6; subst hv7; have HB6 := Lib.hid (below_step HB.out hB6); have HR6 := Lib.hid (Kd.R_lower (Kd.R_new' hR6 (Kd.R_lt HR.out)) HB.out.size); have HO6 := Lib.hid (Kd.R_below HR.out hB6); clear hB6 hR6))
        | ((with_reducible refine gate_builtin (b := .append) (xs := #[.tmp 46, .tmp 52]) rfl ?_); at_builtin; go_must (refine app_put (w0 := w1) w1.heap.size rfl (.tmp 46) (.tmp 52) rfl (.slice A2 k c2) (rowP k) ⟨40 + (k : Int), dat k⟩ (.slice A7 (dat k).length c7) rfl rfl HR6.out HO6.out HB6.out HB6.out.size (by have := HPL.out; omega) ?_; intro v7 w7 hR7 hB7 hg7 _; have HR7 := Lib.hid hR7; have HB7 := Lib.hid hB7; clear hR7 hB7 hg7)))
      go_roundw
      case rel => exact ⟨k + 1, by omega, by go_num, ⟨HB7.out, by rw [HT.out]; exact HR7.out⟩⟩
      case measure => simp [intOf]; omega
    · obtain rfl : k = m := by omega
      have b2 : ¬ (k : Int) < (k : Int) := by omega
      have HPL := Lib.hid (rowP_len k)
      have HPL2 := Lib.hid (show (rowP k ++ [(⟨lba, bk⟩ : S31)]).length = k + 1 by rw [List.length_append, rowP_len]; rfl)
      obtain ⟨p0, hp0⟩ : ∃ p0, p0 = pt 0 := ⟨_, rfl⟩
      have HP0 := Lib.hid (show (rowP k ++ [(⟨lba, bk⟩ : S31)]).getD (0 : Int).toNat z31 = p0 by
        rw [hp0, List.getD_eq_getElem?_getD, List.getElem?_append_left (by rw [rowP_len]; exact hm1)]
        unfold rowP
        rw [Int.toNat_zero, List.getElem?_map, List.getElem?_range (by omega)]
        rfl)
      obtain ⟨L, hL⟩ : ∃ L, L = rowL k ⟨lba, bk⟩ tw := ⟨_, rfl⟩
      have HLAW := HLAW0
      rw [← hL] at HLAW
      have HNE := Lib.hid (show L ≠ [] by
        intro h
        have := (rowL_mem k ⟨lba, bk⟩ tw hm1 ⟨lba, bk⟩).2 (.inr rfl)
        rw [← hL, h] at this; simp at this)
      have HLL := Lib.hid (show L.length ≤ 30 by
        rw [hL]; unfold rowL
        rw [List.length_append, List.length_append, rowP_len]
        split <;> simp <;> omega)
      cases tw with
      | true =>
        have HLE := Lib.hid (show rowP k ++ [(⟨lba, bk⟩ : S31)] ++ [p0] = L by rw [hL, hp0]; rfl)
        clear hL hp0 HLAW0
        by_cases g1 : lba < 0
        · have HE := Lib.hid (show wrC 100 16 [] L = 2 by rw [HLAW.out]; unfold wantC; rw [if_pos (by omega)])
          have HM := Lib.hid (show wrM 100 16 [] L = [] by unfold wrM; rw [HE.out, if_neg (by decide)])
          have HE1 := Lib.hid (show wrC 100 16 [] [] = 1 by simp [wrC])
          have HM1 := Lib.hid (show wrM 100 16 [] [] = [] by unfold wrM; rw [HE1.out, if_neg (by decide)])
          go_wp2_with (first
            | (go_at_call 16; go_must (refine (scarpalike_Block.calls (nn + 1) nn 1 bk _ HBK.out).mono ?_; rintro _ w6 ⟨v6, rfl, hR6, hB6⟩; obtain ⟨A7, c7, hv7⟩ := Kd.R_slice hR6; subst hv7; have HB6 := Lib.hid (below_step HB.out hB6); have HR6 := Lib.hid (Kd.R_lower (Kd.R_new' hR6 (Kd.R_lt HR.out)) HB.out.size); have HO6 := Lib.hid (Kd.R_below HR.out hB6); clear hB6 hR6))
            | ((with_reducible refine gate_builtin (b := .append) (xs := #[.tmp 54, .tmp 59]) rfl ?_); at_builtin; go_must (refine app_put (w0 := w1) w1.heap.size rfl (.tmp 54) (.tmp 59) rfl (.slice A2 k c2) (rowP k) ⟨lba, bk⟩ (.slice A7 bk.length c7) rfl rfl HR6.out HO6.out HB6.out HB6.out.size (by have := HPL.out; omega) ?_; intro v7 w7 hR7 hB7 hg7 _; obtain ⟨g8, c8, hv8, hg8, hl8, _⟩ := Kd.R_form hR7 (by simp); rw [HPL2.out] at hv8; subst hv8; obtain ⟨cs, _, hM, hcc, _⟩ := Kd.R_elem hR7 z31 0 (by decide) (by omega); rw [HP0.out] at hM; obtain ⟨u9, rfl, hu9⟩ := k31_openM hM; obtain ⟨A8, c10, hv9⟩ := Kd.R_slice hu9; subst hv9; have x0 : w7.cell? ⟨g8, 0, none⟩ = some (.int .i64 p0.f0) := hcc 0 _ rfl; have x1 : w7.cell? ⟨g8, 1, none⟩ = some (.slice A8 p0.f1.length c10) := hcc 1 _ rfl; have HR7 := Lib.hid hR7; have HB7 := Lib.hid hB7; have HU := Lib.hid (Kd.R_mono hu9 (ok' := fun k => True ∧ some k ≠ (Value.slice (some ⟨g8, 0, none⟩) (k + 1) c8).ownBlock) (fun k hk => ⟨trivial, fun e => hk.2 (by simpa [Value.ownBlock] using e)⟩)); clear hR7 hB7 hg7 hM hcc hu9))
            | ((with_reducible refine gate_builtin (b := .append) (xs := #[.tmp 62, .tmp 66]) rfl ?_); at_builtin; go_must (refine app_put (w0 := w1) w1.heap.size rfl (.tmp 62) (.tmp 66) rfl (.slice (some ⟨g8, 0, none⟩) (k + 1) c8) (rowP k ++ [⟨lba, bk⟩]) p0 (.slice A8 p0.f1.length c10) rfl rfl HU.out HR7.out HB7.out HB7.out.size (by have := HPL2.out; omega) ?_; intro v10 w10 hR10 hB10 hg10 _; clear x0 x1; rw [HLE.out] at hR10; obtain ⟨A9, c9, hv10, _, hC9⟩ := Kd.R_reads hR10; subst hv10; have H3 := Lib.hid (H1.out.step hB10); have HC9 := Lib.hid hC9; clear hR10 hB10 hg10 hC9))
            | (go_at_call 17; have _t := t1; clear t1; go_must (refine (write_calls (w.heap.size + 2) w.heap.size 100 16 [] A9 c9 L _ H3.out.b HC9.out (by have := HLL.out; omega) H3.out.size).mono ?_; rintro _ w4 ⟨rfl, hI4, hg4⟩; rw [HM.out] at hI4; rw [HE.out]; have H4 := Lib.hid (H3.out.wr hI4 hg4); clear hI4 hg4))
            | (go_at_call 17; go_must (refine (write_calls (w.heap.size + 2) w.heap.size 100 16 [] none 0 [] _ H4.out.b (Kd.C_nil _ _) (by decide) H4.out.size).mono ?_; rintro _ w5 ⟨rfl, hI5, hg5⟩; rw [HM1.out] at hI5; rw [HE1.out]; have H5 := Lib.hid (H4.out.wr hI5 hg5); clear hI5 hg5))
            | (go_at_call 18; go_must (refine (len_calls (w.heap.size + 2) w.heap.size 100 16 [] _ H5.out.b).mono ?_; rintro _ w6 ⟨rfl, hB6⟩; have H6 := Lib.hid (H5.out.step hB6); clear hB6))
            | (go_at_call 13; go_must (refine (awakeB_calls _).mono ?_; rintro _ w7 ⟨rfl, hB7⟩; have H7 := Lib.hid (H6.out.step hB7); clear hB7)))
          try rw [Exit.noGoto_ret]
          go_ret
          exact ⟨rfl, H7.out.below⟩
        by_cases g2 : 100 ≤ lba
        · have HE := Lib.hid (show wrC 100 16 [] L = 2 by rw [HLAW.out]; unfold wantC; rw [if_pos (by omega)])
          have HM := Lib.hid (show wrM 100 16 [] L = [] by unfold wrM; rw [HE.out, if_neg (by decide)])
          have HE1 := Lib.hid (show wrC 100 16 [] [] = 1 by simp [wrC])
          have HM1 := Lib.hid (show wrM 100 16 [] [] = [] by unfold wrM; rw [HE1.out, if_neg (by decide)])
          go_wp2_with (first
            | (go_at_call 16; go_must (refine (scarpalike_Block.calls (nn + 1) nn 1 bk _ HBK.out).mono ?_; rintro _ w6 ⟨v6, rfl, hR6, hB6⟩; obtain ⟨A7, c7, hv7⟩ := Kd.R_slice hR6; subst hv7; have HB6 := Lib.hid (below_step HB.out hB6); have HR6 := Lib.hid (Kd.R_lower (Kd.R_new' hR6 (Kd.R_lt HR.out)) HB.out.size); have HO6 := Lib.hid (Kd.R_below HR.out hB6); clear hB6 hR6))
            | ((with_reducible refine gate_builtin (b := .append) (xs := #[.tmp 54, .tmp 59]) rfl ?_); at_builtin; go_must (refine app_put (w0 := w1) w1.heap.size rfl (.tmp 54) (.tmp 59) rfl (.slice A2 k c2) (rowP k) ⟨lba, bk⟩ (.slice A7 bk.length c7) rfl rfl HR6.out HO6.out HB6.out HB6.out.size (by have := HPL.out; omega) ?_; intro v7 w7 hR7 hB7 hg7 _; obtain ⟨g8, c8, hv8, hg8, hl8, _⟩ := Kd.R_form hR7 (by simp); rw [HPL2.out] at hv8; subst hv8; obtain ⟨cs, _, hM, hcc, _⟩ := Kd.R_elem hR7 z31 0 (by decide) (by omega); rw [HP0.out] at hM; obtain ⟨u9, rfl, hu9⟩ := k31_openM hM; obtain ⟨A8, c10, hv9⟩ := Kd.R_slice hu9; subst hv9; have x0 : w7.cell? ⟨g8, 0, none⟩ = some (.int .i64 p0.f0) := hcc 0 _ rfl; have x1 : w7.cell? ⟨g8, 1, none⟩ = some (.slice A8 p0.f1.length c10) := hcc 1 _ rfl; have HR7 := Lib.hid hR7; have HB7 := Lib.hid hB7; have HU := Lib.hid (Kd.R_mono hu9 (ok' := fun k => True ∧ some k ≠ (Value.slice (some ⟨g8, 0, none⟩) (k + 1) c8).ownBlock) (fun k hk => ⟨trivial, fun e => hk.2 (by simpa [Value.ownBlock] using e)⟩)); clear hR7 hB7 hg7 hM hcc hu9))
            | ((with_reducible refine gate_builtin (b := .append) (xs := #[.tmp 62, .tmp 66]) rfl ?_); at_builtin; go_must (refine app_put (w0 := w1) w1.heap.size rfl (.tmp 62) (.tmp 66) rfl (.slice (some ⟨g8, 0, none⟩) (k + 1) c8) (rowP k ++ [⟨lba, bk⟩]) p0 (.slice A8 p0.f1.length c10) rfl rfl HU.out HR7.out HB7.out HB7.out.size (by have := HPL2.out; omega) ?_; intro v10 w10 hR10 hB10 hg10 _; clear x0 x1; rw [HLE.out] at hR10; obtain ⟨A9, c9, hv10, _, hC9⟩ := Kd.R_reads hR10; subst hv10; have H3 := Lib.hid (H1.out.step hB10); have HC9 := Lib.hid hC9; clear hR10 hB10 hg10 hC9))
            | (go_at_call 17; have _t := t1; clear t1; go_must (refine (write_calls (w.heap.size + 2) w.heap.size 100 16 [] A9 c9 L _ H3.out.b HC9.out (by have := HLL.out; omega) H3.out.size).mono ?_; rintro _ w4 ⟨rfl, hI4, hg4⟩; rw [HM.out] at hI4; rw [HE.out]; have H4 := Lib.hid (H3.out.wr hI4 hg4); clear hI4 hg4))
            | (go_at_call 17; go_must (refine (write_calls (w.heap.size + 2) w.heap.size 100 16 [] none 0 [] _ H4.out.b (Kd.C_nil _ _) (by decide) H4.out.size).mono ?_; rintro _ w5 ⟨rfl, hI5, hg5⟩; rw [HM1.out] at hI5; rw [HE1.out]; have H5 := Lib.hid (H4.out.wr hI5 hg5); clear hI5 hg5))
            | (go_at_call 18; go_must (refine (len_calls (w.heap.size + 2) w.heap.size 100 16 [] _ H5.out.b).mono ?_; rintro _ w6 ⟨rfl, hB6⟩; have H6 := Lib.hid (H5.out.step hB6); clear hB6))
            | (go_at_call 13; go_must (refine (awakeB_calls _).mono ?_; rintro _ w7 ⟨rfl, hB7⟩; have H7 := Lib.hid (H6.out.step hB7); clear hB7)))
          try rw [Exit.noGoto_ret]
          go_ret
          exact ⟨rfl, H7.out.below⟩
        by_cases g3 : lba < 40
        · by_cases g4 : (nn : Int) = 40
          · have g4a : (nn : Int) ≤ 40 := by omega
            have g4b : 40 ≤ (nn : Int) := by omega
            have d4 : ((nn : Int) != 40) = false := by simp; omega
            clear g4
            have HE := Lib.hid (show wrC 100 16 [] L = 4 by rw [HLAW.out]; unfold wantC; rw [if_neg (by omega), if_neg (by omega), if_pos (by simp)])
            have HM := Lib.hid (show wrM 100 16 [] L = [] by unfold wrM; rw [HE.out, if_neg (by decide)])
            have HE1 := Lib.hid (show wrC 100 16 [] [] = 1 by simp [wrC])
            have HM1 := Lib.hid (show wrM 100 16 [] [] = [] by unfold wrM; rw [HE1.out, if_neg (by decide)])
            go_wp2_with (first
              | (go_at_call 16; go_must (refine (scarpalike_Block.calls (nn + 1) nn 1 bk _ HBK.out).mono ?_; rintro _ w6 ⟨v6, rfl, hR6, hB6⟩; obtain ⟨A7, c7, hv7⟩ := Kd.R_slice hR6; subst hv7; have HB6 := Lib.hid (below_step HB.out hB6); have HR6 := Lib.hid (Kd.R_lower (Kd.R_new' hR6 (Kd.R_lt HR.out)) HB.out.size); have HO6 := Lib.hid (Kd.R_below HR.out hB6); clear hB6 hR6))
              | ((with_reducible refine gate_builtin (b := .append) (xs := #[.tmp 54, .tmp 59]) rfl ?_); at_builtin; go_must (refine app_put (w0 := w1) w1.heap.size rfl (.tmp 54) (.tmp 59) rfl (.slice A2 k c2) (rowP k) ⟨lba, bk⟩ (.slice A7 bk.length c7) rfl rfl HR6.out HO6.out HB6.out HB6.out.size (by have := HPL.out; omega) ?_; intro v7 w7 hR7 hB7 hg7 _; obtain ⟨g8, c8, hv8, hg8, hl8, _⟩ := Kd.R_form hR7 (by simp); rw [HPL2.out] at hv8; subst hv8; obtain ⟨cs, _, hM, hcc, _⟩ := Kd.R_elem hR7 z31 0 (by decide) (by omega); rw [HP0.out] at hM; obtain ⟨u9, rfl, hu9⟩ := k31_openM hM; obtain ⟨A8, c10, hv9⟩ := Kd.R_slice hu9; subst hv9; have x0 : w7.cell? ⟨g8, 0, none⟩ = some (.int .i64 p0.f0) := hcc 0 _ rfl; have x1 : w7.cell? ⟨g8, 1, none⟩ = some (.slice A8 p0.f1.length c10) := hcc 1 _ rfl; have HR7 := Lib.hid hR7; have HB7 := Lib.hid hB7; have HU := Lib.hid (Kd.R_mono hu9 (ok' := fun k => True ∧ some k ≠ (Value.slice (some ⟨g8, 0, none⟩) (k + 1) c8).ownBlock) (fun k hk => ⟨trivial, fun e => hk.2 (by simpa [Value.ownBlock] using e)⟩)); clear hR7 hB7 hg7 hM hcc hu9))
              | ((with_reducible refine gate_builtin (b := .append) (xs := #[.tmp 62, .tmp 66]) rfl ?_); at_builtin; go_must (refine app_put (w0 := w1) w1.heap.size rfl (.tmp 62) (.tmp 66) rfl (.slice (some ⟨g8, 0, none⟩) (k + 1) c8) (rowP k ++ [⟨lba, bk⟩]) p0 (.slice A8 p0.f1.length c10) rfl rfl HU.out HR7.out HB7.out HB7.out.size (by have := HPL2.out; omega) ?_; intro v10 w10 hR10 hB10 hg10 _; clear x0 x1; rw [HLE.out] at hR10; obtain ⟨A9, c9, hv10, _, hC9⟩ := Kd.R_reads hR10; subst hv10; have H3 := Lib.hid (H1.out.step hB10); have HC9 := Lib.hid hC9; clear hR10 hB10 hg10 hC9))
              | (go_at_call 17; have _t := t1; clear t1; go_must (refine (write_calls (w.heap.size + 2) w.heap.size 100 16 [] A9 c9 L _ H3.out.b HC9.out (by have := HLL.out; omega) H3.out.size).mono ?_; rintro _ w4 ⟨rfl, hI4, hg4⟩; rw [HM.out] at hI4; rw [HE.out]; have H4 := Lib.hid (H3.out.wr hI4 hg4); clear hI4 hg4))
              | (go_at_call 17; go_must (refine (write_calls (w.heap.size + 2) w.heap.size 100 16 [] none 0 [] _ H4.out.b (Kd.C_nil _ _) (by decide) H4.out.size).mono ?_; rintro _ w5 ⟨rfl, hI5, hg5⟩; rw [HM1.out] at hI5; rw [HE1.out]; have H5 := Lib.hid (H4.out.wr hI5 hg5); clear hI5 hg5))
              | (go_at_call 18; go_must (refine (len_calls (w.heap.size + 2) w.heap.size 100 16 [] _ H5.out.b).mono ?_; rintro _ w6 ⟨rfl, hB6⟩; have H6 := Lib.hid (H5.out.step hB6); clear hB6))
              | (go_at_call 13; go_must (refine (awakeB_calls _).mono ?_; rintro _ w7 ⟨rfl, hB7⟩; have H7 := Lib.hid (H6.out.step hB7); clear hB7)))
            try rw [Exit.noGoto_ret]
            go_ret
            exact ⟨rfl, H7.out.below⟩
          · have HE := Lib.hid (show wrC 100 16 [] L = 3 by rw [HLAW.out]; unfold wantC; rw [if_neg (by omega), if_pos (by omega)])
            have HM := Lib.hid (show wrM 100 16 [] L = [] by unfold wrM; rw [HE.out, if_neg (by decide)])
            have HE1 := Lib.hid (show wrC 100 16 [] [] = 1 by simp [wrC])
            have HM1 := Lib.hid (show wrM 100 16 [] [] = [] by unfold wrM; rw [HE1.out, if_neg (by decide)])
            go_wp2_with (first
              | (go_at_call 16; go_must (refine (scarpalike_Block.calls (nn + 1) nn 1 bk _ HBK.out).mono ?_; rintro _ w6 ⟨v6, rfl, hR6, hB6⟩; obtain ⟨A7, c7, hv7⟩ := Kd.R_slice hR6; subst hv7; have HB6 := Lib.hid (below_step HB.out hB6); have HR6 := Lib.hid (Kd.R_lower (Kd.R_new' hR6 (Kd.R_lt HR.out)) HB.out.size); have HO6 := Lib.hid (Kd.R_below HR.out hB6); clear hB6 hR6))
              | ((with_reducible refine gate_builtin (b := .append) (xs := #[.tmp 54, .tmp 59]) rfl ?_); at_builtin; go_must (refine app_put (w0 := w1) w1.heap.size rfl (.tmp 54) (.tmp 59) rfl (.slice A2 k c2) (rowP k) ⟨lba, bk⟩ (.slice A7 bk.length c7) rfl rfl HR6.out HO6.out HB6.out HB6.out.size (by have := HPL.out; omega) ?_; intro v7 w7 hR7 hB7 hg7 _; obtain ⟨g8, c8, hv8, hg8, hl8, _⟩ := Kd.R_form hR7 (by simp); rw [HPL2.out] at hv8; subst hv8; obtain ⟨cs, _, hM, hcc, _⟩ := Kd.R_elem hR7 z31 0 (by decide) (by omega); rw [HP0.out] at hM; obtain ⟨u9, rfl, hu9⟩ := k31_openM hM; obtain ⟨A8, c10, hv9⟩ := Kd.R_slice hu9; subst hv9; have x0 : w7.cell? ⟨g8, 0, none⟩ = some (.int .i64 p0.f0) := hcc 0 _ rfl; have x1 : w7.cell? ⟨g8, 1, none⟩ = some (.slice A8 p0.f1.length c10) := hcc 1 _ rfl; have HR7 := Lib.hid hR7; have HB7 := Lib.hid hB7; have HU := Lib.hid (Kd.R_mono hu9 (ok' := fun k => True ∧ some k ≠ (Value.slice (some ⟨g8, 0, none⟩) (k + 1) c8).ownBlock) (fun k hk => ⟨trivial, fun e => hk.2 (by simpa [Value.ownBlock] using e)⟩)); clear hR7 hB7 hg7 hM hcc hu9))
              | ((with_reducible refine gate_builtin (b := .append) (xs := #[.tmp 62, .tmp 66]) rfl ?_); at_builtin; go_must (refine app_put (w0 := w1) w1.heap.size rfl (.tmp 62) (.tmp 66) rfl (.slice (some ⟨g8, 0, none⟩) (k + 1) c8) (rowP k ++ [⟨lba, bk⟩]) p0 (.slice A8 p0.f1.length c10) rfl rfl HU.out HR7.out HB7.out HB7.out.size (by have := HPL2.out; omega) ?_; intro v10 w10 hR10 hB10 hg10 _; clear x0 x1; rw [HLE.out] at hR10; obtain ⟨A9, c9, hv10, _, hC9⟩ := Kd.R_reads hR10; subst hv10; have H3 := Lib.hid (H1.out.step hB10); have HC9 := Lib.hid hC9; clear hR10 hB10 hg10 hC9))
              | (go_at_call 17; have _t := t1; clear t1; go_must (refine (write_calls (w.heap.size + 2) w.heap.size 100 16 [] A9 c9 L _ H3.out.b HC9.out (by have := HLL.out; omega) H3.out.size).mono ?_; rintro _ w4 ⟨rfl, hI4, hg4⟩; rw [HM.out] at hI4; rw [HE.out]; have H4 := Lib.hid (H3.out.wr hI4 hg4); clear hI4 hg4))
              | (go_at_call 17; go_must (refine (write_calls (w.heap.size + 2) w.heap.size 100 16 [] none 0 [] _ H4.out.b (Kd.C_nil _ _) (by decide) H4.out.size).mono ?_; rintro _ w5 ⟨rfl, hI5, hg5⟩; rw [HM1.out] at hI5; rw [HE1.out]; have H5 := Lib.hid (H4.out.wr hI5 hg5); clear hI5 hg5))
              | (go_at_call 18; go_must (refine (len_calls (w.heap.size + 2) w.heap.size 100 16 [] _ H5.out.b).mono ?_; rintro _ w6 ⟨rfl, hB6⟩; have H6 := Lib.hid (H5.out.step hB6); clear hB6))
              | (go_at_call 13; go_must (refine (awakeB_calls _).mono ?_; rintro _ w7 ⟨rfl, hB7⟩; have H7 := Lib.hid (H6.out.step hB7); clear hB7)))
            try rw [Exit.noGoto_ret]
            go_ret
            exact ⟨rfl, H7.out.below⟩
        by_cases g3' : lba < 40 + (k : Int)
        · by_cases g4 : (nn : Int) = 40
          · have g4a : (nn : Int) ≤ 40 := by omega
            have g4b : 40 ≤ (nn : Int) := by omega
            have d4 : ((nn : Int) != 40) = false := by simp; omega
            clear g4
            have HE := Lib.hid (show wrC 100 16 [] L = 4 by rw [HLAW.out]; unfold wantC; rw [if_neg (by omega), if_neg (by omega), if_pos (by simp)])
            have HM := Lib.hid (show wrM 100 16 [] L = [] by unfold wrM; rw [HE.out, if_neg (by decide)])
            have HE1 := Lib.hid (show wrC 100 16 [] [] = 1 by simp [wrC])
            have HM1 := Lib.hid (show wrM 100 16 [] [] = [] by unfold wrM; rw [HE1.out, if_neg (by decide)])
            go_wp2_with (first
              | (go_at_call 16; go_must (refine (scarpalike_Block.calls (nn + 1) nn 1 bk _ HBK.out).mono ?_; rintro _ w6 ⟨v6, rfl, hR6, hB6⟩; obtain ⟨A7, c7, hv7⟩ := Kd.R_slice hR6; subst hv7; have HB6 := Lib.hid (below_step HB.out hB6); have HR6 := Lib.hid (Kd.R_lower (Kd.R_new' hR6 (Kd.R_lt HR.out)) HB.out.size); have HO6 := Lib.hid (Kd.R_below HR.out hB6); clear hB6 hR6))
              | ((with_reducible refine gate_builtin (b := .append) (xs := #[.tmp 54, .tmp 59]) rfl ?_); at_builtin; go_must (refine app_put (w0 := w1) w1.heap.size rfl (.tmp 54) (.tmp 59) rfl (.slice A2 k c2) (rowP k) ⟨lba, bk⟩ (.slice A7 bk.length c7) rfl rfl HR6.out HO6.out HB6.out HB6.out.size (by have := HPL.out; omega) ?_; intro v7 w7 hR7 hB7 hg7 _; obtain ⟨g8, c8, hv8, hg8, hl8, _⟩ := Kd.R_form hR7 (by simp); rw [HPL2.out] at hv8; subst hv8; obtain ⟨cs, _, hM, hcc, _⟩ := Kd.R_elem hR7 z31 0 (by decide) (by omega); rw [HP0.out] at hM; obtain ⟨u9, rfl, hu9⟩ := k31_openM hM; obtain ⟨A8, c10, hv9⟩ := Kd.R_slice hu9; subst hv9; have x0 : w7.cell? ⟨g8, 0, none⟩ = some (.int .i64 p0.f0) := hcc 0 _ rfl; have x1 : w7.cell? ⟨g8, 1, none⟩ = some (.slice A8 p0.f1.length c10) := hcc 1 _ rfl; have HR7 := Lib.hid hR7; have HB7 := Lib.hid hB7; have HU := Lib.hid (Kd.R_mono hu9 (ok' := fun k => True ∧ some k ≠ (Value.slice (some ⟨g8, 0, none⟩) (k + 1) c8).ownBlock) (fun k hk => ⟨trivial, fun e => hk.2 (by simpa [Value.ownBlock] using e)⟩)); clear hR7 hB7 hg7 hM hcc hu9))
              | ((with_reducible refine gate_builtin (b := .append) (xs := #[.tmp 62, .tmp 66]) rfl ?_); at_builtin; go_must (refine app_put (w0 := w1) w1.heap.size rfl (.tmp 62) (.tmp 66) rfl (.slice (some ⟨g8, 0, none⟩) (k + 1) c8) (rowP k ++ [⟨lba, bk⟩]) p0 (.slice A8 p0.f1.length c10) rfl rfl HU.out HR7.out HB7.out HB7.out.size (by have := HPL2.out; omega) ?_; intro v10 w10 hR10 hB10 hg10 _; clear x0 x1; rw [HLE.out] at hR10; obtain ⟨A9, c9, hv10, _, hC9⟩ := Kd.R_reads hR10; subst hv10; have H3 := Lib.hid (H1.out.step hB10); have HC9 := Lib.hid hC9; clear hR10 hB10 hg10 hC9))
              | (go_at_call 17; have _t := t1; clear t1; go_must (refine (write_calls (w.heap.size + 2) w.heap.size 100 16 [] A9 c9 L _ H3.out.b HC9.out (by have := HLL.out; omega) H3.out.size).mono ?_; rintro _ w4 ⟨rfl, hI4, hg4⟩; rw [HM.out] at hI4; rw [HE.out]; have H4 := Lib.hid (H3.out.wr hI4 hg4); clear hI4 hg4))
              | (go_at_call 17; go_must (refine (write_calls (w.heap.size + 2) w.heap.size 100 16 [] none 0 [] _ H4.out.b (Kd.C_nil _ _) (by decide) H4.out.size).mono ?_; rintro _ w5 ⟨rfl, hI5, hg5⟩; rw [HM1.out] at hI5; rw [HE1.out]; have H5 := Lib.hid (H4.out.wr hI5 hg5); clear hI5 hg5))
              | (go_at_call 18; go_must (refine (len_calls (w.heap.size + 2) w.heap.size 100 16 [] _ H5.out.b).mono ?_; rintro _ w6 ⟨rfl, hB6⟩; have H6 := Lib.hid (H5.out.step hB6); clear hB6))
              | (go_at_call 13; go_must (refine (awakeB_calls _).mono ?_; rintro _ w7 ⟨rfl, hB7⟩; have H7 := Lib.hid (H6.out.step hB7); clear hB7)))
            try rw [Exit.noGoto_ret]
            go_ret
            exact ⟨rfl, H7.out.below⟩
          · have HE := Lib.hid (show wrC 100 16 [] L = 3 by rw [HLAW.out]; unfold wantC; rw [if_neg (by omega), if_pos (by omega)])
            have HM := Lib.hid (show wrM 100 16 [] L = [] by unfold wrM; rw [HE.out, if_neg (by decide)])
            have HE1 := Lib.hid (show wrC 100 16 [] [] = 1 by simp [wrC])
            have HM1 := Lib.hid (show wrM 100 16 [] [] = [] by unfold wrM; rw [HE1.out, if_neg (by decide)])
            go_wp2_with (first
              | (go_at_call 16; go_must (refine (scarpalike_Block.calls (nn + 1) nn 1 bk _ HBK.out).mono ?_; rintro _ w6 ⟨v6, rfl, hR6, hB6⟩; obtain ⟨A7, c7, hv7⟩ := Kd.R_slice hR6; subst hv7; have HB6 := Lib.hid (below_step HB.out hB6); have HR6 := Lib.hid (Kd.R_lower (Kd.R_new' hR6 (Kd.R_lt HR.out)) HB.out.size); have HO6 := Lib.hid (Kd.R_below HR.out hB6); clear hB6 hR6))
              | ((with_reducible refine gate_builtin (b := .append) (xs := #[.tmp 54, .tmp 59]) rfl ?_); at_builtin; go_must (refine app_put (w0 := w1) w1.heap.size rfl (.tmp 54) (.tmp 59) rfl (.slice A2 k c2) (rowP k) ⟨lba, bk⟩ (.slice A7 bk.length c7) rfl rfl HR6.out HO6.out HB6.out HB6.out.size (by have := HPL.out; omega) ?_; intro v7 w7 hR7 hB7 hg7 _; obtain ⟨g8, c8, hv8, hg8, hl8, _⟩ := Kd.R_form hR7 (by simp); rw [HPL2.out] at hv8; subst hv8; obtain ⟨cs, _, hM, hcc, _⟩ := Kd.R_elem hR7 z31 0 (by decide) (by omega); rw [HP0.out] at hM; obtain ⟨u9, rfl, hu9⟩ := k31_openM hM; obtain ⟨A8, c10, hv9⟩ := Kd.R_slice hu9; subst hv9; have x0 : w7.cell? ⟨g8, 0, none⟩ = some (.int .i64 p0.f0) := hcc 0 _ rfl; have x1 : w7.cell? ⟨g8, 1, none⟩ = some (.slice A8 p0.f1.length c10) := hcc 1 _ rfl; have HR7 := Lib.hid hR7; have HB7 := Lib.hid hB7; have HU := Lib.hid (Kd.R_mono hu9 (ok' := fun k => True ∧ some k ≠ (Value.slice (some ⟨g8, 0, none⟩) (k + 1) c8).ownBlock) (fun k hk => ⟨trivial, fun e => hk.2 (by simpa [Value.ownBlock] using e)⟩)); clear hR7 hB7 hg7 hM hcc hu9))
              | ((with_reducible refine gate_builtin (b := .append) (xs := #[.tmp 62, .tmp 66]) rfl ?_); at_builtin; go_must (refine app_put (w0 := w1) w1.heap.size rfl (.tmp 62) (.tmp 66) rfl (.slice (some ⟨g8, 0, none⟩) (k + 1) c8) (rowP k ++ [⟨lba, bk⟩]) p0 (.slice A8 p0.f1.length c10) rfl rfl HU.out HR7.out HB7.out HB7.out.size (by have := HPL2.out; omega) ?_; intro v10 w10 hR10 hB10 hg10 _; clear x0 x1; rw [HLE.out] at hR10; obtain ⟨A9, c9, hv10, _, hC9⟩ := Kd.R_reads hR10; subst hv10; have H3 := Lib.hid (H1.out.step hB10); have HC9 := Lib.hid hC9; clear hR10 hB10 hg10 hC9))
              | (go_at_call 17; have _t := t1; clear t1; go_must (refine (write_calls (w.heap.size + 2) w.heap.size 100 16 [] A9 c9 L _ H3.out.b HC9.out (by have := HLL.out; omega) H3.out.size).mono ?_; rintro _ w4 ⟨rfl, hI4, hg4⟩; rw [HM.out] at hI4; rw [HE.out]; have H4 := Lib.hid (H3.out.wr hI4 hg4); clear hI4 hg4))
              | (go_at_call 17; go_must (refine (write_calls (w.heap.size + 2) w.heap.size 100 16 [] none 0 [] _ H4.out.b (Kd.C_nil _ _) (by decide) H4.out.size).mono ?_; rintro _ w5 ⟨rfl, hI5, hg5⟩; rw [HM1.out] at hI5; rw [HE1.out]; have H5 := Lib.hid (H4.out.wr hI5 hg5); clear hI5 hg5))
              | (go_at_call 18; go_must (refine (len_calls (w.heap.size + 2) w.heap.size 100 16 [] _ H5.out.b).mono ?_; rintro _ w6 ⟨rfl, hB6⟩; have H6 := Lib.hid (H5.out.step hB6); clear hB6))
              | (go_at_call 13; go_must (refine (awakeB_calls _).mono ?_; rintro _ w7 ⟨rfl, hB7⟩; have H7 := Lib.hid (H6.out.step hB7); clear hB7)))
            try rw [Exit.noGoto_ret]
            go_ret
            exact ⟨rfl, H7.out.below⟩
        by_cases g4 : (nn : Int) = 40
        · have g4a : (nn : Int) ≤ 40 := by omega
          have g4b : 40 ≤ (nn : Int) := by omega
          have d4 : ((nn : Int) != 40) = false := by simp; omega
          clear g4
          have HE := Lib.hid (show wrC 100 16 [] L = 4 by rw [HLAW.out]; unfold wantC; rw [if_neg (by omega), if_neg (by omega), if_pos (by simp)])
          have HM := Lib.hid (show wrM 100 16 [] L = [] by unfold wrM; rw [HE.out, if_neg (by decide)])
          have HE1 := Lib.hid (show wrC 100 16 [] [] = 1 by simp [wrC])
          have HM1 := Lib.hid (show wrM 100 16 [] [] = [] by unfold wrM; rw [HE1.out, if_neg (by decide)])
          go_wp2_with (first
            | (go_at_call 16; go_must (refine (scarpalike_Block.calls (nn + 1) nn 1 bk _ HBK.out).mono ?_; rintro _ w6 ⟨v6, rfl, hR6, hB6⟩; obtain ⟨A7, c7, hv7⟩ := Kd.R_slice hR6; subst hv7; have HB6 := Lib.hid (below_step HB.out hB6); have HR6 := Lib.hid (Kd.R_lower (Kd.R_new' hR6 (Kd.R_lt HR.out)) HB.out.size); have HO6 := Lib.hid (Kd.R_below HR.out hB6); clear hB6 hR6))
            | ((with_reducible refine gate_builtin (b := .append) (xs := #[.tmp 54, .tmp 59]) rfl ?_); at_builtin; go_must (refine app_put (w0 := w1) w1.heap.size rfl (.tmp 54) (.tmp 59) rfl (.slice A2 k c2) (rowP k) ⟨lba, bk⟩ (.slice A7 bk.length c7) rfl rfl HR6.out HO6.out HB6.out HB6.out.size (by have := HPL.out; omega) ?_; intro v7 w7 hR7 hB7 hg7 _; obtain ⟨g8, c8, hv8, hg8, hl8, _⟩ := Kd.R_form hR7 (by simp); rw [HPL2.out] at hv8; subst hv8; obtain ⟨cs, _, hM, hcc, _⟩ := Kd.R_elem hR7 z31 0 (by decide) (by omega); rw [HP0.out] at hM; obtain ⟨u9, rfl, hu9⟩ := k31_openM hM; obtain ⟨A8, c10, hv9⟩ := Kd.R_slice hu9; subst hv9; have x0 : w7.cell? ⟨g8, 0, none⟩ = some (.int .i64 p0.f0) := hcc 0 _ rfl; have x1 : w7.cell? ⟨g8, 1, none⟩ = some (.slice A8 p0.f1.length c10) := hcc 1 _ rfl; have HR7 := Lib.hid hR7; have HB7 := Lib.hid hB7; have HU := Lib.hid (Kd.R_mono hu9 (ok' := fun k => True ∧ some k ≠ (Value.slice (some ⟨g8, 0, none⟩) (k + 1) c8).ownBlock) (fun k hk => ⟨trivial, fun e => hk.2 (by simpa [Value.ownBlock] using e)⟩)); clear hR7 hB7 hg7 hM hcc hu9))
            | ((with_reducible refine gate_builtin (b := .append) (xs := #[.tmp 62, .tmp 66]) rfl ?_); at_builtin; go_must (refine app_put (w0 := w1) w1.heap.size rfl (.tmp 62) (.tmp 66) rfl (.slice (some ⟨g8, 0, none⟩) (k + 1) c8) (rowP k ++ [⟨lba, bk⟩]) p0 (.slice A8 p0.f1.length c10) rfl rfl HU.out HR7.out HB7.out HB7.out.size (by have := HPL2.out; omega) ?_; intro v10 w10 hR10 hB10 hg10 _; clear x0 x1; rw [HLE.out] at hR10; obtain ⟨A9, c9, hv10, _, hC9⟩ := Kd.R_reads hR10; subst hv10; have H3 := Lib.hid (H1.out.step hB10); have HC9 := Lib.hid hC9; clear hR10 hB10 hg10 hC9))
            | (go_at_call 17; have _t := t1; clear t1; go_must (refine (write_calls (w.heap.size + 2) w.heap.size 100 16 [] A9 c9 L _ H3.out.b HC9.out (by have := HLL.out; omega) H3.out.size).mono ?_; rintro _ w4 ⟨rfl, hI4, hg4⟩; rw [HM.out] at hI4; rw [HE.out]; have H4 := Lib.hid (H3.out.wr hI4 hg4); clear hI4 hg4))
            | (go_at_call 17; go_must (refine (write_calls (w.heap.size + 2) w.heap.size 100 16 [] none 0 [] _ H4.out.b (Kd.C_nil _ _) (by decide) H4.out.size).mono ?_; rintro _ w5 ⟨rfl, hI5, hg5⟩; rw [HM1.out] at hI5; rw [HE1.out]; have H5 := Lib.hid (H4.out.wr hI5 hg5); clear hI5 hg5))
            | (go_at_call 18; go_must (refine (len_calls (w.heap.size + 2) w.heap.size 100 16 [] _ H5.out.b).mono ?_; rintro _ w6 ⟨rfl, hB6⟩; have H6 := Lib.hid (H5.out.step hB6); clear hB6))
            | (go_at_call 13; go_must (refine (awakeB_calls _).mono ?_; rintro _ w7 ⟨rfl, hB7⟩; have H7 := Lib.hid (H6.out.step hB7); clear hB7)))
          try rw [Exit.noGoto_ret]
          go_ret
          exact ⟨rfl, H7.out.below⟩
        · have HE := Lib.hid (show wrC 100 16 [] L = 3 by rw [HLAW.out]; unfold wantC; rw [if_neg (by omega), if_pos (by omega)])
          have HM := Lib.hid (show wrM 100 16 [] L = [] by unfold wrM; rw [HE.out, if_neg (by decide)])
          have HE1 := Lib.hid (show wrC 100 16 [] [] = 1 by simp [wrC])
          have HM1 := Lib.hid (show wrM 100 16 [] [] = [] by unfold wrM; rw [HE1.out, if_neg (by decide)])
          go_wp2_with (first
            | (go_at_call 16; go_must (refine (scarpalike_Block.calls (nn + 1) nn 1 bk _ HBK.out).mono ?_; rintro _ w6 ⟨v6, rfl, hR6, hB6⟩; obtain ⟨A7, c7, hv7⟩ := Kd.R_slice hR6; subst hv7; have HB6 := Lib.hid (below_step HB.out hB6); have HR6 := Lib.hid (Kd.R_lower (Kd.R_new' hR6 (Kd.R_lt HR.out)) HB.out.size); have HO6 := Lib.hid (Kd.R_below HR.out hB6); clear hB6 hR6))
            | ((with_reducible refine gate_builtin (b := .append) (xs := #[.tmp 54, .tmp 59]) rfl ?_); at_builtin; go_must (refine app_put (w0 := w1) w1.heap.size rfl (.tmp 54) (.tmp 59) rfl (.slice A2 k c2) (rowP k) ⟨lba, bk⟩ (.slice A7 bk.length c7) rfl rfl HR6.out HO6.out HB6.out HB6.out.size (by have := HPL.out; omega) ?_; intro v7 w7 hR7 hB7 hg7 _; obtain ⟨g8, c8, hv8, hg8, hl8, _⟩ := Kd.R_form hR7 (by simp); rw [HPL2.out] at hv8; subst hv8; obtain ⟨cs, _, hM, hcc, _⟩ := Kd.R_elem hR7 z31 0 (by decide) (by omega); rw [HP0.out] at hM; obtain ⟨u9, rfl, hu9⟩ := k31_openM hM; obtain ⟨A8, c10, hv9⟩ := Kd.R_slice hu9; subst hv9; have x0 : w7.cell? ⟨g8, 0, none⟩ = some (.int .i64 p0.f0) := hcc 0 _ rfl; have x1 : w7.cell? ⟨g8, 1, none⟩ = some (.slice A8 p0.f1.length c10) := hcc 1 _ rfl; have HR7 := Lib.hid hR7; have HB7 := Lib.hid hB7; have HU := Lib.hid (Kd.R_mono hu9 (ok' := fun k => True ∧ some k ≠ (Value.slice (some ⟨g8, 0, none⟩) (k + 1) c8).ownBlock) (fun k hk => ⟨trivial, fun e => hk.2 (by simpa [Value.ownBlock] using e)⟩)); clear hR7 hB7 hg7 hM hcc hu9))
            | ((with_reducible refine gate_builtin (b := .append) (xs := #[.tmp 62, .tmp 66]) rfl ?_); at_builtin; go_must (refine app_put (w0 := w1) w1.heap.size rfl (.tmp 62) (.tmp 66) rfl (.slice (some ⟨g8, 0, none⟩) (k + 1) c8) (rowP k ++ [⟨lba, bk⟩]) p0 (.slice A8 p0.f1.length c10) rfl rfl HU.out HR7.out HB7.out HB7.out.size (by have := HPL2.out; omega) ?_; intro v10 w10 hR10 hB10 hg10 _; clear x0 x1; rw [HLE.out] at hR10; obtain ⟨A9, c9, hv10, _, hC9⟩ := Kd.R_reads hR10; subst hv10; have H3 := Lib.hid (H1.out.step hB10); have HC9 := Lib.hid hC9; clear hR10 hB10 hg10 hC9))
            | (go_at_call 17; have _t := t1; clear t1; go_must (refine (write_calls (w.heap.size + 2) w.heap.size 100 16 [] A9 c9 L _ H3.out.b HC9.out (by have := HLL.out; omega) H3.out.size).mono ?_; rintro _ w4 ⟨rfl, hI4, hg4⟩; rw [HM.out] at hI4; rw [HE.out]; have H4 := Lib.hid (H3.out.wr hI4 hg4); clear hI4 hg4))
            | (go_at_call 17; go_must (refine (write_calls (w.heap.size + 2) w.heap.size 100 16 [] none 0 [] _ H4.out.b (Kd.C_nil _ _) (by decide) H4.out.size).mono ?_; rintro _ w5 ⟨rfl, hI5, hg5⟩; rw [HM1.out] at hI5; rw [HE1.out]; have H5 := Lib.hid (H4.out.wr hI5 hg5); clear hI5 hg5))
            | (go_at_call 18; go_must (refine (len_calls (w.heap.size + 2) w.heap.size 100 16 [] _ H5.out.b).mono ?_; rintro _ w6 ⟨rfl, hB6⟩; have H6 := Lib.hid (H5.out.step hB6); clear hB6))
            | (go_at_call 13; go_must (refine (awakeB_calls _).mono ?_; rintro _ w7 ⟨rfl, hB7⟩; have H7 := Lib.hid (H6.out.step hB7); clear hB7)))
          try rw [Exit.noGoto_ret]
          go_ret
          exact ⟨rfl, H7.out.below⟩
      | false =>
        have HLE := Lib.hid (show rowP k ++ [(⟨lba, bk⟩ : S31)] = L by rw [hL]; unfold rowL; simp)
        clear hL hp0 HLAW0 HP0
        by_cases g1 : lba < 0
        · have HE := Lib.hid (show wrC 100 16 [] L = 2 by rw [HLAW.out]; unfold wantC; rw [if_pos (by omega)])
          have HM := Lib.hid (show wrM 100 16 [] L = [] by unfold wrM; rw [HE.out, if_neg (by decide)])
          have HE1 := Lib.hid (show wrC 100 16 [] [] = 1 by simp [wrC])
          have HM1 := Lib.hid (show wrM 100 16 [] [] = [] by unfold wrM; rw [HE1.out, if_neg (by decide)])
          go_wp2_with (first
            | (go_at_call 16; go_must (refine (scarpalike_Block.calls (nn + 1) nn 1 bk _ HBK.out).mono ?_; rintro _ w6 ⟨v6, rfl, hR6, hB6⟩; obtain ⟨A7, c7, hv7⟩ := Kd.R_slice hR6; subst hv7; have HB6 := Lib.hid (below_step HB.out hB6); have HR6 := Lib.hid (Kd.R_lower (Kd.R_new' hR6 (Kd.R_lt HR.out)) HB.out.size); have HO6 := Lib.hid (Kd.R_below HR.out hB6); clear hB6 hR6))
            | ((with_reducible refine gate_builtin (b := .append) (xs := #[.tmp 54, .tmp 59]) rfl ?_); at_builtin; go_must (refine app_put (w0 := w1) w1.heap.size rfl (.tmp 54) (.tmp 59) rfl (.slice A2 k c2) (rowP k) ⟨lba, bk⟩ (.slice A7 bk.length c7) rfl rfl HR6.out HO6.out HB6.out HB6.out.size (by have := HPL.out; omega) ?_; intro v7 w7 hR7 hB7 hg7 _; rw [HLE.out] at hR7; obtain ⟨A9, c9, hv7, _, hC9⟩ := Kd.R_reads hR7; subst hv7; have H3 := Lib.hid (H1.out.step hB7); have HC9 := Lib.hid hC9; clear hR7 hB7 hg7 hC9))
            | (go_at_call 17; have _t := t1; clear t1; go_must (refine (write_calls (w.heap.size + 2) w.heap.size 100 16 [] A9 c9 L _ H3.out.b HC9.out (by have := HLL.out; omega) H3.out.size).mono ?_; rintro _ w4 ⟨rfl, hI4, hg4⟩; rw [HM.out] at hI4; rw [HE.out]; have H4 := Lib.hid (H3.out.wr hI4 hg4); clear hI4 hg4))
            | (go_at_call 17; go_must (refine (write_calls (w.heap.size + 2) w.heap.size 100 16 [] none 0 [] _ H4.out.b (Kd.C_nil _ _) (by decide) H4.out.size).mono ?_; rintro _ w5 ⟨rfl, hI5, hg5⟩; rw [HM1.out] at hI5; rw [HE1.out]; have H5 := Lib.hid (H4.out.wr hI5 hg5); clear hI5 hg5))
            | (go_at_call 18; go_must (refine (len_calls (w.heap.size + 2) w.heap.size 100 16 [] _ H5.out.b).mono ?_; rintro _ w6 ⟨rfl, hB6⟩; have H6 := Lib.hid (H5.out.step hB6); clear hB6))
            | (go_at_call 13; go_must (refine (awakeB_calls _).mono ?_; rintro _ w7 ⟨rfl, hB7⟩; have H7 := Lib.hid (H6.out.step hB7); clear hB7)))
          try rw [Exit.noGoto_ret]
          go_ret
          exact ⟨rfl, H7.out.below⟩
        by_cases g2 : 100 ≤ lba
        · have HE := Lib.hid (show wrC 100 16 [] L = 2 by rw [HLAW.out]; unfold wantC; rw [if_pos (by omega)])
          have HM := Lib.hid (show wrM 100 16 [] L = [] by unfold wrM; rw [HE.out, if_neg (by decide)])
          have HE1 := Lib.hid (show wrC 100 16 [] [] = 1 by simp [wrC])
          have HM1 := Lib.hid (show wrM 100 16 [] [] = [] by unfold wrM; rw [HE1.out, if_neg (by decide)])
          go_wp2_with (first
            | (go_at_call 16; go_must (refine (scarpalike_Block.calls (nn + 1) nn 1 bk _ HBK.out).mono ?_; rintro _ w6 ⟨v6, rfl, hR6, hB6⟩; obtain ⟨A7, c7, hv7⟩ := Kd.R_slice hR6; subst hv7; have HB6 := Lib.hid (below_step HB.out hB6); have HR6 := Lib.hid (Kd.R_lower (Kd.R_new' hR6 (Kd.R_lt HR.out)) HB.out.size); have HO6 := Lib.hid (Kd.R_below HR.out hB6); clear hB6 hR6))
            | ((with_reducible refine gate_builtin (b := .append) (xs := #[.tmp 54, .tmp 59]) rfl ?_); at_builtin; go_must (refine app_put (w0 := w1) w1.heap.size rfl (.tmp 54) (.tmp 59) rfl (.slice A2 k c2) (rowP k) ⟨lba, bk⟩ (.slice A7 bk.length c7) rfl rfl HR6.out HO6.out HB6.out HB6.out.size (by have := HPL.out; omega) ?_; intro v7 w7 hR7 hB7 hg7 _; rw [HLE.out] at hR7; obtain ⟨A9, c9, hv7, _, hC9⟩ := Kd.R_reads hR7; subst hv7; have H3 := Lib.hid (H1.out.step hB7); have HC9 := Lib.hid hC9; clear hR7 hB7 hg7 hC9))
            | (go_at_call 17; have _t := t1; clear t1; go_must (refine (write_calls (w.heap.size + 2) w.heap.size 100 16 [] A9 c9 L _ H3.out.b HC9.out (by have := HLL.out; omega) H3.out.size).mono ?_; rintro _ w4 ⟨rfl, hI4, hg4⟩; rw [HM.out] at hI4; rw [HE.out]; have H4 := Lib.hid (H3.out.wr hI4 hg4); clear hI4 hg4))
            | (go_at_call 17; go_must (refine (write_calls (w.heap.size + 2) w.heap.size 100 16 [] none 0 [] _ H4.out.b (Kd.C_nil _ _) (by decide) H4.out.size).mono ?_; rintro _ w5 ⟨rfl, hI5, hg5⟩; rw [HM1.out] at hI5; rw [HE1.out]; have H5 := Lib.hid (H4.out.wr hI5 hg5); clear hI5 hg5))
            | (go_at_call 18; go_must (refine (len_calls (w.heap.size + 2) w.heap.size 100 16 [] _ H5.out.b).mono ?_; rintro _ w6 ⟨rfl, hB6⟩; have H6 := Lib.hid (H5.out.step hB6); clear hB6))
            | (go_at_call 13; go_must (refine (awakeB_calls _).mono ?_; rintro _ w7 ⟨rfl, hB7⟩; have H7 := Lib.hid (H6.out.step hB7); clear hB7)))
          try rw [Exit.noGoto_ret]
          go_ret
          exact ⟨rfl, H7.out.below⟩
        by_cases g3 : lba < 40
        · by_cases g4 : (nn : Int) = 40
          · have g4a : (nn : Int) ≤ 40 := by omega
            have g4b : 40 ≤ (nn : Int) := by omega
            have d4 : ((nn : Int) != 40) = false := by simp; omega
            clear g4
            by_cases g5 : 16 < (k : Int) + 1
            · have HE := Lib.hid (show wrC 100 16 [] L = 7 by rw [HLAW.out]; unfold wantC; rw [if_neg (by omega), if_neg (by omega), if_neg (by simp; omega), if_pos (by omega)])
              have HM := Lib.hid (show wrM 100 16 [] L = [] by unfold wrM; rw [HE.out, if_neg (by decide)])
              have HE1 := Lib.hid (show wrC 100 16 [] [] = 1 by simp [wrC])
              have HM1 := Lib.hid (show wrM 100 16 [] [] = [] by unfold wrM; rw [HE1.out, if_neg (by decide)])
              go_wp2_with (first
                | (go_at_call 16; go_must (refine (scarpalike_Block.calls (nn + 1) nn 1 bk _ HBK.out).mono ?_; rintro _ w6 ⟨v6, rfl, hR6, hB6⟩; obtain ⟨A7, c7, hv7⟩ := Kd.R_slice hR6; subst hv7; have HB6 := Lib.hid (below_step HB.out hB6); have HR6 := Lib.hid (Kd.R_lower (Kd.R_new' hR6 (Kd.R_lt HR.out)) HB.out.size); have HO6 := Lib.hid (Kd.R_below HR.out hB6); clear hB6 hR6))
                | ((with_reducible refine gate_builtin (b := .append) (xs := #[.tmp 54, .tmp 59]) rfl ?_); at_builtin; go_must (refine app_put (w0 := w1) w1.heap.size rfl (.tmp 54) (.tmp 59) rfl (.slice A2 k c2) (rowP k) ⟨lba, bk⟩ (.slice A7 bk.length c7) rfl rfl HR6.out HO6.out HB6.out HB6.out.size (by have := HPL.out; omega) ?_; intro v7 w7 hR7 hB7 hg7 _; rw [HLE.out] at hR7; obtain ⟨A9, c9, hv7, _, hC9⟩ := Kd.R_reads hR7; subst hv7; have H3 := Lib.hid (H1.out.step hB7); have HC9 := Lib.hid hC9; clear hR7 hB7 hg7 hC9))
                | (go_at_call 17; have _t := t1; clear t1; go_must (refine (write_calls (w.heap.size + 2) w.heap.size 100 16 [] A9 c9 L _ H3.out.b HC9.out (by have := HLL.out; omega) H3.out.size).mono ?_; rintro _ w4 ⟨rfl, hI4, hg4⟩; rw [HM.out] at hI4; rw [HE.out]; have H4 := Lib.hid (H3.out.wr hI4 hg4); clear hI4 hg4))
                | (go_at_call 17; go_must (refine (write_calls (w.heap.size + 2) w.heap.size 100 16 [] none 0 [] _ H4.out.b (Kd.C_nil _ _) (by decide) H4.out.size).mono ?_; rintro _ w5 ⟨rfl, hI5, hg5⟩; rw [HM1.out] at hI5; rw [HE1.out]; have H5 := Lib.hid (H4.out.wr hI5 hg5); clear hI5 hg5))
                | (go_at_call 18; go_must (refine (len_calls (w.heap.size + 2) w.heap.size 100 16 [] _ H5.out.b).mono ?_; rintro _ w6 ⟨rfl, hB6⟩; have H6 := Lib.hid (H5.out.step hB6); clear hB6))
                | (go_at_call 13; go_must (refine (awakeB_calls _).mono ?_; rintro _ w7 ⟨rfl, hB7⟩; have H7 := Lib.hid (H6.out.step hB7); clear hB7)))
              try rw [Exit.noGoto_ret]
              go_ret
              exact ⟨rfl, H7.out.below⟩
            · have HE := Lib.hid (show wrC 100 16 [] L = 0 by rw [HLAW.out]; unfold wantC; rw [if_neg (by omega), if_neg (by omega), if_neg (by simp; omega), if_neg (by omega)])
              have HM := Lib.hid (show wrM 100 16 [] L = insL [] L by unfold wrM; rw [HE.out, if_pos rfl])
              obtain ⟨n9, hn9⟩ : ∃ n9, n9 = (insL [] L).length := ⟨_, rfl⟩
              have h9 : 1 ≤ n9 := by rw [hn9]; exact List.length_pos_iff.2 (insL_ne _ _ HNE.out)
              have H9 := Lib.hid hn9.symm
              clear hn9
              have HE1 := Lib.hid (show wrC 100 16 (insL [] L) [] = 1 by simp [wrC])
              have HM1 := Lib.hid (show wrM 100 16 (insL [] L) [] = (insL [] L) by unfold wrM; rw [HE1.out, if_neg (by decide)])
              go_wp2_with (first
                | (go_at_call 16; go_must (refine (scarpalike_Block.calls (nn + 1) nn 1 bk _ HBK.out).mono ?_; rintro _ w6 ⟨v6, rfl, hR6, hB6⟩; obtain ⟨A7, c7, hv7⟩ := Kd.R_slice hR6; subst hv7; have HB6 := Lib.hid (below_step HB.out hB6); have HR6 := Lib.hid (Kd.R_lower (Kd.R_new' hR6 (Kd.R_lt HR.out)) HB.out.size); have HO6 := Lib.hid (Kd.R_below HR.out hB6); clear hB6 hR6))
                | ((with_reducible refine gate_builtin (b := .append) (xs := #[.tmp 54, .tmp 59]) rfl ?_); at_builtin; go_must (refine app_put (w0 := w1) w1.heap.size rfl (.tmp 54) (.tmp 59) rfl (.slice A2 k c2) (rowP k) ⟨lba, bk⟩ (.slice A7 bk.length c7) rfl rfl HR6.out HO6.out HB6.out HB6.out.size (by have := HPL.out; omega) ?_; intro v7 w7 hR7 hB7 hg7 _; rw [HLE.out] at hR7; obtain ⟨A9, c9, hv7, _, hC9⟩ := Kd.R_reads hR7; subst hv7; have H3 := Lib.hid (H1.out.step hB7); have HC9 := Lib.hid hC9; clear hR7 hB7 hg7 hC9))
                | (go_at_call 17; have _t := t1; clear t1; go_must (refine (write_calls (w.heap.size + 2) w.heap.size 100 16 [] A9 c9 L _ H3.out.b HC9.out (by have := HLL.out; omega) H3.out.size).mono ?_; rintro _ w4 ⟨rfl, hI4, hg4⟩; rw [HM.out] at hI4; rw [HE.out]; have H4 := Lib.hid (H3.out.wr hI4 hg4); clear hI4 hg4))
                | (go_at_call 17; go_must (refine (write_calls (w.heap.size + 2) w.heap.size 100 16 (insL [] L) none 0 [] _ H4.out.b (Kd.C_nil _ _) (by decide) H4.out.size).mono ?_; rintro _ w5 ⟨rfl, hI5, hg5⟩; rw [HM1.out] at hI5; rw [HE1.out]; have H5 := Lib.hid (H4.out.wr hI5 hg5); clear hI5 hg5))
                | (go_at_call 18; go_must (refine (len_calls (w.heap.size + 2) w.heap.size 100 16 (insL [] L) _ H5.out.b).mono ?_; rintro _ w6 ⟨rfl, hB6⟩; rw [H9.out]; have H6 := Lib.hid (H5.out.step hB6); clear hB6))
                | (go_at_call 13; go_must (refine (awakeB_calls _).mono ?_; rintro _ w7 ⟨rfl, hB7⟩; have H7 := Lib.hid (H6.out.step hB7); clear hB7)))
              try rw [Exit.noGoto_ret]
              go_ret
              exact ⟨rfl, H7.out.below⟩
          · have HE := Lib.hid (show wrC 100 16 [] L = 3 by rw [HLAW.out]; unfold wantC; rw [if_neg (by omega), if_pos (by omega)])
            have HM := Lib.hid (show wrM 100 16 [] L = [] by unfold wrM; rw [HE.out, if_neg (by decide)])
            have HE1 := Lib.hid (show wrC 100 16 [] [] = 1 by simp [wrC])
            have HM1 := Lib.hid (show wrM 100 16 [] [] = [] by unfold wrM; rw [HE1.out, if_neg (by decide)])
            go_wp2_with (first
              | (go_at_call 16; go_must (refine (scarpalike_Block.calls (nn + 1) nn 1 bk _ HBK.out).mono ?_; rintro _ w6 ⟨v6, rfl, hR6, hB6⟩; obtain ⟨A7, c7, hv7⟩ := Kd.R_slice hR6; subst hv7; have HB6 := Lib.hid (below_step HB.out hB6); have HR6 := Lib.hid (Kd.R_lower (Kd.R_new' hR6 (Kd.R_lt HR.out)) HB.out.size); have HO6 := Lib.hid (Kd.R_below HR.out hB6); clear hB6 hR6))
              | ((with_reducible refine gate_builtin (b := .append) (xs := #[.tmp 54, .tmp 59]) rfl ?_); at_builtin; go_must (refine app_put (w0 := w1) w1.heap.size rfl (.tmp 54) (.tmp 59) rfl (.slice A2 k c2) (rowP k) ⟨lba, bk⟩ (.slice A7 bk.length c7) rfl rfl HR6.out HO6.out HB6.out HB6.out.size (by have := HPL.out; omega) ?_; intro v7 w7 hR7 hB7 hg7 _; rw [HLE.out] at hR7; obtain ⟨A9, c9, hv7, _, hC9⟩ := Kd.R_reads hR7; subst hv7; have H3 := Lib.hid (H1.out.step hB7); have HC9 := Lib.hid hC9; clear hR7 hB7 hg7 hC9))
              | (go_at_call 17; have _t := t1; clear t1; go_must (refine (write_calls (w.heap.size + 2) w.heap.size 100 16 [] A9 c9 L _ H3.out.b HC9.out (by have := HLL.out; omega) H3.out.size).mono ?_; rintro _ w4 ⟨rfl, hI4, hg4⟩; rw [HM.out] at hI4; rw [HE.out]; have H4 := Lib.hid (H3.out.wr hI4 hg4); clear hI4 hg4))
              | (go_at_call 17; go_must (refine (write_calls (w.heap.size + 2) w.heap.size 100 16 [] none 0 [] _ H4.out.b (Kd.C_nil _ _) (by decide) H4.out.size).mono ?_; rintro _ w5 ⟨rfl, hI5, hg5⟩; rw [HM1.out] at hI5; rw [HE1.out]; have H5 := Lib.hid (H4.out.wr hI5 hg5); clear hI5 hg5))
              | (go_at_call 18; go_must (refine (len_calls (w.heap.size + 2) w.heap.size 100 16 [] _ H5.out.b).mono ?_; rintro _ w6 ⟨rfl, hB6⟩; have H6 := Lib.hid (H5.out.step hB6); clear hB6))
              | (go_at_call 13; go_must (refine (awakeB_calls _).mono ?_; rintro _ w7 ⟨rfl, hB7⟩; have H7 := Lib.hid (H6.out.step hB7); clear hB7)))
            try rw [Exit.noGoto_ret]
            go_ret
            exact ⟨rfl, H7.out.below⟩
        by_cases g3' : lba < 40 + (k : Int)
        · by_cases g4 : (nn : Int) = 40
          · have g4a : (nn : Int) ≤ 40 := by omega
            have g4b : 40 ≤ (nn : Int) := by omega
            have d4 : ((nn : Int) != 40) = false := by simp; omega
            clear g4
            have HE := Lib.hid (show wrC 100 16 [] L = 4 by rw [HLAW.out]; unfold wantC; rw [if_neg (by omega), if_neg (by omega), if_pos (by simp; omega)])
            have HM := Lib.hid (show wrM 100 16 [] L = [] by unfold wrM; rw [HE.out, if_neg (by decide)])
            have HE1 := Lib.hid (show wrC 100 16 [] [] = 1 by simp [wrC])
            have HM1 := Lib.hid (show wrM 100 16 [] [] = [] by unfold wrM; rw [HE1.out, if_neg (by decide)])
            go_wp2_with (first
              | (go_at_call 16; go_must (refine (scarpalike_Block.calls (nn + 1) nn 1 bk _ HBK.out).mono ?_; rintro _ w6 ⟨v6, rfl, hR6, hB6⟩; obtain ⟨A7, c7, hv7⟩ := Kd.R_slice hR6; subst hv7; have HB6 := Lib.hid (below_step HB.out hB6); have HR6 := Lib.hid (Kd.R_lower (Kd.R_new' hR6 (Kd.R_lt HR.out)) HB.out.size); have HO6 := Lib.hid (Kd.R_below HR.out hB6); clear hB6 hR6))
              | ((with_reducible refine gate_builtin (b := .append) (xs := #[.tmp 54, .tmp 59]) rfl ?_); at_builtin; go_must (refine app_put (w0 := w1) w1.heap.size rfl (.tmp 54) (.tmp 59) rfl (.slice A2 k c2) (rowP k) ⟨lba, bk⟩ (.slice A7 bk.length c7) rfl rfl HR6.out HO6.out HB6.out HB6.out.size (by have := HPL.out; omega) ?_; intro v7 w7 hR7 hB7 hg7 _; rw [HLE.out] at hR7; obtain ⟨A9, c9, hv7, _, hC9⟩ := Kd.R_reads hR7; subst hv7; have H3 := Lib.hid (H1.out.step hB7); have HC9 := Lib.hid hC9; clear hR7 hB7 hg7 hC9))
              | (go_at_call 17; have _t := t1; clear t1; go_must (refine (write_calls (w.heap.size + 2) w.heap.size 100 16 [] A9 c9 L _ H3.out.b HC9.out (by have := HLL.out; omega) H3.out.size).mono ?_; rintro _ w4 ⟨rfl, hI4, hg4⟩; rw [HM.out] at hI4; rw [HE.out]; have H4 := Lib.hid (H3.out.wr hI4 hg4); clear hI4 hg4))
              | (go_at_call 17; go_must (refine (write_calls (w.heap.size + 2) w.heap.size 100 16 [] none 0 [] _ H4.out.b (Kd.C_nil _ _) (by decide) H4.out.size).mono ?_; rintro _ w5 ⟨rfl, hI5, hg5⟩; rw [HM1.out] at hI5; rw [HE1.out]; have H5 := Lib.hid (H4.out.wr hI5 hg5); clear hI5 hg5))
              | (go_at_call 18; go_must (refine (len_calls (w.heap.size + 2) w.heap.size 100 16 [] _ H5.out.b).mono ?_; rintro _ w6 ⟨rfl, hB6⟩; have H6 := Lib.hid (H5.out.step hB6); clear hB6))
              | (go_at_call 13; go_must (refine (awakeB_calls _).mono ?_; rintro _ w7 ⟨rfl, hB7⟩; have H7 := Lib.hid (H6.out.step hB7); clear hB7)))
            try rw [Exit.noGoto_ret]
            go_ret
            exact ⟨rfl, H7.out.below⟩
          · have HE := Lib.hid (show wrC 100 16 [] L = 3 by rw [HLAW.out]; unfold wantC; rw [if_neg (by omega), if_pos (by omega)])
            have HM := Lib.hid (show wrM 100 16 [] L = [] by unfold wrM; rw [HE.out, if_neg (by decide)])
            have HE1 := Lib.hid (show wrC 100 16 [] [] = 1 by simp [wrC])
            have HM1 := Lib.hid (show wrM 100 16 [] [] = [] by unfold wrM; rw [HE1.out, if_neg (by decide)])
            go_wp2_with (first
              | (go_at_call 16; go_must (refine (scarpalike_Block.calls (nn + 1) nn 1 bk _ HBK.out).mono ?_; rintro _ w6 ⟨v6, rfl, hR6, hB6⟩; obtain ⟨A7, c7, hv7⟩ := Kd.R_slice hR6; subst hv7; have HB6 := Lib.hid (below_step HB.out hB6); have HR6 := Lib.hid (Kd.R_lower (Kd.R_new' hR6 (Kd.R_lt HR.out)) HB.out.size); have HO6 := Lib.hid (Kd.R_below HR.out hB6); clear hB6 hR6))
              | ((with_reducible refine gate_builtin (b := .append) (xs := #[.tmp 54, .tmp 59]) rfl ?_); at_builtin; go_must (refine app_put (w0 := w1) w1.heap.size rfl (.tmp 54) (.tmp 59) rfl (.slice A2 k c2) (rowP k) ⟨lba, bk⟩ (.slice A7 bk.length c7) rfl rfl HR6.out HO6.out HB6.out HB6.out.size (by have := HPL.out; omega) ?_; intro v7 w7 hR7 hB7 hg7 _; rw [HLE.out] at hR7; obtain ⟨A9, c9, hv7, _, hC9⟩ := Kd.R_reads hR7; subst hv7; have H3 := Lib.hid (H1.out.step hB7); have HC9 := Lib.hid hC9; clear hR7 hB7 hg7 hC9))
              | (go_at_call 17; have _t := t1; clear t1; go_must (refine (write_calls (w.heap.size + 2) w.heap.size 100 16 [] A9 c9 L _ H3.out.b HC9.out (by have := HLL.out; omega) H3.out.size).mono ?_; rintro _ w4 ⟨rfl, hI4, hg4⟩; rw [HM.out] at hI4; rw [HE.out]; have H4 := Lib.hid (H3.out.wr hI4 hg4); clear hI4 hg4))
              | (go_at_call 17; go_must (refine (write_calls (w.heap.size + 2) w.heap.size 100 16 [] none 0 [] _ H4.out.b (Kd.C_nil _ _) (by decide) H4.out.size).mono ?_; rintro _ w5 ⟨rfl, hI5, hg5⟩; rw [HM1.out] at hI5; rw [HE1.out]; have H5 := Lib.hid (H4.out.wr hI5 hg5); clear hI5 hg5))
              | (go_at_call 18; go_must (refine (len_calls (w.heap.size + 2) w.heap.size 100 16 [] _ H5.out.b).mono ?_; rintro _ w6 ⟨rfl, hB6⟩; have H6 := Lib.hid (H5.out.step hB6); clear hB6))
              | (go_at_call 13; go_must (refine (awakeB_calls _).mono ?_; rintro _ w7 ⟨rfl, hB7⟩; have H7 := Lib.hid (H6.out.step hB7); clear hB7)))
            try rw [Exit.noGoto_ret]
            go_ret
            exact ⟨rfl, H7.out.below⟩
        by_cases g4 : (nn : Int) = 40
        · have g4a : (nn : Int) ≤ 40 := by omega
          have g4b : 40 ≤ (nn : Int) := by omega
          have d4 : ((nn : Int) != 40) = false := by simp; omega
          clear g4
          by_cases g5 : 16 < (k : Int) + 1
          · have HE := Lib.hid (show wrC 100 16 [] L = 7 by rw [HLAW.out]; unfold wantC; rw [if_neg (by omega), if_neg (by omega), if_neg (by simp; omega), if_pos (by omega)])
            have HM := Lib.hid (show wrM 100 16 [] L = [] by unfold wrM; rw [HE.out, if_neg (by decide)])
            have HE1 := Lib.hid (show wrC 100 16 [] [] = 1 by simp [wrC])
            have HM1 := Lib.hid (show wrM 100 16 [] [] = [] by unfold wrM; rw [HE1.out, if_neg (by decide)])
            go_wp2_with (first
              | (go_at_call 16; go_must (refine (scarpalike_Block.calls (nn + 1) nn 1 bk _ HBK.out).mono ?_; rintro _ w6 ⟨v6, rfl, hR6, hB6⟩; obtain ⟨A7, c7, hv7⟩ := Kd.R_slice hR6; subst hv7; have HB6 := Lib.hid (below_step HB.out hB6); have HR6 := Lib.hid (Kd.R_lower (Kd.R_new' hR6 (Kd.R_lt HR.out)) HB.out.size); have HO6 := Lib.hid (Kd.R_below HR.out hB6); clear hB6 hR6))
              | ((with_reducible refine gate_builtin (b := .append) (xs := #[.tmp 54, .tmp 59]) rfl ?_); at_builtin; go_must (refine app_put (w0 := w1) w1.heap.size rfl (.tmp 54) (.tmp 59) rfl (.slice A2 k c2) (rowP k) ⟨lba, bk⟩ (.slice A7 bk.length c7) rfl rfl HR6.out HO6.out HB6.out HB6.out.size (by have := HPL.out; omega) ?_; intro v7 w7 hR7 hB7 hg7 _; rw [HLE.out] at hR7; obtain ⟨A9, c9, hv7, _, hC9⟩ := Kd.R_reads hR7; subst hv7; have H3 := Lib.hid (H1.out.step hB7); have HC9 := Lib.hid hC9; clear hR7 hB7 hg7 hC9))
              | (go_at_call 17; have _t := t1; clear t1; go_must (refine (write_calls (w.heap.size + 2) w.heap.size 100 16 [] A9 c9 L _ H3.out.b HC9.out (by have := HLL.out; omega) H3.out.size).mono ?_; rintro _ w4 ⟨rfl, hI4, hg4⟩; rw [HM.out] at hI4; rw [HE.out]; have H4 := Lib.hid (H3.out.wr hI4 hg4); clear hI4 hg4))
              | (go_at_call 17; go_must (refine (write_calls (w.heap.size + 2) w.heap.size 100 16 [] none 0 [] _ H4.out.b (Kd.C_nil _ _) (by decide) H4.out.size).mono ?_; rintro _ w5 ⟨rfl, hI5, hg5⟩; rw [HM1.out] at hI5; rw [HE1.out]; have H5 := Lib.hid (H4.out.wr hI5 hg5); clear hI5 hg5))
              | (go_at_call 18; go_must (refine (len_calls (w.heap.size + 2) w.heap.size 100 16 [] _ H5.out.b).mono ?_; rintro _ w6 ⟨rfl, hB6⟩; have H6 := Lib.hid (H5.out.step hB6); clear hB6))
              | (go_at_call 13; go_must (refine (awakeB_calls _).mono ?_; rintro _ w7 ⟨rfl, hB7⟩; have H7 := Lib.hid (H6.out.step hB7); clear hB7)))
            try rw [Exit.noGoto_ret]
            go_ret
            exact ⟨rfl, H7.out.below⟩
          · have HE := Lib.hid (show wrC 100 16 [] L = 0 by rw [HLAW.out]; unfold wantC; rw [if_neg (by omega), if_neg (by omega), if_neg (by simp; omega), if_neg (by omega)])
            have HM := Lib.hid (show wrM 100 16 [] L = insL [] L by unfold wrM; rw [HE.out, if_pos rfl])
            obtain ⟨n9, hn9⟩ : ∃ n9, n9 = (insL [] L).length := ⟨_, rfl⟩
            have h9 : 1 ≤ n9 := by rw [hn9]; exact List.length_pos_iff.2 (insL_ne _ _ HNE.out)
            have H9 := Lib.hid hn9.symm
            clear hn9
            have HE1 := Lib.hid (show wrC 100 16 (insL [] L) [] = 1 by simp [wrC])
            have HM1 := Lib.hid (show wrM 100 16 (insL [] L) [] = (insL [] L) by unfold wrM; rw [HE1.out, if_neg (by decide)])
            go_wp2_with (first
              | (go_at_call 16; go_must (refine (scarpalike_Block.calls (nn + 1) nn 1 bk _ HBK.out).mono ?_; rintro _ w6 ⟨v6, rfl, hR6, hB6⟩; obtain ⟨A7, c7, hv7⟩ := Kd.R_slice hR6; subst hv7; have HB6 := Lib.hid (below_step HB.out hB6); have HR6 := Lib.hid (Kd.R_lower (Kd.R_new' hR6 (Kd.R_lt HR.out)) HB.out.size); have HO6 := Lib.hid (Kd.R_below HR.out hB6); clear hB6 hR6))
              | ((with_reducible refine gate_builtin (b := .append) (xs := #[.tmp 54, .tmp 59]) rfl ?_); at_builtin; go_must (refine app_put (w0 := w1) w1.heap.size rfl (.tmp 54) (.tmp 59) rfl (.slice A2 k c2) (rowP k) ⟨lba, bk⟩ (.slice A7 bk.length c7) rfl rfl HR6.out HO6.out HB6.out HB6.out.size (by have := HPL.out; omega) ?_; intro v7 w7 hR7 hB7 hg7 _; rw [HLE.out] at hR7; obtain ⟨A9, c9, hv7, _, hC9⟩ := Kd.R_reads hR7; subst hv7; have H3 := Lib.hid (H1.out.step hB7); have HC9 := Lib.hid hC9; clear hR7 hB7 hg7 hC9))
              | (go_at_call 17; have _t := t1; clear t1; go_must (refine (write_calls (w.heap.size + 2) w.heap.size 100 16 [] A9 c9 L _ H3.out.b HC9.out (by have := HLL.out; omega) H3.out.size).mono ?_; rintro _ w4 ⟨rfl, hI4, hg4⟩; rw [HM.out] at hI4; rw [HE.out]; have H4 := Lib.hid (H3.out.wr hI4 hg4); clear hI4 hg4))
              | (go_at_call 17; go_must (refine (write_calls (w.heap.size + 2) w.heap.size 100 16 (insL [] L) none 0 [] _ H4.out.b (Kd.C_nil _ _) (by decide) H4.out.size).mono ?_; rintro _ w5 ⟨rfl, hI5, hg5⟩; rw [HM1.out] at hI5; rw [HE1.out]; have H5 := Lib.hid (H4.out.wr hI5 hg5); clear hI5 hg5))
              | (go_at_call 18; go_must (refine (len_calls (w.heap.size + 2) w.heap.size 100 16 (insL [] L) _ H5.out.b).mono ?_; rintro _ w6 ⟨rfl, hB6⟩; rw [H9.out]; have H6 := Lib.hid (H5.out.step hB6); clear hB6))
              | (go_at_call 13; go_must (refine (awakeB_calls _).mono ?_; rintro _ w7 ⟨rfl, hB7⟩; have H7 := Lib.hid (H6.out.step hB7); clear hB7)))
            try rw [Exit.noGoto_ret]
            go_ret
            exact ⟨rfl, H7.out.below⟩
        · have HE := Lib.hid (show wrC 100 16 [] L = 3 by rw [HLAW.out]; unfold wantC; rw [if_neg (by omega), if_pos (by omega)])
          have HM := Lib.hid (show wrM 100 16 [] L = [] by unfold wrM; rw [HE.out, if_neg (by decide)])
          have HE1 := Lib.hid (show wrC 100 16 [] [] = 1 by simp [wrC])
          have HM1 := Lib.hid (show wrM 100 16 [] [] = [] by unfold wrM; rw [HE1.out, if_neg (by decide)])
          go_wp2_with (first
            | (go_at_call 16; go_must (refine (scarpalike_Block.calls (nn + 1) nn 1 bk _ HBK.out).mono ?_; rintro _ w6 ⟨v6, rfl, hR6, hB6⟩; obtain ⟨A7, c7, hv7⟩ := Kd.R_slice hR6; subst hv7; have HB6 := Lib.hid (below_step HB.out hB6); have HR6 := Lib.hid (Kd.R_lower (Kd.R_new' hR6 (Kd.R_lt HR.out)) HB.out.size); have HO6 := Lib.hid (Kd.R_below HR.out hB6); clear hB6 hR6))
            | ((with_reducible refine gate_builtin (b := .append) (xs := #[.tmp 54, .tmp 59]) rfl ?_); at_builtin; go_must (refine app_put (w0 := w1) w1.heap.size rfl (.tmp 54) (.tmp 59) rfl (.slice A2 k c2) (rowP k) ⟨lba, bk⟩ (.slice A7 bk.length c7) rfl rfl HR6.out HO6.out HB6.out HB6.out.size (by have := HPL.out; omega) ?_; intro v7 w7 hR7 hB7 hg7 _; rw [HLE.out] at hR7; obtain ⟨A9, c9, hv7, _, hC9⟩ := Kd.R_reads hR7; subst hv7; have H3 := Lib.hid (H1.out.step hB7); have HC9 := Lib.hid hC9; clear hR7 hB7 hg7 hC9))
            | (go_at_call 17; have _t := t1; clear t1; go_must (refine (write_calls (w.heap.size + 2) w.heap.size 100 16 [] A9 c9 L _ H3.out.b HC9.out (by have := HLL.out; omega) H3.out.size).mono ?_; rintro _ w4 ⟨rfl, hI4, hg4⟩; rw [HM.out] at hI4; rw [HE.out]; have H4 := Lib.hid (H3.out.wr hI4 hg4); clear hI4 hg4))
            | (go_at_call 17; go_must (refine (write_calls (w.heap.size + 2) w.heap.size 100 16 [] none 0 [] _ H4.out.b (Kd.C_nil _ _) (by decide) H4.out.size).mono ?_; rintro _ w5 ⟨rfl, hI5, hg5⟩; rw [HM1.out] at hI5; rw [HE1.out]; have H5 := Lib.hid (H4.out.wr hI5 hg5); clear hI5 hg5))
            | (go_at_call 18; go_must (refine (len_calls (w.heap.size + 2) w.heap.size 100 16 [] _ H5.out.b).mono ?_; rintro _ w6 ⟨rfl, hB6⟩; have H6 := Lib.hid (H5.out.step hB6); clear hB6))
            | (go_at_call 13; go_must (refine (awakeB_calls _).mono ?_; rintro _ w7 ⟨rfl, hB7⟩; have H7 := Lib.hid (H6.out.step hB7); clear hB7)))
          try rw [Exit.noGoto_ret]
          go_ret
          exact ⟨rfl, H7.out.below⟩
end Go.Proofs.Ytbebihphodafiaa.Iv
