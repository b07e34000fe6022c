/- The walk of WbufLast: what is written is read again, the last one; a vector that is refused changes nothing. -/
import Derived.Test.YtbebihphodafiaaProg
import Derived.Below
import Derived.Deep.Draws
import Derived.Deep.AppendLies
import Derived.Maps.AppendAt
import Derived.OwnWalk
import Derived.Laws.BytesArg
import Derived.Laws.MakeOwn
import Derived.Laws.OwnMore
import Derived.Deep.OwnRows
import Derived.Tactics
import Derived.Lib.ConvBytes
import Derived.Laws.Slices
import Derived.WalkKit
import Derived.KernelRfl
import Derived.RowKit3
import Derived.Deep.LoopGhost
import Derived.Deep.QuietTactic
import Derived.BigQuiet
import Derived.WideLaws
import Derived.Deep.DeepCutAuto
import Derived.Deep.CutBlock
import Derived.Deep.RegionHeld3
import Derived.Laws.Rows
import Derived.Lib.AppendStr
import Derived.ArgAppend
import Derived.Laws.IdiomCopy
import Derived.OrdersHeld
import Derived.Laws.BitsLemmas
import Derived.RowKit
import Derived.Test.YtbebihphodafiaaWWords
import Derived.Test.YtbebihphodafiaaWLast
import Derived.Test.YtbebihphodafiaaWTab
import Derived.Test.YtbebihphodafiaaWFour
import Derived.Test.YtbebihphodafiaaWQPut
import Derived.Test.YtbebihphodafiaaWApart
import Derived.Test.YtbebihphodafiaaWArr
import Derived.Test.YtbebihphodafiaaWZeros
import Derived.Test.YtbebihphodafiaaWFoot
import Derived.Test.YtbebihphodafiaaWKept
import Derived.Test.YtbebihphodafiaaWShare
import Derived.Test.YtbebihphodafiaaWN
import Derived.Test.YtbebihphodafiaaWFootNe
import Derived.Test.YtbebihphodafiaaWAt
import Derived.Test.YtbebihphodafiaaWEqStruct
import Derived.Test.YtbebihphodafiaaWRepsOne
import Derived.Test.YtbebihphodafiaaWInv
import Derived.Test.YtbebihphodafiaaWInvWords
import Derived.Test.YtbebihphodafiaaWGuard
import Derived.Test.YtbebihphodafiaaWNEv
import Derived.Test.YtbebihphodafiaaWMore
import Derived.Outline
import Derived.Lib.Hide
import Derived.Deep.DeepMust
import Derived.IntWalk
import Derived.StillTailTactics
import Derived.Test.YtbebihphodafiaaWbL
namespace Go.Proofs.Ytbebihphodafiaa.Iv
open Go.RowKit Go.Proofs.YtbebihphodafiaaW.PrintWords Go.Proofs.YtbebihphodafiaaW.PrintLast Go.Proofs.YtbebihphodafiaaW.PrintMore Go.Proofs.Ytbebihphodafiaa.PWb Go.Maps
set_option linter.unusedVariables false
set_option linter.unusedSimpArgs false

theorem grown_set (w : World) (a : Addr) (u : Value) : w.grownBy (w.setCell a u) (some a.block) :=
  ⟨rfl, rfl, rfl, by simp, fun k _ hk => heap_setCell_other w a k u (fun e => hk (by rw [e]))⟩
theorem JB.set {w W : World} {fr mb : Nat} {blocks most : Int} {M : List S31} {gw : Nat} (h : JB w fr mb blocks most M W) (hg : gw < fr ∧ gw ≠ mb ∧ gw ≠ mb + 1 ∧ w.heap.size ≤ gw) (x : Nat) (v : Value) : JB w fr mb blocks most M (W.setCell ⟨gw, x, none⟩ v) := by
  have h1 := grown_set W ⟨gw, x, none⟩ v
  have h2 := h.size
  refine ⟨h.below.grown h1 (by have := h.below.size; exact this) (fun k hk => by cases hk; exact hg.2.2.2), h.ge, h.b.grown h1 (fun k hk => by cases hk; exact ⟨hg.1, hg.2.1, hg.2.2.1⟩), Nat.le_trans h2 h1.size⟩
theorem mk_wants (w w1 w2 w3 : World) (gw c3 : Nat) (hB2 : RowKit.Below w.heap.size w w2) (hI2 : IsBuf w2 (w1.heap.size + 2) w1.heap.size 20 16 []) (hS2 : w1.heap.size + 2 = w2.heap.size) (hs1 : w.heap.size ≤ w1.heap.size)
    (hR : Kd.R (Kd.slice 5 kb) 28 w3 w2.heap.size (fun _ => True) (.slice (some ⟨gw, 0, none⟩) 20 c3) (List.replicate 20 [])) (hB3 : RowKit.Below w2.heap.size w2 w3) (hg : w2.heap.size ≤ gw) (hlt : gw < w3.heap.size) :
    JB w (gw + 1) w1.heap.size 20 16 [] w3 ∧ Wants w w3 gw [] := by
  refine ⟨⟨below_step hB2 hB3, hs1, (hI2.below hB3).raise (gw + 1) (by omega), by omega⟩, fun j hj => ?_⟩
  obtain ⟨cs, _, hM, hcc, hf⟩ := Kd.R_elem hR [] (j : Int) (by omega) (by omega)
  obtain ⟨v, rfl, hv⟩ := hM
  have e : (List.replicate 20 ([] : List Int)).getD (j : Int).toNat [] = [] := by
    rw [Int.toNat_natCast, List.getD_eq_getElem?_getD]
    rcases Nat.lt_or_ge j (List.replicate 20 ([] : List Int)).length with h | h
    · rw [List.getElem?_eq_getElem h, List.getElem_replicate]; rfl
    · rw [List.getElem?_eq_none h]; rfl
  rw [e] at hv
  obtain ⟨A, c, rfl⟩ := Kd.R_slice hv
  have h0 := hcc 0 _ rfl
  have f0 := hf 0
  have hs : (Kd.slice 5 kb).sz = 1 := rfl
  rw [Int.toNat_natCast, hs, Nat.mul_one, Nat.add_zero] at h0 f0
  refine ⟨f0, A, c, h0, Nat.zero_le _, ?_⟩
  rw [lookM_nil]
  exact ⟨rfl, by decide, fun h => absurd h (Nat.lt_irrefl _)⟩
set_option maxHeartbeats 16000000 in
set_option maxRecDepth 100000 in
theorem last_calls (A0 : Option Addr) (c0 : Nat) (l : List (List S31)) (w : World) (hr : Kd.C (Kd.slice 31 k31) w A0 l.length l) (hc : l.length ≤ c0) (hl : l.length ≤ 9223372036854775807) (hll : ∀ x ∈ l, x.length ≤ 9223372036854775807) :
    Calls Try.prog 5 #[.slice A0 l.length c0] w fun e w' => e = .returned (.bool true) ∧ RowKit.Below w.heap.size w w' := by
  have HR := Lib.hid (fun w' (h : RowKit.Below w.heap.size w w') => Kd.C_below hr h)
  have HC := Lib.hid hc
  obtain ⟨kk, r, hsm, hsr⟩ := small_ex l hl hll
  have HSM := Lib.hid hsm
  have HSR := Lib.hid hsr
  clear hr hc hsm hsr hll
  cases r with
  | false =>
    go_enter Try.func5, Try.ntmps5
    go_wp2_with (first
      | (go_at_call 23; go_must (refine (scarplaw14_small.calls kk A0 c0 l false _ (HR.out _ (Below.refl _ _)) HC.out HSM.out).mono ?_; rintro _ w1 ⟨rfl, hB1⟩))
      | (go_at_call 13; go_must (refine (awakeB_calls _).mono ?_; rintro _ w2 ⟨rfl, hB2⟩)))
    go_ret
    exact ⟨rfl, below_step hB1 hB2⟩
  | true =>
    have HLL := Lib.hid (HSR.out rfl).2
    have hl100 := (HSR.out rfl).1
    go_enter Try.func5, Try.ntmps5
    go_wp2_with (first
      | (go_at_call 23; go_must (refine (scarplaw14_small.calls kk A0 c0 l true _ (HR.out _ (Below.refl _ _)) HC.out HSM.out).mono ?_; rintro _ w1 ⟨rfl, hB1⟩; have HB1 := Lib.hid hB1; clear hB1))
      | (go_at_call 14; go_must (refine (newB_calls 20 16 (w1.heap.size + 2) w1.heap.size _ ⟨by decide, by decide, by decide⟩ rfl (by omega)).mono ?_; rintro _ w2 ⟨rfl, hB2, hI2, hS2⟩; have HI2 := Lib.hid hI2; have HB2 := Lib.hid (below_step HB1.out hB2); have HS2 := Lib.hid hS2; clear hB2 hI2 hS2))
      | ((with_reducible refine gate_dst (N := 26) rfl ?_); go_must (refine Kd.R_make (Kd.slice 5 kb) (w0 := w2) w2.heap.size 28 rfl (N := 26) rfl 43 _ _ rfl 20 rfl rfl Try.underlying43 (.slice none 0 0) 24 info28 rfl (by decide) (by decide) ([] : List Int) (ok := fun _ => True) (okp := fun _ => True) ⟨_, rfl, Kd.R_nil _ _ _ _ _⟩ (fun _ h => h) trivial (by decide) (by decide) (Below.refl _ _) (Nat.le_refl _) ?_; intro v3 w3 hR3 hB3 hg3 hb3; obtain ⟨gw, c3, hv3, hg, hlt3, _⟩ := Kd.R_form hR3 (by simp); rw [List.length_replicate] at hv3; subst hv3; have H3 := Lib.hid (mk_wants w w1 w2 w3 gw c3 HB2.out HI2.out HS2.out HB1.out.size hR3 hB3 hg hlt3); have HGW := Lib.hid (show w1.heap.size + 2 ≤ gw by have := HS2.out; omega); clear hR3 hB3 hg3 hb3)))
    go_loopw [6, 7, 8, 9, 10, 11] (fun i _ _ _ _ _ wr => ∃ (k : Nat) (M : List S31), k ≤ l.length ∧ i = .int .i64 k ∧ M.length ≤ 16 ∧ Aside0 (JB w (gw + 1) w1.heap.size 20 16 M wr ∧ Wants w wr gw M)) (fun i _ _ _ _ _ _ => l.length - (intOf i).toNat)
    case atStart => exact ⟨0, [], Nat.zero_le _, rfl, Nat.zero_le _, ⟨H3.out⟩⟩
    case round =>
      clear H3
      obtain ⟨k, M, hk, rfl, hM16, HO⟩ := hrel
      have HH := Lib.hid HO.out
      clear HO
      by_cases hkl : k < l.length
      · obtain ⟨ad, A1, c1, rfl, x0, hc1, hC1⟩ := at_L4 (HR.out w (Below.refl _ _)) (k : Int) (by omega) (by omega)
        simp only [Int.toNat_natCast] at x0
        obtain ⟨q, hq⟩ : ∃ q, q = rd_L4 l (k : Int) := ⟨_, rfl⟩
        rw [← hq] at x0 hc1 hC1
        have hq20 : q.length ≤ 20000 := by
          have hqe : q = l[k] := by rw [hq]; simp [rd_L4, List.getD_eq_getElem?_getD, List.getElem?_eq_getElem hkl]
          rw [hqe]; exact HLL.out _ (List.getElem_mem hkl)
        have HX := Lib.hid (fun w' (h : RowKit.Below w.heap.size w w') => pw_cell_below h x0)
        have HC1 := Lib.hid (fun w' (h : RowKit.Below w.heap.size w w') => Kd.C_below hC1 h)
        have b1 : 0 ≤ (k : Int) := by omega
        have b2 : (k : Int) < (l.length : Int) := by omega
        have HKD := Lib.hid (show k + 1 ≤ l.length by omega)
        have x1 := HX.out wr HH.out.1.below
        clear hq x0 hc1 hC1
        obtain ⟨cd, hcd⟩ : ∃ cd, cd = wrC 20 16 M q := ⟨_, rfl⟩
        have HCD := Lib.hid hcd.symm
        obtain ⟨wo, hwo⟩ : ∃ wo : World, wo = wr := ⟨_, rfl⟩
        subst hwo
        by_cases hz : cd = 0
        · subst hz
          have hc0 := HCD.out
          obtain ⟨z1, z2, z3, z4, z5⟩ := wrC_zero hc0
          have HWM := Lib.hid (show wrM 20 16 M q = insL M q by unfold wrM; rw [hc0, if_pos rfl])
          have hml := insL_len q M HH.out.1.b.srt (dup_nodup z4)
          obtain ⟨M2, hM2⟩ : ∃ M2, M2 = insL M q := ⟨_, rfl⟩
          rw [← hM2] at HWM hml
          have HM2 := Lib.hid hM2
          have H16 := Lib.hid (show M2.length ≤ 16 by omega)
          have HQR := Lib.hid (show ∀ p ∈ q, 0 ≤ p.f0 ∧ p.f0 < 20 from fun p hp => by
            have := List.any_eq_false.1 z2 p hp
            simpa [outB] using this)
          have HRI := Lib.hid HH.out.1.b.srt
          clear hc0 z1 z2 z3 z4 z5 hml hM2 hcd
          go_wp2_with (go_at_call 17; go_must (refine (write_calls (gw + 1) w1.heap.size 20 16 M A1 c1 q _ HH.out.1.b (HC1.out _ HH.out.1.below) (by omega) HH.out.1.size).mono ?_; rintro _ w5 ⟨rfl, hI5, hg5⟩; rw [HWM.out] at hI5; rw [HCD.out]; have H5 := Lib.hid (HH.out.1.wr hI5 hg5); have HW5 := Lib.hid (HH.out.2.wr hg5 HH.out.1.b.isMap); clear hI5 hg5))
          clear x1
          go_loopw [7] (fun a wr => ∃ j : Nat, j ≤ q.length ∧ a = .int .i64 j ∧ Aside0 (JB w (gw + 1) w1.heap.size 20 16 M2 wr ∧ Wants w wr gw (insL M (q.take j)))) (fun a _ => q.length - (intOf a).toNat)
          case atStart => exact ⟨0, Nat.zero_le _, rfl, ⟨H5.out, HW5.out⟩⟩
          case round =>
            clear H5 HW5
            obtain ⟨j, hj, rfl, HJ⟩ := hrel
            have HJ5 := Lib.hid HJ.out
            clear HJ
            have x1 := HX.out wr HJ5.out.1.below
            by_cases hjl : j < q.length
            · obtain ⟨ae, A2, c2, rfl, y0, y1, yl, yC⟩ := at_T31 (HC1.out w (Below.refl _ _)) (j : Int) (by omega) (by omega)
              simp only [Int.toNat_natCast] at y0 y1
              obtain ⟨p, hp⟩ : ∃ p, p = rd_T31 q (j : Int) := ⟨_, rfl⟩
              rw [← hp] at y0 y1 yl yC
              have hpe : p = q[j] := by rw [hp]; simp [rd_T31, List.getD_eq_getElem?_getD, List.getElem?_eq_getElem hjl]
              obtain ⟨p0, p1⟩ := HQR.out p (by rw [hpe]; exact List.getElem_mem hjl)
              obtain ⟨x, hx⟩ : ∃ x : Nat, p.f0 = x := ⟨p.f0.toNat, by omega⟩
              have hx20 : x < 20 := by omega
              have HIN := Lib.hid (show insL M (q.take (j + 1)) = ins (insL M (q.take j)) ⟨(x : Int), p.f1⟩ by
                rw [insL_succ M q j hjl, ← hpe, ← hx])
              have HPT := Lib.hid (fun (W : World) (h : Wants w W gw (insL M (q.take j))) => h.put (insL_rise _ _ HRI.out) x hx20 p.f1 A2 c2 yl yC)
              rw [hx] at y0
              have y2 := pw_cell_below HJ5.out.1.below y0
              have y3 := pw_cell_below HJ5.out.1.below y1
              obtain ⟨f0, A3, c3', v0, _⟩ := HJ5.out.2 x hx20
              have e1 : 0 ≤ (j : Int) := by omega
              have e2 : (j : Int) < (q.length : Int) := by omega
              have e3 : 0 ≤ (x : Int) := by omega
              have e4 : (x : Int) < 20 := by omega
              have HD := Lib.hid (show j + 1 ≤ q.length by omega)
              clear hp hpe p0 p1 hx y0 y1 yl yC
              go_wp2
              go_still_tail 18, (by kernel_rfl)
              change wpList _ _ _ _ _ wr.drew
              have f0' : wr.drew.frozen? ⟨gw, x, none⟩ = false := f0
              have v0' : wr.drew.cell? ⟨gw, x, none⟩ = some (.slice A3 (lookM (insL M (q.take j)) (x : Int)).length c3') := v0
              have HJ6 := Lib.hid (show JB w (gw + 1) w1.heap.size 20 16 M2 wr.drew ∧ Wants w wr.drew gw (insL M (q.take j)) from ⟨HJ5.out.1.step (below_drew1 (Below.refl _ _)), HJ5.out.2.below (below_drew1 (Below.refl _ _))⟩)
              clear x1 y2 y3 f0 v0
              generalize wr.drew = w6 at *
              have HJ7 := Lib.hid (show JB w (gw + 1) w1.heap.size 20 16 M2 (w6.setCell ⟨gw, x, none⟩ (.slice A2 p.f1.length c2)) ∧ Wants w (w6.setCell ⟨gw, x, none⟩ (.slice A2 p.f1.length c2)) gw (insL M (q.take (j + 1))) from
                ⟨HJ6.out.1.set (by have h1 := HGW.out; have h2 := HJ6.out.1.ge; omega) _ _, by rw [HIN.out]; exact HPT.out _ HJ6.out.2⟩)
              go_wp2
              go_roundw
              case rel => exact ⟨j + 1, HD.out, by go_num, ⟨HJ7.out⟩⟩
              case measure => simp [intOf]; omega
            · obtain rfl : j = q.length := by omega
              have e2 : ¬ (q.length : Int) < (q.length : Int) := by omega
              have HV := Lib.hid (show JB w (gw + 1) w1.heap.size 20 16 M2 wr ∧ Wants w wr gw M2 from ⟨HJ5.out.1, by have := HJ5.out.2; rw [List.take_length, ← HM2.out] at this; exact this⟩)
              clear HJ5
              obtain ⟨wp, hwp⟩ : ∃ wp : World, wp = wr := ⟨_, rfl⟩
              subst hwp
              go_wp2
              clear x1 e2
              go_loopw [8, 9, 10, 11] (fun n i _ _ wr => ∃ j : Nat, j ≤ 20 ∧ i = .int .i64 j ∧ n = .int .i64 ((List.range j).countP (fun y : Nat => hasM M2 (y : Int)) : Nat) ∧ Aside0 (JB w (gw + 1) w1.heap.size 20 16 M2 wr ∧ Wants w wr gw M2)) (fun _ i _ _ _ => 20 - (intOf i).toNat)
              case atStart => exact ⟨0, by omega, rfl, rfl, ⟨HV.out⟩⟩
              case round =>
                clear HV
                obtain ⟨j, hj, rfl, rfl, HJ⟩ := hrel
                by_cases hlt : j < 20
                · obtain ⟨_, A8, c8, y0, yl, yC⟩ := HJ.out.2 j hlt
                  have hcs : (List.range (j + 1)).countP (fun y : Nat => hasM M2 (y : Int)) = (List.range j).countP (fun y : Nat => hasM M2 (y : Int)) + if hasM M2 (j : Int) = true then 1 else 0 := by
                    rw [List.range_succ, List.countP_append, List.countP_singleton]
                  have hcl : (List.range j).countP (fun y : Nat => hasM M2 (y : Int)) ≤ j := by
                    have := List.countP_le_length (p := fun y : Nat => hasM M2 (y : Int)) (l := List.range j)
                    simpa using this
                  obtain ⟨n, hn⟩ : ∃ n, n = (List.range j).countP (fun y : Nat => hasM M2 (y : Int)) := ⟨_, rfl⟩
                  rw [← hn] at hcs hcl ⊢
                  have HD := Lib.hid (show j + 1 ≤ 20 by omega)
                  have d1 : (j : Int) < 20 := by omega
                  have wj := wf_small (j : Int) (by omega) (by omega)
                  have hL40 : hasM M2 (j : Int) = true → (lookM M2 (j : Int)).length = 40 := fun h => by
                    obtain ⟨p, hp, e⟩ := (hasM_iff M2 _).1 h
                    rw [← e, lookM_mem HJ.out.1.b.srt hp]
                    exact (HJ.out.1.b.rng p hp).2.2
                  have hL0 := lookM_none M2 (j : Int)
                  have HGET := Lib.hid (get_calls (gw + 1) w1.heap.size 20 16 M2 (j : Int) wr HJ.out.1.b wj)
                  have HWW := Lib.hid (fun w' (h : RowKit.Below wr.heap.size wr w') => pw_cell_below h y0)
                  have HYC := Lib.hid (fun w' (h : RowKit.Below w.heap.size w w') => Kd.C_below yC h)
                  have HYL := Lib.hid yl
                  have HJ5 := Lib.hid HJ.out
                  obtain ⟨L, hL⟩ : ∃ L, L = lookM M2 (j : Int) := ⟨_, rfl⟩
                  rw [← hL] at hL40 hL0 HGET HWW HYC HYL
                  obtain ⟨b, hb⟩ : ∃ b, b = hasM M2 (j : Int) := ⟨_, rfl⟩
                  rw [← hb] at hL40 hL0 HGET hcs
                  have HCS := Lib.hid hcs
                  clear hn hcs wj HJ y0 yl yC hL hb
                  cases b with
                  | true =>
                    have hll := hL40 rfl
                    have HBY := Lib.hid (bytes_refl L (by omega))
                    have e0 : decide ((0 : Int) < (L.length : Int)) = true := by simp; omega
                    have e0' : (0 : Int) < (L.length : Int) := by omega
                    have e0'' : 0 < L.length := by omega
                    have HCS2 := Lib.hid (show (List.range (j + 1)).countP (fun y : Nat => hasM M2 (y : Int)) = n + 1 by rw [HCS.out]; rfl)
                    clear hL40 hL0 hll
                    go_wp2_with (first
                      | (go_at_call 24; go_must (refine HGET.out.mono ?_; rintro _ w7 ⟨v7, rfl, hB7, hR7⟩; obtain ⟨A7, c7, hv7, hc7, hC7⟩ := Kd.R_reads hR7; subst hv7; have H7 := Lib.hid (HJ5.out.1.step hB7); have HW7 := Lib.hid (HJ5.out.2.below hB7); have y7 := HWW.out _ hB7; have HC7 := Lib.hid hC7; have HN7 := Lib.hid hc7; have HB7 := Lib.hid (below_step HJ5.out.1.below hB7); clear hB7 hR7 hC7 hc7))
                      | (go_at_call 25; go_must (refine (scarpalike_Bytes.calls (L.length + 1) A7 c7 L A8 c8 L true _ HC7.out HN7.out (HYC.out _ HB7.out) HYL.out HBY.out).mono ?_; rintro _ _ ⟨rfl, ⟨⟨n8, rfl⟩⟩⟩)))
                    go_roundw
                    case rel => exact ⟨j + 1, HD.out, by go_num, by rw [HCS2.out]; go_num, ⟨H7.out.step (pw_below_drewN (Below.refl _ _) _), HW7.out.below (pw_below_drewN (Below.refl _ _) _)⟩⟩
                    case measure => simp [intOf]; omega
                  | false =>
                    obtain rfl := hL0 rfl
                    have HCS2 := Lib.hid (show (List.range (j + 1)).countP (fun y : Nat => hasM M2 (y : Int)) = n by rw [HCS.out]; rfl)
                    clear hL40 hL0
                    go_wp2_with (go_at_call 24; go_must (refine HGET.out.mono ?_; rintro _ w7 ⟨v7, rfl, hB7, hR7⟩; obtain ⟨A7, c7, hv7, hc7, hC7⟩ := Kd.R_reads hR7; subst hv7; have H7 := Lib.hid (HJ5.out.1.step hB7); have HW7 := Lib.hid (HJ5.out.2.below hB7); have y7 := HWW.out _ hB7; clear hB7 hR7 hC7 hc7))
                    go_roundw
                    case rel => exact ⟨j + 1, HD.out, by go_num, by rw [HCS2.out], ⟨H7.out, HW7.out⟩⟩
                    case measure => simp [intOf]; omega
                · obtain rfl : j = 20 := by omega
                  have hck := count_keys M2 HJ.out.1.b.srt 20 (fun p hp => by have := HJ.out.1.b.rng p hp; omega)
                  rw [hck]
                  have d0 : ¬ ((20 : Nat) : Int) < 20 := by decide
                  have HJ5 := Lib.hid HJ.out
                  have hm16 := H16.out
                  have wne : ((M2.length : Int) != (M2.length : Int)) = false := by simp
                  clear hck HJ
                  go_wp2_with (go_at_call 18; go_must (refine (len_calls _ _ 20 16 M2 _ HJ5.out.1.b).mono ?_; rintro _ w9 ⟨rfl, hB9⟩; have H9 := Lib.hid (HJ5.out.1.step hB9); have HW9 := Lib.hid (HJ5.out.2.below hB9); clear hB9))
                  go_roundw
                  case rel => exact ⟨k + 1, M2, HKD.out, by go_num, H16.out, ⟨H9.out, HW9.out⟩⟩
                  case measure => simp [intOf]; omega
        · have dz : (cd == 0) = false := by simpa using hz
          have HWM := Lib.hid (show wrM 20 16 M q = M by unfold wrM; rw [HCD.out, if_neg hz])
          have H16 := Lib.hid hM16
          clear hz hcd
          go_wp2_with (go_at_call 17; go_must (refine (write_calls (gw + 1) w1.heap.size 20 16 M A1 c1 q _ HH.out.1.b (HC1.out _ HH.out.1.below) (by omega) HH.out.1.size).mono ?_; rintro _ w5 ⟨rfl, hI5, hg5⟩; rw [HWM.out] at hI5; rw [HCD.out]; have HV := Lib.hid (show JB w (gw + 1) w1.heap.size 20 16 M w5 ∧ Wants w w5 gw M from ⟨HH.out.1.wr hI5 hg5, HH.out.2.wr hg5 HH.out.1.b.isMap⟩); clear hI5 hg5))
          clear x1 dz
          go_loopw [8, 9, 10, 11] (fun n i _ _ wr => ∃ j : Nat, j ≤ 20 ∧ i = .int .i64 j ∧ n = .int .i64 ((List.range j).countP (fun y : Nat => hasM M (y : Int)) : Nat) ∧ Aside0 (JB w (gw + 1) w1.heap.size 20 16 M wr ∧ Wants w wr gw M)) (fun _ i _ _ _ => 20 - (intOf i).toNat)
          case atStart => exact ⟨0, by omega, rfl, rfl, ⟨HV.out⟩⟩
          case round =>
            clear HV
            obtain ⟨j, hj, rfl, rfl, HJ⟩ := hrel
            by_cases hlt : j < 20
            · obtain ⟨_, A8, c8, y0, yl, yC⟩ := HJ.out.2 j hlt
              have hcs : (List.range (j + 1)).countP (fun y : Nat => hasM M (y : Int)) = (List.range j).countP (fun y : Nat => hasM M (y : Int)) + if hasM M (j : Int) = true then 1 else 0 := by
                rw [List.range_succ, List.countP_append, List.countP_singleton]
              have hcl : (List.range j).countP (fun y : Nat => hasM M (y : Int)) ≤ j := by
                have := List.countP_le_length (p := fun y : Nat => hasM M (y : Int)) (l := List.range j)
                simpa using this
              obtain ⟨n, hn⟩ : ∃ n, n = (List.range j).countP (fun y : Nat => hasM M (y : Int)) := ⟨_, rfl⟩
              rw [← hn] at hcs hcl ⊢
              have HD := Lib.hid (show j + 1 ≤ 20 by omega)
              have d1 : (j : Int) < 20 := by omega
              have wj := wf_small (j : Int) (by omega) (by omega)
              have hL40 : hasM M (j : Int) = true → (lookM M (j : Int)).length = 40 := fun h => by
                obtain ⟨p, hp, e⟩ := (hasM_iff M _).1 h
                rw [← e, lookM_mem HJ.out.1.b.srt hp]
                exact (HJ.out.1.b.rng p hp).2.2
              have hL0 := lookM_none M (j : Int)
              have HGET := Lib.hid (get_calls (gw + 1) w1.heap.size 20 16 M (j : Int) wr HJ.out.1.b wj)
              have HWW := Lib.hid (fun w' (h : RowKit.Below wr.heap.size wr w') => pw_cell_below h y0)
              have HYC := Lib.hid (fun w' (h : RowKit.Below w.heap.size w w') => Kd.C_below yC h)
              have HYL := Lib.hid yl
              have HJ5 := Lib.hid HJ.out
              obtain ⟨L, hL⟩ : ∃ L, L = lookM M (j : Int) := ⟨_, rfl⟩
              rw [← hL] at hL40 hL0 HGET HWW HYC HYL
              obtain ⟨b, hb⟩ : ∃ b, b = hasM M (j : Int) := ⟨_, rfl⟩
              rw [← hb] at hL40 hL0 HGET hcs
              have HCS := Lib.hid hcs
              clear hn hcs wj HJ y0 yl yC hL hb
              cases b with
              | true =>
                have hll := hL40 rfl
                have HBY := Lib.hid (bytes_refl L (by omega))
                have e0 : decide ((0 : Int) < (L.length : Int)) = true := by simp; omega
                have e0' : (0 : Int) < (L.length : Int) := by omega
                have e0'' : 0 < L.length := by omega
                have HCS2 := Lib.hid (show (List.range (j + 1)).countP (fun y : Nat => hasM M (y : Int)) = n + 1 by rw [HCS.out]; rfl)
                clear hL40 hL0 hll
                go_wp2_with (first
                  | (go_at_call 24; go_must (refine HGET.out.mono ?_; rintro _ w7 ⟨v7, rfl, hB7, hR7⟩; obtain ⟨A7, c7, hv7, hc7, hC7⟩ := Kd.R_reads hR7; subst hv7; have H7 := Lib.hid (HJ5.out.1.step hB7); have HW7 := Lib.hid (HJ5.out.2.below hB7); have y7 := HWW.out _ hB7; have HC7 := Lib.hid hC7; have HN7 := Lib.hid hc7; have HB7 := Lib.hid (below_step HJ5.out.1.below hB7); clear hB7 hR7 hC7 hc7))
                  | (go_at_call 25; go_must (refine (scarpalike_Bytes.calls (L.length + 1) A7 c7 L A8 c8 L true _ HC7.out HN7.out (HYC.out _ HB7.out) HYL.out HBY.out).mono ?_; rintro _ _ ⟨rfl, ⟨⟨n8, rfl⟩⟩⟩)))
                go_roundw
                case rel => exact ⟨j + 1, HD.out, by go_num, by rw [HCS2.out]; go_num, ⟨H7.out.step (pw_below_drewN (Below.refl _ _) _), HW7.out.below (pw_below_drewN (Below.refl _ _) _)⟩⟩
                case measure => simp [intOf]; omega
              | false =>
                obtain rfl := hL0 rfl
                have HCS2 := Lib.hid (show (List.range (j + 1)).countP (fun y : Nat => hasM M (y : Int)) = n by rw [HCS.out]; rfl)
                clear hL40 hL0
                go_wp2_with (go_at_call 24; go_must (refine HGET.out.mono ?_; rintro _ w7 ⟨v7, rfl, hB7, hR7⟩; obtain ⟨A7, c7, hv7, hc7, hC7⟩ := Kd.R_reads hR7; subst hv7; have H7 := Lib.hid (HJ5.out.1.step hB7); have HW7 := Lib.hid (HJ5.out.2.below hB7); have y7 := HWW.out _ hB7; clear hB7 hR7 hC7 hc7))
                go_roundw
                case rel => exact ⟨j + 1, HD.out, by go_num, by rw [HCS2.out], ⟨H7.out, HW7.out⟩⟩
                case measure => simp [intOf]; omega
            · obtain rfl : j = 20 := by omega
              have hck := count_keys M HJ.out.1.b.srt 20 (fun p hp => by have := HJ.out.1.b.rng p hp; omega)
              rw [hck]
              have d0 : ¬ ((20 : Nat) : Int) < 20 := by decide
              have HJ5 := Lib.hid HJ.out
              have hm16 := H16.out
              have wne : ((M.length : Int) != (M.length : Int)) = false := by simp
              clear hck HJ
              go_wp2_with (go_at_call 18; go_must (refine (len_calls _ _ 20 16 M _ HJ5.out.1.b).mono ?_; rintro _ w9 ⟨rfl, hB9⟩; have H9 := Lib.hid (HJ5.out.1.step hB9); have HW9 := Lib.hid (HJ5.out.2.below hB9); clear hB9))
              go_roundw
              case rel => exact ⟨k + 1, M, HKD.out, by go_num, H16.out, ⟨H9.out, HW9.out⟩⟩
              case measure => simp [intOf]; omega
      · have b2 : ¬ (k : Int) < (l.length : Int) := by omega
        go_wp2_with (go_at_call 13; go_must (refine (awakeB_calls _).mono ?_; rintro _ w9 ⟨rfl, hB9⟩))
        try rw [Exit.noGoto_ret]
        go_ret
        exact ⟨rfl, below_step HH.out.1.below hB9⟩
end Go.Proofs.Ytbebihphodafiaa.Iv
