/- The walk of WbufParts: a vector that is written at once is what its blocks are one by one, in whatever order. -/
import Derived.Test.YtbebihphodafiaaProg
import Derived.Below
import Derived.Deep.Draws
import Derived.Deep.AppendLies
import Derived.Maps.AppendAt
import Derived.OwnWalk
import Derived.Laws.BytesArg
import Derived.Laws.MakeOwn
import Derived.Laws.OwnMore
import Derived.Deep.OwnRows
import Derived.Tactics
import Derived.Lib.ConvBytes
import Derived.Laws.Slices
import Derived.WalkKit
import Derived.KernelRfl
import Derived.RowKit3
import Derived.Deep.LoopGhost
import Derived.Deep.QuietTactic
import Derived.BigQuiet
import Derived.WideLaws
import Derived.Deep.DeepCutAuto
import Derived.Deep.CutBlock
import Derived.Deep.RegionHeld3
import Derived.Laws.Rows
import Derived.Lib.AppendStr
import Derived.ArgAppend
import Derived.Laws.IdiomCopy
import Derived.OrdersHeld
import Derived.Laws.BitsLemmas
import Derived.RowKit
import Derived.Test.YtbebihphodafiaaWWords
import Derived.Test.YtbebihphodafiaaWLast
import Derived.Test.YtbebihphodafiaaWTab
import Derived.Test.YtbebihphodafiaaWFour
import Derived.Test.YtbebihphodafiaaWQPut
import Derived.Test.YtbebihphodafiaaWApart
import Derived.Test.YtbebihphodafiaaWArr
import Derived.Test.YtbebihphodafiaaWZeros
import Derived.Test.YtbebihphodafiaaWFoot
import Derived.Test.YtbebihphodafiaaWKept
import Derived.Test.YtbebihphodafiaaWShare
import Derived.Test.YtbebihphodafiaaWN
import Derived.Test.YtbebihphodafiaaWFootNe
import Derived.Test.YtbebihphodafiaaWAt
import Derived.Test.YtbebihphodafiaaWEqStruct
import Derived.Test.YtbebihphodafiaaWRepsOne
import Derived.Test.YtbebihphodafiaaWInv
import Derived.Test.YtbebihphodafiaaWInvWords
import Derived.Test.YtbebihphodafiaaWGuard
import Derived.Test.YtbebihphodafiaaWNEv
import Derived.Test.YtbebihphodafiaaWMore
import Derived.Outline
import Derived.Lib.Hide
import Derived.Deep.DeepMust
import Derived.IntWalk
import Derived.Lib.SliceRun
import Derived.Test.YtbebihphodafiaaWbG
import Derived.Test.YtbebihphodafiaaWbJ
namespace Go.Proofs.Ytbebihphodafiaa.Iv
open Go.RowKit Go.Proofs.YtbebihphodafiaaW.PrintWords Go.Proofs.YtbebihphodafiaaW.PrintLast Go.Proofs.YtbebihphodafiaaW.PrintMore Go.Proofs.Ytbebihphodafiaa.PWb Go.Maps
set_option linter.unusedVariables false
set_option linter.unusedSimpArgs false

theorem round_some (a n : Int) (h0 : 0 < n) (h1 : n < 4611686018427387904) : ∃ r, scarpalike_Round.f a n = some r ∧ 0 ≤ r ∧ r < n := by
  unfold scarpalike_Round.f
  rw [if_neg (by omega)]
  have h2 : -n < Int.tmod a n ∧ Int.tmod a n < n := by
    rcases Int.lt_or_le a 0 with h | h
    · have e : Int.tmod a n = -Int.tmod (-a) n := by rw [Int.neg_tmod]; omega
      have := Int.tmod_lt_of_pos (-a) h0
      have := Int.tmod_nonneg n (show 0 ≤ -a by omega)
      omega
    · have := Int.tmod_lt_of_pos a h0
      have := Int.tmod_nonneg n h
      omega
  generalize Int.tmod a n = t at *
  by_cases h : t < 0
  · rw [if_pos h]; exact ⟨_, rfl, by unfold wrap64; omega, by unfold wrap64; omega⟩
  · rw [if_neg h]; exact ⟨_, rfl, by omega, h2.2⟩
theorem same_at (A0 A1 : Option Addr) (c0 c1 : Nat) (l : List S31) (n : Nat) (w : World) (hn : l.length = n) (h0 : Kd.C k31 w A0 n l) (h1 : Kd.C k31 w A1 n l) (hl : n ≤ 9223372036854775807) :
    Calls Try.prog 22 #[.slice A0 n c0, .slice A1 n c1] w fun e w' => e = .returned (.bool true) ∧ RowKit.Below w.heap.size w w' := by
  subst hn
  exact sameputs_calls A0 A1 c0 c1 l w h0 h1 hl
theorem info31' : ∃ i, Try.prog.info? 31 = some i ∧ i.size = 2 := by
  obtain ⟨i, h1, h2⟩ := Option.map_eq_some_iff.1 info31
  simp only [Prod.mk.injEq] at h2
  exact ⟨i, h1, h2.2.1⟩
/-- Three buffers side by side. -/
structure JT (w : World) (g : Nat) (Ma Mb Mc : List S31) (W : World) : Prop where
  below : RowKit.Below w.heap.size w W
  ge : w.heap.size ≤ g
  a : IsBuf W (g + 6) g 50 16 Ma
  b : IsBuf W (g + 6) (g + 2) 50 16 Mb
  c : IsBuf W (g + 6) (g + 4) 50 16 Mc
  size : g + 6 ≤ W.heap.size
section
variable {w W W' : World} {g : Nat} {Ma Mb Mc M' : List S31}
theorem JT.step (h : JT w g Ma Mb Mc W) (hb : RowKit.Below W.heap.size W W') : JT w g Ma Mb Mc W' :=
  ⟨below_step h.below hb, h.ge, h.a.below hb, h.b.below hb, h.c.below hb, Nat.le_trans h.size hb.size⟩
theorem JT.wrA (h : JT w g Ma Mb Mc W) (hI : IsBuf W' (g + 6) g 50 16 M') (hg : W.grownBy W' (some g)) : JT w g M' Mb Mc W' := by
  have h1 := h.ge; have h3 := h.size
  exact ⟨h.below.grown hg (by omega) (fun k hk => by cases hk; exact h1), h1, hI, h.b.grown hg (fun k hk => by cases hk; omega), h.c.grown hg (fun k hk => by cases hk; omega), Nat.le_trans h3 hg.size⟩
theorem JT.wrB (h : JT w g Ma Mb Mc W) (hI : IsBuf W' (g + 6) (g + 2) 50 16 M') (hg : W.grownBy W' (some (g + 2))) : JT w g Ma M' Mc W' := by
  have h1 := h.ge; have h3 := h.size
  exact ⟨h.below.grown hg (by omega) (fun k hk => by cases hk; omega), h1, h.a.grown hg (fun k hk => by cases hk; omega), hI, h.c.grown hg (fun k hk => by cases hk; omega), Nat.le_trans h3 hg.size⟩
theorem JT.wrC (h : JT w g Ma Mb Mc W) (hI : IsBuf W' (g + 6) (g + 4) 50 16 M') (hg : W.grownBy W' (some (g + 4))) : JT w g Ma Mb M' W' := by
  have h1 := h.ge; have h3 := h.size
  exact ⟨h.below.grown hg (by omega) (fun k hk => by cases hk; omega), h1, h.a.grown hg (fun k hk => by cases hk; omega), h.b.grown hg (fun k hk => by cases hk; omega), hI, Nat.le_trans h3 hg.size⟩
end
set_option maxHeartbeats 16000000 in
set_option maxRecDepth 100000 in
theorem parts_calls (A0 : Option Addr) (c0 : Nat) (l : List S31) (k0 : Int) (w : World) (hr : Kd.C k31 w A0 l.length l) (hc : l.length ≤ c0) (hl0 : l.length ≤ 9223372036854775807) :
    Calls Try.prog 4 #[.slice A0 l.length c0, .int .i64 k0] w fun e w' => e = .returned (.bool true) ∧ RowKit.Below w.heap.size w w' := by
  have HR := Lib.hid (fun w' (h : RowKit.Below w.heap.size w w') => Kd.C_below hr h)
  have HC := Lib.hid hc
  obtain ⟨r, hpr, hmin, _⟩ := puts_ex l 5000 (l.length + 3) (by omega) (Nat.le_refl _)
  have HPR := Lib.hid hpr
  clear hr hc hpr
  have t1 : True := trivial
  have t2 : True := trivial
  have t3 : True := trivial
  by_cases hbig : 5000 < r
  · go_enter Try.func4, Try.ntmps4
    go_wp2_with (first
      | (go_at_call 19; go_must (refine (scarpalike_Puts.calls (l.length + 3) A0 c0 l 5000 r _ (HR.out _ (Below.refl _ _)) HC.out HPR.out).mono ?_; rintro _ w1 ⟨rfl, hB1⟩))
      | (go_at_call 13; go_must (refine (awakeB_calls _).mono ?_; rintro _ w2 ⟨rfl, hB2⟩)))
    go_ret
    exact ⟨rfl, below_step hB1 hB2⟩
  by_cases he : l = []
  · subst he
    go_enter Try.func4, Try.ntmps4
    go_wp2_with (first
      | (go_at_call 19; go_must (refine (scarpalike_Puts.calls (([] : List S31).length + 3) A0 c0 ([] : List S31) 5000 r _ (HR.out _ (Below.refl _ _)) HC.out HPR.out).mono ?_; rintro _ w1 ⟨rfl, hB1⟩))
      | (go_at_call 13; go_must (refine (awakeB_calls _).mono ?_; rintro _ w2 ⟨rfl, hB2⟩)))
    go_ret
    exact ⟨rfl, below_step hB1 hB2⟩
  have hne : ¬ ((l.length : Int) = 0) := by
    intro h; exact he (List.length_eq_zero_iff.1 (by omega))
  have hne' : ¬ (l.length = 0) := by omega
  have hpos : 0 < l.length := by omega
  have d0 : ((l.length : Int) == 0) = false := by simp; omega
  have d5 : decide (5000 < r) = false := by simpa using hbig
  have hr5 : r ≤ 5000 := by omega
  have hl : l.length ≤ 140737488355328 := by omega
  clear hmin
  clear hbig
  obtain ⟨cd, hcd⟩ : ∃ cd, cd = wrC 50 16 [] l := ⟨_, rfl⟩
  have HCD := Lib.hid hcd.symm
  by_cases hz : cd = 0
  · subst hz
    have hc0 := HCD.out
    obtain ⟨z1, z2, z3, z4, z5⟩ := wrC_zero hc0
    have hnd := dup_nodup z4
    have hfr : freshN [] l = l.length := by
      unfold freshN; rw [List.countP_eq_length]; intro _ _; rfl
    have hl16 : l.length ≤ 16 := by rw [hfr] at z5; simp at z5; omega
    have HC0 := Lib.hid hc0
    have HMA := Lib.hid (show wrM 50 16 [] l = insL [] l by unfold wrM; rw [hc0, if_pos rfl])
    have HML0 : (insL [] l).length = l.length := by rw [insL_len l [] List.Pairwise.nil hnd, hfr]; simp
    have HRV0 : insL [] l.reverse = insL [] l := insL_perm [] l.reverse l List.Pairwise.nil ((((List.reverse_perm l).map (·.f0)).nodup_iff).2 hnd) (List.reverse_perm l)
    obtain ⟨k1, hk1, hk2, hk3⟩ := round_some k0 ((l.length : Int) + 1) (by omega) (by omega)
    obtain ⟨k, rfl⟩ : ∃ k : Nat, k1 = k := ⟨k1.toNat, by omega⟩
    have HK := Lib.hid hk1
    have hkl : k ≤ l.length := by omega
    have wl : wrap64 ((l.length : Int) + 1) = (l.length : Int) + 1 := by unfold wrap64; omega
    obtain ⟨i31, hi31, hs31⟩ := info31'
    have hcut := cut_from (P := Try.prog) 27 31 .i64 Try.underlying27 hi31 2 hs31 A0 l.length c0 (k : Int) (by omega) (by omega)
    have hcut2 := cut_to (P := Try.prog) 27 31 .i64 Try.underlying27 hi31 A0 l.length c0 (k : Int) (by omega) (by omega) HC.out
    obtain ⟨y, hy⟩ : ∃ y, y = l.drop k := ⟨_, rfl⟩
    obtain ⟨x, hx⟩ : ∃ x, x = l.take k := ⟨_, rfl⟩
    have hyl : y.length = l.length - k := by rw [hy, List.length_drop]
    have hxl : x.length = k := by rw [hx, List.length_take]; omega
    rw [Int.toNat_natCast, ← hyl] at hcut
    have hcut2' : ∀ W : World, (Instr.slice 27 (.slice A0 l.length c0) none (some (.int .i64 (k : Int))) none).run Try.prog W = .ok (.slice A0 x.length c0) W := fun W => by rw [hcut2 W, Int.toNat_natCast, hxl]
    clear hcut2
    obtain ⟨A', hA'⟩ : ∃ A1, A1 = (if c0 = k then A0 else A0.map (·.add (k * 2))) := ⟨_, rfl⟩
    obtain ⟨c', hc'⟩ : ∃ c1, c1 = c0 - k := ⟨_, rfl⟩
    rw [← hA', ← hc'] at hcut
    have HY := Lib.hid (fun W (h : RowKit.Below w.heap.size w W) => (show Kd.C k31 W A' y.length y by
      have := Kd.C_drop (m := k) (c := c0) (HR.out W h) hkl HC.out
      rw [← hy] at this
      rw [hA']; exact this))
    have HX := Lib.hid (fun W (h : RowKit.Below w.heap.size w W) => (show Kd.C k31 W A0 x.length x by
      have := Kd.C_take (m := k) (HR.out W h) hkl
      rw [← hx] at this
      exact this))
    have hxy : x ++ y = l := by rw [hx, hy, List.take_append_drop]
    have HXY := Lib.hid hxy
    have HLX := Lib.hid (show x.length ≤ 16 ∧ y.length ≤ 16 by omega)
    obtain ⟨M, hM⟩ : ∃ M, M = insL [] l := ⟨_, rfl⟩
    rw [← hM] at HMA HML0 HRV0
    have HM := Lib.hid hM
    have HML := Lib.hid HML0
    have HRV := Lib.hid HRV0
    have HPX := Lib.hid (show x ≠ [] → wrC 50 16 [] x = 0 ∧ wrM 50 16 [] x = insL [] x from fun h => part_ok (a := []) (b := x) (r := y) hc0 (by rw [List.nil_append, hxy]) h)
    have HPY := Lib.hid (show y ≠ [] → wrC 50 16 (insL [] x) y = 0 ∧ wrM 50 16 (insL [] x) y = M from fun h => by
      have := part_ok (a := x) (b := y) (r := []) hc0 (by rw [List.append_nil, hxy]) h
      rw [hxy, ← hM] at this
      exact this)
    have HXN := Lib.hid (show 0 < k → x ≠ [] from fun h e => by rw [e] at hxl; simp at hxl; omega)
    have HYN := Lib.hid (show k < l.length → y ≠ [] from fun h e => by rw [e] at hyl; simp at hyl; omega)
    have HX0 := Lib.hid (show ¬ 0 < k → insL [] x = [] from fun h => by
      have : x = [] := List.eq_nil_of_length_eq_zero (by omega)
      rw [this]; rfl)
    have HXF := Lib.hid (show ¬ k < l.length → insL [] x = M from fun h => by
      have : y = [] := List.eq_nil_of_length_eq_zero (by omega)
      rw [hM, ← hxy, this, List.append_nil])
    have t4 : True := trivial
    clear hk1 hk2 hk3 hc0 z1 z2 z3 z4 z5 hnd hfr HML0 HRV0 hx hy hxl hyl hA' hc' hxy hM hi31 hs31 hcd
    by_cases hk0 : 0 < k
    · have dk : (0 : Int) < (k : Int) := by omega
      have HPX' := Lib.hid (HPX.out (HXN.out hk0))
      by_cases hkn : k < l.length
      · have HPY' := Lib.hid (HPY.out (HYN.out hkn))
        have dn : (k : Int) < (l.length : Int) := by omega
        go_enter Try.func4, Try.ntmps4
        go_wp2_with (first
          | (go_at_call 19; go_must (refine (scarpalike_Puts.calls (l.length + 3) A0 c0 l 5000 r _ (HR.out _ (Below.refl _ _)) HC.out HPR.out).mono ?_; rintro _ w1 ⟨rfl, hB1⟩; have HB1 := Lib.hid hB1; clear hB1))
          | (go_at_call 14; have _t := t1; clear t1; go_must (refine (newB_calls 50 16 (w1.heap.size + 6) w1.heap.size _ ⟨by decide, by decide, by decide⟩ rfl (by omega)).mono ?_; rintro _ w2 ⟨rfl, hB2, hI2, hS2⟩; have HI2 := Lib.hid hI2; have HB2 := Lib.hid hB2; have HS2 := Lib.hid hS2; clear hB2 hI2 hS2))
          | (go_at_call 14; have _t := t2; clear t2; go_must (refine (newB_calls 50 16 (w1.heap.size + 6) (w1.heap.size + 2) _ ⟨by decide, by decide, by decide⟩ HS2.out (by omega)).mono ?_; rintro _ w3 ⟨rfl, hB3, hI3, hS3⟩; have HI3 := Lib.hid hI3; have HI2' := Lib.hid (HI2.out.below hB3); have HB3 := Lib.hid (below_step HB2.out hB3); have HS3 := Lib.hid hS3; clear hB3 hI3 hS3))
          | (go_at_call 14; go_must (refine (newB_calls 50 16 (w1.heap.size + 6) (w1.heap.size + 4) _ ⟨by decide, by decide, by decide⟩ HS3.out (by omega)).mono ?_; rintro _ w4 ⟨rfl, hB4, hI4, hS4⟩; have H4 := Lib.hid (show JT w w1.heap.size [] [] [] w4 from ⟨below_step HB1.out (below_step HB3.out hB4), HB1.out.size, HI2'.out.below hB4, HI3.out.below hB4, hI4, by omega⟩); clear hB4 hI4 hS4))
          | (go_at_call 17; have _t := t3; clear t3; go_must (refine (write_calls (w1.heap.size + 6) w1.heap.size 50 16 [] A0 c0 l _ H4.out.a (HR.out _ H4.out.below) hl H4.out.size).mono ?_; rintro _ w5 ⟨rfl, hI5, hg5⟩; rw [HCD.out]; rw [HMA.out] at hI5; have H5 := Lib.hid (H4.out.wrA hI5 hg5); clear hI5 hg5))
          | (go_at_call 20; go_must (refine (scarpalike_Round.calls k0 ((l.length : Int) + 1) k _ HK.out).mono ?_; rintro _ _ ⟨rfl, ⟨⟨nq, rfl⟩⟩⟩; have H5' := Lib.hid (H5.out.step (pw_below_drewN (Below.refl _ _) nq)); clear H5; have H5 := H5'; clear H5'))
          | (go_at_call 17; have _t := t4; clear t4; go_must (refine (write_calls (w1.heap.size + 6) (w1.heap.size + 2) 50 16 [] A0 c0 x _ H5.out.b (HX.out _ H5.out.below) (by have := HLX.out; omega) H5.out.size).mono ?_; rintro _ w6 ⟨rfl, hI6, hg6⟩; rw [HPX'.out.2] at hI6; rw [HPX'.out.1]; have H6 := Lib.hid (H5.out.wrB hI6 hg6); clear hI6 hg6))
          | (go_at_call 17; go_must (refine (write_calls (w1.heap.size + 6) (w1.heap.size + 2) 50 16 (insL [] x) A' c' y _ H6.out.b (HY.out _ H6.out.below) (by have := HLX.out; omega) H6.out.size).mono ?_; rintro _ w7 ⟨rfl, hI7, hg7⟩; rw [HPY'.out.2] at hI7; rw [HPY'.out.1]; have H7 := Lib.hid (H6.out.wrB hI7 hg7); clear hI7 hg7)))
        have HH := Lib.hid H7.out
        clear hcut hcut2' wl dk dn H4 H5 H6 H7
        go_loopw [11] (fun i wr => ∃ m : Nat, m ≤ l.length ∧ i = .int .i64 ((m : Int) - 1) ∧ Aside0 (JT w w1.heap.size M M (insL [] (l.drop m).reverse) wr)) (fun i _ => (intOf i + 1).toNat)
        case atStart => exact ⟨l.length, Nat.le_refl _, rfl, ⟨by rw [List.drop_length]; exact HH.out⟩⟩
        case round =>
          clear HH
          obtain ⟨m, hm, rfl, HJ⟩ := hrel
          by_cases h0 : m = 0
          · subst h0
            rw [List.drop_zero, HRV.out] at HJ
            have e1 : ((0 : Nat) : Int) - 1 = -1 := rfl
            rw [e1]
            have t5 : True := trivial
            have t6 : True := trivial
            have t7 : True := trivial
            have HJ' := Lib.hid HJ.out
            clear HJ e1
            obtain ⟨wo, hwo⟩ : ∃ wo : World, wo = wr := ⟨_, rfl⟩
            subst hwo
            go_wp2_with (go_at_call 21; go_must (refine (puts_calls _ _ 50 16 M _ HJ'.out.a).mono ?_; rintro _ w7 ⟨v7, rfl, hB7, hR7⟩; obtain ⟨A7, c7, hv7, hc7, hC7⟩ := Kd.R_reads hR7; subst hv7; have H7 := Lib.hid (HJ'.out.step hB7); have HC7 := Lib.hid (fun w' (h : RowKit.Below w7.heap.size w7 w') => Kd.C_below hC7 h); clear hB7 hR7 hC7 hc7))
            go_loopw [13] (fun i wr => ∃ m : Nat, 1 ≤ m ∧ m ≤ M.length + 1 ∧ i = .int .i64 m ∧ Aside0 (RowKit.Below w7.heap.size w7 wr)) (fun i _ => M.length - (intOf i).toNat)
            case atStart => exact ⟨1, Nat.le_refl _, by omega, rfl, ⟨Below.refl _ _⟩⟩
            case round =>
              obtain ⟨m, hm1, hm2, rfl, HW⟩ := hrel
              have hml1 : M.length ≤ l.length := by have := HML.out; omega
              have hml2 : l.length ≤ M.length := by have := HML.out; omega
              by_cases hlt : m < M.length
              · obtain ⟨p, hp⟩ : ∃ p, m = p + 1 := ⟨m - 1, by omega⟩
                obtain ⟨ad, A8, c8, rfl, x0, x1, _, _⟩ := at_T31 (HC7.out _ HW.out) (m : Int) (by omega) (by omega)
                obtain ⟨ad', A9, c9, he', y0, y1, _, _⟩ := at_T31 (HC7.out _ HW.out) (p : Int) (by omega) (by omega)
                injection he' with he'
                subst he'
                simp only [Int.toNat_natCast] at x0 x1 y0 y1
                obtain ⟨q, hq⟩ : ∃ q, q = rd_T31 M (m : Int) := ⟨_, rfl⟩
                obtain ⟨u, hu⟩ : ∃ u, u = rd_T31 M (p : Int) := ⟨_, rfl⟩
                rw [← hq] at x0 x1
                rw [← hu] at y0 y1
                have hqe : q = M[m] := by rw [hq]; simp only [rd_T31, Int.toNat_natCast, List.getD_eq_getElem?_getD, List.getElem?_eq_getElem hlt, Option.getD_some]
                have hre : u = M[p]'(by omega) := by rw [hu]; simp only [rd_T31, Int.toNat_natCast, List.getD_eq_getElem?_getD, List.getElem?_eq_getElem (show p < M.length by omega), Option.getD_some]
                have hgap : u.f0 < q.f0 := by
                  rw [hqe, hre]
                  exact (List.pairwise_iff_getElem.1 H7.out.a.srt) p m (by omega) hlt (by omega)
                have wr2 : IntKind.i64.wrap ((m : Int) - 1) = (p : Int) := by rw [IntWalk.i64_in _ (by omega)]; omega
                have d1 : decide (q.f0 ≤ u.f0) = false := by simp; omega
                have d1' : ¬ (q.f0 ≤ u.f0) := by omega
                have d2 : (m : Int) < (M.length : Int) := by omega
                have d4 : (p : Int) < (M.length : Int) := by omega
                have d5 : 0 ≤ (m : Int) := by omega
                have d6 : 0 ≤ (p : Int) := by omega
                have HD := Lib.hid (show 1 ≤ m + 1 ∧ m + 1 ≤ M.length + 1 by omega)
                clear hq hu hqe hre hgap hp hm1 hm2 x1 y1
                go_wp2
                go_quiet (fail)
                clear wr2
                go_wp2
                go_roundw
                case rel => exact ⟨m + 1, HD.out.1, HD.out.2, by go_num, ⟨pw_below_drewN HW.out _⟩⟩
                case measure => simp [intOf]; omega
              · have d2 : ¬ (m : Int) < (M.length : Int) := by omega
                have H8 := Lib.hid (H7.out.step HW.out)
                have HC8 := Lib.hid (HC7.out _ HW.out)
                have dML : ((M.length : Int) == (l.length : Int)) = true := by simp; omega
                have dML2 : (M.length == l.length) = true := by simp; omega
                clear HW
                go_wp2_with (first
                  | (go_at_call 21; have _t := t5; clear t5; go_must (refine (puts_calls _ _ 50 16 M _ H8.out.b).mono ?_; rintro _ w9 ⟨v9, rfl, hB9, hR9⟩; obtain ⟨A9, c9, hv9, _, hC9⟩ := Kd.R_reads hR9; subst hv9; have H9 := Lib.hid (H8.out.step hB9); have HC9 := Lib.hid hC9; have HC8' := Lib.hid (fun w' (h : RowKit.Below w9.heap.size w9 w') => Kd.C_below (Kd.C_below HC8.out hB9) h); clear hB9 hR9 hC9))
                  | (go_at_call 22; have _t := t6; clear t6; go_must (refine (sameputs_calls A7 A9 c7 c9 M _ (HC8'.out _ (Below.refl _ _)) HC9.out (by have := HML.out; omega)).mono ?_; rintro _ w10 ⟨rfl, hB10⟩; have H10 := Lib.hid (H9.out.step hB10); have HC10 := Lib.hid (HC8'.out _ hB10); clear hB10))
                  | (go_at_call 21; go_must (refine (puts_calls _ _ 50 16 M _ H10.out.c).mono ?_; rintro _ w11 ⟨v11, rfl, hB11, hR11⟩; obtain ⟨A11, c11, hv11, _, hC11⟩ := Kd.R_reads hR11; subst hv11; have H11 := Lib.hid (H10.out.step hB11); have HC11 := Lib.hid hC11; have HC10' := Lib.hid (Kd.C_below HC10.out hB11); clear hB11 hR11 hC11))
                  | (go_at_call 22; go_must (refine (sameputs_calls A7 A11 c7 c11 M _ HC10'.out HC11.out (by have := HML.out; omega)).mono ?_; rintro _ w12 ⟨rfl, hB12⟩; have H12 := Lib.hid (H11.out.step hB12); clear hB12))
                  | (go_at_call 13; go_must (refine (awakeB_calls _).mono ?_; rintro _ w13 ⟨rfl, hB13⟩; have H13 := Lib.hid (H12.out.step hB13); clear hB13)))
                try rw [Exit.noGoto_ret]
                go_ret
                exact ⟨rfl, H13.out.below⟩
          · obtain ⟨p, rfl⟩ : ∃ p, m = p + 1 := ⟨m - 1, by omega⟩
            have e1 : ((p + 1 : Nat) : Int) - 1 = (p : Int) := by omega
            rw [e1]
            have hlt : p < l.length := by omega
            obtain ⟨ad, A8, c8, rfl, x0, x1, x2, x3⟩ := at_T31 (HR.out _ HJ.out.below) (p : Int) (by omega) (by omega)
            simp only [Int.toNat_natCast] at x0 x1
            obtain ⟨q, hq⟩ : ∃ q, q = rd_T31 l (p : Int) := ⟨_, rfl⟩
            rw [← hq] at x0 x1 x2 x3
            have hqe : q = l[p] := by rw [hq]; simp [rd_T31, List.getD_eq_getElem?_getD, List.getElem?_eq_getElem hlt]
            have hdr : (l.drop p).reverse = (l.drop (p + 1)).reverse ++ [q] := by rw [List.drop_eq_getElem_cons hlt, List.reverse_cons, hqe]
            have hpk := part_ok (a := (l.drop (p + 1)).reverse) (b := [q]) (r := l.take p) HC0.out (by
              rw [← hdr]
              exact ((List.reverse_perm _).append_right _).trans (List.perm_append_comm.trans (by rw [List.take_append_drop]))) (by simp)
            rw [← hdr] at hpk
            have HPK := Lib.hid hpk
            have HX3 := Lib.hid x3
            have HX2 := Lib.hid x2
            have b1 : (0 : Int) ≤ (p : Int) := by omega
            have b2 : (p : Int) < (l.length : Int) := by omega
            have HJ' := Lib.hid HJ.out
            clear hq hqe hdr hpk x2 x3 e1 h0 HJ
            go_wp2_with (go_at_call 17; go_must (refine (write_calls (w1.heap.size + 6) (w1.heap.size + 4) 50 16 (insL [] (l.drop (p + 1)).reverse) _ 1 [⟨q.f0, q.f1⟩] _ (HJ'.out.step (below_alloc (Below.refl _ _) _)).c (C31_one _ _ q.f0 0 A8 c8 q.f1 rfl HX2.out HX3.out) (show 1 ≤ 140737488355328 by decide) (HJ'.out.step (below_alloc (Below.refl _ _) _)).size).mono ?_; rintro _ w5 ⟨rfl, hI5, hg5⟩; rw [HPK.out.2] at hI5; rw [HPK.out.1]; have H5 := Lib.hid ((HJ'.out.step (below_alloc (Below.refl _ _) _)).wrC hI5 hg5); clear hI5 hg5))
            go_roundw
            case rel => exact ⟨p, by omega, by go_num, ⟨H5.out⟩⟩
            case measure => simp [intOf]
      · have dn : ¬ (k : Int) < (l.length : Int) := by omega
        have HF := Lib.hid (HXF.out hkn)
        go_enter Try.func4, Try.ntmps4
        go_wp2_with (first
          | (go_at_call 19; go_must (refine (scarpalike_Puts.calls (l.length + 3) A0 c0 l 5000 r _ (HR.out _ (Below.refl _ _)) HC.out HPR.out).mono ?_; rintro _ w1 ⟨rfl, hB1⟩; have HB1 := Lib.hid hB1; clear hB1))
          | (go_at_call 14; have _t := t1; clear t1; go_must (refine (newB_calls 50 16 (w1.heap.size + 6) w1.heap.size _ ⟨by decide, by decide, by decide⟩ rfl (by omega)).mono ?_; rintro _ w2 ⟨rfl, hB2, hI2, hS2⟩; have HI2 := Lib.hid hI2; have HB2 := Lib.hid hB2; have HS2 := Lib.hid hS2; clear hB2 hI2 hS2))
          | (go_at_call 14; have _t := t2; clear t2; go_must (refine (newB_calls 50 16 (w1.heap.size + 6) (w1.heap.size + 2) _ ⟨by decide, by decide, by decide⟩ HS2.out (by omega)).mono ?_; rintro _ w3 ⟨rfl, hB3, hI3, hS3⟩; have HI3 := Lib.hid hI3; have HI2' := Lib.hid (HI2.out.below hB3); have HB3 := Lib.hid (below_step HB2.out hB3); have HS3 := Lib.hid hS3; clear hB3 hI3 hS3))
          | (go_at_call 14; go_must (refine (newB_calls 50 16 (w1.heap.size + 6) (w1.heap.size + 4) _ ⟨by decide, by decide, by decide⟩ HS3.out (by omega)).mono ?_; rintro _ w4 ⟨rfl, hB4, hI4, hS4⟩; have H4 := Lib.hid (show JT w w1.heap.size [] [] [] w4 from ⟨below_step HB1.out (below_step HB3.out hB4), HB1.out.size, HI2'.out.below hB4, HI3.out.below hB4, hI4, by omega⟩); clear hB4 hI4 hS4))
          | (go_at_call 17; have _t := t3; clear t3; go_must (refine (write_calls (w1.heap.size + 6) w1.heap.size 50 16 [] A0 c0 l _ H4.out.a (HR.out _ H4.out.below) hl H4.out.size).mono ?_; rintro _ w5 ⟨rfl, hI5, hg5⟩; rw [HCD.out]; rw [HMA.out] at hI5; have H5 := Lib.hid (H4.out.wrA hI5 hg5); clear hI5 hg5))
          | (go_at_call 20; go_must (refine (scarpalike_Round.calls k0 ((l.length : Int) + 1) k _ HK.out).mono ?_; rintro _ _ ⟨rfl, ⟨⟨nq, rfl⟩⟩⟩; have H5' := Lib.hid (H5.out.step (pw_below_drewN (Below.refl _ _) nq)); clear H5; have H5 := H5'; clear H5'))
          | (go_at_call 17; go_must (refine (write_calls (w1.heap.size + 6) (w1.heap.size + 2) 50 16 [] A0 c0 x _ H5.out.b (HX.out _ H5.out.below) (by have := HLX.out; omega) H5.out.size).mono ?_; rintro _ w6 ⟨rfl, hI6, hg6⟩; rw [HPX'.out.2] at hI6; rw [HPX'.out.1]; have H6 := Lib.hid (H5.out.wrB hI6 hg6); clear hI6 hg6)))
        have HH := Lib.hid H6.out
        rw [HF.out] at HH
        clear hcut hcut2' wl dk dn H4 H5 H6
        go_loopw [11] (fun i wr => ∃ m : Nat, m ≤ l.length ∧ i = .int .i64 ((m : Int) - 1) ∧ Aside0 (JT w w1.heap.size M M (insL [] (l.drop m).reverse) wr)) (fun i _ => (intOf i + 1).toNat)
        case atStart => exact ⟨l.length, Nat.le_refl _, rfl, ⟨by rw [List.drop_length]; exact HH.out⟩⟩
        case round =>
          clear HH
          obtain ⟨m, hm, rfl, HJ⟩ := hrel
          by_cases h0 : m = 0
          · subst h0
            rw [List.drop_zero, HRV.out] at HJ
            have e1 : ((0 : Nat) : Int) - 1 = -1 := rfl
            rw [e1]
            have t5 : True := trivial
            have t6 : True := trivial
            have t7 : True := trivial
            have HJ' := Lib.hid HJ.out
            clear HJ e1
            obtain ⟨wo, hwo⟩ : ∃ wo : World, wo = wr := ⟨_, rfl⟩
            subst hwo
            go_wp2_with (go_at_call 21; go_must (refine (puts_calls _ _ 50 16 M _ HJ'.out.a).mono ?_; rintro _ w7 ⟨v7, rfl, hB7, hR7⟩; obtain ⟨A7, c7, hv7, hc7, hC7⟩ := Kd.R_reads hR7; subst hv7; have H7 := Lib.hid (HJ'.out.step hB7); have HC7 := Lib.hid (fun w' (h : RowKit.Below w7.heap.size w7 w') => Kd.C_below hC7 h); clear hB7 hR7 hC7 hc7))
            go_loopw [13] (fun i wr => ∃ m : Nat, 1 ≤ m ∧ m ≤ M.length + 1 ∧ i = .int .i64 m ∧ Aside0 (RowKit.Below w7.heap.size w7 wr)) (fun i _ => M.length - (intOf i).toNat)
            case atStart => exact ⟨1, Nat.le_refl _, by omega, rfl, ⟨Below.refl _ _⟩⟩
            case round =>
              obtain ⟨m, hm1, hm2, rfl, HW⟩ := hrel
              have hml1 : M.length ≤ l.length := by have := HML.out; omega
              have hml2 : l.length ≤ M.length := by have := HML.out; omega
              by_cases hlt : m < M.length
              · obtain ⟨p, hp⟩ : ∃ p, m = p + 1 := ⟨m - 1, by omega⟩
                obtain ⟨ad, A8, c8, rfl, x0, x1, _, _⟩ := at_T31 (HC7.out _ HW.out) (m : Int) (by omega) (by omega)
                obtain ⟨ad', A9, c9, he', y0, y1, _, _⟩ := at_T31 (HC7.out _ HW.out) (p : Int) (by omega) (by omega)
                injection he' with he'
                subst he'
                simp only [Int.toNat_natCast] at x0 x1 y0 y1
                obtain ⟨q, hq⟩ : ∃ q, q = rd_T31 M (m : Int) := ⟨_, rfl⟩
                obtain ⟨u, hu⟩ : ∃ u, u = rd_T31 M (p : Int) := ⟨_, rfl⟩
                rw [← hq] at x0 x1
                rw [← hu] at y0 y1
                have hqe : q = M[m] := by rw [hq]; simp only [rd_T31, Int.toNat_natCast, List.getD_eq_getElem?_getD, List.getElem?_eq_getElem hlt, Option.getD_some]
                have hre : u = M[p]'(by omega) := by rw [hu]; simp only [rd_T31, Int.toNat_natCast, List.getD_eq_getElem?_getD, List.getElem?_eq_getElem (show p < M.length by omega), Option.getD_some]
                have hgap : u.f0 < q.f0 := by
                  rw [hqe, hre]
                  exact (List.pairwise_iff_getElem.1 H7.out.a.srt) p m (by omega) hlt (by omega)
                have wr2 : IntKind.i64.wrap ((m : Int) - 1) = (p : Int) := by rw [IntWalk.i64_in _ (by omega)]; omega
                have d1 : decide (q.f0 ≤ u.f0) = false := by simp; omega
                have d1' : ¬ (q.f0 ≤ u.f0) := by omega
                have d2 : (m : Int) < (M.length : Int) := by omega
                have d4 : (p : Int) < (M.length : Int) := by omega
                have d5 : 0 ≤ (m : Int) := by omega
                have d6 : 0 ≤ (p : Int) := by omega
                have HD := Lib.hid (show 1 ≤ m + 1 ∧ m + 1 ≤ M.length + 1 by omega)
                clear hq hu hqe hre hgap hp hm1 hm2 x1 y1
                go_wp2
                go_quiet (fail)
                clear wr2
                go_wp2
                go_roundw
                case rel => exact ⟨m + 1, HD.out.1, HD.out.2, by go_num, ⟨pw_below_drewN HW.out _⟩⟩
                case measure => simp [intOf]; omega
              · have d2 : ¬ (m : Int) < (M.length : Int) := by omega
                have H8 := Lib.hid (H7.out.step HW.out)
                have HC8 := Lib.hid (HC7.out _ HW.out)
                have dML : ((M.length : Int) == (l.length : Int)) = true := by simp; omega
                have dML2 : (M.length == l.length) = true := by simp; omega
                clear HW
                go_wp2_with (first
                  | (go_at_call 21; have _t := t5; clear t5; go_must (refine (puts_calls _ _ 50 16 M _ H8.out.b).mono ?_; rintro _ w9 ⟨v9, rfl, hB9, hR9⟩; obtain ⟨A9, c9, hv9, _, hC9⟩ := Kd.R_reads hR9; subst hv9; have H9 := Lib.hid (H8.out.step hB9); have HC9 := Lib.hid hC9; have HC8' := Lib.hid (fun w' (h : RowKit.Below w9.heap.size w9 w') => Kd.C_below (Kd.C_below HC8.out hB9) h); clear hB9 hR9 hC9))
                  | (go_at_call 22; have _t := t6; clear t6; go_must (refine (sameputs_calls A7 A9 c7 c9 M _ (HC8'.out _ (Below.refl _ _)) HC9.out (by have := HML.out; omega)).mono ?_; rintro _ w10 ⟨rfl, hB10⟩; have H10 := Lib.hid (H9.out.step hB10); have HC10 := Lib.hid (HC8'.out _ hB10); clear hB10))
                  | (go_at_call 21; go_must (refine (puts_calls _ _ 50 16 M _ H10.out.c).mono ?_; rintro _ w11 ⟨v11, rfl, hB11, hR11⟩; obtain ⟨A11, c11, hv11, _, hC11⟩ := Kd.R_reads hR11; subst hv11; have H11 := Lib.hid (H10.out.step hB11); have HC11 := Lib.hid hC11; have HC10' := Lib.hid (Kd.C_below HC10.out hB11); clear hB11 hR11 hC11))
                  | (go_at_call 22; go_must (refine (sameputs_calls A7 A11 c7 c11 M _ HC10'.out HC11.out (by have := HML.out; omega)).mono ?_; rintro _ w12 ⟨rfl, hB12⟩; have H12 := Lib.hid (H11.out.step hB12); clear hB12))
                  | (go_at_call 13; go_must (refine (awakeB_calls _).mono ?_; rintro _ w13 ⟨rfl, hB13⟩; have H13 := Lib.hid (H12.out.step hB13); clear hB13)))
                try rw [Exit.noGoto_ret]
                go_ret
                exact ⟨rfl, H13.out.below⟩
          · obtain ⟨p, rfl⟩ : ∃ p, m = p + 1 := ⟨m - 1, by omega⟩
            have e1 : ((p + 1 : Nat) : Int) - 1 = (p : Int) := by omega
            rw [e1]
            have hlt : p < l.length := by omega
            obtain ⟨ad, A8, c8, rfl, x0, x1, x2, x3⟩ := at_T31 (HR.out _ HJ.out.below) (p : Int) (by omega) (by omega)
            simp only [Int.toNat_natCast] at x0 x1
            obtain ⟨q, hq⟩ : ∃ q, q = rd_T31 l (p : Int) := ⟨_, rfl⟩
            rw [← hq] at x0 x1 x2 x3
            have hqe : q = l[p] := by rw [hq]; simp [rd_T31, List.getD_eq_getElem?_getD, List.getElem?_eq_getElem hlt]
            have hdr : (l.drop p).reverse = (l.drop (p + 1)).reverse ++ [q] := by rw [List.drop_eq_getElem_cons hlt, List.reverse_cons, hqe]
            have hpk := part_ok (a := (l.drop (p + 1)).reverse) (b := [q]) (r := l.take p) HC0.out (by
              rw [← hdr]
              exact ((List.reverse_perm _).append_right _).trans (List.perm_append_comm.trans (by rw [List.take_append_drop]))) (by simp)
            rw [← hdr] at hpk
            have HPK := Lib.hid hpk
            have HX3 := Lib.hid x3
            have HX2 := Lib.hid x2
            have b1 : (0 : Int) ≤ (p : Int) := by omega
            have b2 : (p : Int) < (l.length : Int) := by omega
            have HJ' := Lib.hid HJ.out
            clear hq hqe hdr hpk x2 x3 e1 h0 HJ
            go_wp2_with (go_at_call 17; go_must (refine (write_calls (w1.heap.size + 6) (w1.heap.size + 4) 50 16 (insL [] (l.drop (p + 1)).reverse) _ 1 [⟨q.f0, q.f1⟩] _ (HJ'.out.step (below_alloc (Below.refl _ _) _)).c (C31_one _ _ q.f0 0 A8 c8 q.f1 rfl HX2.out HX3.out) (show 1 ≤ 140737488355328 by decide) (HJ'.out.step (below_alloc (Below.refl _ _) _)).size).mono ?_; rintro _ w5 ⟨rfl, hI5, hg5⟩; rw [HPK.out.2] at hI5; rw [HPK.out.1]; have H5 := Lib.hid ((HJ'.out.step (below_alloc (Below.refl _ _) _)).wrC hI5 hg5); clear hI5 hg5))
            go_roundw
            case rel => exact ⟨p, by omega, by go_num, ⟨H5.out⟩⟩
            case measure => simp [intOf]
    · have dk : ¬ (0 : Int) < (k : Int) := by omega
      have hkn : k < l.length := by omega
      have dn : (k : Int) < (l.length : Int) := by omega
      have HPY' := Lib.hid (HPY.out (HYN.out hkn))
      have H00 := Lib.hid (HX0.out hk0)
      rw [H00.out] at HPY'
      go_enter Try.func4, Try.ntmps4
      go_wp2_with (first
        | (go_at_call 19; go_must (refine (scarpalike_Puts.calls (l.length + 3) A0 c0 l 5000 r _ (HR.out _ (Below.refl _ _)) HC.out HPR.out).mono ?_; rintro _ w1 ⟨rfl, hB1⟩; have HB1 := Lib.hid hB1; clear hB1))
        | (go_at_call 14; have _t := t1; clear t1; go_must (refine (newB_calls 50 16 (w1.heap.size + 6) w1.heap.size _ ⟨by decide, by decide, by decide⟩ rfl (by omega)).mono ?_; rintro _ w2 ⟨rfl, hB2, hI2, hS2⟩; have HI2 := Lib.hid hI2; have HB2 := Lib.hid hB2; have HS2 := Lib.hid hS2; clear hB2 hI2 hS2))
        | (go_at_call 14; have _t := t2; clear t2; go_must (refine (newB_calls 50 16 (w1.heap.size + 6) (w1.heap.size + 2) _ ⟨by decide, by decide, by decide⟩ HS2.out (by omega)).mono ?_; rintro _ w3 ⟨rfl, hB3, hI3, hS3⟩; have HI3 := Lib.hid hI3; have HI2' := Lib.hid (HI2.out.below hB3); have HB3 := Lib.hid (below_step HB2.out hB3); have HS3 := Lib.hid hS3; clear hB3 hI3 hS3))
        | (go_at_call 14; go_must (refine (newB_calls 50 16 (w1.heap.size + 6) (w1.heap.size + 4) _ ⟨by decide, by decide, by decide⟩ HS3.out (by omega)).mono ?_; rintro _ w4 ⟨rfl, hB4, hI4, hS4⟩; have H4 := Lib.hid (show JT w w1.heap.size [] [] [] w4 from ⟨below_step HB1.out (below_step HB3.out hB4), HB1.out.size, HI2'.out.below hB4, HI3.out.below hB4, hI4, by omega⟩); clear hB4 hI4 hS4))
        | (go_at_call 17; have _t := t3; clear t3; go_must (refine (write_calls (w1.heap.size + 6) w1.heap.size 50 16 [] A0 c0 l _ H4.out.a (HR.out _ H4.out.below) hl H4.out.size).mono ?_; rintro _ w5 ⟨rfl, hI5, hg5⟩; rw [HCD.out]; rw [HMA.out] at hI5; have H5 := Lib.hid (H4.out.wrA hI5 hg5); clear hI5 hg5))
        | (go_at_call 20; go_must (refine (scarpalike_Round.calls k0 ((l.length : Int) + 1) k _ HK.out).mono ?_; rintro _ _ ⟨rfl, ⟨⟨nq, rfl⟩⟩⟩; have H5' := Lib.hid (H5.out.step (pw_below_drewN (Below.refl _ _) nq)); clear H5; have H5 := H5'; clear H5'))
        | (go_at_call 17; go_must (refine (write_calls (w1.heap.size + 6) (w1.heap.size + 2) 50 16 [] A' c' y _ H5.out.b (HY.out _ H5.out.below) (by have := HLX.out; omega) H5.out.size).mono ?_; rintro _ w7 ⟨rfl, hI7, hg7⟩; rw [HPY'.out.2] at hI7; rw [HPY'.out.1]; have H7 := Lib.hid (H5.out.wrB hI7 hg7); clear hI7 hg7)))
      have HH := Lib.hid H7.out
      clear hcut hcut2' wl dk dn H4 H5 H7
      go_loopw [11] (fun i wr => ∃ m : Nat, m ≤ l.length ∧ i = .int .i64 ((m : Int) - 1) ∧ Aside0 (JT w w1.heap.size M M (insL [] (l.drop m).reverse) wr)) (fun i _ => (intOf i + 1).toNat)
      case atStart => exact ⟨l.length, Nat.le_refl _, rfl, ⟨by rw [List.drop_length]; exact HH.out⟩⟩
      case round =>
        clear HH
        obtain ⟨m, hm, rfl, HJ⟩ := hrel
        by_cases h0 : m = 0
        · subst h0
          rw [List.drop_zero, HRV.out] at HJ
          have e1 : ((0 : Nat) : Int) - 1 = -1 := rfl
          rw [e1]
          have t5 : True := trivial
          have t6 : True := trivial
          have t7 : True := trivial
          have HJ' := Lib.hid HJ.out
          clear HJ e1
          obtain ⟨wo, hwo⟩ : ∃ wo : World, wo = wr := ⟨_, rfl⟩
          subst hwo
          go_wp2_with (go_at_call 21; go_must (refine (puts_calls _ _ 50 16 M _ HJ'.out.a).mono ?_; rintro _ w7 ⟨v7, rfl, hB7, hR7⟩; obtain ⟨A7, c7, hv7, hc7, hC7⟩ := Kd.R_reads hR7; subst hv7; have H7 := Lib.hid (HJ'.out.step hB7); have HC7 := Lib.hid (fun w' (h : RowKit.Below w7.heap.size w7 w') => Kd.C_below hC7 h); clear hB7 hR7 hC7 hc7))
          go_loopw [13] (fun i wr => ∃ m : Nat, 1 ≤ m ∧ m ≤ M.length + 1 ∧ i = .int .i64 m ∧ Aside0 (RowKit.Below w7.heap.size w7 wr)) (fun i _ => M.length - (intOf i).toNat)
          case atStart => exact ⟨1, Nat.le_refl _, by omega, rfl, ⟨Below.refl _ _⟩⟩
          case round =>
            obtain ⟨m, hm1, hm2, rfl, HW⟩ := hrel
            have hml1 : M.length ≤ l.length := by have := HML.out; omega
            have hml2 : l.length ≤ M.length := by have := HML.out; omega
            by_cases hlt : m < M.length
            · obtain ⟨p, hp⟩ : ∃ p, m = p + 1 := ⟨m - 1, by omega⟩
              obtain ⟨ad, A8, c8, rfl, x0, x1, _, _⟩ := at_T31 (HC7.out _ HW.out) (m : Int) (by omega) (by omega)
              obtain ⟨ad', A9, c9, he', y0, y1, _, _⟩ := at_T31 (HC7.out _ HW.out) (p : Int) (by omega) (by omega)
              injection he' with he'
              subst he'
              simp only [Int.toNat_natCast] at x0 x1 y0 y1
              obtain ⟨q, hq⟩ : ∃ q, q = rd_T31 M (m : Int) := ⟨_, rfl⟩
              obtain ⟨u, hu⟩ : ∃ u, u = rd_T31 M (p : Int) := ⟨_, rfl⟩
              rw [← hq] at x0 x1
              rw [← hu] at y0 y1
              have hqe : q = M[m] := by rw [hq]; simp only [rd_T31, Int.toNat_natCast, List.getD_eq_getElem?_getD, List.getElem?_eq_getElem hlt, Option.getD_some]
              have hre : u = M[p]'(by omega) := by rw [hu]; simp only [rd_T31, Int.toNat_natCast, List.getD_eq_getElem?_getD, List.getElem?_eq_getElem (show p < M.length by omega), Option.getD_some]
              have hgap : u.f0 < q.f0 := by
                rw [hqe, hre]
                exact (List.pairwise_iff_getElem.1 H7.out.a.srt) p m (by omega) hlt (by omega)
              have wr2 : IntKind.i64.wrap ((m : Int) - 1) = (p : Int) := by rw [IntWalk.i64_in _ (by omega)]; omega
              have d1 : decide (q.f0 ≤ u.f0) = false := by simp; omega
              have d1' : ¬ (q.f0 ≤ u.f0) := by omega
              have d2 : (m : Int) < (M.length : Int) := by omega
              have d4 : (p : Int) < (M.length : Int) := by omega
              have d5 : 0 ≤ (m : Int) := by omega
              have d6 : 0 ≤ (p : Int) := by omega
              have HD := Lib.hid (show 1 ≤ m + 1 ∧ m + 1 ≤ M.length + 1 by omega)
              clear hq hu hqe hre hgap hp hm1 hm2 x1 y1
              go_wp2
              go_quiet (fail)
              clear wr2
              go_wp2
              go_roundw
              case rel => exact ⟨m + 1, HD.out.1, HD.out.2, by go_num, ⟨pw_below_drewN HW.out _⟩⟩
              case measure => simp [intOf]; omega
            · have d2 : ¬ (m : Int) < (M.length : Int) := by omega
              have H8 := Lib.hid (H7.out.step HW.out)
              have HC8 := Lib.hid (HC7.out _ HW.out)
              have dML : ((M.length : Int) == (l.length : Int)) = true := by simp; omega
              have dML2 : (M.length == l.length) = true := by simp; omega
              clear HW
              go_wp2_with (first
                | (go_at_call 21; have _t := t5; clear t5; go_must (refine (puts_calls _ _ 50 16 M _ H8.out.b).mono ?_; rintro _ w9 ⟨v9, rfl, hB9, hR9⟩; obtain ⟨A9, c9, hv9, _, hC9⟩ := Kd.R_reads hR9; subst hv9; have H9 := Lib.hid (H8.out.step hB9); have HC9 := Lib.hid hC9; have HC8' := Lib.hid (fun w' (h : RowKit.Below w9.heap.size w9 w') => Kd.C_below (Kd.C_below HC8.out hB9) h); clear hB9 hR9 hC9))
                | (go_at_call 22; have _t := t6; clear t6; go_must (refine (sameputs_calls A7 A9 c7 c9 M _ (HC8'.out _ (Below.refl _ _)) HC9.out (by have := HML.out; omega)).mono ?_; rintro _ w10 ⟨rfl, hB10⟩; have H10 := Lib.hid (H9.out.step hB10); have HC10 := Lib.hid (HC8'.out _ hB10); clear hB10))
                | (go_at_call 21; go_must (refine (puts_calls _ _ 50 16 M _ H10.out.c).mono ?_; rintro _ w11 ⟨v11, rfl, hB11, hR11⟩; obtain ⟨A11, c11, hv11, _, hC11⟩ := Kd.R_reads hR11; subst hv11; have H11 := Lib.hid (H10.out.step hB11); have HC11 := Lib.hid hC11; have HC10' := Lib.hid (Kd.C_below HC10.out hB11); clear hB11 hR11 hC11))
                | (go_at_call 22; go_must (refine (sameputs_calls A7 A11 c7 c11 M _ HC10'.out HC11.out (by have := HML.out; omega)).mono ?_; rintro _ w12 ⟨rfl, hB12⟩; have H12 := Lib.hid (H11.out.step hB12); clear hB12))
                | (go_at_call 13; go_must (refine (awakeB_calls _).mono ?_; rintro _ w13 ⟨rfl, hB13⟩; have H13 := Lib.hid (H12.out.step hB13); clear hB13)))
              try rw [Exit.noGoto_ret]
              go_ret
              exact ⟨rfl, H13.out.below⟩
        · obtain ⟨p, rfl⟩ : ∃ p, m = p + 1 := ⟨m - 1, by omega⟩
          have e1 : ((p + 1 : Nat) : Int) - 1 = (p : Int) := by omega
          rw [e1]
          have hlt : p < l.length := by omega
          obtain ⟨ad, A8, c8, rfl, x0, x1, x2, x3⟩ := at_T31 (HR.out _ HJ.out.below) (p : Int) (by omega) (by omega)
          simp only [Int.toNat_natCast] at x0 x1
          obtain ⟨q, hq⟩ : ∃ q, q = rd_T31 l (p : Int) := ⟨_, rfl⟩
          rw [← hq] at x0 x1 x2 x3
          have hqe : q = l[p] := by rw [hq]; simp [rd_T31, List.getD_eq_getElem?_getD, List.getElem?_eq_getElem hlt]
          have hdr : (l.drop p).reverse = (l.drop (p + 1)).reverse ++ [q] := by rw [List.drop_eq_getElem_cons hlt, List.reverse_cons, hqe]
          have hpk := part_ok (a := (l.drop (p + 1)).reverse) (b := [q]) (r := l.take p) HC0.out (by
            rw [← hdr]
            exact ((List.reverse_perm _).append_right _).trans (List.perm_append_comm.trans (by rw [List.take_append_drop]))) (by simp)
          rw [← hdr] at hpk
          have HPK := Lib.hid hpk
          have HX3 := Lib.hid x3
          have HX2 := Lib.hid x2
          have b1 : (0 : Int) ≤ (p : Int) := by omega
          have b2 : (p : Int) < (l.length : Int) := by omega
          have HJ' := Lib.hid HJ.out
          clear hq hqe hdr hpk x2 x3 e1 h0 HJ
          go_wp2_with (go_at_call 17; go_must (refine (write_calls (w1.heap.size + 6) (w1.heap.size + 4) 50 16 (insL [] (l.drop (p + 1)).reverse) _ 1 [⟨q.f0, q.f1⟩] _ (HJ'.out.step (below_alloc (Below.refl _ _) _)).c (C31_one _ _ q.f0 0 A8 c8 q.f1 rfl HX2.out HX3.out) (show 1 ≤ 140737488355328 by decide) (HJ'.out.step (below_alloc (Below.refl _ _) _)).size).mono ?_; rintro _ w5 ⟨rfl, hI5, hg5⟩; rw [HPK.out.2] at hI5; rw [HPK.out.1]; have H5 := Lib.hid ((HJ'.out.step (below_alloc (Below.refl _ _) _)).wrC hI5 hg5); clear hI5 hg5))
          go_roundw
          case rel => exact ⟨p, by omega, by go_num, ⟨H5.out⟩⟩
          case measure => simp [intOf]
  · have dz : (cd != 0) = true := by simpa using hz
    clear hcd hz
    go_enter Try.func4, Try.ntmps4
    go_wp2_with (first
      | (go_at_call 19; go_must (refine (scarpalike_Puts.calls (l.length + 3) A0 c0 l 5000 r _ (HR.out _ (Below.refl _ _)) HC.out HPR.out).mono ?_; rintro _ w1 ⟨rfl, hB1⟩; have HB1 := Lib.hid hB1; clear hB1))
      | (go_at_call 14; have _t := t1; clear t1; go_must (refine (newB_calls 50 16 (w1.heap.size + 6) w1.heap.size _ ⟨by decide, by decide, by decide⟩ rfl (by omega)).mono ?_; rintro _ w2 ⟨rfl, hB2, hI2, hS2⟩; have HI2 := Lib.hid hI2; have HB2 := Lib.hid hB2; have HS2 := Lib.hid hS2; clear hB2 hI2 hS2))
      | (go_at_call 14; have _t := t2; clear t2; go_must (refine (newB_calls 50 16 (w1.heap.size + 6) (w1.heap.size + 2) _ ⟨by decide, by decide, by decide⟩ HS2.out (by omega)).mono ?_; rintro _ w3 ⟨rfl, hB3, hI3, hS3⟩; have HI3 := Lib.hid hI3; have HI2' := Lib.hid (HI2.out.below hB3); have HB3 := Lib.hid (below_step HB2.out hB3); have HS3 := Lib.hid hS3; clear hB3 hI3 hS3))
      | (go_at_call 14; go_must (refine (newB_calls 50 16 (w1.heap.size + 6) (w1.heap.size + 4) _ ⟨by decide, by decide, by decide⟩ HS3.out (by omega)).mono ?_; rintro _ w4 ⟨rfl, hB4, hI4, hS4⟩; have H4 := Lib.hid (show JT w w1.heap.size [] [] [] w4 from ⟨below_step HB1.out (below_step HB3.out hB4), HB1.out.size, HI2'.out.below hB4, HI3.out.below hB4, hI4, by omega⟩); clear hB4 hI4 hS4))
      | (go_at_call 17; have _t := t3; clear t3; go_must (refine (write_calls (w1.heap.size + 6) w1.heap.size 50 16 [] A0 c0 l _ H4.out.a (HR.out _ H4.out.below) hl H4.out.size).mono ?_; rintro _ w5 ⟨rfl, hI5, hg5⟩; rw [HCD.out]; have H5 := Lib.hid (H4.out.wrA hI5 hg5); clear hI5 hg5))
      | (go_at_call 13; go_must (refine (awakeB_calls _).mono ?_; rintro _ w6 ⟨rfl, hB6⟩)))
    go_ret
    exact ⟨rfl, below_step H5.out.below hB6⟩
end Go.Proofs.Ytbebihphodafiaa.Iv
