/- The walk of IvalJoins: added in whatever order, in whatever groups, a set is the same. -/
import Derived.Test.YtpoiicfpldbgeaaProg
import Derived.Below
import Derived.Deep.Draws
import Derived.Deep.AppendLies
import Derived.Maps.AppendAt
import Derived.OwnWalk
import Derived.Laws.BytesArg
import Derived.Laws.MakeOwn
import Derived.Laws.OwnMore
import Derived.Deep.OwnRows
import Derived.Tactics
import Derived.Lib.ConvBytes
import Derived.Laws.Slices
import Derived.WalkKit
import Derived.KernelRfl
import Derived.RowKit3
import Derived.Deep.LoopGhost
import Derived.Deep.QuietTactic
import Derived.BigQuiet
import Derived.WideLaws
import Derived.Deep.DeepCutAuto
import Derived.Deep.CutBlock
import Derived.Deep.RegionHeld3
import Derived.Laws.Rows
import Derived.Lib.AppendStr
import Derived.ArgAppend
import Derived.Laws.IdiomCopy
import Derived.OrdersHeld
import Derived.Laws.BitsLemmas
import Derived.RowKit
import Derived.Test.YtpoiicfpldbgeaaWWords
import Derived.Test.YtpoiicfpldbgeaaWLast
import Derived.Test.YtpoiicfpldbgeaaWTab
import Derived.Test.YtpoiicfpldbgeaaWFour
import Derived.Test.YtpoiicfpldbgeaaWQPut
import Derived.Test.YtpoiicfpldbgeaaWApart
import Derived.Test.YtpoiicfpldbgeaaWArr
import Derived.Test.YtpoiicfpldbgeaaWZeros
import Derived.Test.YtpoiicfpldbgeaaWFoot
import Derived.Test.YtpoiicfpldbgeaaWKept
import Derived.Test.YtpoiicfpldbgeaaWShare
import Derived.Test.YtpoiicfpldbgeaaWN
import Derived.Test.YtpoiicfpldbgeaaWFootNe
import Derived.Test.YtpoiicfpldbgeaaWAt
import Derived.Test.YtpoiicfpldbgeaaWEqStruct
import Derived.Test.YtpoiicfpldbgeaaWRepsOne
import Derived.Test.YtpoiicfpldbgeaaWInv
import Derived.Test.YtpoiicfpldbgeaaWInvWords
import Derived.Test.YtpoiicfpldbgeaaWGuard
import Derived.Test.YtpoiicfpldbgeaaWNEv
import Derived.Test.YtpoiicfpldbgeaaWMore
import Derived.Outline
import Derived.Lib.Hide
import Derived.Deep.DeepMust
import Derived.Test.YtpoiicfpldbgeaaIvI
import Derived.Test.YtpoiicfpldbgeaaIvQ
namespace Go.Proofs.Ytpoiicfpldbgeaa.Iv
open Go.RowKit Go.Proofs.YtpoiicfpldbgeaaW.PrintWords Go.Proofs.YtpoiicfpldbgeaaW.PrintLast Go.Proofs.YtpoiicfpldbgeaaW.PrintMore Go.Proofs.Ytpoiicfpldbgeaa.PIv
set_option linter.unusedVariables false
set_option linter.unusedSimpArgs false
theorem round_some (a n : Int) (h0 : 0 < n) (h1 : n < 4611686018427387904) : ∃ r, scarpalike_Round.f a n = some r ∧ 0 ≤ r ∧ r < n := by
  unfold scarpalike_Round.f
  rw [if_neg (by omega)]
  have h2 : -n < Int.tmod a n ∧ Int.tmod a n < n := by
    rcases Int.lt_or_le a 0 with h | h
    · have e : Int.tmod a n = -Int.tmod (-a) n := by rw [Int.neg_tmod]; omega
      have := Int.tmod_lt_of_pos (-a) h0
      have := Int.tmod_nonneg n (show 0 ≤ -a by omega)
      omega
    · have := Int.tmod_lt_of_pos a h0
      have := Int.tmod_nonneg n h
      omega
  generalize Int.tmod a n = t at *
  by_cases h : t < 0
  · rw [if_pos h]; exact ⟨_, rfl, by unfold wrap64; omega, by unfold wrap64; omega⟩
  · rw [if_neg h]; exact ⟨_, rfl, by omega, h2.2⟩

theorem ext_l0 (l : List S28) (hn : l.length < 2 ^ 62) (d : Nat) : ∀ (k i : Nat), i + d = l.length → d + 1 ≤ k → scarpalike_Extents.l0 k l l (i : Int) = some true := by
  induction d with
  | zero =>
    intro k i hi hk
    obtain ⟨k, rfl⟩ : ∃ m, k = m + 1 := ⟨k - 1, by omega⟩
    simp only [scarpalike_Extents.l0]
    rw [if_neg (by omega)]
  | succ d ih =>
    intro k i hi hk
    obtain ⟨k, rfl⟩ : ∃ m, k = m + 1 := ⟨k - 1, by omega⟩
    simp only [scarpalike_Extents.l0]
    have w : wrap64 ((i : Int) + 1) = ((i + 1 : Nat) : Int) := by unfold wrap64; omega
    rw [if_pos (by omega), if_pos (by omega), if_pos (by omega), if_neg (by simp), w]
    exact ih k (i + 1) (by omega) (by omega)
theorem ext_refl (l : List S28) (hn : l.length < 2 ^ 62) : scarpalike_Extents.f (l.length + 1) l l = some true := by
  unfold scarpalike_Extents.f
  rw [if_pos rfl]
  exact ext_l0 l hn l.length (l.length + 1) 0 (by omega) (by omega)
/-- The argument's kind. -/
theorem C28 {W : World} {A : Option Addr} {n : Nat} {l : List (Int × Int)} (h : Kd.C (Kd.pair (Kd.int .i64) (Kd.int .i64)) W A n l) : Kd.C k28 W A n (l.map fun p => (⟨p.1, p.2⟩ : S28)) := by
  refine ⟨by rw [List.length_map]; exact h.1, h.2.1, fun hp => ?_⟩
  obtain ⟨ad, he, hc⟩ := h.2.2 hp
  refine ⟨ad, he, fun j p hj => ?_⟩
  rw [List.getElem?_map] at hj
  obtain ⟨p0, h0, rfl⟩ := Option.map_eq_some_iff.1 hj
  exact hc j p0 h0
/-- Three sets side by side. -/
structure J3 (w : World) (g : Nat) (La Lb Lc : List S28) (W : World) : Prop where
  below : RowKit.Below w.heap.size w W
  ge : w.heap.size ≤ g
  a : IsSet W (g + 3) g 100 La
  b : IsSet W (g + 3) (g + 1) 100 Lb
  c : IsSet W (g + 3) (g + 2) 100 Lc
  size : g + 3 ≤ W.heap.size
section
variable {w W W' : World} {g : Nat} {La Lb Lc L' : List S28}
theorem J3.step (h : J3 w g La Lb Lc W) (hb : RowKit.Below W.heap.size W W') : J3 w g La Lb Lc W' :=
  ⟨below_step h.below hb, h.ge, h.a.below hb, h.b.below hb, h.c.below hb, Nat.le_trans h.size hb.size⟩
theorem J3.mvA (h : J3 w g La Lb Lc W) (hs : IsSet W' (g + 3) g 100 L') (hm : Mv g W W') : J3 w g L' Lb Lc W' := by
  have h2 := h.size; have h3 := h.ge
  exact ⟨hm.below h.below h3 (by omega) (by omega), h3, hs, h.b.mv hm (by omega) (by omega), h.c.mv hm (by omega) (by omega), Nat.le_trans h2 hm.size⟩
theorem J3.mvB (h : J3 w g La Lb Lc W) (hs : IsSet W' (g + 3) (g + 1) 100 L') (hm : Mv (g + 1) W W') : J3 w g La L' Lc W' := by
  have h2 := h.size; have h3 := h.ge
  exact ⟨hm.below h.below (by omega) (by omega) (by omega), h3, h.a.mv hm (by omega) (by omega), hs, h.c.mv hm (by omega) (by omega), Nat.le_trans h2 hm.size⟩
theorem J3.mvC (h : J3 w g La Lb Lc W) (hs : IsSet W' (g + 3) (g + 2) 100 L') (hm : Mv (g + 2) W W') : J3 w g La Lb L' W' := by
  have h2 := h.size; have h3 := h.ge
  exact ⟨hm.below h.below (by omega) (by omega) (by omega), h3, h.a.mv hm (by omega) (by omega), h.b.mv hm (by omega) (by omega), hs, Nat.le_trans h2 hm.size⟩
end
theorem info28' : ∃ i, Try.prog.info? 28 = some i ∧ i.size = 2 := by
  obtain ⟨i, h1, h2⟩ := Option.map_eq_some_iff.1 info28
  simp only [Prod.mk.injEq] at h2
  exact ⟨i, h1, h2.2.1⟩
theorem newAt_calls (most : Int) (fr b : Nat) (w : World) (hb : b = w.heap.size) (hfr : b < fr) : Calls Try.prog 9 #[.int .i64 most] w fun e w' => e = .returned (.pointer (some ⟨b, 0, none⟩)) ∧ w' = w.alloc (.cells #[.int .i64 most, .slice none 0 0] 41) ∧ IsSet w' fr b most [] := by
  subst hb
  exact new_calls most fr w hfr
set_option maxHeartbeats 4000000 in
set_option maxRecDepth 100000 in
theorem joins_calls (A0 : Option Addr) (c0 : Nat) (l : List S28) (k0 : Int) (w : World) (hr : Kd.C k28 w A0 l.length l) (hc : l.length ≤ c0) (hl : l.length ≤ 9223372036854775807) :
    Calls Try.prog 4 #[.slice A0 l.length c0, .int .i64 k0] w fun r w' => r = .returned (.bool true) ∧ RowKit.Below w.heap.size w w' := by
  have HR := Lib.hid (fun w' (h : RowKit.Below w.heap.size w w') => Kd.C_below hr h)
  have HC := Lib.hid hc
  clear hr hc
  by_cases hbig : (60 : Int) < l.length
  · have d1 : decide ((60 : Int) < l.length) = true := by simpa using hbig
    have d1' : decide (60 < l.length) = true := by simp; omega
    go_enter Try.func4, Try.ntmps4
    go_wp2_with (go_at_call 8; go_must (refine (awake_calls _).mono ?_; rintro _ w1 ⟨rfl, hB1⟩))
    go_ret
    exact ⟨rfl, hB1⟩
  have d1 : decide ((60 : Int) < l.length) = false := by simpa using hbig
  have d1' : decide (60 < l.length) = false := by simp; omega
  have hl60 : l.length ≤ 60 := by omega
  obtain ⟨k1, hk1, hk2, hk3⟩ := round_some k0 ((l.length : Int) + 1) (by omega) (by omega)
  obtain ⟨k, rfl⟩ : ∃ k : Nat, k1 = k := ⟨k1.toNat, by omega⟩
  have HK := Lib.hid hk1
  have hkl : k ≤ l.length := by omega
  have wl : wrap64 ((l.length : Int) + 1) = (l.length : Int) + 1 := by unfold wrap64; omega
  clear hk1 hk2 hk3 hbig
  have t1 : True := trivial
  have t2 : True := trivial
  have t3 : True := trivial
  have t4 : True := trivial
  by_cases hall : l.all mayB = true
  · have HA := Lib.hid (add_ok 100 [] l ⟨List.Pairwise.nil, by simp⟩ hall (by simp; omega))
    have hmem : ∀ x ∈ l, mayB x = true := List.all_eq_true.1 hall
    have hd : (l.drop k).all mayB = true := List.all_eq_true.2 (fun x hx => hmem x (List.mem_of_mem_drop hx))
    have htk : (l.take k).all mayB = true := List.all_eq_true.2 (fun x hx => hmem x (List.mem_of_mem_take hx))
    have hlenD := nrm_len (l.drop k)
    obtain ⟨i28, hi28, hs28⟩ := info28'
    have hcut := cut_from (P := Try.prog) 29 28 .i64 Try.underlying29 hi28 2 hs28 A0 l.length c0 (k : Int) (by omega) (by omega)
    have hcut2 := cut_to (P := Try.prog) 29 28 .i64 Try.underlying29 hi28 A0 l.length c0 (k : Int) (by omega) (by omega) HC.out
    obtain ⟨y, hy⟩ : ∃ y, y = l.drop k := ⟨_, rfl⟩
    obtain ⟨x, hx⟩ : ∃ x, x = l.take k := ⟨_, rfl⟩
    have hyl : y.length = l.length - k := by rw [hy, List.length_drop]
    have hxl : x.length = k := by rw [hx, List.length_take]; omega
    rw [Int.toNat_natCast, ← hyl] at hcut
    have hcut2' : ∀ W : World, (Instr.slice 29 (.slice A0 l.length c0) none (some (.int .i64 (k : Int))) none).run Try.prog W = .ok (.slice A0 x.length c0) W := fun W => by rw [hcut2 W, Int.toNat_natCast, hxl]
    clear hcut2
    obtain ⟨A', hA'⟩ : ∃ A1, A1 = (if c0 = k then A0 else A0.map (·.add (k * 2))) := ⟨_, rfl⟩
    obtain ⟨c', hc'⟩ : ∃ c1, c1 = c0 - k := ⟨_, rfl⟩
    rw [← hA', ← hc'] at hcut
    have HY := Lib.hid (fun W (h : RowKit.Below w.heap.size w W) => (show Kd.C k28 W A' y.length y by
      have := Kd.C_drop (m := k) (c := c0) (HR.out W h) hkl HC.out
      rw [← hy] at this
      rw [hA']; exact this))
    have HX := Lib.hid (fun W (h : RowKit.Below w.heap.size w W) => (show Kd.C k28 W A0 x.length x by
      have := Kd.C_take (m := k) (HR.out W h) hkl
      rw [← hx] at this
      exact this))
    rw [← hy] at hd hlenD
    rw [← hx] at htk
    have HYC := Lib.hid (show y.length ≤ c' by have := HC.out; omega)
    have HXC := Lib.hid (show x.length ≤ c0 by have := HC.out; omega)
    have nfY := nrm_nf y (may_len y hd)
    have HB1 := Lib.hid (add_ok 100 [] y ⟨List.Pairwise.nil, by simp⟩ hd (by simp; omega))
    have HB2 := Lib.hid (add_ok 100 (nrm y) x nfY.1 htk (by omega))
    have HE := Lib.hid (nrm_absorb y x l (may_len y hd) (may_len x htk) (by rw [hy, hx]; exact (List.perm_append_comm).trans (by rw [List.take_append_drop])))
    have HM := Lib.hid hmem
    have HLY := Lib.hid (show y.length ≤ 60 ∧ x.length ≤ 60 ∧ (nrm y).length ≤ 60 by omega)
    clear hd htk hlenD hy hx hyl hxl hA' hc' nfY hall hmem hi28 hs28
    go_enter Try.func4, Try.ntmps4
    go_wp2_with (first
      | (go_at_call 13; go_must (refine (scarpalike_Round.calls k0 ((l.length : Int) + 1) k _ HK.out).mono ?_; rintro _ _ ⟨rfl, ⟨⟨nq, rfl⟩⟩⟩))
      | (go_at_call 9; have _t := t1; clear t1; go_must (refine (newAt_calls 100 (w.heap.size + 3) w.heap.size _ (by simp) (by omega)).mono ?_; rintro _ _ ⟨rfl, rfl, hI⟩; have HI1 := Lib.hid hI; clear hI))
      | (go_at_call 9; have _t := t2; clear t2; go_must (refine (newAt_calls 100 (w.heap.size + 3) (w.heap.size + 1) _ (by simp) (by omega)).mono ?_; rintro _ _ ⟨rfl, rfl, hI⟩; have HI2 := Lib.hid hI; clear hI))
      | (go_at_call 9; go_must (refine (newAt_calls 100 (w.heap.size + 3) (w.heap.size + 2) _ (by simp) (by omega)).mono ?_; rintro _ _ ⟨rfl, rfl, hI⟩; have H0 := Lib.hid (show J3 w w.heap.size [] [] [] _ from ⟨below_alloc (below_alloc (below_alloc (pw_below_drewN (Below.refl _ _) _) _) _) _, Nat.le_refl _, HI1.out.below (below_alloc (below_alloc (Below.refl _ _) _) _), HI2.out.below (below_alloc (Below.refl _ _) _), hI, by simp⟩); clear hI HI1 HI2))
      | (go_at_call 10; have _t := t3; clear t3; go_must (refine (add_calls (w.heap.size + 3) w.heap.size 100 [] A0 c0 l _ H0.out.a (HR.out _ H0.out.below) HC.out (by simp; omega) H0.out.size).mono ?_; rintro _ w1 ⟨rfl, hI1, hM1⟩; rw [HA.out, List.nil_append] at hI1; rw [HA.out]; have H1 := Lib.hid (H0.out.mvA hI1 hM1); clear hI1 hM1))
      | (go_at_call 10; have _t := t4; clear t4; go_must (refine (add_calls (w.heap.size + 3) (w.heap.size + 1) 100 [] A' c' y _ H1.out.b (HY.out _ H1.out.below) HYC.out (by have := HLY.out; simp; omega) H1.out.size).mono ?_; rintro _ w2 ⟨rfl, hI2, hM2⟩; rw [HB1.out, List.nil_append] at hI2; rw [HB1.out]; have H2 := Lib.hid (H1.out.mvB hI2 hM2); clear hI2 hM2))
      | (go_at_call 10; go_must (refine (add_calls (w.heap.size + 3) (w.heap.size + 1) 100 (nrm y) A0 c0 x _ H2.out.b (HX.out _ H2.out.below) HXC.out (by have := HLY.out; omega) H2.out.size).mono ?_; rintro _ w3 ⟨rfl, hI3, hM3⟩; rw [HB2.out, HE.out] at hI3; rw [HB2.out]; have H3 := Lib.hid (H2.out.mvB hI3 hM3); clear hI3 hM3)))
    clear hcut hcut2' d1 d1' wl
    have HLN := Lib.hid (show (nrm l).length ≤ 60 from Nat.le_trans (nrm_len l) hl60)
    have HH := Lib.hid H3.out
    clear H0 H1 H2 H3
    go_loopw [9] (fun i wr => ∃ m : Nat, m ≤ l.length ∧ i = .int .i64 ((m : Int) - 1) ∧ Aside0 (J3 w w.heap.size (nrm l) (nrm l) (nrm (l.drop m)) wr)) (fun i _ => (intOf i + 1).toNat)
    case atStart => exact ⟨l.length, Nat.le_refl _, rfl, ⟨by rw [List.drop_length, nrm_nil]; exact HH.out⟩⟩
    case round =>
      clear HH
      obtain ⟨m, hm, rfl, HJ⟩ := hrel
      by_cases h0 : m = 0
      · subst h0
        rw [List.drop_zero] at HJ
        have e1 : ((0 : Nat) : Int) - 1 = -1 := rfl
        rw [e1]
        obtain ⟨n, hn⟩ : ∃ n, n = nrm l := ⟨_, rfl⟩
        rw [← hn] at HJ HLN
        have HX := Lib.hid (ext_refl n (by have := HLN.out; omega))
        clear hn e1
        have t5 : True := trivial
        have t6 : True := trivial
        have t7 : True := trivial
        have t8 : True := trivial
        have t9 : True := trivial
        go_wp2_with (first
          | (go_at_call 11; have _t := t5; clear t5; go_must (refine (extents_calls (w.heap.size + 3) w.heap.size 100 n _ HJ.out.a (by have := HLN.out; omega)).mono ?_; rintro _ w4 ⟨v4, rfl, hB4, hR4⟩; obtain ⟨A4, c4, hv4, hc4, hC4⟩ := Kd.R_reads hR4; subst hv4; have H4 := Lib.hid (HJ.out.step hB4); have D4 := Lib.hid hC4; have E4 := Lib.hid hc4; clear hB4 hR4 hC4 hc4))
          | (go_at_call 11; have _t := t6; clear t6; go_must (refine (extents_calls (w.heap.size + 3) (w.heap.size + 1) 100 n _ H4.out.b (by have := HLN.out; omega)).mono ?_; rintro _ w5 ⟨v5, rfl, hB5, hR5⟩; obtain ⟨A5, c5, hv5, hc5, hC5⟩ := Kd.R_reads hR5; subst hv5; have H5 := Lib.hid (H4.out.step hB5); have D5 := Lib.hid hC5; have E5 := Lib.hid hc5; have D4' := Lib.hid (Kd.C_below D4.out hB5); clear hB5 hR5 hC5 hc5 D4))
          | (go_at_call 14; have _t := t7; clear t7; go_must (refine (scarpalike_Extents.calls (n.length + 1) A4 c4 n A5 c5 n true _ D4'.out E4.out D5.out E5.out HX.out).mono ?_; rintro _ _ ⟨rfl, ⟨⟨n5, rfl⟩⟩⟩; have H5' := Lib.hid (H5.out.step (pw_below_drewN (Below.refl _ _) n5)); clear H5))
          | (go_at_call 11; have _t := t8; clear t8; go_must (refine (extents_calls (w.heap.size + 3) w.heap.size 100 n _ H5'.out.a (by have := HLN.out; omega)).mono ?_; rintro _ w6 ⟨v6, rfl, hB6, hR6⟩; obtain ⟨A6, c6, hv6, hc6, hC6⟩ := Kd.R_reads hR6; subst hv6; have H6 := Lib.hid (H5'.out.step hB6); have D6 := Lib.hid hC6; have E6 := Lib.hid hc6; clear hB6 hR6 hC6 hc6))
          | (go_at_call 11; go_must (refine (extents_calls (w.heap.size + 3) (w.heap.size + 2) 100 n _ H6.out.c (by have := HLN.out; omega)).mono ?_; rintro _ w7 ⟨v7, rfl, hB7, hR7⟩; obtain ⟨A7, c7, hv7, hc7, hC7⟩ := Kd.R_reads hR7; subst hv7; have H7 := Lib.hid (H6.out.step hB7); have D7 := Lib.hid hC7; have E7 := Lib.hid hc7; have D6' := Lib.hid (Kd.C_below D6.out hB7); clear hB7 hR7 hC7 hc7 D6))
          | (go_at_call 14; go_must (refine (scarpalike_Extents.calls (n.length + 1) A6 c6 n A7 c7 n true _ D6'.out E6.out D7.out E7.out HX.out).mono ?_; rintro _ _ ⟨rfl, ⟨⟨n7, rfl⟩⟩⟩; have H7' := Lib.hid (H7.out.step (pw_below_drewN (Below.refl _ _) n7)); clear H7))
          | (go_at_call 12; have _t := t9; clear t9; go_must (refine (count_calls (w.heap.size + 3) w.heap.size 100 n _ H7'.out.a (by have := HLN.out; omega)).mono ?_; rintro _ w8 ⟨rfl, hB8⟩; have H8 := Lib.hid (H7'.out.step hB8); clear hB8))
          | (go_at_call 12; go_must (refine (count_calls (w.heap.size + 3) (w.heap.size + 2) 100 n _ H8.out.c (by have := HLN.out; omega)).mono ?_; rintro _ w9 ⟨rfl, hB9⟩; have H9 := Lib.hid (H8.out.step hB9); clear hB9))
          | (go_at_call 8; go_must (refine (awake_calls _).mono ?_; rintro _ w10 ⟨rfl, hB10⟩)))
        try rw [Exit.noGoto_ret]
        go_ret
        exact ⟨rfl, below_step H9.out.below hB10⟩
      · obtain ⟨p, rfl⟩ : ∃ p, m = p + 1 := ⟨m - 1, by omega⟩
        have e1 : ((p + 1 : Nat) : Int) - 1 = (p : Int) := by omega
        rw [e1]
        have hlt : p < l.length := by omega
        obtain ⟨ad, rfl, x0, x1⟩ := at_T28 (HR.out _ HJ.out.below) (p : Int) (by omega) (by omega)
        simp only [Int.toNat_natCast] at x0 x1
        obtain ⟨q, hq⟩ : ∃ q, q = rd_T28 l (p : Int) := ⟨_, rfl⟩
        rw [← hq] at x0 x1
        have hqe : q = l[p] := by rw [hq]; simp [rd_T28, List.getD_eq_getElem?_getD, List.getElem?_eq_getElem hlt]
        have hqm : mayB q = true := HM.out q (by rw [hqe]; exact List.getElem_mem hlt)
        have hdr : (l.drop (p + 1)).all mayB = true := List.all_eq_true.2 (fun z hz => HM.out z (List.mem_of_mem_drop hz))
        have hnl := nrm_len (l.drop (p + 1))
        rw [List.length_drop] at hnl
        have hq1 : [q].all mayB = true := by simp [hqm]
        have HA2 := Lib.hid (add_ok 100 (nrm (l.drop (p + 1))) [q] (nrm_nf _ (may_len _ hdr)).1 hq1 (by simp; omega))
        have HE2 := Lib.hid (nrm_absorb (l.drop (p + 1)) [q] (l.drop p) (may_len _ hdr) (may_len _ hq1) (by rw [hqe, List.drop_eq_getElem_cons hlt]; exact List.perm_append_comm))
        have HL2 := Lib.hid (show ((nrm (l.drop (p + 1))).length + 1) * 16 ≤ 140737488355328 by omega)
        have b1 : (0 : Int) ≤ (p : Int) := by omega
        have b2 : (p : Int) < (l.length : Int) := by omega
        clear hq hqe hqm hdr hnl hq1 e1 h0
        go_wp2_with (go_at_call 10; go_must (refine (add_calls (w.heap.size + 3) (w.heap.size + 2) 100 (nrm (l.drop (p + 1))) _ 1 [q] _ (HJ.out.step (below_alloc (Below.refl _ _) _)).c (C_one _ q) (Nat.le_refl 1) HL2.out (HJ.out.step (below_alloc (Below.refl _ _) _)).size).mono ?_; rintro _ w5 ⟨rfl, hI5, hM5⟩; rw [HA2.out, HE2.out] at hI5; rw [HA2.out]; have H5 := Lib.hid ((HJ.out.step (below_alloc (Below.refl _ _) _)).mvC hI5 hM5); clear hI5 hM5))
        go_roundw
        case rel => exact ⟨p, by omega, by go_num, ⟨H5.out⟩⟩
        case measure => simp [intOf]
  · have HA := Lib.hid (add_bad 100 [] l hall)
    go_enter Try.func4, Try.ntmps4
    go_wp2_with (first
      | (go_at_call 13; go_must (refine (scarpalike_Round.calls k0 ((l.length : Int) + 1) k _ HK.out).mono ?_; rintro _ _ ⟨rfl, ⟨⟨nq, rfl⟩⟩⟩))
      | (go_at_call 9; have _t := t1; clear t1; go_must (refine (newAt_calls 100 (w.heap.size + 3) w.heap.size _ (by simp) (by omega)).mono ?_; rintro _ _ ⟨rfl, rfl, hI⟩; have HI1 := Lib.hid hI; clear hI))
      | (go_at_call 9; have _t := t2; clear t2; go_must (refine (newAt_calls 100 (w.heap.size + 3) (w.heap.size + 1) _ (by simp) (by omega)).mono ?_; rintro _ _ ⟨rfl, rfl, hI⟩; have HI2 := Lib.hid hI; clear hI))
      | (go_at_call 9; go_must (refine (newAt_calls 100 (w.heap.size + 3) (w.heap.size + 2) _ (by simp) (by omega)).mono ?_; rintro _ _ ⟨rfl, rfl, hI⟩; have H0 := Lib.hid (show J3 w w.heap.size [] [] [] _ from ⟨below_alloc (below_alloc (below_alloc (pw_below_drewN (Below.refl _ _) _) _) _) _, Nat.le_refl _, HI1.out.below (below_alloc (below_alloc (Below.refl _ _) _) _), HI2.out.below (below_alloc (Below.refl _ _) _), hI, by simp⟩); clear hI HI1 HI2))
      | (go_at_call 10; go_must (refine (add_calls (w.heap.size + 3) w.heap.size 100 [] A0 c0 l _ H0.out.a (HR.out _ H0.out.below) HC.out (by simp; omega) H0.out.size).mono ?_; rintro _ w1 ⟨rfl, hI1, hM1⟩; rw [HA.out] at hI1 ⊢; have H1 := Lib.hid (H0.out.mvA hI1 hM1); clear hI1 hM1))
      | (go_at_call 12; go_must (refine (count_calls (w.heap.size + 3) w.heap.size 100 [] _ H1.out.a (by simp)).mono ?_; rintro _ w2 ⟨rfl, hB2⟩; rw [show sumS [] = 0 from rfl]; have H2 := Lib.hid (H1.out.step hB2); clear hB2))
      | (go_at_call 8; go_must (refine (awake_calls _).mono ?_; rintro _ w3 ⟨rfl, hB3⟩)))
    go_ret
    exact ⟨rfl, below_step H2.out.below hB3⟩
end Go.Proofs.Ytpoiicfpldbgeaa.Iv
