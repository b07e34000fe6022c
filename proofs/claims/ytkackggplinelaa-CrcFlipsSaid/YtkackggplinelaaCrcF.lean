/- The walk of CrcFlips: one bit turned, or two, or a byte. -/
import Derived.Test.YtkackggplinelaaProg
import Derived.Below
import Derived.Deep.Draws
import Derived.Deep.AppendLies
import Derived.Maps.AppendAt
import Derived.OwnWalk
import Derived.Laws.BytesArg
import Derived.Laws.MakeOwn
import Derived.Laws.OwnMore
import Derived.Deep.OwnRows
import Derived.Tactics
import Derived.Lib.ConvBytes
import Derived.Laws.Slices
import Derived.WalkKit
import Derived.KernelRfl
import Derived.RowKit3
import Derived.Deep.LoopGhost
import Derived.Deep.QuietTactic
import Derived.BigQuiet
import Derived.WideLaws
import Derived.Deep.DeepCutAuto
import Derived.Deep.CutBlock
import Derived.Deep.RegionHeld3
import Derived.Laws.Rows
import Derived.Lib.AppendStr
import Derived.ArgAppend
import Derived.Laws.IdiomCopy
import Derived.OrdersHeld
import Derived.Laws.BitsLemmas
import Derived.RowKit
import Derived.Test.YtkackggplinelaaWWords
import Derived.Test.YtkackggplinelaaWLast
import Derived.Test.YtkackggplinelaaWTab
import Derived.Test.YtkackggplinelaaWFour
import Derived.Test.YtkackggplinelaaWQPut
import Derived.Test.YtkackggplinelaaWApart
import Derived.Test.YtkackggplinelaaWArr
import Derived.Test.YtkackggplinelaaWZeros
import Derived.Test.YtkackggplinelaaWFoot
import Derived.Test.YtkackggplinelaaWKept
import Derived.Test.YtkackggplinelaaWShare
import Derived.Test.YtkackggplinelaaWN
import Derived.Test.YtkackggplinelaaWFootNe
import Derived.Test.YtkackggplinelaaWAt
import Derived.Test.YtkackggplinelaaWEqStruct
import Derived.Test.YtkackggplinelaaWRepsOne
import Derived.Test.YtkackggplinelaaWInv
import Derived.Test.YtkackggplinelaaWInvWords
import Derived.Test.YtkackggplinelaaWGuard
import Derived.Test.YtkackggplinelaaWNEv
import Derived.Test.YtkackggplinelaaWMore
import Derived.Lib.Hide
import Derived.Deep.DeepMust
import Derived.Deep.RegionHeld3
import Derived.Deep.AppendLies
import Derived.StillTailTactics
import Derived.Test.YtkackggplinelaaCrcD
import Derived.Test.YtkackggplinelaaPBitsF
namespace Go.Proofs.Ytkackggplinelaa.Crc
open Go.RowKit Go.Proofs.YtkackggplinelaaW.PrintWords Go.Proofs.YtkackggplinelaaW.PrintLast Go.Proofs.YtkackggplinelaaW.PrintMore
set_option linter.unusedVariables false
set_option linter.unusedSimpArgs false
theorem round_some (a n : Int) (h0 : 0 < n) (h1 : n < 4611686018427387904) : ∃ r, PBits.scarpalike_Round.f a n = some r ∧ 0 ≤ r ∧ r < n := by
  unfold PBits.scarpalike_Round.f
  rw [if_neg (by omega)]
  have h2 : -n < Int.tmod a n ∧ Int.tmod a n < n := by
    rcases Int.lt_or_le a 0 with h | h
    · have e : Int.tmod a n = -Int.tmod (-a) n := by rw [Int.neg_tmod]; omega
      have := Int.tmod_lt_of_pos (-a) h0
      have := Int.tmod_nonneg n (show 0 ≤ -a by omega)
      omega
    · have := Int.tmod_lt_of_pos a h0
      have := Int.tmod_nonneg n h
      omega
  generalize Int.tmod a n = t at *
  by_cases h : t < 0
  · rw [if_pos h]; exact ⟨_, rfl, by unfold wrap64; omega, by unfold wrap64; omega⟩
  · rw [if_neg h]; exact ⟨_, rfl, by omega, h2.2⟩
theorem of_calls_n (A1 : Option Addr) (n c1 : Nat) (l : List Int) (w : World) (hn : l.length = n) (hr : Kd.C (Kd.int .u8) w A1 l.length l) (hb : ∀ x ∈ l, 0 ≤ x ∧ x < 256) (hl : n ≤ 4611686018427387904) :
    Calls Try.prog 16 #[.slice A1 n c1] w fun e w' => e = .returned (.int .u32 (crcOf l)) ∧ Below w.heap.size w w' := by
  subst hn
  exact of_calls A1 c1 l w hr hb hl
theorem round_calls (a n r : Int) (w : World) (h0 : 0 < n) (h : PBits.scarpalike_Round.f a n = some r) : Calls Try.prog 23 #[.int .i64 a, .int .i64 n] w fun e w' => e = .returned (.int .i64 r) ∧ w' = w := by
  unfold PBits.scarpalike_Round.f at h
  rw [if_neg (by omega)] at h
  have hn : ¬ n = 0 := by omega
  have hn' : (n == 0) = false := by simpa using hn
  by_cases c : Int.tmod a n < 0
  · rw [if_pos c] at h
    obtain rfl := Option.some.inj h
    have cb : decide (Int.tmod a n < 0) = true := by simpa using c
    clear h
    go_enter Try.func23, Try.ntmps23
    go_wp2
    go_ret
    exact ⟨rfl, rfl⟩
  · rw [if_neg c] at h
    obtain rfl := Option.some.inj h
    have cb : decide (Int.tmod a n < 0) = false := by simpa using c
    clear h
    go_enter Try.func23, Try.ntmps23
    go_wp2
    go_ret
    exact ⟨rfl, rfl⟩
/-- A bit turned, in the walk's own words. -/
def bitx (l : List Int) (i : Int) : List Int := l.set (i / 8).toNat (Go.bits .xor .u8 (rdOf (0 : Int) l (i / 8)) (2 ^ (i % 8).toNat % 256))
def bytx (l : List Int) (i : Int) (r : Int) : List Int := l.set (i / 8).toNat (Go.bits .xor .u8 (rdOf (0 : Int) l (i / 8)) (r + 1))
theorem bitx_len (l : List Int) (i : Int) : (bitx l i).length = l.length := by simp [bitx]
theorem bytx_len (l : List Int) (i r : Int) : (bytx l i r).length = l.length := by simp [bytx]
structure FlipsFact (l : List Int) (i j r : Int) : Prop where
  one : crcOf (bitx l i) ≠ crcOf l
  two : (crcOf (bitx (bitx l i) j) ≠ crcOf l) ↔ i ≠ j
  byt : crcOf (bytx l i r) ≠ crcOf l
  b1 : ∀ x ∈ bitx l i, 0 ≤ x ∧ x < 256
  b2 : ∀ x ∈ bitx (bitx l i) j, 0 ≤ x ∧ x < 256
  b3 : ∀ x ∈ bytx l i r, 0 ≤ x ∧ x < 256
set_option maxHeartbeats 4000000 in
theorem flips_calls (A1 : Option Addr) (c1 : Nat) (l : List Int) (i0 j0 x0 : Int) (w : World) (hr : Kd.C (Kd.int .u8) w A1 l.length l) (hb : ∀ x ∈ l, 0 ≤ x ∧ x < 256) (hl : l.length ≤ 4611686018427387904)
    (hF : ∀ i j r : Int, l.length ≤ 200 → 0 ≤ i → i < 8 * (l.length : Int) → 0 ≤ j → j < 8 * (l.length : Int) → 0 ≤ r → r < 255 → FlipsFact l i j r) :
    Calls Try.prog 6 #[.slice A1 l.length c1, .int .i64 i0, .int .i64 j0, .int .i64 x0] w fun e w' => e = .returned (.bool true) ∧ Below w.heap.size w w' := by
  have HB := Lib.hid hb
  have HL := Lib.hid hl
  have HR := Lib.hid hr
  have HF := Lib.hid hF
  clear hb hl hr hF
  by_cases hbig : (200 : Int) < l.length
  · have d1 : decide ((200 : Int) < l.length) = true := by simpa using hbig
    have d1' : decide (200 < l.length) = true := by simp; omega
    go_enter Try.func6, Try.ntmps6
    go_wp2_with (go_at_call 15; refine (awake_calls _).mono ?_; rintro e w' ⟨rfl, hb1⟩)
    go_ret
    exact ⟨rfl, hb1⟩
  · have d1 : decide ((200 : Int) < l.length) = false := by simpa using hbig
    have d1' : decide (200 < l.length) = false := by simp; omega
    by_cases hz : l.length = 0
    · have d2 : ((l.length : Int) == 0) = true := by simp [hz]
      have HZ := Lib.hid hz
      clear hz
      go_enter Try.func6, Try.ntmps6
      go_wp2_with (go_at_call 15; refine (awake_calls _).mono ?_; rintro e w' ⟨rfl, hb1⟩)
      go_ret
      exact ⟨rfl, hb1⟩
    · have d2 : ((l.length : Int) == 0) = false := beq_eq_false_iff_ne.mpr (by omega)
      have hpos : 0 < l.length := by omega
      obtain ⟨i, ei, p1, q1⟩ := round_some i0 (8 * (l.length : Int)) (by omega) (by omega)
      obtain ⟨j, ej, p2, q2⟩ := round_some j0 (8 * (l.length : Int)) (by omega) (by omega)
      obtain ⟨r, er, p3, q3⟩ := round_some x0 255 (by omega) (by omega)
      have HF1 := Lib.hid (HF.out i j r (by omega) p1 q1 p2 q2 p3 q3)
      have EI := Lib.hid ei
      have EJ := Lib.hid ej
      have ER := Lib.hid er
      clear ei ej er hz
      obtain ⟨x, hx⟩ : ∃ x, x = crcOf l := ⟨_, rfl⟩
      have HX := Lib.hid hx
      clear hx
      have t1 : True := trivial
      have t2 : True := trivial
      go_enter Try.func6, Try.ntmps6
      go_wp2_with (first
        | (go_at_call 16; have _t := t1; clear t1; go_must (refine (of_calls A1 c1 l _ HR.out HB.out HL.out).mono ?_; rintro e w1 ⟨rfl, hb1⟩; rw [← HX.out]))
        | (go_at_call 23; have _t := t2; clear t2; go_must (refine (PBits.scarpalike_Round.calls i0 (8 * (l.length : Int)) i _ EI.out).mono ?_; rintro e w' ⟨rfl, ⟨⟨n1, rfl⟩⟩⟩))
        | (go_at_call 23; go_must (refine (PBits.scarpalike_Round.calls j0 (8 * (l.length : Int)) j _ EJ.out).mono ?_; rintro e w' ⟨rfl, ⟨⟨n2, rfl⟩⟩⟩))
        | ((with_reducible refine gate_builtin (b := .append) (xs := #[.tmp 35, .tmp 36]) rfl ?_); at_builtin; go_must (refine Kd.R_append_row (Value.int .u8) 0 (w0 := w) w.heap.size rfl (.tmp 35) (.tmp 36) 24 5 (.int .u8 0) 1 rfl Try.underlying24 info5 rfl (by decide) (.slice (some ⟨w1.heap.size, 0, none⟩) 0 0) [] l A1 l.length c1 (fun _ => True) rfl rfl (fun _ _ => trivial) (Kd.R_drewN (R_lit8 w1 _ [] hb1.size (by decide)) _) (Kd.C_drewN (Kd.C_alloc (Kd.C_below HR.out hb1) _) _) (pw_below_drewN (below_alloc hb1 _) _) ?aS ?aL ?_; (case aS => have := hb1.size; simp; omega); (case aL => simp; omega); intro v2 w2 hO2 hB2 hg2 hat2)))
      have hO : Kd.R (Kd.int .u8) 5 w2 w.heap.size (fun _ => True) v2 l := hO2
      obtain ⟨g, cap, rfl, hgb, hgl, cl, hgc⟩ := Kd.R_form hO hpos
      obtain ⟨k, hk⟩ : ∃ k, k = i / 8 := ⟨_, rfl⟩
      obtain ⟨m, hm⟩ : ∃ m, m = i % 8 := ⟨_, rfl⟩
      have hi0 : 0 ≤ k := by omega
      have hi1 : k < (l.length : Int) := by omega
      have hm0 : 0 ≤ m := by omega
      have hm1 : m ≤ 8 := by omega
      have ek : IntKind.i64.wrap (i.tdiv 8) = k := by rw [IntKind.wrap_i64, Int.tdiv_eq_ediv_of_nonneg p1]; omega
      have em : i.tmod 8 = m := by rw [Int.tmod_eq_emod_of_nonneg p1]; omega
      obtain ⟨hx1, hf1⟩ := Kd.R_celln 0 hO k hi0 hi1
      have HK := Lib.hid hk
      have HM := Lib.hid hm
      clear hk hm
      have HO := Lib.hid hO
      clear hO hO2 hg2 hat2 hgc
      go_still_tail 13, (by kernel_rfl)
      change wpList _ _ _ _ _ w2.drew
      have HO3 : Hid (Kd.R (Kd.int .u8) 5 w2.drew w.heap.size (fun _ => True) (.slice (some ⟨g, 0, none⟩) l.length cap) l) := Lib.hid (Kd.R_drew HO.out)
      have hB3 : Below w.heap.size w w2.drew := below_drew1 hB2
      have hx3 : w2.drew.cell? ⟨g, k.toNat, none⟩ = some (.int .u8 (rdOf (0 : Int) l k)) := hx1
      have hf3 : w2.drew.frozen? ⟨g, k.toNat, none⟩ = false := hf1
      clear hx1 hf1 HO hB2
      generalize w2.drew = w3 at *
      obtain ⟨y, hy⟩ : ∃ y, y = bitx l i := ⟨_, rfl⟩
      have hyl : y.length = l.length := by rw [hy, bitx_len]
      have HO4 : Hid (Kd.R (Kd.int .u8) 5 (w3.setCell ⟨g, k.toNat, none⟩ (.int .u8 (Go.bits .xor .u8 (rdOf (0 : Int) l k) (2 ^ m.toNat % 256)))) w.heap.size (fun _ => True) (.slice (some ⟨g, 0, none⟩) l.length cap) y) := Lib.hid (by
        have := Kd.R_putn HO3.out k (Go.bits .xor .u8 (rdOf (0 : Int) l k) (2 ^ m.toNat % 256))
        rw [hy]; unfold bitx; rw [← HK.out, ← HM.out]; exact this)
      have F1 := Lib.hid (show ∀ q ∈ y, 0 ≤ q ∧ q < 256 by rw [hy]; exact HF1.out.b1)
      have Y1 := Lib.hid hy
      have Y2 := Lib.hid hyl
      clear hy hyl
      have hB4 := Below.setCell (p := ⟨g, k.toNat, none⟩) hB3 hgb (.int .u8 (Go.bits .xor .u8 (rdOf (0 : Int) l k) (2 ^ m.toNat % 256)))
      have t3 : True := trivial
      go_wp2_with (go_at_call 16; have _t := t3; clear t3; go_must (refine (of_calls_n (some ⟨g, 0, none⟩) l.length cap y _ Y2.out (Kd.R_reads' HO4.out).2.2 F1.out HL.out).mono ?_; rintro e w5 ⟨rfl, hb5⟩; have hB5 := below_step hB4 hb5; have HO5 := Lib.hid (Kd.R_below HO4.out hb5)))
      clear hB3 hB4 hx3 hf3 HO4 HO3 ek em hi0 hi1 hm0 hm1 HK HM
      obtain ⟨k2, hk⟩ : ∃ k, k = j / 8 := ⟨_, rfl⟩
      obtain ⟨m2, hm⟩ : ∃ m, m = j % 8 := ⟨_, rfl⟩
      have hi0 : 0 ≤ k2 := by omega
      have hi1 : k2 < (l.length : Int) := by omega
      have hm0 : 0 ≤ m2 := by omega
      have hm1 : m2 ≤ 8 := by omega
      have ek : IntKind.i64.wrap (j.tdiv 8) = k2 := by rw [IntKind.wrap_i64, Int.tdiv_eq_ediv_of_nonneg p2]; omega
      have em : j.tmod 8 = m2 := by rw [Int.tmod_eq_emod_of_nonneg p2]; omega
      obtain ⟨hx1, hf1⟩ := Kd.R_celln 0 HO5.out k2 hi0 hi1
      have HK := Lib.hid hk
      have HM := Lib.hid hm
      clear hk hm
      go_still_tail 13, (by kernel_rfl)
      change wpList _ _ _ _ _ w5.drew
      have HO3 : Hid (Kd.R (Kd.int .u8) 5 w5.drew w.heap.size (fun _ => True) (.slice (some ⟨g, 0, none⟩) l.length cap) y) := Lib.hid (Kd.R_drew HO5.out)
      have hB3 : Below w.heap.size w w5.drew := below_drew1 hB5
      have hx3 : w5.drew.cell? ⟨g, k2.toNat, none⟩ = some (.int .u8 (rdOf (0 : Int) y k2)) := hx1
      have hf3 : w5.drew.frozen? ⟨g, k2.toNat, none⟩ = false := hf1
      clear hx1 hf1 HO5 hB5 hb5
      generalize w5.drew = w6 at *
      obtain ⟨y2, hy⟩ : ∃ y2, y2 = bitx y j := ⟨_, rfl⟩
      have hyl : y2.length = l.length := by rw [hy, bitx_len]; exact Y2.out
      have HO4 : Hid (Kd.R (Kd.int .u8) 5 (w6.setCell ⟨g, k2.toNat, none⟩ (.int .u8 (Go.bits .xor .u8 (rdOf (0 : Int) y k2) (2 ^ m2.toNat % 256)))) w.heap.size (fun _ => True) (.slice (some ⟨g, 0, none⟩) l.length cap) y2) := Lib.hid (by
        have := Kd.R_putn HO3.out k2 (Go.bits .xor .u8 (rdOf (0 : Int) y k2) (2 ^ m2.toNat % 256))
        rw [hy]; unfold bitx; rw [← HK.out, ← HM.out]; exact this)
      have F2 := Lib.hid (show ∀ q ∈ y2, 0 ≤ q ∧ q < 256 by rw [hy, Y1.out]; exact HF1.out.b2)
      have Y3 := Lib.hid hy
      have Y4 := Lib.hid hyl
      clear hy hyl
      have hB4 := Below.setCell (p := ⟨g, k2.toNat, none⟩) hB3 hgb (.int .u8 (Go.bits .xor .u8 (rdOf (0 : Int) y k2) (2 ^ m2.toNat % 256)))
      have t3 : True := trivial
      go_wp2_with (first
        | (go_at_call 16; have _t := t3; clear t3; go_must (refine (of_calls_n (some ⟨g, 0, none⟩) l.length cap y2 _ Y4.out (Kd.R_reads' HO4.out).2.2 F2.out HL.out).mono ?_; rintro e w7 ⟨rfl, hb7⟩; have hB7 := below_step hB4 hb7))
        | ((with_reducible refine gate_builtin (b := .append) (xs := #[.tmp 68, .tmp 69]) rfl ?_); at_builtin; go_must (refine Kd.R_append_row (Value.int .u8) 0 (w0 := w) w.heap.size rfl (.tmp 68) (.tmp 69) 24 5 (.int .u8 0) 1 rfl Try.underlying24 info5 rfl (by decide) (.slice (some ⟨w7.heap.size, 0, none⟩) 0 0) [] l A1 l.length c1 (fun _ => True) rfl rfl (fun _ _ => trivial) (R_lit8 w7 _ [] hB7.size (by decide)) (Kd.C_alloc (Kd.C_below HR.out hB7) _) (below_alloc hB7 _) ?aS ?aL ?_; (case aS => have := hB7.size; simp; omega); (case aL => simp; omega); intro v8 w8 hO8 hB8 hg8 hat8)))
      clear hB3 hB4 hx3 hf3 HO4 HO3 ek em hi0 hi1 hm0 hm1 HK HM hb7
      have hO : Kd.R (Kd.int .u8) 5 w8 w.heap.size (fun _ => True) v8 l := hO8
      obtain ⟨g3, cap3, rfl, hgb3, hgl3, cl3, hgc⟩ := Kd.R_form hO hpos
      obtain ⟨k3, hk⟩ : ∃ k, k = i / 8 := ⟨_, rfl⟩
      have hi0 : 0 ≤ k3 := by omega
      have hi1 : k3 < (l.length : Int) := by omega
      have ek : IntKind.i64.wrap (i.tdiv 8) = k3 := by rw [IntKind.wrap_i64, Int.tdiv_eq_ediv_of_nonneg p1]; omega
      have er : IntKind.i64.wrap (r + 1) = r + 1 := by rw [IntKind.wrap_i64]; omega
      obtain ⟨hx1, hf1⟩ := Kd.R_celln 0 hO k3 hi0 hi1
      have HK := Lib.hid hk
      have HO5 := Lib.hid hO
      clear hk hO hO8 hg8 hat8 hgc
      go_still_tail 14, (by kernel_rfl)
      refine wpStill_step (fun K hK => ?_)
      go_simp
      refine ⟨_, round_calls x0 255 r _ (by decide) ER.out, hK _ ?_⟩
      clear hK K
      repeat still_step
      refine wpStill_nil ?_
      change wpList _ _ _ _ _ w8.drew
      have HO3 : Hid (Kd.R (Kd.int .u8) 5 w8.drew w.heap.size (fun _ => True) (.slice (some ⟨g3, 0, none⟩) l.length cap3) l) := Lib.hid (Kd.R_drew HO5.out)
      have hB3 : Below w.heap.size w w8.drew := below_drew1 hB8
      have hx3 : w8.drew.cell? ⟨g3, k3.toNat, none⟩ = some (.int .u8 (rdOf (0 : Int) l k3)) := hx1
      have hf3 : w8.drew.frozen? ⟨g3, k3.toNat, none⟩ = false := hf1
      clear hx1 hf1 HO5 hB8
      generalize w8.drew = w9 at *
      obtain ⟨y3, hy⟩ : ∃ y3, y3 = bytx l i r := ⟨_, rfl⟩
      have hyl : y3.length = l.length := by rw [hy, bytx_len]
      have HO4 : Hid (Kd.R (Kd.int .u8) 5 (w9.setCell ⟨g3, k3.toNat, none⟩ (.int .u8 (Go.bits .xor .u8 (rdOf (0 : Int) l k3) (r + 1)))) w.heap.size (fun _ => True) (.slice (some ⟨g3, 0, none⟩) l.length cap3) y3) := Lib.hid (by
        have := Kd.R_putn HO3.out k3 (Go.bits .xor .u8 (rdOf (0 : Int) l k3) (r + 1))
        rw [hy]; unfold bytx; rw [← HK.out]; exact this)
      have F3 := Lib.hid (show ∀ q ∈ y3, 0 ≤ q ∧ q < 256 by rw [hy]; exact HF1.out.b3)
      have Y5 := Lib.hid hy
      have Y6 := Lib.hid hyl
      have hB4 := Below.setCell (p := ⟨g3, k3.toNat, none⟩) hB3 hgb3 (.int .u8 (Go.bits .xor .u8 (rdOf (0 : Int) l k3) (r + 1)))
      have N1 : (crcOf y != x) = true := by rw [bne_iff_ne, HX.out, Y1.out]; exact HF1.out.one
      have N2 : (crcOf y2 != x) = (i != j) := by
        rw [Bool.eq_iff_iff, bne_iff_ne, bne_iff_ne, HX.out, Y3.out, Y1.out]; exact HF1.out.two
      have N3 : (crcOf y3 != x) = true := by rw [bne_iff_ne, HX.out, hy]; exact HF1.out.byt
      clear hy hyl
      generalize crcOf y = z1 at *
      generalize crcOf y2 = z2 at *
      obtain ⟨z3, hz3⟩ : ∃ z3, z3 = crcOf y3 := ⟨_, rfl⟩
      rw [← hz3] at N3
      have HZ3 := Lib.hid hz3
      clear hz3
      obtain ⟨b0, hb0⟩ : ∃ b0, (i != j) = b0 := ⟨_, rfl⟩
      rw [hb0] at N2
      go_wp2_with (first
        | (go_at_call 16; go_must (refine (of_calls_n (some ⟨g3, 0, none⟩) l.length cap3 y3 _ Y6.out (Kd.R_reads' HO4.out).2.2 F3.out HL.out).mono ?_; rintro e w10 ⟨rfl, hb10⟩; rw [← HZ3.out]; have hB10 := below_step hB4 hb10))
        | (go_at_call 15; go_must (refine (awake_calls _).mono ?_; rintro e w11 ⟨rfl, hb11⟩)))
      go_ret
      exact ⟨rfl, below_step hB10 hb11⟩

/-! ### What it comes to -/
theorem nat_len (l : List Int) : (nat l).length = l.length := by simp [nat]
theorem nat_get (l : List Int) (p : Nat) (hp : p < l.length) : (nat l)[p]'(by rw [nat_len]; exact hp) = (rdOf (0 : Int) l (p : Int)).toNat := by
  simp [nat, rdOf, List.getD_eq_getElem?_getD, List.getElem?_eq_getElem hp]
theorem rdOf_byte {l : List Int} (h : ∀ x ∈ l, 0 ≤ x ∧ x < 256) (i : Int) : 0 ≤ rdOf (0 : Int) l i ∧ rdOf (0 : Int) l i < 256 := by
  unfold rdOf
  by_cases hi : i.toNat < l.length
  · rw [List.getD_eq_getElem?_getD, List.getElem?_eq_getElem hi]; exact h _ (List.getElem_mem hi)
  · rw [List.getD_eq_getElem?_getD, List.getElem?_eq_none (by omega)]; simp
/-- A place put over by d. -/
theorem set_nat (l : List Int) (hb : ∀ x ∈ l, 0 ≤ x ∧ x < 256) (k d : Int) (h0 : 0 ≤ k) (h1 : k < l.length) (d0 : 0 ≤ d) (d1 : d < 256) :
    (∀ x ∈ l.set k.toNat (Go.bits .xor .u8 (rdOf (0 : Int) l k) d), 0 ≤ x ∧ x < 256) ∧ ∃ hp : k.toNat < (nat l).length, nat (l.set k.toNat (Go.bits .xor .u8 (rdOf (0 : Int) l k) d)) = (nat l).set k.toNat ((nat l)[k.toNat] ^^^ d.toNat) := by
  obtain ⟨q0, q1⟩ := rdOf_byte hb k
  have hx : (rdOf (0 : Int) l k).toNat ^^^ d.toNat < 2 ^ 8 := Nat.xor_lt_two_pow (by omega) (by omega)
  have e : Go.bits .xor .u8 (rdOf (0 : Int) l k) d = (((rdOf (0 : Int) l k).toNat ^^^ d.toNat : Nat) : Int) := by
    rw [show rdOf (0 : Int) l k = (((rdOf (0 : Int) l k).toNat : Nat) : Int) by omega, show d = ((d.toNat : Nat) : Int) by omega, CrcP.xor_u8 _ _ (by omega) (by omega)]
    rfl
  refine ⟨fun x hx' => ?_, by rw [nat_len]; omega, ?_⟩
  · rcases List.mem_or_eq_of_mem_set hx' with h | h
    · exact hb x h
    · rw [h, e]; omega
  · rw [e]
    have hk : k.toNat < l.length := by omega
    have hg := nat_get l k.toNat hk
    rw [show ((k.toNat : Nat) : Int) = k by omega] at hg
    rw [hg]
    simp [nat, List.map_set]
theorem pow_bit (i : Int) (h : 0 ≤ i) : (2 : Int) ^ (i % 8).toNat % 256 = ((2 ^ (i.toNat % 8) : Nat) : Int) ∧ 2 ^ (i.toNat % 8) < 256 := by
  have e : (i % 8).toNat = i.toNat % 8 := by omega
  rw [e]
  have : i.toNat % 8 = 0 ∨ i.toNat % 8 = 1 ∨ i.toNat % 8 = 2 ∨ i.toNat % 8 = 3 ∨ i.toNat % 8 = 4 ∨ i.toNat % 8 = 5 ∨ i.toNat % 8 = 6 ∨ i.toNat % 8 = 7 := by omega
  rcases this with h | h | h | h | h | h | h | h <;> rw [h] <;> decide
theorem bitx_nat (l : List Int) (hb : ∀ x ∈ l, 0 ≤ x ∧ x < 256) (i : Int) (h0 : 0 ≤ i) (h1 : i < 8 * l.length) :
    (∀ x ∈ bitx l i, 0 ≤ x ∧ x < 256) ∧ ∃ hp : i.toNat / 8 < (nat l).length, nat (bitx l i) = (nat l).set (i.toNat / 8) ((nat l)[i.toNat / 8] ^^^ 2 ^ (i.toNat % 8)) := by
  obtain ⟨e1, e2⟩ := pow_bit i h0
  have e3 : (i / 8).toNat = i.toNat / 8 := by omega
  obtain ⟨b, hp, h⟩ := set_nat l hb (i / 8) (2 ^ (i % 8).toNat % 256) (by omega) (by omega) (by rw [e1]; omega) (by rw [e1]; omega)
  refine ⟨b, by rw [nat_len]; omega, ?_⟩
  unfold bitx
  rw [h, e1]
  simp only [e3, Int.toNat_natCast]
theorem bytx_nat (l : List Int) (hb : ∀ x ∈ l, 0 ≤ x ∧ x < 256) (i r : Int) (h0 : 0 ≤ i) (h1 : i < 8 * l.length) (r0 : 0 ≤ r) (r1 : r < 255) :
    (∀ x ∈ bytx l i r, 0 ≤ x ∧ x < 256) ∧ ∃ hp : i.toNat / 8 < (nat l).length, nat (bytx l i r) = (nat l).set (i.toNat / 8) ((nat l)[i.toNat / 8] ^^^ (r + 1).toNat) := by
  have e3 : (i / 8).toNat = i.toNat / 8 := by omega
  obtain ⟨b, hp, h⟩ := set_nat l hb (i / 8) (r + 1) (by omega) (by omega) (by omega) (by omega)
  refine ⟨b, by rw [nat_len]; omega, ?_⟩
  unfold bytx
  rw [h]
  simp only [e3]
theorem crcOf_ne {a b : List Int} (ha : ∀ x ∈ a, 0 ≤ x ∧ x < 256) (hb : ∀ x ∈ b, 0 ≤ x ∧ x < 256) : crcOf a ≠ crcOf b ↔ CrcP.crc (nat a) ≠ CrcP.crc (nat b) := by
  rw [crcOf_nat a ha, crcOf_nat b hb]
  omega
theorem flipsFact (l : List Int) (hb : ∀ x ∈ l, 0 ≤ x ∧ x < 256) (i j r : Int) (hl : l.length ≤ 200) (i0 : 0 ≤ i) (i1 : i < 8 * (l.length : Int)) (j0 : 0 ≤ j) (j1 : j < 8 * (l.length : Int)) (r0 : 0 ≤ r) (r1 : r < 255) : FlipsFact l i j r := by
  obtain ⟨b1, p1, e1⟩ := bitx_nat l hb i i0 i1
  obtain ⟨b2, p2, e2⟩ := bitx_nat (bitx l i) b1 j j0 (by rw [bitx_len]; exact j1)
  obtain ⟨b3, p3, e3⟩ := bytx_nat l hb i r i0 i1 r0 r1
  have hpi := (pow_bit i i0).2
  have hpj := (pow_bit j j0).2
  have g1 : 2 ^ (i.toNat % 8) ≠ 0 := by have := Nat.two_pow_pos (i.toNat % 8); omega
  refine ⟨?_, ?_, ?_, b1, b2, b3⟩
  · rw [crcOf_ne b1 hb, e1]
    exact CrcP.crc_turn_ne _ _ _ p1 (by omega) g1
  · rw [crcOf_ne b2 hb, e2]
    have h := CrcP.crc_two (nat l) (nat (bitx l i)) (i.toNat / 8) (j.toNat / 8) (2 ^ (i.toNat % 8)) (2 ^ (j.toNat % 8)) p1 p2 e1
    rw [nat_len] at h
    constructor
    · intro hne hij
      subst hij
      rw [Nat.xor_self] at h
      exact hne (CrcP.xor_eq_zero h)
    · intro hij
      apply CrcP.ne_of_xor
      rw [h]
      exact CrcP.two_ne l.length i.toNat j.toNat (by omega) (by omega) hl (by omega)
  · rw [crcOf_ne b3 hb, e3]
    exact CrcP.crc_turn_ne _ _ _ p3 (by omega) (by omega)
end Go.Proofs.Ytkackggplinelaa.Crc
