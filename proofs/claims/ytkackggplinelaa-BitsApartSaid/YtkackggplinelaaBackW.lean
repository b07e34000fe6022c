/- The walk of BitsBack: what was laid is read as it was, whatever stands behind; cut short it is none. -/
import Derived.Test.YtkackggplinelaaProg
import Derived.Below
import Derived.Deep.Draws
import Derived.Deep.AppendLies
import Derived.Maps.AppendAt
import Derived.OwnWalk
import Derived.Laws.BytesArg
import Derived.Laws.MakeOwn
import Derived.Laws.OwnMore
import Derived.Deep.OwnRows
import Derived.Tactics
import Derived.Lib.ConvBytes
import Derived.Laws.Slices
import Derived.WalkKit
import Derived.KernelRfl
import Derived.RowKit3
import Derived.Deep.LoopGhost
import Derived.Deep.QuietTactic
import Derived.BigQuiet
import Derived.WideLaws
import Derived.Deep.DeepCutAuto
import Derived.Deep.CutBlock
import Derived.Deep.RegionHeld3
import Derived.Laws.Rows
import Derived.Lib.AppendStr
import Derived.ArgAppend
import Derived.Laws.IdiomCopy
import Derived.OrdersHeld
import Derived.Laws.BitsLemmas
import Derived.RowKit
import Derived.Test.YtkackggplinelaaWWords
import Derived.Test.YtkackggplinelaaWLast
import Derived.Test.YtkackggplinelaaWTab
import Derived.Test.YtkackggplinelaaWFour
import Derived.Test.YtkackggplinelaaWQPut
import Derived.Test.YtkackggplinelaaWApart
import Derived.Test.YtkackggplinelaaWArr
import Derived.Test.YtkackggplinelaaWZeros
import Derived.Test.YtkackggplinelaaWFoot
import Derived.Test.YtkackggplinelaaWKept
import Derived.Test.YtkackggplinelaaWShare
import Derived.Test.YtkackggplinelaaWN
import Derived.Test.YtkackggplinelaaWFootNe
import Derived.Test.YtkackggplinelaaWAt
import Derived.Test.YtkackggplinelaaWEqStruct
import Derived.Test.YtkackggplinelaaWRepsOne
import Derived.Test.YtkackggplinelaaWInv
import Derived.Test.YtkackggplinelaaWInvWords
import Derived.Test.YtkackggplinelaaWGuard
import Derived.Test.YtkackggplinelaaWNEv
import Derived.Test.YtkackggplinelaaWMore
import Derived.Lib.Hide
import Derived.Deep.DeepMust
import Derived.Test.YtkackggplinelaaUnv
import Derived.Test.YtkackggplinelaaPBitsF
namespace Go.Proofs.Ytkackggplinelaa.Back
open Go.RowKit Go.Proofs.YtkackggplinelaaW.PrintWords Go.Proofs.YtkackggplinelaaW.PrintLast Go.Proofs.YtkackggplinelaaW.PrintMore Go.Proofs.Ytkackggplinelaa.PBits Go.Proofs.Ytkackggplinelaa.Bits
set_option linter.unusedVariables false
set_option linter.unusedSimpArgs false

theorem info5 : (Try.prog.info? 5).map (fun i => (i.zero, i.size, i.bytes)) = some (some (.int .u8 0), 1, 1) := by kernel_rfl
theorem R_lit8 (w : World) (base : Nat) (l : List Int) (hb : base ≤ w.heap.size) (hl : l.length ≤ 9223372036854775807) :
    Kd.R (Kd.int .u8) 5 (w.alloc (.cells (l.map (Value.int .u8)).toArray 5)) base (fun _ => True) (.slice (some ⟨w.heap.size, 0, none⟩) l.length l.length) l :=
  Kd.R_of_own (own_lit w base 5 .u8 l hb hl) (fun _ _ => trivial)
theorem drawn_below {w w' : World} (h : Drawn0 w w') : Below w.heap.size w w' := h.below
theorem varint_calls (v : Nat) (hv : v < 2 ^ 64) (w : World) : Calls Try.prog 13 #[.int .u64 (v : Int)] w fun e w' => ∃ v0, e = .returned v0 ∧ Kd.R (Kd.int .u8) 5 w' w.heap.size (fun _ => True) v0 (vb v) ∧ Below w.heap.size w w' :=
  bits_Varint.calls 11 _ _ w (varint_f v 11 hv (by decide))
theorem put64_calls (v : Int) (w : World) : Calls Try.prog 24 #[.int .u64 v] w fun e w' => ∃ v0, e = .returned v0 ∧ Kd.R (Kd.int .u8) 5 w' w.heap.size (fun _ => True) v0 (l8 v) ∧ Below w.heap.size w w' :=
  bits_Put64.calls 9 _ _ w (by unfold bits_Put64.f; rw [put8 v 9 (by decide)]; rfl)
theorem put32_calls (v : Int) (h0 : 0 ≤ v) (h1 : v < 2 ^ 32) (w : World) : Calls Try.prog 25 #[.int .u32 v] w fun e w' => ∃ v0, e = .returned v0 ∧ Kd.R (Kd.int .u8) 5 w' w.heap.size (fun _ => True) v0 (l4 v) ∧ Below w.heap.size w w' :=
  bits_Put32.calls 5 _ _ w (by unfold bits_Put32.f; rw [wraps_u64 v h0 (by omega), put4 v 5 (by decide)]; rfl)
theorem unv_calls (A : Option Addr) (n c : Nat) (l : List Int) (w : World) (hn : l.length = n) (hr : Kd.C (Kd.int .u8) w A l.length l) (hc : l.length ≤ c) (hl : AllB l) (hlen : l.length < 2 ^ 62) (r1 r2 : Int) (h : uv l 0 0 = (r1, r2)) :
    Calls Try.prog 28 #[.slice A n c] w fun e w' => e = .returned (.tuple #[.int .u64 r1, .int .i64 r2]) ∧ Below w.heap.size w w' := by
  subst hn
  refine (bits_Unvarint.calls 22 A c l r1 r2 w hr hc (by rw [unvarint_f l hl hlen 22 (by decide), h])).mono ?_
  rintro e w' ⟨rfl, hd⟩
  exact ⟨rfl, hd.below⟩
theorem get64_calls (A : Option Addr) (n c : Nat) (l : List Int) (w : World) (hn : l.length = n) (hr : Kd.C (Kd.int .u8) w A l.length l) (hc : l.length ≤ c) (r1 : Int) (r2 : Bool) (h : bits_get.f 9 l 8 = some (r1, r2)) :
    Calls Try.prog 31 #[.slice A n c] w fun e w' => e = .returned (.tuple #[.int .u64 r1, .bool r2]) ∧ Below w.heap.size w w' := by
  subst hn
  refine (bits_Get64.calls 9 A c l r1 r2 w hr hc (by unfold bits_Get64.f; rw [h]; rfl)).mono ?_
  rintro e w' ⟨rfl, hd⟩
  exact ⟨rfl, hd.below⟩
theorem get32_calls (A : Option Addr) (n c : Nat) (l : List Int) (w : World) (hn : l.length = n) (hr : Kd.C (Kd.int .u8) w A l.length l) (hc : l.length ≤ c) (r1 : Int) (r2 : Bool) (h : bits_get.f 5 l 4 = some (r1, r2)) (h0 : 0 ≤ r1) (h1 : r1 < 4294967296) :
    Calls Try.prog 26 #[.slice A n c] w fun e w' => e = .returned (.tuple #[.int .u32 r1, .bool r2]) ∧ Below w.heap.size w w' := by
  subst hn
  refine (bits_Get32.calls 5 A c l r1 r2 w hr hc (by unfold bits_Get32.f; rw [h]; simp; omega)).mono ?_
  rintro e w' ⟨rfl, hd⟩
  exact ⟨rfl, hd.below⟩
theorem awake6_calls (w : World) : Calls Try.prog 14 #[] w fun e w' => e = .returned (.bool true) ∧ Below w.heap.size w w' :=
  scarplaw6_awake.calls 11 true w (awake 11 (by decide))
theorem round_some (a n : Int) (h0 : 0 < n) (h1 : n < 4611686018427387904) : ∃ r, scarpalike_Round.f a n = some r ∧ 0 ≤ r ∧ r < n := by
  unfold scarpalike_Round.f
  rw [if_neg (by omega)]
  have h2 : -n < Int.tmod a n ∧ Int.tmod a n < n := by
    rcases Int.lt_or_le a 0 with h | h
    · have e : Int.tmod a n = -Int.tmod (-a) n := by rw [Int.neg_tmod]; omega
      have := Int.tmod_lt_of_pos (-a) h0
      have := Int.tmod_nonneg n (show 0 ≤ -a by omega)
      omega
    · have := Int.tmod_lt_of_pos a h0
      have := Int.tmod_nonneg n h
      omega
  generalize Int.tmod a n = t at *
  by_cases h : t < 0
  · rw [if_pos h]; exact ⟨_, rfl, by unfold wrap64; omega, by unfold wrap64; omega⟩
  · rw [if_neg h]; exact ⟨_, rfl, by omega, h2.2⟩
theorem rnd_calls (a n r : Int) (w : World) (h : scarpalike_Round.f a n = some r) : Calls Try.prog 23 #[.int .i64 a, .int .i64 n] w fun e w' => e = .returned (.int .i64 r) ∧ Below w.heap.size w w' := by
  refine (scarpalike_Round.calls a n r w h).mono ?_
  rintro e w' ⟨rfl, hd⟩
  exact ⟨rfl, hd.below⟩
theorem AllB_append {a b : List Int} (ha : AllB a) (hb : AllB b) : AllB (a ++ b) := fun x hx => by
  rcases List.mem_append.1 hx with h | h
  · exact ha x h
  · exact hb x h
theorem AllB_take {a : List Int} (ha : AllB a) (n : Nat) : AllB (a.take n) := fun x hx => ha x (List.mem_of_mem_take hx)
theorem allB_l8 (v : Int) : AllB (l8 v) := by intro x hx; simp [l8] at hx; omega
theorem allB_l4 (v : Int) : AllB (l4 v) := by intro x hx; simp [l4] at hx; omega
theorem g8_l8 (v : Nat) (hv : v < 2 ^ 64) (r : List Int) : g8 (l8 (v : Int) ++ r) = v := by
  simp [g8, l8, rd]; omega
theorem g4_l4 (v : Int) (h0 : 0 ≤ v) (h1 : v < 2 ^ 32) (r : List Int) : g4 (l4 v ++ r) = v := by
  simp [g4, l4, rd]; omega

set_option maxHeartbeats 4000000 in
set_option maxRecDepth 100000 in
theorem back_calls (v : Nat) (u : Int) (A2 : Option Addr) (c2 : Nat) (l : List Int) (a3 : Int) (w : World) (hv0 : v < 2 ^ 64) (hu0 : 0 ≤ u ∧ u < 2 ^ 32) (hr : Kd.C (Kd.int .u8) w A2 l.length l) (hb : AllB l) (hl : l.length ≤ 140737488351232) :
    Calls Try.prog 12 #[.int .u64 (v : Int), .int .u32 u, .slice A2 l.length c2, .int .i64 a3] w fun e w' => e = .returned (.bool true) ∧ Below w.heap.size w w' := by
  have hv := Lib.hid hv0
  have hu := Lib.hid hu0
  have HL := Lib.hid (fun w' (h : Below w.heap.size w w') => Kd.C_below hr h)
  clear hr
  by_cases hbig : (1000 : Int) < l.length
  · have hbig' : 1000 < l.length := by omega
    clear hv0 hu0 hb
    go_enter Try.func12, Try.ntmps12
    go_wp2_with (go_at_call 14; refine (awake6_calls _).mono ?_; rintro e w' ⟨rfl, hb1⟩)
    go_ret
    exact ⟨rfl, hb1⟩
  · have hsm : ¬ 1000 < l.length := by omega
    have hll : l.length ≤ 1000 := by omega
    obtain ⟨y1, hy1⟩ : ∃ y, y = vb v := ⟨_, rfl⟩
    obtain ⟨y2, hy2⟩ : ∃ y, y = l8 (v : Int) := ⟨_, rfl⟩
    obtain ⟨y3, hy3⟩ : ∃ y, y = l4 u := ⟨_, rfl⟩
    have n1 : 1 ≤ y1.length ∧ y1.length ≤ 10 := by rw [hy1]; exact vb_len10 v hv0
    have n2 : y2.length = 8 := by rw [hy2]; rfl
    have n3 : y3.length = 4 := by rw [hy3]; rfl
    have LY := Lib.hid (show y1.length ≤ 10 ∧ y2.length = 8 ∧ y3.length = 4 from ⟨n1.2, n2, n3⟩)
    have b1 : AllB y1 := by rw [hy1]; exact vb_byte 9 v (by omega)
    have P1 := Lib.hid (AllB_append b1 hb)
    have P2 := Lib.hid (show (y1 ++ l).length < 2 ^ 62 by simp; omega)
    have P3 := Lib.hid (show uv (y1 ++ l) 0 0 = ((v : Int), (y1.length : Int)) by rw [hy1]; exact uv_vb0 l v hv0)
    have P4 := Lib.hid (show bits_get.f 9 (y2 ++ l) 8 = some ((v : Int), true) by rw [hy2, get8 _ (AllB_append (allB_l8 _) hb) (by simp [l8]) 9 (by decide), g8_l8 v hv0])
    have P5 := Lib.hid (show bits_get.f 5 (y3 ++ l) 4 = some (u, true) by rw [hy3, get4 _ (AllB_append (allB_l4 _) hb) (by simp [l4]) 5 (by decide), g4_l4 u hu0.1 hu0.2])
    obtain ⟨r1, e1, p1, q1⟩ := round_some a3 (y1.length : Int) (by omega) (by omega)
    obtain ⟨r2, e2, p2, q2⟩ := round_some a3 8 (by omega) (by omega)
    obtain ⟨r3, e3, p3, q3⟩ := round_some a3 4 (by omega) (by omega)
    have R1 := Lib.hid e1
    have R2 := Lib.hid e2
    have R3 := Lib.hid e3
    have Q1 := Lib.hid (show r1 ≤ (y1.length : Int) by omega)
    have Q2 := Lib.hid (show r2 ≤ (y2.length : Int) by omega)
    have Q3 := Lib.hid (show r3 ≤ (y3.length : Int) by omega)
    have L1' := Lib.hid (show r1.toNat ≤ y1.length by omega)
    have L2' := Lib.hid (show r2.toNat ≤ y2.length by omega)
    have L3' := Lib.hid (show r3.toNat ≤ y3.length by omega)
    have L1 := Lib.hid (show (y1.take r1.toNat).length = r1.toNat by rw [List.length_take]; omega)
    have L2 := Lib.hid (show (y2.take r2.toNat).length = r2.toNat by rw [List.length_take]; omega)
    have L3 := Lib.hid (show (y3.take r3.toNat).length = r3.toNat by rw [List.length_take]; omega)
    have S1 := Lib.hid b1
    have S2 := Lib.hid (show r1.toNat < 2 ^ 62 by omega)
    have P6 := Lib.hid (show uv (y1.take r1.toNat) 0 0 = (0, 0) by rw [hy1]; exact uv_cut 9 v 0 0 _ (by omega) (by rw [← hy1]; omega))
    have P7 := Lib.hid (show bits_get.f 9 (y2.take r2.toNat) 8 = some (0, false) from get_short _ 8 9 (by rw [L2.out]; omega))
    have P8 := Lib.hid (show bits_get.f 5 (y3.take r3.toNat) 4 = some (0, false) from get_short _ 4 5 (by rw [L3.out]; omega))
    obtain ⟨i0, hi0', _⟩ := info_parts info5
    have hi0 := Lib.hid hi0'
    have Y1 := Lib.hid hy1
    have Y2 := Lib.hid hy2
    have Y3 := Lib.hid hy3
    clear hy1 hy2 hy3 n1 n2 n3 b1 e1 e2 e3 q1 q2 q3 hv0 hu0 hb hl hi0'
    have t1 : True := trivial
    have t2 : True := trivial
    have t3 : True := trivial
    have t4 : True := trivial
    have t5 : True := trivial
    go_enter Try.func12, Try.ntmps12
    go_wp2_with (first
      | (go_at_call 13; go_must (refine (varint_calls v hv.out _).mono ?_; rintro e w1 ⟨v9, rfl, hO9, hb1⟩; rw [← Y1.out] at hO9; obtain ⟨A9, c9, rfl, hc9, hC9⟩ := Kd.R_reads hO9; have HC9 := Lib.hid hC9; have HO9 := Lib.hid hc9; clear hC9 hc9 hO9; have HBw1 := Lib.hid hb1; clear hb1))
      | (go_at_call 24; go_must (refine (put64_calls (v : Int) _).mono ?_; rintro e w2 ⟨v10, rfl, hO10, hb2⟩; rw [← Y2.out] at hO10; obtain ⟨A10, c10, rfl, hc10, hC10⟩ := Kd.R_reads hO10; have HC10 := Lib.hid hC10; have HO10 := Lib.hid hc10; clear hC10 hc10 hO10; have HB12 := Lib.hid hb2; have HBw2 := Lib.hid (below_step HBw1.out hb2); clear hb2))
      | (go_at_call 25; go_must (refine (put32_calls u hu.out.1 hu.out.2 _).mono ?_; rintro e w3 ⟨v11, rfl, hO11, hb3⟩; rw [← Y3.out] at hO11; obtain ⟨A11, c11, rfl, hc11, hC11⟩ := Kd.R_reads hO11; have HD11 := Lib.hid hC11; have HO11 := Lib.hid hc11; have HD9 := Lib.hid (Kd.C_below HC9.out (below_step HB12.out hb3)); have HD10 := Lib.hid (Kd.C_below HC10.out hb3); have HBw3 := Lib.hid (below_step HBw2.out hb3); clear hC11 hc11 hO11 hb3))
      | ((with_reducible refine gate_builtin (b := .append) (xs := #[.tmp 35, .tmp 36]) rfl ?_); at_builtin; go_must (refine Kd.R_append_row (Value.int .u8) 0 (w0 := w3) w3.heap.size rfl (.tmp 35) (.tmp 36) 24 5 (.int .u8 0) 1 rfl Try.underlying24 info5 rfl (by decide) (.slice (some ⟨w3.heap.size, 0, none⟩) 0 0) [] y1 A9 y1.length c9 (fun _ => True) rfl rfl (fun _ _ => trivial) (R_lit8 w3 _ [] (Nat.le_refl _) (by decide)) (Kd.C_alloc (HD9.out) _) (below_alloc (Below.refl _ _) _) ?aS ?aL ?_; (case aS => simp); (case aL => have := LY.out; simp; omega); intro va4 wa4 hOa4 hBa4 hga4 hata4; clear hga4 hata4; have HOa4 := Lib.hid (show Kd.R (Kd.int .u8) 5 wa4 w3.heap.size (fun _ => True) va4 y1 from hOa4); clear hOa4))
      | ((with_reducible refine gate_builtin (b := .append) (xs := #[.tmp 37, .tmp 38]) rfl ?_); at_builtin; go_must (refine Kd.R_append_row (Value.int .u8) 0 (w0 := w3) w3.heap.size rfl (.tmp 37) (.tmp 38) 24 5 (.int .u8 0) 1 rfl Try.underlying24 info5 rfl (by decide) va4 y1 l A2 l.length c2 (fun _ => True) rfl rfl (fun _ _ => trivial) HOa4.out (HL.out _ (below_step HBw3.out hBa4)) hBa4 ?aS ?aL ?_; (case aS => exact hBa4.size); (case aL => have := LY.out; omega); intro vb4 wb4 hOb4 hBb4 hgb4 hatb4; clear hgb4 hatb4 hBa4; obtain ⟨m4, hm4⟩ : ∃ m, m = y1 ++ l := ⟨_, rfl⟩; rw [← hm4] at hOb4; obtain ⟨B4, cB4, rfl, hcB4, hC4⟩ := Kd.R_reads hOb4; have HM4 := Lib.hid hm4; have HC4 := Lib.hid hC4; have HK4 := Lib.hid hcB4; have HBb4 := Lib.hid hBb4; clear hm4 hC4 hOb4 hcB4 hBb4))
      | (go_at_call 28; have _t := t1; clear t1; go_must (refine (unv_calls B4 m4.length cB4 m4 _ rfl HC4.out HK4.out (by rw [HM4.out]; exact P1.out) (by rw [HM4.out]; exact P2.out) (v : Int) (y1.length : Int) (by rw [HM4.out]; exact P3.out)).mono ?_; rintro e w5 ⟨rfl, hb5⟩; have HB35 := Lib.hid (below_step HBb4.out hb5); have HBw5 := Lib.hid (below_step HBw3.out HB35.out); have HE9 := Lib.hid (Kd.C_below HD9.out HB35.out); have HE10 := Lib.hid (Kd.C_below HD10.out HB35.out); have HE11 := Lib.hid (Kd.C_below HD11.out HB35.out); clear hb5))
      | ((with_reducible refine gate_builtin (b := .append) (xs := #[.tmp 44, .tmp 45]) rfl ?_); at_builtin; go_must (refine Kd.R_append_row (Value.int .u8) 0 (w0 := w5) w5.heap.size rfl (.tmp 44) (.tmp 45) 24 5 (.int .u8 0) 1 rfl Try.underlying24 info5 rfl (by decide) (.slice (some ⟨w5.heap.size, 0, none⟩) 0 0) [] y2 A10 y2.length c10 (fun _ => True) rfl rfl (fun _ _ => trivial) (R_lit8 w5 _ [] (Nat.le_refl _) (by decide)) (Kd.C_alloc (HE10.out) _) (below_alloc (Below.refl _ _) _) ?aS ?aL ?_; (case aS => simp); (case aL => have := LY.out; simp; omega); intro va6 wa6 hOa6 hBa6 hga6 hata6; clear hga6 hata6; have HOa6 := Lib.hid (show Kd.R (Kd.int .u8) 5 wa6 w5.heap.size (fun _ => True) va6 y2 from hOa6); clear hOa6))
      | ((with_reducible refine gate_builtin (b := .append) (xs := #[.tmp 46, .tmp 47]) rfl ?_); at_builtin; go_must (refine Kd.R_append_row (Value.int .u8) 0 (w0 := w5) w5.heap.size rfl (.tmp 46) (.tmp 47) 24 5 (.int .u8 0) 1 rfl Try.underlying24 info5 rfl (by decide) va6 y2 l A2 l.length c2 (fun _ => True) rfl rfl (fun _ _ => trivial) HOa6.out (HL.out _ (below_step HBw5.out hBa6)) hBa6 ?aS ?aL ?_; (case aS => exact hBa6.size); (case aL => have := LY.out; omega); intro vb6 wb6 hOb6 hBb6 hgb6 hatb6; clear hgb6 hatb6 hBa6; obtain ⟨m6, hm6⟩ : ∃ m, m = y2 ++ l := ⟨_, rfl⟩; rw [← hm6] at hOb6; obtain ⟨B6, cB6, rfl, hcB6, hC6⟩ := Kd.R_reads hOb6; have HM6 := Lib.hid hm6; have HC6 := Lib.hid hC6; have HK6 := Lib.hid hcB6; have HBb6 := Lib.hid hBb6; clear hm6 hC6 hOb6 hcB6 hBb6))
      | (go_at_call 31; have _t := t2; clear t2; go_must (refine (get64_calls B6 m6.length cB6 m6 _ rfl HC6.out HK6.out (v : Int) true (by rw [HM6.out]; exact P4.out)).mono ?_; rintro e w7 ⟨rfl, hb7⟩; have HB57 := Lib.hid (below_step HBb6.out hb7); have HBw7 := Lib.hid (below_step HBw5.out HB57.out); have HF9 := Lib.hid (Kd.C_below HE9.out HB57.out); have HF10 := Lib.hid (Kd.C_below HE10.out HB57.out); have HF11 := Lib.hid (Kd.C_below HE11.out HB57.out); clear hb7))
      | ((with_reducible refine gate_builtin (b := .append) (xs := #[.tmp 53, .tmp 54]) rfl ?_); at_builtin; go_must (refine Kd.R_append_row (Value.int .u8) 0 (w0 := w7) w7.heap.size rfl (.tmp 53) (.tmp 54) 24 5 (.int .u8 0) 1 rfl Try.underlying24 info5 rfl (by decide) (.slice (some ⟨w7.heap.size, 0, none⟩) 0 0) [] y3 A11 y3.length c11 (fun _ => True) rfl rfl (fun _ _ => trivial) (R_lit8 w7 _ [] (Nat.le_refl _) (by decide)) (Kd.C_alloc (HF11.out) _) (below_alloc (Below.refl _ _) _) ?aS ?aL ?_; (case aS => simp); (case aL => have := LY.out; simp; omega); intro va8 wa8 hOa8 hBa8 hga8 hata8; clear hga8 hata8; have HOa8 := Lib.hid (show Kd.R (Kd.int .u8) 5 wa8 w7.heap.size (fun _ => True) va8 y3 from hOa8); clear hOa8))
      | ((with_reducible refine gate_builtin (b := .append) (xs := #[.tmp 55, .tmp 56]) rfl ?_); at_builtin; go_must (refine Kd.R_append_row (Value.int .u8) 0 (w0 := w7) w7.heap.size rfl (.tmp 55) (.tmp 56) 24 5 (.int .u8 0) 1 rfl Try.underlying24 info5 rfl (by decide) va8 y3 l A2 l.length c2 (fun _ => True) rfl rfl (fun _ _ => trivial) HOa8.out (HL.out _ (below_step HBw7.out hBa8)) hBa8 ?aS ?aL ?_; (case aS => exact hBa8.size); (case aL => have := LY.out; omega); intro vb8 wb8 hOb8 hBb8 hgb8 hatb8; clear hgb8 hatb8 hBa8; obtain ⟨m8, hm8⟩ : ∃ m, m = y3 ++ l := ⟨_, rfl⟩; rw [← hm8] at hOb8; obtain ⟨B8, cB8, rfl, hcB8, hC8⟩ := Kd.R_reads hOb8; have HM8 := Lib.hid hm8; have HC8 := Lib.hid hC8; have HK8 := Lib.hid hcB8; have HBb8 := Lib.hid hBb8; clear hm8 hC8 hOb8 hcB8 hBb8))
      | (go_at_call 26; have _t := t3; clear t3; go_must (refine (get32_calls B8 m8.length cB8 m8 _ rfl HC8.out HK8.out u true (by rw [HM8.out]; exact P5.out) hu.out.1 hu.out.2).mono ?_; rintro e w9 ⟨rfl, hb9⟩; have HB79 := Lib.hid (below_step HBb8.out hb9); have HBw9 := Lib.hid (below_step HBw7.out HB79.out); have HG9 := Lib.hid (Kd.C_below HF9.out HB79.out); have HG10 := Lib.hid (Kd.C_below HF10.out HB79.out); have HG11 := Lib.hid (Kd.C_below HF11.out HB79.out); clear hb9))
      | (go_at_call 23; have _t := t4; clear t4; go_must (refine (rnd_calls a3 (y1.length : Int) r1 _ R1.out).mono ?_; rintro e wr1 ⟨rfl, hr1⟩; have HR1 := Lib.hid hr1; clear hr1; have hcut1 := cut_to (P := Try.prog) 24 5 .i64 Try.underlying24 hi0.out A9 y1.length c9 r1 p1 Q1.out HO9.out))
      | (go_at_call 28; go_must (refine (unv_calls A9 r1.toNat c9 (y1.take r1.toNat) _ L1.out (Kd.C_take (Kd.C_below HG9.out HR1.out) L1'.out) (by rw [L1.out]; exact Nat.le_trans L1'.out HO9.out) (AllB_take S1.out _) (by rw [L1.out]; exact S2.out) 0 0 P6.out).mono ?_; rintro e w10 ⟨rfl, hb10⟩; have HB910 := Lib.hid (below_step HR1.out hb10); clear hb10))
      | (go_at_call 23; have _t := t5; clear t5; go_must (refine (rnd_calls a3 8 r2 _ R2.out).mono ?_; rintro e wr2 ⟨rfl, hr2⟩; have HR2 := Lib.hid (below_step HB910.out hr2); clear hr2; have hcut2 := cut_to (P := Try.prog) 24 5 .i64 Try.underlying24 hi0.out A10 y2.length c10 r2 p2 Q2.out HO10.out))
      | (go_at_call 31; go_must (refine (get64_calls A10 r2.toNat c10 (y2.take r2.toNat) _ L2.out (Kd.C_take (Kd.C_below HG10.out HR2.out) L2'.out) (by rw [L2.out]; exact Nat.le_trans L2'.out HO10.out) 0 false P7.out).mono ?_; rintro e w11 ⟨rfl, hb11⟩; have HB911 := Lib.hid (below_step HR2.out hb11); clear hb11))
      | (go_at_call 23; go_must (refine (rnd_calls a3 4 r3 _ R3.out).mono ?_; rintro e wr3 ⟨rfl, hr3⟩; have HR3 := Lib.hid (below_step HB911.out hr3); clear hr3; have hcut3 := cut_to (P := Try.prog) 24 5 .i64 Try.underlying24 hi0.out A11 y3.length c11 r3 p3 Q3.out HO11.out))
      | (go_at_call 26; go_must (refine (get32_calls A11 r3.toNat c11 (y3.take r3.toNat) _ L3.out (Kd.C_take (Kd.C_below HG11.out HR3.out) L3'.out) (by rw [L3.out]; exact Nat.le_trans L3'.out HO11.out) 0 false P8.out (by decide) (by decide)).mono ?_; rintro e w12 ⟨rfl, hb12⟩; have HB912 := Lib.hid (below_step HR3.out hb12); clear hb12))
      | (go_at_call 14; go_must (refine (awake6_calls _).mono ?_; rintro e w13 ⟨rfl, hb13⟩)))
    go_ret
    exact ⟨rfl, below_step (below_step HBw9.out HB912.out) hb13⟩
theorem back_walk (a0 u : Int) (A2 : Option Addr) (c2 : Nat) (l : List Int) (a3 : Int) (w : World) (w0 : (Lit.int .u64 a0).wf = true) (w1 : (Lit.int .u32 u).wf = true) (hr : Kd.C (Kd.int .u8) w A2 l.length l) (hb : ∀ x ∈ l, (Lit.int .u8 x).wf = true) (hl : l.length ≤ 140737488351232) :
    Calls Try.prog 12 #[.int .u64 a0, .int .u32 u, .slice A2 l.length c2, .int .i64 a3] w fun e w' => e = .returned (.bool true) ∧ Below w.heap.size w w' := by
  obtain ⟨v, rfl, hv⟩ := u64_wf w0
  exact back_calls v u A2 c2 l a3 w hv (u32_wf w1) hr (allB_wf hb) hl
end Go.Proofs.Ytkackggplinelaa.Back
