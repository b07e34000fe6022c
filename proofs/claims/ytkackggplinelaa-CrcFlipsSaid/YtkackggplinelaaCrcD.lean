/- The walk of CrcAdds: three rows of bytes put over each other. -/
import Derived.Test.YtkackggplinelaaProg
import Derived.Below
import Derived.Deep.Draws
import Derived.Deep.AppendLies
import Derived.Maps.AppendAt
import Derived.OwnWalk
import Derived.Laws.BytesArg
import Derived.Laws.MakeOwn
import Derived.Laws.OwnMore
import Derived.Deep.OwnRows
import Derived.Tactics
import Derived.Lib.ConvBytes
import Derived.Laws.Slices
import Derived.WalkKit
import Derived.KernelRfl
import Derived.RowKit3
import Derived.Deep.LoopGhost
import Derived.Deep.QuietTactic
import Derived.BigQuiet
import Derived.WideLaws
import Derived.Deep.DeepCutAuto
import Derived.Deep.CutBlock
import Derived.Deep.RegionHeld3
import Derived.Laws.Rows
import Derived.Lib.AppendStr
import Derived.ArgAppend
import Derived.Laws.IdiomCopy
import Derived.OrdersHeld
import Derived.Laws.BitsLemmas
import Derived.RowKit
import Derived.Test.YtkackggplinelaaWWords
import Derived.Test.YtkackggplinelaaWLast
import Derived.Test.YtkackggplinelaaWTab
import Derived.Test.YtkackggplinelaaWFour
import Derived.Test.YtkackggplinelaaWQPut
import Derived.Test.YtkackggplinelaaWApart
import Derived.Test.YtkackggplinelaaWArr
import Derived.Test.YtkackggplinelaaWZeros
import Derived.Test.YtkackggplinelaaWFoot
import Derived.Test.YtkackggplinelaaWKept
import Derived.Test.YtkackggplinelaaWShare
import Derived.Test.YtkackggplinelaaWN
import Derived.Test.YtkackggplinelaaWFootNe
import Derived.Test.YtkackggplinelaaWAt
import Derived.Test.YtkackggplinelaaWEqStruct
import Derived.Test.YtkackggplinelaaWRepsOne
import Derived.Test.YtkackggplinelaaWInv
import Derived.Test.YtkackggplinelaaWInvWords
import Derived.Test.YtkackggplinelaaWGuard
import Derived.Test.YtkackggplinelaaWNEv
import Derived.Test.YtkackggplinelaaWMore
import Derived.Lib.Hide
import Derived.Deep.DeepMust
import Derived.Deep.RegionHeld3
import Derived.Deep.AppendLies
import Derived.Test.YtkackggplinelaaCrcE
namespace Go.Proofs.Ytkackggplinelaa.Crc
open Go.RowKit Go.Proofs.YtkackggplinelaaW.PrintWords Go.Proofs.YtkackggplinelaaW.PrintLast Go.Proofs.YtkackggplinelaaW.PrintMore
set_option linter.unusedVariables false
set_option linter.unusedSimpArgs false
/-- Three bytes put over each other, in the walk's own words. -/
def x3 (a b c : Int) : Int := Go.bits .xor .u8 (Go.bits .xor .u8 a b) c
def over3 (a b c : List Int) (k : Nat) : List Int := (List.range k).map fun (i : Nat) => x3 (rd a (i : Int)) (rd b (i : Int)) (rd c (i : Int))
theorem over3_succ (a b c : List Int) (k : Nat) : over3 a b c (k + 1) = over3 a b c k ++ [x3 (rd a (k : Int)) (rd b (k : Int)) (rd c (k : Int))] := by simp [over3, List.range_succ]
theorem over3_len (a b c : List Int) (k : Nat) : (over3 a b c k).length = k := by simp [over3]
def AddsFact (a b c : List Int) : Prop := (∀ x ∈ over3 a b c a.length, 0 ≤ x ∧ x < 256) ∧ crcOf (over3 a b c a.length) = Go.bits .xor .u32 (Go.bits .xor .u32 (crcOf a) (crcOf b)) (crcOf c)
set_option maxHeartbeats 2000000 in
theorem adds_calls (A1 A2 A3 : Option Addr) (c1 c2 c3 : Nat) (la lb lc : List Int) (w : World) (ha : Kd.C (Kd.int .u8) w A1 la.length la) (hb : Kd.C (Kd.int .u8) w A2 lb.length lb) (hc : Kd.C (Kd.int .u8) w A3 lc.length lc)
    (ra : ∀ x ∈ la, 0 ≤ x ∧ x < 256) (rb : ∀ x ∈ lb, 0 ≤ x ∧ x < 256) (rc : ∀ x ∈ lc, 0 ≤ x ∧ x < 256) (hF : lb.length = la.length → lc.length = la.length → AddsFact la lb lc) (hl : la.length ≤ 4611686018427387904) (hl2 : lb.length ≤ 4611686018427387904) (hl3 : lc.length ≤ 4611686018427387904) :
    Calls Try.prog 7 #[.slice A1 la.length c1, .slice A2 lb.length c2, .slice A3 lc.length c3] w fun e w' => e = .returned (.bool true) ∧ Below w.heap.size w w' := by
  have HA := Lib.hid ha
  have HB := Lib.hid hb
  have HC := Lib.hid hc
  have RA := Lib.hid ra
  have RB := Lib.hid rb
  have RC := Lib.hid rc
  have HF := Lib.hid hF
  clear ha hb hc ra rb rc hF
  by_cases hbig : (2000 : Int) < la.length ∨ ¬ ((lb.length : Int) = la.length) ∨ ¬ ((lc.length : Int) = la.length)
  · by_cases k1 : (2000 : Int) < la.length
    · have d1 : decide ((2000 : Int) < la.length) = true := by simpa using k1
      have d1' : decide (2000 < la.length) = true := by simp; omega
      clear hbig k1
      go_enter Try.func7, Try.ntmps7
      go_wp2_with (go_at_call 15; go_must (refine (awake_calls _).mono ?_; rintro e w5 ⟨rfl, hb5⟩))
      go_ret
      exact ⟨rfl, hb5⟩
    · have d1 : decide ((2000 : Int) < la.length) = false := by simpa using k1
      have d1' : decide (2000 < la.length) = false := by simp; omega
      by_cases k2 : (lb.length : Int) = la.length
      · have d2 : ((lb.length : Int) != la.length) = false := by simpa using k2
        have d3 : ((lc.length : Int) != la.length) = true := by simp; omega
        clear hbig k1 k2
        go_enter Try.func7, Try.ntmps7
        go_wp2_with (go_at_call 15; go_must (refine (awake_calls _).mono ?_; rintro e w5 ⟨rfl, hb5⟩))
        go_ret
        exact ⟨rfl, hb5⟩
      · have d2 : ((lb.length : Int) != la.length) = true := by simpa using k2
        clear hbig k1 k2
        go_enter Try.func7, Try.ntmps7
        go_wp2_with (go_at_call 15; go_must (refine (awake_calls _).mono ?_; rintro e w5 ⟨rfl, hb5⟩))
        go_ret
        exact ⟨rfl, hb5⟩
  · simp only [not_or, Classical.not_not] at hbig
    obtain ⟨hs, h2, h3⟩ := hbig
    have d1 : decide ((2000 : Int) < la.length) = false := by simpa using hs
    have d1' : decide (2000 < la.length) = false := by simp; omega
    have d2 : ((lb.length : Int) != la.length) = false := by simpa using h2
    have d3 : ((lc.length : Int) != la.length) = false := by simpa using h3
    have E2 := Lib.hid (show lb.length = la.length by omega)
    have E3 := Lib.hid (show lc.length = la.length by omega)
    have hs2 : la.length ≤ 2000 := by omega
    have hs3 : lb.length ≤ 2000 := by omega
    have hs4 : lc.length ≤ 2000 := by omega
    clear hs h2 h3
    go_enter Try.func7, Try.ntmps7
    go_wp2
    go_loopw [7, 8] (fun d i wr => ∃ k : Nat, k ≤ la.length ∧ i = .int .i64 k ∧ Aside0 (Kd.R (Kd.int .u8) 5 wr w.heap.size (fun _ => True) d (over3 la lb lc k)) ∧ Aside0 (Below w.heap.size w wr)) (fun _ i _ => la.length - (intOf i).toNat)
    case atStart => exact ⟨0, Nat.zero_le _, rfl, ⟨Kd.R_nil _ _ _ _ _⟩, ⟨Below.refl _ _⟩⟩
    case round =>
      obtain ⟨k, hk, rfl, HO, HW⟩ := hrel
      by_cases hlt : k < la.length
      · obtain ⟨ad1, e1, hx1⟩ := Kd.at_int HA.out (k : Int) (by omega) (by omega)
        obtain ⟨ad2, e4, hx2⟩ := Kd.at_int HB.out (k : Int) (by omega) (by have := E2.out; omega)
        obtain ⟨ad3, e5, hx3⟩ := Kd.at_int HC.out (k : Int) (by omega) (by have := E3.out; omega)
        cases e1
        cases e4
        cases e5
        simp only [Int.toNat_natCast] at hx1 hx2 hx3
        obtain ⟨q1, hq1⟩ : ∃ q, q = rd la (k : Int) := ⟨_, rfl⟩
        obtain ⟨q2, hq2⟩ : ∃ q, q = rd lb (k : Int) := ⟨_, rfl⟩
        obtain ⟨q3, hq3⟩ : ∃ q, q = rd lc (k : Int) := ⟨_, rfl⟩
        rw [← hq1] at hx1
        rw [← hq2] at hx2
        rw [← hq3] at hx3
        have Q1 := Lib.hid hq1
        have Q2 := Lib.hid hq2
        have Q3 := Lib.hid hq3
        clear hq1 hq2 hq3
        have X1 := pw_cell_below HW.out hx1
        have X2 := pw_cell_below HW.out hx2
        have X3 := pw_cell_below HW.out hx3
        have b1 : (0 : Int) ≤ (k : Int) := by omega
        have b2 : (k : Int) < (la.length : Int) := by omega
        have b3 : (k : Int) < (lb.length : Int) := by have := E2.out; omega
        have b4 : (k : Int) < (lc.length : Int) := by have := E3.out; omega
        go_wp2
        go_region_held3 (fun w' => w'.cell? (ad1.add k) = some (.int .u8 q1) ∧ w'.cell? (ad2.add k) = some (.int .u8 q2) ∧ w'.cell? (ad3.add k) = some (.int .u8 q3))
          (first
            | go_keep
            | (go_split_ands
               exact ⟨pw_cell_below hBn hx1, pw_cell_below hBn hx2, pw_cell_below hBn hx3⟩))
          ((refine Kd.R_append_step (Kd.int .u8) (w0 := w) w.heap.size (by rfl) _ _ 24 5 (.int .u8 0) 1 (by rfl) Try.underlying24 info5 rfl (by decide) (by omega) u7 (over3 la lb lc k) (x3 q1 q2 q3) [.int .u8 (x3 q1 q2 q3)] (fun _ => True) (fun _ => False) (by rfl) (by rfl) rfl (fun _ h => h.elim) (fun _ _ => trivial) (Kd.R_drew HO.out) (below_drew1 HW.out) ?_ ?_ ?_; (case refine_1 => have := HW.out.size; simp; omega); (case refine_2 => rw [over3_len]; omega); intro v1 w1 hO1 hBn hg1 hat1))
        go_wp2
        go_roundw
        case rel => exact ⟨k + 1, by omega, by go_num, ⟨by rw [over3_succ, ← Q1.out, ← Q2.out, ← Q3.out]; exact hO1⟩, ⟨hBn⟩⟩
        case measure => simp [intOf]; omega
      · obtain rfl : k = la.length := by omega
        obtain ⟨F1, F2⟩ := HF.out E2.out E3.out
        obtain ⟨y, hy⟩ : ∃ y, y = over3 la lb lc la.length := ⟨_, rfl⟩
        rw [← hy] at HO F1 F2
        have hyl : y.length ≤ 4611686018427387904 := by rw [hy, over3_len]; exact hl
        obtain ⟨A7, c7, rfl, _, hC7⟩ := Kd.R_reads HO.out
        have H1 := Lib.hid (fun w' (h : Below w.heap.size w w') => Kd.C_below HA.out h)
        have H2 := Lib.hid (fun w' (h : Below w.heap.size w w') => Kd.C_below HB.out h)
        have H3 := Lib.hid (fun w' (h : Below w.heap.size w w') => Kd.C_below HC.out h)
        have H7 := Lib.hid hC7
        have F1' := Lib.hid F1
        have F2' := Lib.hid F2
        have F3' := Lib.hid hyl
        obtain ⟨x1, hx1⟩ : ∃ x, x = crcOf la := ⟨_, rfl⟩
        obtain ⟨x2, hx2⟩ : ∃ x, x = crcOf lb := ⟨_, rfl⟩
        obtain ⟨x3', hx3⟩ : ∃ x, x = crcOf lc := ⟨_, rfl⟩
        have X1 := Lib.hid hx1
        have X2 := Lib.hid hx2
        have X3 := Lib.hid hx3
        clear hy hC7 F1 F2 hyl hx1 hx2 hx3
        have t1 : True := trivial
        have t2 : True := trivial
        have t3 : True := trivial
        go_wp2_with (first
          | (go_at_call 16; have _t := t1; clear t1; go_must (refine (of_calls A7 c7 y _ H7.out F1'.out F3'.out).mono ?_; rintro e w1 ⟨rfl, hb1⟩; rw [F2'.out, ← X1.out, ← X2.out, ← X3.out]; have hB1 := below_step HW.out hb1))
          | (go_at_call 16; have _t := t2; clear t2; go_must (refine (of_calls A1 c1 la _ (H1.out _ hB1) RA.out hl).mono ?_; rintro e w2 ⟨rfl, hb2⟩; rw [← X1.out]; have hB2 := below_step hB1 hb2))
          | (go_at_call 16; have _t := t3; clear t3; go_must (refine (of_calls A2 c2 lb _ (H2.out _ hB2) RB.out hl2).mono ?_; rintro e w3 ⟨rfl, hb3⟩; rw [← X2.out]; have hB3 := below_step hB2 hb3))
          | (go_at_call 16; go_must (refine (of_calls A3 c3 lc _ (H3.out _ hB3) RC.out hl3).mono ?_; rintro e w4 ⟨rfl, hb4⟩; rw [← X3.out]; have hB4 := below_step hB3 hb4))
          | (go_at_call 15; go_must (refine (awake_calls _).mono ?_; rintro e w5 ⟨rfl, hb5⟩)))
        go_ret
        exact ⟨rfl, below_step hB4 hb5⟩
theorem x3_nat (a b c : Int) (ha : 0 ≤ a ∧ a < 256) (hb : 0 ≤ b ∧ b < 256) (hc : 0 ≤ c ∧ c < 256) : x3 a b c = ((a.toNat ^^^ b.toNat ^^^ c.toNat : Nat) : Int) ∧ a.toNat ^^^ b.toNat ^^^ c.toNat < 256 := by
  have h1 : a.toNat ^^^ b.toNat < 2 ^ 8 := Nat.xor_lt_two_pow (by omega) (by omega)
  have h2 : a.toNat ^^^ b.toNat ^^^ c.toNat < 2 ^ 8 := Nat.xor_lt_two_pow h1 (by omega)
  refine ⟨?_, h2⟩
  unfold x3
  rw [show a = ((a.toNat : Nat) : Int) by omega, show b = ((b.toNat : Nat) : Int) by omega, show c = ((c.toNat : Nat) : Int) by omega, CrcP.xor_u8 _ _ (by omega) (by omega), CrcP.xor_u8 _ _ h1 (by omega)]
  rfl
theorem rd_byte {l : List Int} (h : ∀ x ∈ l, 0 ≤ x ∧ x < 256) (i : Nat) : 0 ≤ rd l (i : Int) ∧ rd l (i : Int) < 256 := by
  unfold rd
  by_cases hi : i < l.length
  · rw [Int.toNat_natCast, List.getD_eq_getElem?_getD, List.getElem?_eq_getElem hi]; exact h _ (List.getElem_mem hi)
  · rw [Int.toNat_natCast, List.getD_eq_getElem?_getD, List.getElem?_eq_none (by omega)]; simp
theorem addsFact (a b c : List Int) (ra : ∀ x ∈ a, 0 ≤ x ∧ x < 256) (rb : ∀ x ∈ b, 0 ≤ x ∧ x < 256) (rc : ∀ x ∈ c, 0 ≤ x ∧ x < 256) (h2 : b.length = a.length) (h3 : c.length = a.length) : AddsFact a b c := by
  have hby : ∀ x ∈ over3 a b c a.length, 0 ≤ x ∧ x < 256 := by
    intro x hx
    obtain ⟨i, _, rfl⟩ := List.mem_map.1 hx
    obtain ⟨e1, e2⟩ := x3_nat _ _ _ (rd_byte ra i) (rd_byte rb i) (rd_byte rc i)
    rw [e1]
    omega
  refine ⟨hby, ?_⟩
  have e : nat (over3 a b c a.length) = List.zipWith (· ^^^ ·) (List.zipWith (· ^^^ ·) (nat a) (nat b)) (nat c) := by
    apply List.ext_getElem
    · simp [nat, over3]; omega
    · intro i g1 g2
      have hi : i < a.length := by simpa [nat, over3] using g1
      obtain ⟨e1, e2⟩ := x3_nat _ _ _ (rd_byte ra i) (rd_byte rb i) (rd_byte rc i)
      simp only [nat, over3, List.getElem_map, List.getElem_range, List.getElem_zipWith, e1, Int.toNat_natCast]
      have r1 : rd a (i : Int) = a[i] := by simp [rd, List.getD_eq_getElem?_getD, List.getElem?_eq_getElem hi]
      have r2 : rd b (i : Int) = b[i]'(by omega) := by simp [rd, List.getD_eq_getElem?_getD, List.getElem?_eq_getElem (show i < b.length by omega)]
      have r3 : rd c (i : Int) = c[i]'(by omega) := by simp [rd, List.getD_eq_getElem?_getD, List.getElem?_eq_getElem (show i < c.length by omega)]
      rw [r1, r2, r3]
  rw [crcOf_nat _ hby, crcOf_nat a ra, crcOf_nat b rb, crcOf_nat c rc, e]
  have ca := CrcP.C_lt (nat a) CrcP.F_lt (nat_lt ra)
  have cb := CrcP.C_lt (nat b) CrcP.F_lt (nat_lt rb)
  have cc := CrcP.C_lt (nat c) CrcP.F_lt (nat_lt rc)
  have ka : CrcP.crc (nat a) < 2 ^ 32 := Nat.xor_lt_two_pow ca CrcP.F_lt
  have kb : CrcP.crc (nat b) < 2 ^ 32 := Nat.xor_lt_two_pow cb CrcP.F_lt
  have kc : CrcP.crc (nat c) < 2 ^ 32 := Nat.xor_lt_two_pow cc CrcP.F_lt
  rw [CrcP.xor_u32 _ _ ka kb, CrcP.xor_u32 _ _ (Nat.xor_lt_two_pow ka kb) kc]
  congr 1
  have e1 := CrcP.C_xor (nat a) (nat b) CrcP.F CrcP.F (by simp [nat]; omega)
  have e2 := CrcP.C_xor (List.zipWith (· ^^^ ·) (nat a) (nat b)) (nat c) (CrcP.F ^^^ CrcP.F) CrcP.F (by simp [nat]; omega)
  rw [e1] at e2
  rw [Nat.xor_self, Nat.zero_xor] at e2
  unfold CrcP.crc
  rw [e2]
  generalize CrcP.C CrcP.F (nat a) = p
  generalize CrcP.C CrcP.F (nat b) = q
  generalize CrcP.C CrcP.F (nat c) = r
  generalize CrcP.F = f
  have : (p ^^^ f) ^^^ (q ^^^ f) = p ^^^ q := by
    rw [Nat.xor_assoc, ← Nat.xor_assoc f, Nat.xor_comm f q, Nat.xor_assoc q, Nat.xor_self, Nat.xor_zero]
  rw [this, Nat.xor_assoc]
end Go.Proofs.Ytkackggplinelaa.Crc
