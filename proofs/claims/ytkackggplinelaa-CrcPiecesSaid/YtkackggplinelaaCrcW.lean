/- The walks of package crc. -/
import Derived.Test.YtkackggplinelaaProg
import Derived.Below
import Derived.Deep.Draws
import Derived.Deep.AppendLies
import Derived.Maps.AppendAt
import Derived.OwnWalk
import Derived.Laws.BytesArg
import Derived.Laws.MakeOwn
import Derived.Laws.OwnMore
import Derived.Deep.OwnRows
import Derived.Tactics
import Derived.Lib.ConvBytes
import Derived.Laws.Slices
import Derived.WalkKit
import Derived.KernelRfl
import Derived.RowKit3
import Derived.Deep.LoopGhost
import Derived.Deep.QuietTactic
import Derived.BigQuiet
import Derived.WideLaws
import Derived.Deep.DeepCutAuto
import Derived.Deep.CutBlock
import Derived.Deep.RegionHeld3
import Derived.Laws.Rows
import Derived.Lib.AppendStr
import Derived.ArgAppend
import Derived.Laws.IdiomCopy
import Derived.OrdersHeld
import Derived.Laws.BitsLemmas
import Derived.RowKit
import Derived.Test.YtkackggplinelaaWWords
import Derived.Test.YtkackggplinelaaWLast
import Derived.Test.YtkackggplinelaaWTab
import Derived.Test.YtkackggplinelaaWFour
import Derived.Test.YtkackggplinelaaWQPut
import Derived.Test.YtkackggplinelaaWApart
import Derived.Test.YtkackggplinelaaWArr
import Derived.Test.YtkackggplinelaaWZeros
import Derived.Test.YtkackggplinelaaWFoot
import Derived.Test.YtkackggplinelaaWKept
import Derived.Test.YtkackggplinelaaWShare
import Derived.Test.YtkackggplinelaaWN
import Derived.Test.YtkackggplinelaaWFootNe
import Derived.Test.YtkackggplinelaaWAt
import Derived.Test.YtkackggplinelaaWEqStruct
import Derived.Test.YtkackggplinelaaWRepsOne
import Derived.Test.YtkackggplinelaaWInv
import Derived.Test.YtkackggplinelaaWInvWords
import Derived.Test.YtkackggplinelaaWGuard
import Derived.Test.YtkackggplinelaaWNEv
import Derived.Test.YtkackggplinelaaWMore
import Derived.Test.YtkackggplinelaaCrcP
import Derived.Lib.Hide
namespace Go.Proofs.Ytkackggplinelaa.Crc
open Go.RowKit Go.Proofs.YtkackggplinelaaW.PrintWords Go.Proofs.YtkackggplinelaaW.PrintLast Go.Proofs.YtkackggplinelaaW.PrintMore
set_option linter.unusedVariables false
set_option linter.unusedSimpArgs false

/-- One bit's step, in the walk's own words. -/
def stp (r : Int) : Int := Go.bits .xor .u32 (r / 2) (Go.bits .and .u32 2197175160 (IntKind.u32.wrap (-(Go.bits .and .u32 r 1))))
def stpN : Nat → Int → Int
  | 0, r => r
  | n + 1, r => stp (stpN n r)
def byt (r c : Int) : Int := stpN 8 (Go.bits .xor .u32 r (c % 4294967296))
def crcL (r : Int) (l : List Int) : Int := l.foldl byt r
theorem crcL_snoc (r : Int) (l : List Int) (c : Int) : crcL r (l ++ [c]) = byt (crcL r l) c := by simp [crcL]
def inv (r : Int) : Int := Go.bits .xor .u32 IntKind.u32.max r

theorem crcL_take (r : Int) (l : List Int) (k : Nat) (h : k < l.length) : crcL r (l.take (k + 1)) = byt (crcL r (l.take k)) (rd l (k : Int)) := by
  rw [List.take_succ_eq_append_getElem h, crcL_snoc]
  simp [rd, List.getD_eq_getElem?_getD, List.getElem?_eq_getElem h]
theorem unary_xor_u32 (n : Int) : Op.unary .xor (.int .u32 n) = pure (.int .u32 (inv n)) := rfl
set_option maxHeartbeats 1000000 in
theorem add_calls (b : Nat) (A1 : Option Addr) (c1 : Nat) (l : List Int) (t : Int) (w : World) (hc : w.cell? ⟨b, 0, none⟩ = some (.int .u32 t)) (hf : w.frozen? ⟨b, 0, none⟩ = false)
    (hr : Kd.C (Kd.int .u8) w A1 l.length l) (hb : ∀ x ∈ l, 0 ≤ x ∧ x < 256) (hl : l.length ≤ 4611686018427387904) :
    Calls Try.prog 21 #[.pointer (some ⟨b, 0, none⟩), .slice A1 l.length c1] w fun e w' => e = .returned (.pointer (some ⟨b, 0, none⟩)) ∧ w' = w.setCell ⟨b, 0, none⟩ (.int .u32 (inv (crcL (inv t) l))) := by
  have hux := unary_xor_u32
  go_enter Try.func21, Try.ntmps21
  go_wp2
  go_loop [5, 17] (fun r i => ∃ k : Nat, k ≤ l.length ∧ i = .int .i64 k ∧ r = .int .u32 (crcL (inv t) (l.take k))) (fun _ i => l.length - (intOf i).toNat)
  case atStart => exact ⟨0, Nat.zero_le _, rfl, rfl⟩
  case round =>
    obtain ⟨k, hk, rfl, rfl⟩ := hrel
    by_cases hlt : k < l.length
    · obtain ⟨ad, e, hx⟩ := Kd.at_int hr (k : Int) (by omega) (by omega)
      cases e
      simp only [Int.toNat_natCast] at hx
      have hkb : ((k : Int) < (l.length : Int)) = True := eq_true (by omega)
      go_wp2
      obtain ⟨R0, hR⟩ : ∃ R0, R0 = Go.bits .xor .u32 (crcL (inv t) (List.take k l)) (rd l (k : Int) % 4294967296) := ⟨_, rfl⟩
      rw [← hR]
      have HR := Lib.hid hR
      clear hR
      go_loop [5, 25] (fun r j => ∃ m : Nat, m ≤ 8 ∧ j = .int .i64 m ∧ r = .int .u32 (stpN m R0)) (fun _ j => 8 - (intOf j).toNat)
      case atStart => exact ⟨0, Nat.zero_le _, rfl, rfl⟩
      case round =>
        obtain ⟨m, hm, rfl, rfl⟩ := hrel
        by_cases h8 : m < 8
        · go_wp2
          go_round
          case rel => exact ⟨m + 1, by omega, by go_num, rfl⟩
          case measure => simp [intOf]; omega
        · obtain rfl : m = 8 := by omega
          go_wp2
          go_round
          case rel => exact ⟨k + 1, by omega, by go_num, by rw [crcL_take _ _ _ hlt, HR.out]; rfl⟩
          case measure => simp [intOf]; omega
    · obtain rfl : k = l.length := by omega
      rw [List.take_length]
      go_wp2
      go_ret
      exact ⟨rfl, rfl⟩

theorem new_calls (w : World) : Calls Try.prog 20 #[] w fun e w' => e = .returned (.pointer (some ⟨w.heap.size, 0, none⟩)) ∧ w' = w.alloc (.cells #[.int .u32 0] 37) := by
  go_enter Try.func20, Try.ntmps20
  go_wp2
  go_ret
  exact ⟨rfl, rfl⟩
theorem value_calls (b : Nat) (t : Int) (w : World) (hc : w.cell? ⟨b, 0, none⟩ = some (.int .u32 t)) : Calls Try.prog 22 #[.pointer (some ⟨b, 0, none⟩)] w fun e w' => e = .returned (.int .u32 t) ∧ w' = w := by
  go_enter Try.func22, Try.ntmps22
  go_wp2
  go_ret
  exact ⟨rfl, rfl⟩
def crcOf (l : List Int) : Int := inv (crcL (inv 0) l)
theorem of_calls (A1 : Option Addr) (c1 : Nat) (l : List Int) (w : World) (hr : Kd.C (Kd.int .u8) w A1 l.length l) (hb : ∀ x ∈ l, 0 ≤ x ∧ x < 256) (hl : l.length ≤ 4611686018427387904) :
    Calls Try.prog 16 #[.slice A1 l.length c1] w fun e w' => e = .returned (.int .u32 (crcOf l)) ∧ Below w.heap.size w w' := by
  have hr' : Kd.C (Kd.int .u8) (w.alloc (.cells #[.int .u32 0] 37)) A1 l.length l := Kd.C_below hr (below_alloc (Below.refl _ _) _)
  go_enter Try.func16, Try.ntmps16
  go_wp2_with (first | (go_at_call 20; refine (new_calls _).mono ?_; rintro e w' ⟨rfl, rfl⟩) | (go_at_call 21; refine (add_calls w.heap.size A1 c1 l 0 _ (by simp) (by simp) hr' hb hl).mono ?_; rintro e w' ⟨rfl, rfl⟩) | (go_at_call 22; refine (value_calls w.heap.size (crcOf l) _ (by simp; rfl)).mono ?_; rintro e w' ⟨rfl, rfl⟩))
  go_ret
  exact ⟨rfl, below_alloc (Below.refl _ _) _⟩

/-! ### In natural numbers -/
def nat (l : List Int) : List Nat := l.map Int.toNat
theorem nat_lt {l : List Int} (hb : ∀ x ∈ l, 0 ≤ x ∧ x < 256) : ∀ x ∈ nat l, x < 256 := by
  intro x hx
  obtain ⟨y, hy, rfl⟩ := List.mem_map.1 hx
  have := hb y hy
  omega
theorem stp_nat (r : Nat) (h : r < 2 ^ 32) : stp (r : Int) = ((CrcP.T r : Nat) : Int) := by
  unfold stp CrcP.T
  rw [CrcP.and1_u32 r h, show (r : Int) / 2 = ((r / 2 : Nat) : Int) by omega]
  rcases Nat.mod_two_eq_zero_or_one r with hr | hr
  · rw [hr, if_neg (by decide), show bits .and .u32 2197175160 (IntKind.u32.wrap (-((0 : Nat) : Int))) = ((0 : Nat) : Int) by decide, CrcP.xor_u32 _ _ (by omega) (by decide), Nat.xor_zero]
  · rw [hr, if_pos rfl, show bits .and .u32 2197175160 (IntKind.u32.wrap (-((1 : Nat) : Int))) = ((2197175160 : Nat) : Int) by decide +kernel, CrcP.xor_u32 _ _ (by omega) (by decide)]
theorem stpN_nat (n r : Nat) (h : r < 2 ^ 32) : stpN n (r : Int) = ((CrcP.Tn n r : Nat) : Int) := by
  induction n with
  | zero => rfl
  | succ n ih => simp only [stpN, CrcP.Tn]; rw [ih, stp_nat _ (CrcP.Tn_lt n h)]
theorem byt_nat (r : Nat) (c : Int) (h : r < 2 ^ 32) (h0 : 0 ≤ c) (h1 : c < 256) : byt (r : Int) c = ((CrcP.B r c.toNat : Nat) : Int) := by
  unfold byt CrcP.B
  rw [show c % 4294967296 = ((c.toNat : Nat) : Int) by omega, CrcP.xor_u32 _ _ h (by omega), stpN_nat _ _ (Nat.xor_lt_two_pow h (by omega))]
theorem crcL_nat (l : List Int) : ∀ (r : Nat), r < 2 ^ 32 → (∀ x ∈ l, 0 ≤ x ∧ x < 256) → crcL (r : Int) l = ((CrcP.C r (nat l) : Nat) : Int) := by
  induction l with
  | nil => intro r h _; rfl
  | cons c l ih =>
    intro r h hb
    have hc := hb c (by simp)
    show crcL (byt (r : Int) c) l = _
    rw [byt_nat r c h hc.1 hc.2, ih _ (CrcP.B_lt h (by omega)) (fun x hx => hb x (by simp [hx]))]
    rfl
theorem inv_nat (r : Nat) (h : r < 2 ^ 32) : inv (r : Int) = ((r ^^^ CrcP.F : Nat) : Int) := by
  unfold inv
  rw [show IntKind.u32.max = ((CrcP.F : Nat) : Int) from rfl, CrcP.xor_u32 _ _ (by decide) h, Nat.xor_comm]
theorem inv_zero : inv 0 = ((CrcP.F : Nat) : Int) := by rw [show (0 : Int) = ((0 : Nat) : Int) from rfl, inv_nat 0 (by decide), Nat.zero_xor]
theorem crcOf_nat (l : List Int) (hb : ∀ x ∈ l, 0 ≤ x ∧ x < 256) : crcOf l = ((CrcP.crc (nat l) : Nat) : Int) := by
  unfold crcOf CrcP.crc
  rw [inv_zero, crcL_nat l _ CrcP.F_lt hb, inv_nat _ (CrcP.C_lt _ CrcP.F_lt (nat_lt hb))]

/-! ### The document's own -/
def rstp (r : Int) : Int := if (Go.bits .and .u32 r 1 == 1) = true then Go.bits .xor .u32 (r / 2) 2197175160 else r / 2
theorem rstp_nat (r : Nat) (h : r < 2 ^ 32) : rstp (r : Int) = ((CrcP.T r : Nat) : Int) := by
  unfold rstp CrcP.T
  rw [CrcP.and1_u32 r h, show (r : Int) / 2 = ((r / 2 : Nat) : Int) by omega]
  rcases Nat.mod_two_eq_zero_or_one r with hr | hr
  · rw [hr, if_neg (by decide), if_neg (by decide)]
  · rw [hr, if_pos (by decide), if_pos rfl, show (2197175160 : Int) = ((2197175160 : Nat) : Int) from rfl, CrcP.xor_u32 _ _ (by omega) (by decide)]
set_option maxHeartbeats 1000000 in
theorem ref_calls (A1 : Option Addr) (c1 : Nat) (l : List Int) (w : World) (hr : Kd.C (Kd.int .u8) w A1 l.length l) (hb : ∀ x ∈ l, 0 ≤ x ∧ x < 256) (hl : l.length ≤ 4611686018427387904) :
    Calls Try.prog 17 #[.slice A1 l.length c1] w fun e w' => e = .returned (.int .u32 (crcOf l)) ∧ w' = w := by
  have hux := unary_xor_u32
  have HL := Lib.hid (crcOf_nat l hb)
  have HN := Lib.hid (nat_lt hb)
  have HB := Lib.hid hb
  clear hb
  go_enter Try.func17, Try.ntmps17
  go_wp2
  go_loop [3, 4] (fun r i => ∃ k : Nat, k ≤ l.length ∧ i = .int .i64 k ∧ r = .int .u32 ((CrcP.C CrcP.F ((nat l).take k) : Nat) : Int)) (fun _ i => l.length - (intOf i).toNat)
  case atStart => exact ⟨0, Nat.zero_le _, rfl, rfl⟩
  case round =>
    obtain ⟨k, hk, rfl, rfl⟩ := hrel
    by_cases hlt : k < l.length
    · obtain ⟨ad, e, hx⟩ := Kd.at_int hr (k : Int) (by omega) (by omega)
      cases e
      simp only [Int.toNat_natCast] at hx
      have hkb : ((k : Int) < (l.length : Int)) = True := eq_true (by omega)
      obtain ⟨q0, q1⟩ := HB.out (rd l (k : Int)) (by
        simp only [rd, Int.toNat_natCast, List.getD_eq_getElem?_getD, List.getElem?_eq_getElem hlt]
        exact List.getElem_mem hlt)
      go_wp2
      obtain ⟨R0, hR⟩ : ∃ R0, R0 = CrcP.C CrcP.F (List.take k (nat l)) ^^^ (rd l (k : Int)).toNat := ⟨_, rfl⟩
      have hC := CrcP.C_lt ((nat l).take k) CrcP.F_lt (fun x hx => HN.out x (List.mem_of_mem_take hx))
      have hx : Go.bits .xor .u32 ((CrcP.C CrcP.F (List.take k (nat l)) : Nat) : Int) (rd l (k : Int)) = (R0 : Int) := by
        rw [show rd l (k : Int) = (((rd l (k : Int)).toNat : Nat) : Int) by omega, CrcP.xor_u32 _ _ hC (by omega), hR]
      have hR0 : R0 < 2 ^ 32 := by rw [hR]; exact Nat.xor_lt_two_pow hC (by omega)
      rw [hx]
      clear hx hC
      have HR := Lib.hid hR
      clear hR
      go_loop [3, 5] (fun r j => ∃ m : Nat, m ≤ 8 ∧ j = .int .i64 m ∧ r = .int .u32 ((CrcP.Tn m R0 : Nat) : Int)) (fun _ j => 8 - (intOf j).toNat)
      case atStart => exact ⟨0, Nat.zero_le _, rfl, rfl⟩
      case round =>
        obtain ⟨m, hm, rfl, rfl⟩ := hrel
        have hT := CrcP.Tn_lt m hR0
        by_cases h8 : m < 8
        · have hs := rstp_nat (CrcP.Tn m R0) hT
          have HS := Lib.hid hs
          clear hs
          cases hb : (Go.bits .and .u32 ((CrcP.Tn m R0 : Nat) : Int) 1 == 1)
          · have HB1 := Lib.hid hb
            go_wp2
            go_round
            case rel => exact ⟨m + 1, by omega, by go_num, by
              have := HS.out
              unfold rstp at this
              rw [HB1.out, if_neg (by decide)] at this
              rw [this]; rfl⟩
            case measure => simp [intOf]; omega
          · have HB1 := Lib.hid hb
            go_wp2
            go_round
            case rel => exact ⟨m + 1, by omega, by go_num, by
              have := HS.out
              unfold rstp at this
              rw [HB1.out, if_pos rfl] at this
              rw [this]; rfl⟩
            case measure => simp [intOf]; omega
        · obtain rfl : m = 8 := by omega
          go_wp2
          go_round
          case rel => exact ⟨k + 1, by omega, by go_num, by
            have hkn : k < (nat l).length := by simp [nat]; omega
            rw [List.take_succ_eq_append_getElem hkn, CrcP.C_append]
            show _ = Value.int .u32 ((CrcP.B _ _ : Nat) : Int)
            unfold CrcP.B
            rw [HR.out]
            simp [nat, rd, List.getD_eq_getElem?_getD, List.getElem?_eq_getElem hlt]⟩
          case measure => simp [intOf]; omega
    · obtain rfl : k = l.length := by omega
      have e : (nat l).take l.length = nat l := by rw [List.take_of_length_le (by simp [nat])]
      rw [e]
      clear e
      have hC := CrcP.C_lt (nat l) CrcP.F_lt HN.out
      have hi := inv_nat _ hC
      have HI := Lib.hid hi
      clear hi
      go_wp2
      go_ret
      exact ⟨by rw [HI.out, HL.out]; rfl, rfl⟩
end Go.Proofs.Ytkackggplinelaa.Crc
