/- Walks of ival's small functions: what may be an extent, whether one of a row is, whether two meet, a copy of a row. -/
import Derived.Test.YtbebihphodafiaaProg
import Derived.Below
import Derived.Deep.Draws
import Derived.Deep.AppendLies
import Derived.Maps.AppendAt
import Derived.OwnWalk
import Derived.Laws.BytesArg
import Derived.Laws.MakeOwn
import Derived.Laws.OwnMore
import Derived.Deep.OwnRows
import Derived.Tactics
import Derived.Lib.ConvBytes
import Derived.Laws.Slices
import Derived.WalkKit
import Derived.KernelRfl
import Derived.RowKit3
import Derived.Deep.LoopGhost
import Derived.Deep.QuietTactic
import Derived.BigQuiet
import Derived.WideLaws
import Derived.Deep.DeepCutAuto
import Derived.Deep.CutBlock
import Derived.Deep.RegionHeld3
import Derived.Laws.Rows
import Derived.Lib.AppendStr
import Derived.ArgAppend
import Derived.Laws.IdiomCopy
import Derived.OrdersHeld
import Derived.Laws.BitsLemmas
import Derived.RowKit
import Derived.Test.YtbebihphodafiaaWWords
import Derived.Test.YtbebihphodafiaaWLast
import Derived.Test.YtbebihphodafiaaWTab
import Derived.Test.YtbebihphodafiaaWFour
import Derived.Test.YtbebihphodafiaaWQPut
import Derived.Test.YtbebihphodafiaaWApart
import Derived.Test.YtbebihphodafiaaWArr
import Derived.Test.YtbebihphodafiaaWZeros
import Derived.Test.YtbebihphodafiaaWFoot
import Derived.Test.YtbebihphodafiaaWKept
import Derived.Test.YtbebihphodafiaaWShare
import Derived.Test.YtbebihphodafiaaWN
import Derived.Test.YtbebihphodafiaaWFootNe
import Derived.Test.YtbebihphodafiaaWAt
import Derived.Test.YtbebihphodafiaaWEqStruct
import Derived.Test.YtbebihphodafiaaWRepsOne
import Derived.Test.YtbebihphodafiaaWInv
import Derived.Test.YtbebihphodafiaaWInvWords
import Derived.Test.YtbebihphodafiaaWGuard
import Derived.Test.YtbebihphodafiaaWNEv
import Derived.Test.YtbebihphodafiaaWMore
import Derived.Outline
import Derived.Lib.Hide
import Derived.Deep.DeepMust
import Derived.Lib.Builder
import Derived.Deep.AppendLies
import Derived.Shelf.Abstract
import Derived.Test.YtbebihphodafiaaPWbF
namespace Go.Proofs.Ytbebihphodafiaa.Iv
open Go.RowKit Go.Proofs.YtbebihphodafiaaW.PrintWords Go.Proofs.YtbebihphodafiaaW.PrintLast Go.Proofs.YtbebihphodafiaaW.PrintMore Go.Proofs.Ytbebihphodafiaa.PWb
set_option linter.unusedVariables false
set_option linter.unusedSimpArgs false

def ag (x : S60) : Value := .agg #[.int .i64 x.f0, .int .i64 x.f1]
def mayB (x : S60) : Bool := decide (0 ≤ x.f0) && decide (x.f0 ≤ 1048576) && decide (1 ≤ x.f1) && decide (x.f1 ≤ 1048576) && decide (x.f0 + x.f1 ≤ 1048577)
theorem mayB_iff (x : S60) : mayB x = true ↔ 0 ≤ x.f0 ∧ x.f0 ≤ 1048576 ∧ 1 ≤ x.f1 ∧ x.f1 ≤ 1048576 ∧ x.f0 + x.f1 ≤ 1048577 := by
  simp [mayB, and_assoc]
theorem may_f (x : S60) : ival_may.f x.f0 x.f1 = some (mayB x) := by
  unfold ival_may.f mayB
  by_cases h0 : 0 ≤ x.f0 <;> by_cases h1 : x.f0 ≤ 1048576 <;> by_cases h2 : 1 ≤ x.f1 <;> by_cases h3 : x.f1 ≤ 1048576 <;> simp [h0, h1, h2, h3]
  have : wrap64 (x.f0 + x.f1) = x.f0 + x.f1 := by unfold wrap64; omega
  rw [this]
theorem may_calls (x : S60) (w : World) : Calls Try.prog 85 #[ag x] w fun e w' => e = .returned (.bool (mayB x)) ∧ Below w.heap.size w w' :=
  ival_may.calls x.f0 x.f1 (mayB x) w (may_f x)
set_option maxHeartbeats 1000000 in
theorem notMay_calls (x : S60) (w : World) : Calls Try.prog 84 #[ag x] w fun e w' => e = .returned (.bool (!mayB x)) ∧ Below w.heap.size w w' := by
  show Calls Try.prog 84 #[.agg #[.int .i64 x.f0, .int .i64 x.f1]] w _
  have hm := fun W => may_calls x W
  unfold ag at hm
  generalize mayB x = m at hm ⊢
  go_enter Try.func84, Try.ntmps84
  go_wp2_with (go_at_call 85; refine (hm _).mono ?_; rintro e w' ⟨rfl, hb⟩)
  go_ret
  exact ⟨rfl, below_step (below_alloc (Below.refl _ _) _) hb⟩
/-- What is asked of a function that is handed over. -/
def Tells (g : Nat) (lb : Array Value) (p : S60 → Bool) (l : List S60) (w : World) : Prop :=
  ∀ W x, x ∈ l → Below w.heap.size w W → Calls Try.prog g (#[ag x] ++ lb) W fun e w' => e = .returned (.bool (p x)) ∧ Below w.heap.size w w'
set_option maxHeartbeats 4000000 in
theorem idx_calls (g : Nat) (lb : Array Value) (p : S60 → Bool) (eg : ∀ args w, (callFunc g args).run Try.prog w = .ok (.enter g args) w) (A : Option Addr) (c : Nat) (l : List S60) (w : World) (hr : Kd.C k60 w A l.length l) (hl : l.length ≤ 9223372036854775807) (hp : Tells g lb p l w) :
    Calls Try.prog 101 #[.slice A l.length c, .func (.func g) #[] lb] w fun e w' => ∃ i : Int, e = .returned (.int .i64 i) ∧ (decide (0 ≤ i)) = l.any p ∧ Below w.heap.size w w' := by
  have HR := Lib.hid (fun w' (h : Below w.heap.size w w') => Kd.C_below hr h)
  have HP := Lib.hid hp
  clear hr hp
  go_enter Try.func101, Try.ntmps101
  go_wp2
  go_loopw [5, 8] (fun _ i wr => ∃ k : Nat, k ≤ l.length ∧ i = .int .i64 k ∧ Aside0 (Below w.heap.size w wr ∧ (l.take k).any p = false)) (fun _ i _ => l.length - (intOf i).toNat)
  case atStart => exact ⟨0, Nat.zero_le _, rfl, ⟨Below.refl _ _, by simp⟩⟩
  case round =>
    obtain ⟨k, hk, rfl, HB⟩ := hrel
    by_cases hlt : k < l.length
    · obtain ⟨ad, rfl, c0, c1⟩ := at_T60 (HR.out _ HB.out.1) (k : Int) (by omega) (by omega)
      simp only [Int.toNat_natCast] at c0 c1
      obtain ⟨q, hq⟩ : ∃ q, q = rd_T60 l (k : Int) := ⟨_, rfl⟩
      rw [← hq] at c0 c1
      have hqe : q = l[k] := by rw [hq]; simp [rd_T60, List.getD_eq_getElem?_getD, List.getElem?_eq_getElem hlt]
      have hc := HP.out wr q (by rw [hqe]; exact List.getElem_mem hlt) HB.out.1
      unfold ag at hc
      have HT := Lib.hid (show (l.take (k + 1)).any p = ((l.take k).any p || p q) by
        rw [List.take_succ_eq_append_getElem hlt, List.any_append, hqe]; simp)
      have HM := Lib.hid (show p q = true → l.any p = true from fun h => List.any_eq_true.2 ⟨q, by rw [hqe]; exact List.getElem_mem hlt, h⟩)
      clear hq hqe
      have b2 : (k : Int) < (l.length : Int) := by omega
      have c0' := c0
      have c1' := c1
      cases hpq : p q with
      | true =>
        rw [hpq] at hc
        go_wp2_with (go_at_fn g; refine hc.mono ?_; rintro e w' ⟨rfl, hb'⟩)
        try rw [Exit.noGoto_ret]
        go_ret
        exact ⟨_, rfl, by rw [HM.out hpq]; simp, hb'⟩
      | false =>
        rw [hpq] at hc
        go_wp2_with (go_at_fn g; refine hc.mono ?_; rintro e w' ⟨rfl, hb'⟩)
        go_roundw
        case rel => exact ⟨k + 1, by omega, by go_num, ⟨hb', by rw [HT.out, HB.out.2, hpq]; rfl⟩⟩
        case measure => simp [intOf]; omega
    · obtain rfl : k = l.length := by omega
      have hF : l.take l.length = l := List.take_length
      rw [hF] at HB
      have b2 : ¬ (l.length : Int) < (l.length : Int) := by omega
      clear hF
      go_wp2
      try rw [Exit.noGoto_ret]
      go_ret
      exact ⟨_, rfl, by rw [HB.out.2]; rfl, HB.out.1⟩
set_option maxHeartbeats 1000000 in
theorem contains_calls (g : Nat) (lb : Array Value) (p : S60 → Bool) (eg : ∀ args w, (callFunc g args).run Try.prog w = .ok (.enter g args) w) (A : Option Addr) (c : Nat) (l : List S60) (w : World) (hr : Kd.C k60 w A l.length l) (hl : l.length ≤ 9223372036854775807) (hp : Tells g lb p l w) :
    Calls Try.prog 83 #[.slice A l.length c, .func (.func g) #[] lb] w fun e w' => e = .returned (.bool (l.any p)) ∧ Below w.heap.size w w' := by
  have hc := idx_calls g lb p eg A c l w hr hl hp
  clear hr hp
  generalize l.any p = b at hc ⊢
  go_enter Try.func83, Try.ntmps83
  go_wp2_with (go_at_call 101; refine hc.mono ?_; rintro e w' ⟨i, rfl, hi, hb⟩)
  go_ret
  refine ⟨?_, hb⟩
  rw [← hi]
  rfl
set_option maxHeartbeats 1000000 in
theorem all_calls (A : Option Addr) (c : Nat) (l : List S60) (w : World) (hr : Kd.C k60 w A l.length l) (hl : l.length ≤ 9223372036854775807) :
    Calls Try.prog 73 #[.slice A l.length c] w fun e w' => e = .returned (.bool (l.all mayB)) ∧ Below w.heap.size w w' := by
  have hc := contains_calls 84 #[] (fun x => !mayB x) (enters_of Try.func84 (by kernel_rfl) rfl) A c l w hr hl (fun W x _ hb => (notMay_calls x W).mono fun e w' ⟨he, h⟩ => ⟨he, below_step hb h⟩)
  have he : l.all mayB = !(l.any fun x => !mayB x) := by rw [List.not_any_eq_all_not]; simp
  rw [he]
  clear hr he
  generalize (l.any fun x => !mayB x) = b at hc ⊢
  go_enter Try.func73, Try.ntmps73
  go_wp2_with (go_at_call 83; refine hc.mono ?_; rintro e w' ⟨rfl, hb⟩)
  go_ret
  exact ⟨rfl, hb⟩
end Go.Proofs.Ytbebihphodafiaa.Iv
