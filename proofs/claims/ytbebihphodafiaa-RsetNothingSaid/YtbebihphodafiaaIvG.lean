/- Walks of the set of extents: asked. -/
import Derived.Test.YtbebihphodafiaaProg
import Derived.Below
import Derived.Deep.Draws
import Derived.Deep.AppendLies
import Derived.Maps.AppendAt
import Derived.OwnWalk
import Derived.Laws.BytesArg
import Derived.Laws.MakeOwn
import Derived.Laws.OwnMore
import Derived.Deep.OwnRows
import Derived.Tactics
import Derived.Lib.ConvBytes
import Derived.Laws.Slices
import Derived.WalkKit
import Derived.KernelRfl
import Derived.RowKit3
import Derived.Deep.LoopGhost
import Derived.Deep.QuietTactic
import Derived.BigQuiet
import Derived.WideLaws
import Derived.Deep.DeepCutAuto
import Derived.Deep.CutBlock
import Derived.Deep.RegionHeld3
import Derived.Laws.Rows
import Derived.Lib.AppendStr
import Derived.ArgAppend
import Derived.Laws.IdiomCopy
import Derived.OrdersHeld
import Derived.Laws.BitsLemmas
import Derived.RowKit
import Derived.Test.YtbebihphodafiaaWWords
import Derived.Test.YtbebihphodafiaaWLast
import Derived.Test.YtbebihphodafiaaWTab
import Derived.Test.YtbebihphodafiaaWFour
import Derived.Test.YtbebihphodafiaaWQPut
import Derived.Test.YtbebihphodafiaaWApart
import Derived.Test.YtbebihphodafiaaWArr
import Derived.Test.YtbebihphodafiaaWZeros
import Derived.Test.YtbebihphodafiaaWFoot
import Derived.Test.YtbebihphodafiaaWKept
import Derived.Test.YtbebihphodafiaaWShare
import Derived.Test.YtbebihphodafiaaWN
import Derived.Test.YtbebihphodafiaaWFootNe
import Derived.Test.YtbebihphodafiaaWAt
import Derived.Test.YtbebihphodafiaaWEqStruct
import Derived.Test.YtbebihphodafiaaWRepsOne
import Derived.Test.YtbebihphodafiaaWInv
import Derived.Test.YtbebihphodafiaaWInvWords
import Derived.Test.YtbebihphodafiaaWGuard
import Derived.Test.YtbebihphodafiaaWNEv
import Derived.Test.YtbebihphodafiaaWMore
import Derived.Outline
import Derived.Lib.Hide
import Derived.Deep.DeepMust
import Derived.Test.YtbebihphodafiaaIvF
namespace Go.Proofs.Ytbebihphodafiaa.Iv
open Go.RowKit Go.Proofs.YtbebihphodafiaaW.PrintWords Go.Proofs.YtbebihphodafiaaW.PrintLast Go.Proofs.YtbebihphodafiaaW.PrintMore Go.Proofs.Ytbebihphodafiaa.PWb
set_option linter.unusedVariables false
set_option linter.unusedSimpArgs false

set_option maxHeartbeats 1000000 in
theorem extents_calls (fr b : Nat) (most : Int) (L : List S60) (w : World) (hs : IsSet w fr b most L) (hl : L.length * 16 ≤ 140737488355328) :
    Calls Try.prog 40 #[.pointer (some ⟨b, 0, none⟩)] w fun e w' => ∃ v, e = .returned v ∧ RowKit.Below w.heap.size w w' ∧ Kd.R k60 60 w' w.heap.size (fun _ => True) v L := by
  obtain ⟨_, _, ⟨A0, c0, h1, h2, h3, _⟩, _, _, _⟩ := hs
  have HC := Lib.hid h3
  clear h3
  go_enter Try.func40, Try.ntmps40
  go_wp2_with (go_at_call 66; go_must (refine (clone_calls A0 c0 L w HC.out hl).mono ?_; rintro e w1 ⟨v1, rfl, hB1, hR1⟩))
  go_ret
  exact ⟨_, rfl, hB1, hR1⟩
theorem extentsNil_calls (w : World) : Calls Try.prog 40 #[.pointer none] w fun e w' => e = .returned (.slice none 0 0) ∧ w' = w := by
  go_enter Try.func40, Try.ntmps40
  go_wp2
  go_ret
  exact ⟨rfl, rfl⟩
def sumS (l : List S60) : Int := (l.map (·.f1)).sum
theorem sumS_bounds : ∀ (l : List S60), (∀ x ∈ l, Okx x) → 0 ≤ sumS l ∧ sumS l ≤ l.length * 1048577 := by
  intro l
  induction l with
  | nil => intro _; simp [sumS]
  | cons e l ih =>
    intro h
    have h1 := ih (fun x hx => h x (by simp [hx]))
    obtain ⟨a, b, c⟩ := h e (by simp)
    simp only [sumS, List.map_cons, List.sum_cons, List.length_cons] at h1 ⊢
    omega
theorem sumS_succ (l : List S60) (k : Nat) (h : k < l.length) : sumS (l.take (k + 1)) = sumS (l.take k) + (rd_T60 l (k : Int)).f1 := by
  have e : rd_T60 l (k : Int) = l[k] := by simp [rd_T60, List.getD_eq_getElem?_getD, List.getElem?_eq_getElem h]
  rw [e, List.take_succ_eq_append_getElem h]
  simp only [sumS, List.map_append, List.sum_append, List.map_cons, List.map_nil, List.sum_cons, List.sum_nil, Int.add_zero]
set_option maxHeartbeats 2000000 in
theorem count_calls (fr b : Nat) (most : Int) (L : List S60) (w : World) (hs : IsSet w fr b most L) (hl : L.length ≤ 1000000) :
    Calls Try.prog 35 #[.pointer (some ⟨b, 0, none⟩)] w fun e w' => e = .returned (.int .i64 (sumS L)) ∧ RowKit.Below w.heap.size w w' := by
  have HS := Lib.hid hs
  have hOK := Lib.hid hs.ok
  clear hs
  go_enter Try.func35, Try.ntmps35
  go_wp2_with (go_at_call 40; go_must (refine (extents_calls fr b most L w HS.out (by omega)).mono ?_; rintro e w1 ⟨v1, rfl, hB1, hR1⟩; obtain ⟨A1, c1, hv1, _, hC1⟩ := Kd.R_reads hR1; subst hv1; have HB1 := Lib.hid hB1; have HC1 := Lib.hid (fun w' (h : RowKit.Below w1.heap.size w1 w') => Kd.C_below hC1 h); clear hB1 hR1 hC1))
  go_loopw [2, 4, 8] (fun n _ i wr => ∃ k : Nat, k ≤ L.length ∧ i = .int .i64 k ∧ n = .int .i64 (sumS (L.take k)) ∧ Aside0 (RowKit.Below w1.heap.size w1 wr)) (fun _ _ i _ => L.length - (intOf i).toNat)
  case atStart => exact ⟨0, Nat.zero_le _, rfl, by simp [sumS], ⟨Below.refl _ _⟩⟩
  case round =>
    obtain ⟨k, hk, rfl, rfl, HB⟩ := hrel
    by_cases hlt : k < L.length
    · obtain ⟨ad, rfl, c0, c1⟩ := at_T60 (HC1.out _ HB.out) (k : Int) (by omega) (by omega)
      simp only [Int.toNat_natCast] at c0 c1
      have hss := sumS_succ L k hlt
      have hb1 := sumS_bounds (L.take k) (fun x hx => hOK.out x (List.mem_of_mem_take hx))
      have hq := hOK.out (rd_T60 L (k : Int)) (by
        have e : rd_T60 L (k : Int) = L[k] := by simp [rd_T60, List.getD_eq_getElem?_getD, List.getElem?_eq_getElem hlt]
        rw [e]; exact List.getElem_mem hlt)
      obtain ⟨q, hqe⟩ : ∃ q, q = rd_T60 L (k : Int) := ⟨_, rfl⟩
      rw [← hqe] at c0 c1 hss hq
      obtain ⟨n, hn⟩ : ∃ n, n = sumS (L.take k) := ⟨_, rfl⟩
      rw [← hn] at hss hb1 ⊢
      obtain ⟨_, q1, q2⟩ := hq
      have hlen : (L.take k).length ≤ L.length := by rw [List.length_take]; omega
      have w2 : wrap64 (n + q.f1) = n + q.f1 := by unfold wrap64; omega
      have HSS := Lib.hid hss
      have HW := Lib.hid w2
      have b2 : (k : Int) < (L.length : Int) := by omega
      clear hss hn hqe hb1 q1 q2 hlen
      go_wp2
      go_roundw
      case rel => exact ⟨k + 1, by omega, by go_num, by rw [HSS.out, HW.out], ⟨below_alloc HB.out _⟩⟩
      case measure => simp [intOf]; omega
    · obtain rfl : k = L.length := by omega
      have hF : L.take L.length = L := List.take_length
      rw [hF]
      have b2 : ¬ (L.length : Int) < (L.length : Int) := by omega
      clear hF
      go_wp2
      try rw [Exit.noGoto_ret]
      go_ret
      exact ⟨rfl, below_step HB1.out HB.out⟩
set_option maxHeartbeats 1000000 in
theorem countNil_calls (w : World) : Calls Try.prog 35 #[.pointer none] w fun e w' => e = .returned (.int .i64 0) ∧ w' = w := by
  go_enter Try.func35, Try.ntmps35
  go_wp2_with (go_at_call 40; go_must (refine (extentsNil_calls _).mono ?_; rintro e w1 ⟨rfl, rfl⟩))
  go_loop [2, 4, 8] (fun n _ i => n = .int .i64 0 ∧ i = .int .i64 0) (fun _ _ i => 0)
  case atStart => exact ⟨rfl, rfl⟩
  case round =>
    obtain ⟨rfl, rfl⟩ := hrel
    go_wp2
    try rw [Exit.noGoto_ret]
    go_ret
    exact ⟨rfl, rfl⟩
end Go.Proofs.Ytbebihphodafiaa.Iv
