/- Walks of the set of extents: asked. -/
import Derived.Test.YtpoiicfpldbgeaaProg
import Derived.Below
import Derived.Deep.Draws
import Derived.Deep.AppendLies
import Derived.Maps.AppendAt
import Derived.OwnWalk
import Derived.Laws.BytesArg
import Derived.Laws.MakeOwn
import Derived.Laws.OwnMore
import Derived.Deep.OwnRows
import Derived.Tactics
import Derived.Lib.ConvBytes
import Derived.Laws.Slices
import Derived.WalkKit
import Derived.KernelRfl
import Derived.RowKit3
import Derived.Deep.LoopGhost
import Derived.Deep.QuietTactic
import Derived.BigQuiet
import Derived.WideLaws
import Derived.Deep.DeepCutAuto
import Derived.Deep.CutBlock
import Derived.Deep.RegionHeld3
import Derived.Laws.Rows
import Derived.Lib.AppendStr
import Derived.ArgAppend
import Derived.Laws.IdiomCopy
import Derived.OrdersHeld
import Derived.Laws.BitsLemmas
import Derived.RowKit
import Derived.Test.YtpoiicfpldbgeaaWWords
import Derived.Test.YtpoiicfpldbgeaaWLast
import Derived.Test.YtpoiicfpldbgeaaWTab
import Derived.Test.YtpoiicfpldbgeaaWFour
import Derived.Test.YtpoiicfpldbgeaaWQPut
import Derived.Test.YtpoiicfpldbgeaaWApart
import Derived.Test.YtpoiicfpldbgeaaWArr
import Derived.Test.YtpoiicfpldbgeaaWZeros
import Derived.Test.YtpoiicfpldbgeaaWFoot
import Derived.Test.YtpoiicfpldbgeaaWKept
import Derived.Test.YtpoiicfpldbgeaaWShare
import Derived.Test.YtpoiicfpldbgeaaWN
import Derived.Test.YtpoiicfpldbgeaaWFootNe
import Derived.Test.YtpoiicfpldbgeaaWAt
import Derived.Test.YtpoiicfpldbgeaaWEqStruct
import Derived.Test.YtpoiicfpldbgeaaWRepsOne
import Derived.Test.YtpoiicfpldbgeaaWInv
import Derived.Test.YtpoiicfpldbgeaaWInvWords
import Derived.Test.YtpoiicfpldbgeaaWGuard
import Derived.Test.YtpoiicfpldbgeaaWNEv
import Derived.Test.YtpoiicfpldbgeaaWMore
import Derived.Outline
import Derived.Lib.Hide
import Derived.Deep.DeepMust
import Derived.Test.YtpoiicfpldbgeaaIvF
namespace Go.Proofs.Ytpoiicfpldbgeaa.Iv
open Go.RowKit Go.Proofs.YtpoiicfpldbgeaaW.PrintWords Go.Proofs.YtpoiicfpldbgeaaW.PrintLast Go.Proofs.YtpoiicfpldbgeaaW.PrintMore Go.Proofs.Ytpoiicfpldbgeaa.PIv
set_option linter.unusedVariables false
set_option linter.unusedSimpArgs false

set_option maxHeartbeats 1000000 in
theorem extents_calls (fr b : Nat) (most : Int) (L : List S28) (w : World) (hs : IsSet w fr b most L) (hl : L.length * 16 ≤ 140737488355328) :
    Calls Try.prog 11 #[.pointer (some ⟨b, 0, none⟩)] w fun e w' => ∃ v, e = .returned v ∧ RowKit.Below w.heap.size w w' ∧ Kd.R k28 28 w' w.heap.size (fun _ => True) v L := by
  obtain ⟨_, _, ⟨A0, c0, h1, h2, h3, _⟩, _, _, _⟩ := hs
  have HC := Lib.hid h3
  clear h3
  go_enter Try.func11, Try.ntmps11
  go_wp2_with (go_at_call 24; go_must (refine (clone_calls A0 c0 L w HC.out hl).mono ?_; rintro e w1 ⟨v1, rfl, hB1, hR1⟩))
  go_ret
  exact ⟨_, rfl, hB1, hR1⟩
theorem extentsNil_calls (w : World) : Calls Try.prog 11 #[.pointer none] w fun e w' => e = .returned (.slice none 0 0) ∧ w' = w := by
  go_enter Try.func11, Try.ntmps11
  go_wp2
  go_ret
  exact ⟨rfl, rfl⟩
def sumS (l : List S28) : Int := (l.map (·.f1)).sum
theorem sumS_bounds : ∀ (l : List S28), (∀ x ∈ l, Okx x) → 0 ≤ sumS l ∧ sumS l ≤ l.length * 1048577 := by
  intro l
  induction l with
  | nil => intro _; simp [sumS]
  | cons e l ih =>
    intro h
    have h1 := ih (fun x hx => h x (by simp [hx]))
    obtain ⟨a, b, c⟩ := h e (by simp)
    simp only [sumS, List.map_cons, List.sum_cons, List.length_cons] at h1 ⊢
    omega
theorem sumS_succ (l : List S28) (k : Nat) (h : k < l.length) : sumS (l.take (k + 1)) = sumS (l.take k) + (rd_T28 l (k : Int)).f1 := by
  have e : rd_T28 l (k : Int) = l[k] := by simp [rd_T28, List.getD_eq_getElem?_getD, List.getElem?_eq_getElem h]
  rw [e, List.take_succ_eq_append_getElem h]
  simp only [sumS, List.map_append, List.sum_append, List.map_cons, List.map_nil, List.sum_cons, List.sum_nil, Int.add_zero]
set_option maxHeartbeats 2000000 in
theorem count_calls (fr b : Nat) (most : Int) (L : List S28) (w : World) (hs : IsSet w fr b most L) (hl : L.length ≤ 1000000) :
    Calls Try.prog 12 #[.pointer (some ⟨b, 0, none⟩)] w fun e w' => e = .returned (.int .i64 (sumS L)) ∧ RowKit.Below w.heap.size w w' := by
  have HS := Lib.hid hs
  have hOK := Lib.hid hs.ok
  clear hs
  go_enter Try.func12, Try.ntmps12
  go_wp2_with (go_at_call 11; go_must (refine (extents_calls fr b most L w HS.out (by omega)).mono ?_; rintro e w1 ⟨v1, rfl, hB1, hR1⟩; obtain ⟨A1, c1, hv1, _, hC1⟩ := Kd.R_reads hR1; subst hv1; have HB1 := Lib.hid hB1; have HC1 := Lib.hid (fun w' (h : RowKit.Below w1.heap.size w1 w') => Kd.C_below hC1 h); clear hB1 hR1 hC1))
  go_loopw [2, 4, 8] (fun n _ i wr => ∃ k : Nat, k ≤ L.length ∧ i = .int .i64 k ∧ n = .int .i64 (sumS (L.take k)) ∧ Aside0 (RowKit.Below w1.heap.size w1 wr)) (fun _ _ i _ => L.length - (intOf i).toNat)
  case atStart => exact ⟨0, Nat.zero_le _, rfl, by simp [sumS], ⟨Below.refl _ _⟩⟩
  case round =>
    obtain ⟨k, hk, rfl, rfl, HB⟩ := hrel
    by_cases hlt : k < L.length
    · obtain ⟨ad, rfl, c0, c1⟩ := at_T28 (HC1.out _ HB.out) (k : Int) (by omega) (by omega)
      simp only [Int.toNat_natCast] at c0 c1
      have hss := sumS_succ L k hlt
      have hb1 := sumS_bounds (L.take k) (fun x hx => hOK.out x (List.mem_of_mem_take hx))
      have hq := hOK.out (rd_T28 L (k : Int)) (by
        have e : rd_T28 L (k : Int) = L[k] := by simp [rd_T28, List.getD_eq_getElem?_getD, List.getElem?_eq_getElem hlt]
        rw [e]; exact List.getElem_mem hlt)
      obtain ⟨q, hqe⟩ : ∃ q, q = rd_T28 L (k : Int) := ⟨_, rfl⟩
      rw [← hqe] at c0 c1 hss hq
      obtain ⟨n, hn⟩ : ∃ n, n = sumS (L.take k) := ⟨_, rfl⟩
      rw [← hn] at hss hb1 ⊢
      obtain ⟨_, q1, q2⟩ := hq
      have hlen : (L.take k).length ≤ L.length := by rw [List.length_take]; omega
      have w2 : wrap64 (n + q.f1) = n + q.f1 := by unfold wrap64; omega
      have HSS := Lib.hid hss
      have HW := Lib.hid w2
      have b2 : (k : Int) < (L.length : Int) := by omega
      clear hss hn hqe hb1 q1 q2 hlen
      go_wp2
      go_roundw
      case rel => exact ⟨k + 1, by omega, by go_num, by rw [HSS.out, HW.out], ⟨below_alloc HB.out _⟩⟩
      case measure => simp [intOf]; omega
    · obtain rfl : k = L.length := by omega
      have hF : L.take L.length = L := List.take_length
      rw [hF]
      have b2 : ¬ (L.length : Int) < (L.length : Int) := by omega
      clear hF
      go_wp2
      try rw [Exit.noGoto_ret]
      go_ret
      exact ⟨rfl, below_step HB1.out HB.out⟩
set_option maxHeartbeats 1000000 in
theorem countNil_calls (w : World) : Calls Try.prog 12 #[.pointer none] w fun e w' => e = .returned (.int .i64 0) ∧ w' = w := by
  go_enter Try.func12, Try.ntmps12
  go_wp2_with (go_at_call 11; go_must (refine (extentsNil_calls _).mono ?_; rintro e w1 ⟨rfl, rfl⟩))
  go_loop [2, 4, 8] (fun n _ i => n = .int .i64 0 ∧ i = .int .i64 0) (fun _ _ i => 0)
  case atStart => exact ⟨rfl, rfl⟩
  case round =>
    obtain ⟨rfl, rfl⟩ := hrel
    go_wp2
    try rw [Exit.noGoto_ret]
    go_ret
    exact ⟨rfl, rfl⟩
set_option maxHeartbeats 1000000 in
theorem closure30 (x y : S28) (g : Nat) (hx : Okx x) (hy : Okx y) (w : World) (h0 : w.cell? ⟨g, 0, none⟩ = some (.int .i64 y.f0)) (h1 : w.cell? ⟨g, 1, none⟩ = some (.int .i64 y.f1)) :
    Calls Try.prog 30 #[ag x, .pointer (some ⟨g, 0, none⟩)] w fun e w' => e = .returned (.bool (meetB x y)) ∧ RowKit.Below w.heap.size w w' := by
  show Calls Try.prog 30 #[.agg #[.int .i64 x.f0, .int .i64 x.f1], .pointer (some ⟨g, 0, none⟩)] w _
  have hgl := World.block_lt_of_cell? _ _ h0
  simp only at hgl
  have hm := fun W => meet_calls x y hx hy W
  unfold ag at hm
  generalize meetB x y = m at hm ⊢
  have hg : g ≠ w.heap.size := by omega
  go_enter Try.func30, Try.ntmps30
  go_wp2_with (go_at_call 28; go_must (refine (hm _).mono ?_; rintro e w' ⟨rfl, hb⟩))
  go_ret
  exact ⟨rfl, below_step (below_alloc (Below.refl _ _) _) hb⟩
theorem closure27 (x y : S28) (g : Nat) (hx : Okx x) (hy : Okx y) (w : World) (h0 : w.cell? ⟨g, 0, none⟩ = some (.int .i64 x.f0)) (h1 : w.cell? ⟨g, 1, none⟩ = some (.int .i64 x.f1)) :
    Calls Try.prog 27 #[ag y, .pointer (some ⟨g, 0, none⟩)] w fun e w' => e = .returned (.bool (meetB x y)) ∧ RowKit.Below w.heap.size w w' := by
  show Calls Try.prog 27 #[.agg #[.int .i64 y.f0, .int .i64 y.f1], .pointer (some ⟨g, 0, none⟩)] w _
  have hgl := World.block_lt_of_cell? _ _ h0
  simp only at hgl
  have hm := fun W => meet_calls x y hx hy W
  unfold ag at hm
  generalize meetB x y = m at hm ⊢
  have hg : g ≠ w.heap.size := by omega
  go_enter Try.func27, Try.ntmps27
  go_wp2_with (go_at_call 28; go_must (refine (hm _).mono ?_; rintro e w' ⟨rfl, hb⟩))
  go_ret
  exact ⟨rfl, below_step (below_alloc (Below.refl _ _) _) hb⟩
end Go.Proofs.Ytpoiicfpldbgeaa.Iv
