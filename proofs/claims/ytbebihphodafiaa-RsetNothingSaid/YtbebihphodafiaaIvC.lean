/- Walks of ival: rows of extents behind each other. -/
import Derived.Test.YtbebihphodafiaaProg
import Derived.Below
import Derived.Deep.Draws
import Derived.Deep.AppendLies
import Derived.Maps.AppendAt
import Derived.OwnWalk
import Derived.Laws.BytesArg
import Derived.Laws.MakeOwn
import Derived.Laws.OwnMore
import Derived.Deep.OwnRows
import Derived.Tactics
import Derived.Lib.ConvBytes
import Derived.Laws.Slices
import Derived.WalkKit
import Derived.KernelRfl
import Derived.RowKit3
import Derived.Deep.LoopGhost
import Derived.Deep.QuietTactic
import Derived.BigQuiet
import Derived.WideLaws
import Derived.Deep.DeepCutAuto
import Derived.Deep.CutBlock
import Derived.Deep.RegionHeld3
import Derived.Laws.Rows
import Derived.Lib.AppendStr
import Derived.ArgAppend
import Derived.Laws.IdiomCopy
import Derived.OrdersHeld
import Derived.Laws.BitsLemmas
import Derived.RowKit
import Derived.Test.YtbebihphodafiaaWWords
import Derived.Test.YtbebihphodafiaaWLast
import Derived.Test.YtbebihphodafiaaWTab
import Derived.Test.YtbebihphodafiaaWFour
import Derived.Test.YtbebihphodafiaaWQPut
import Derived.Test.YtbebihphodafiaaWApart
import Derived.Test.YtbebihphodafiaaWArr
import Derived.Test.YtbebihphodafiaaWZeros
import Derived.Test.YtbebihphodafiaaWFoot
import Derived.Test.YtbebihphodafiaaWKept
import Derived.Test.YtbebihphodafiaaWShare
import Derived.Test.YtbebihphodafiaaWN
import Derived.Test.YtbebihphodafiaaWFootNe
import Derived.Test.YtbebihphodafiaaWAt
import Derived.Test.YtbebihphodafiaaWEqStruct
import Derived.Test.YtbebihphodafiaaWRepsOne
import Derived.Test.YtbebihphodafiaaWInv
import Derived.Test.YtbebihphodafiaaWInvWords
import Derived.Test.YtbebihphodafiaaWGuard
import Derived.Test.YtbebihphodafiaaWNEv
import Derived.Test.YtbebihphodafiaaWMore
import Derived.Outline
import Derived.Lib.Hide
import Derived.Deep.DeepMust
import Derived.Test.YtbebihphodafiaaIvB
namespace Go.Proofs.Ytbebihphodafiaa.Iv
open Go.RowKit Go.Proofs.YtbebihphodafiaaW.PrintWords Go.Proofs.YtbebihphodafiaaW.PrintLast Go.Proofs.YtbebihphodafiaaW.PrintMore Go.Proofs.Ytbebihphodafiaa.PWb
set_option linter.unusedVariables false
set_option linter.unusedSimpArgs false

set_option maxHeartbeats 1000000 in
theorem grow_calls (n : Nat) (w : World) (hn : n * 16 ≤ 140737488355328) :
    Calls Try.prog 89 #[.slice none 0 0, .int .i64 n] w fun e w' => ∃ v, e = .returned v ∧ Below w.heap.size w w' ∧ Kd.R k60 60 w' w.heap.size (fun _ => True) v [] := by
  have d0 : decide ((n : Int) < 0) = false := by simp <;> omega
  have b0 : ¬ ((n : Int) < 0) := by omega
  by_cases h0 : n = 0
  · subst h0
    go_enter Try.func89, Try.ntmps89
    go_wp2
    go_ret
    exact ⟨_, rfl, Below.refl _ _, Kd.R_nil _ _ _ _ _⟩
  · obtain ⟨i0, hi0, hz⟩ := Option.map_eq_some_iff.1 info60
    simp only [Prod.mk.injEq] at hz
    obtain ⟨hz0, hz1, hz2⟩ := hz
    have h1 : (n : Int) > 0 := by omega
    have d1 : decide ((0 : Int) < n) = true := by simp <;> omega
    have w1 : wrap64 ((n : Int) - 0) = (n : Int) := by unfold wrap64; omega
    have hrz : ∀ ty, (Builtin.append_ #[83, 3] ty #[.slice none 0 0, .int .i64 (n : Int)]).run Try.prog w = .ok (.slice (some ⟨w.heap.size, 0, none⟩) n (grownCap w n 0 60)) (w.drew.alloc (.cells (Builtin.zeroCells #[.int .i64 0, .int .i64 0] n ++ Builtin.zeroCells #[.int .i64 0, .int .i64 0] (grownCap w n 0 60 - n)) 60)) := fun ty => by
      have h := Lib.run_append_grow_zeros w 83 3 ty 60 i0 (.agg #[.int .i64 0, .int .i64 0]) .i64 .i64 Try.underlying83 Try.underlying3 hi0 hz0 none 0 0 [] (run_firstCells_none w.drew i0.size 0 0 0) n (by omega) (by omega) (by omega) (by omega) (by rw [hz2]; omega) (by rw [hz2]; exact growslice_fits (by omega) (by omega))
      simpa [Value.cells] using h
    have hGn : n ≤ grownCap w n 0 60 := grownCap_ge w _ _ _
    have hG63 := grownCap_le_maxLen w n 0 60 (by unfold maxLen; omega)
    obtain ⟨G, hG⟩ : ∃ G, G = grownCap w n 0 60 := ⟨_, rfl⟩
    rw [← hG] at hrz hGn hG63
    have hz28 : ∀ W, (Go.sizeOf 60).run Try.prog W = .ok 2 W := Try.sizeOf60
    have hG9 : G ≤ 9223372036854775807 := by unfold maxLen at hG63; omega
    have hrow : Kd.R k60 60 (w.drew.alloc (.cells (Builtin.zeroCells #[.int .i64 0, .int .i64 0] n ++ Builtin.zeroCells #[.int .i64 0, .int .i64 0] (G - n)) 60)) w.heap.size (fun _ => True) (.slice (some ⟨w.heap.size, 0, none⟩) 0 G) [] :=
      R_room w.drew w.heap.size G _ (Nat.le_refl _) (by simp [Builtin.zeroCells]; omega) hG63
    have HROW := Lib.hid hrow
    obtain ⟨cs, hcs⟩ : ∃ cs, cs = Builtin.zeroCells #[.int .i64 0, .int .i64 0] n ++ Builtin.zeroCells #[.int .i64 0, .int .i64 0] (G - n) := ⟨_, rfl⟩
    rw [← hcs] at hrz HROW
    clear hrow hG hcs hi0 hz0 hz1 hz2
    go_enter Try.func89, Try.ntmps89
    go_wp2_with (at_builtin; go_must (refine Lib.wpList_append_run _ rfl _ _ _ _ rfl _ _ rfl rfl _ _ (hrz _) ?_))
    go_ret
    exact ⟨_, rfl, below_alloc (below_drew (Below.refl _ _)) _, HROW.out⟩
def tot (l : List (List S60)) : Nat := (l.map List.length).sum
theorem tot_take (l : List (List S60)) : ∀ k : Nat, tot (l.take k) ≤ tot l := by
  induction l with
  | nil => intro k; simp
  | cons x l ih =>
    intro k
    cases k with
    | zero => simp [tot]
    | succ k => have := ih k; simp [tot] at this ⊢; omega
theorem flat_len (l : List (List S60)) : l.flatten.length = tot l := by simp [tot]
theorem tot_succ (l : List (List S60)) (k : Nat) (h : k < l.length) : tot (l.take (k + 1)) = tot (l.take k) + (rd_L6 l (k : Int)).length := by
  have e : rd_L6 l (k : Int) = l[k] := by simp [rd_L6, List.getD_eq_getElem?_getD, List.getElem?_eq_getElem h]
  rw [e, List.take_succ_eq_append_getElem h]
  simp only [tot, List.map_append, List.sum_append, List.map_cons, List.map_nil, List.sum_cons, List.sum_nil, Nat.add_zero]
theorem flat_succ (l : List (List S60)) (k : Nat) (h : k < l.length) : (l.take (k + 1)).flatten = (l.take k).flatten ++ rd_L6 l (k : Int) := by
  have e : rd_L6 l (k : Int) = l[k] := by simp [rd_L6, List.getD_eq_getElem?_getD, List.getElem?_eq_getElem h]
  rw [e, List.take_succ_eq_append_getElem h]
  simp only [List.flatten_append, List.flatten_cons, List.flatten_nil, List.append_nil]
set_option maxHeartbeats 4000000 in
set_option maxRecDepth 100000 in
theorem concat_calls (A : Option Addr) (c : Nat) (l : List (List S60)) (w : World) (hr : Kd.C (Kd.slice 60 k60) w A l.length l) (hl : tot l * 16 ≤ 140737488355328) (hl2 : l.length ≤ 9223372036854775807) :
    Calls Try.prog 75 #[.slice A l.length c] w fun e w' => ∃ v, e = .returned v ∧ Below w.heap.size w w' ∧ Kd.R k60 60 w' w.heap.size (fun _ => True) v l.flatten := by
  have HR := Lib.hid (fun w' (h : Below w.heap.size w w') => Kd.C_below hr h)
  have HL := Lib.hid hl
  clear hr hl
  go_enter Try.func75, Try.ntmps75
  go_wp2
  go_loop [3, 5, 11] (fun sz _ i => ∃ k : Nat, k ≤ l.length ∧ i = .int .i64 k ∧ sz = .int .i64 (tot (l.take k) : Nat)) (fun _ _ i => l.length - (intOf i).toNat)
  case atStart => exact ⟨0, Nat.zero_le _, rfl, by simp [tot]⟩
  case round =>
    obtain ⟨k, hk, rfl, rfl⟩ := hrel
    by_cases hlt : k < l.length
    · obtain ⟨ad, A0, c0, rfl, x0, x1, x2⟩ := at_L6 (HR.out _ (Below.refl _ _)) (k : Int) (by omega) (by omega)
      simp only [Int.toNat_natCast] at x0
      have hts := tot_succ l k hlt
      have htl := tot_take l (k + 1)
      obtain ⟨q, hq⟩ : ∃ q, q = rd_L6 l (k : Int) := ⟨_, rfl⟩
      rw [← hq] at x0 hts
      clear x1 x2 hq
      obtain ⟨m, hm⟩ : ∃ m, m = q.length := ⟨_, rfl⟩
      rw [← hm] at x0 hts
      obtain ⟨tk, htk⟩ : ∃ t, t = tot (l.take k) := ⟨_, rfl⟩
      rw [← htk] at hts ⊢
      have hb := HL.out
      have b2 : (k : Int) < (l.length : Int) := by omega
      have w1 : wrap64 ((tk : Int) + m) = ((tk + m : Nat) : Int) := by unfold wrap64; omega
      have d1 : decide (((tk + m : Nat) : Int) < 0) = false := by simp <;> omega
      have b1 : ¬ (((tk + m : Nat) : Int) < 0) := by omega
      have HTS := Lib.hid hts
      have HW1 := Lib.hid w1
      clear hts htl hb htk hm
      go_wp2
      go_round
      case rel => exact ⟨k + 1, by omega, by go_num, by rw [HTS.out, HW1.out]⟩
      case measure => simp [intOf]; omega
    · obtain rfl : k = l.length := by omega
      have hF : l.take l.length = l := List.take_length
      rw [hF]
      have b2 : ¬ (l.length : Int) < (l.length : Int) := by omega
      clear hF
      have hg := grow_calls (tot l) w HL.out
      go_wp2_with (go_at_call 89; go_must (refine hg.mono ?_; rintro e w1 ⟨v1, rfl, hB1, hR1⟩))
      have HB1 := Lib.hid hB1
      have HR1 := Lib.hid hR1
      clear hB1 hR1 hg
      go_loopw [6, 8, 27] (fun v _ i ww => ∃ k : Nat, k ≤ l.length ∧ i = .int .i64 k ∧ Aside0 (Below w.heap.size w ww ∧ Kd.R k60 60 ww w.heap.size (fun _ => True) v (l.take k).flatten)) (fun _ _ i _ => l.length - (intOf i).toNat)
      case atStart => exact ⟨0, Nat.zero_le _, rfl, ⟨HB1.out, by simpa using HR1.out⟩⟩
      case round =>
        obtain ⟨k, hk, rfl, HO⟩ := hrel
        by_cases hlt : k < l.length
        · obtain ⟨ad, A0, c0, rfl, x0, x1, x2⟩ := at_L6 (HR.out _ HO.out.1) (k : Int) (by omega) (by omega)
          simp only [Int.toNat_natCast] at x0
          have hfs := flat_succ l k hlt
          have htl := tot_take l (k + 1)
          have hts := tot_succ l k hlt
          have hfl := flat_len (l.take k)
          obtain ⟨q, hq⟩ : ∃ q, q = rd_L6 l (k : Int) := ⟨_, rfl⟩
          rw [← hq] at x0 hts hfs x2
          have HX := Lib.hid x2
          have HFS := Lib.hid hfs
          have HLEN := Lib.hid (show ((l.take k).flatten.length + q.length) * 16 ≤ 140737488355328 by have := HL.out; omega)
          have HSZ := Lib.hid HO.out.1.size
          have b2 : (k : Int) < (l.length : Int) := by omega
          clear x1 x2 hq hfs hts htl hfl
          obtain ⟨p, hp⟩ : ∃ p, p = (l.take k).flatten := ⟨_, rfl⟩
          rw [← hp] at HO HLEN HFS
          clear hp
          go_wp2_with ((with_reducible refine gate_builtin (b := .append) (xs := #[.tmp 31, .tmp 32]) rfl ?_); at_builtin; go_must (refine app_rows (w0 := w) w.heap.size rfl (.tmp 31) (.tmp 32) rfl _ p q A0 q.length c0 rfl rfl HO.out.2 HX.out HO.out.1 HSZ.out HLEN.out ?_; intro v3 w3 h1 h2 h3; have H1 := Lib.hid h1; have H2 := Lib.hid h2; clear h1 h2 h3))
          go_roundw
          case rel => exact ⟨k + 1, by omega, by go_num, ⟨H2.out, by rw [HFS.out]; exact H1.out⟩⟩
          case measure => simp [intOf]; omega
        · obtain rfl : k = l.length := by omega
          have hF : l.take l.length = l := List.take_length
          rw [hF] at HO
          have b2 : ¬ (l.length : Int) < (l.length : Int) := by omega
          clear hF
          go_wp2
          try rw [Exit.noGoto_ret]
          go_ret
          exact ⟨_, rfl, HO.out.1, HO.out.2⟩
end Go.Proofs.Ytbebihphodafiaa.Iv
