/- Walks of a buffer's making, of what is read of it, and of whether a block is written twice. -/
import Derived.Test.YtbebihphodafiaaProg
import Derived.Below
import Derived.Deep.Draws
import Derived.Deep.AppendLies
import Derived.Maps.AppendAt
import Derived.OwnWalk
import Derived.Laws.BytesArg
import Derived.Laws.MakeOwn
import Derived.Laws.OwnMore
import Derived.Deep.OwnRows
import Derived.Tactics
import Derived.Lib.ConvBytes
import Derived.Laws.Slices
import Derived.WalkKit
import Derived.KernelRfl
import Derived.RowKit3
import Derived.Deep.LoopGhost
import Derived.Deep.QuietTactic
import Derived.BigQuiet
import Derived.WideLaws
import Derived.Deep.DeepCutAuto
import Derived.Deep.CutBlock
import Derived.Deep.RegionHeld3
import Derived.Laws.Rows
import Derived.Lib.AppendStr
import Derived.ArgAppend
import Derived.Laws.IdiomCopy
import Derived.OrdersHeld
import Derived.Laws.BitsLemmas
import Derived.RowKit
import Derived.Test.YtbebihphodafiaaWWords
import Derived.Test.YtbebihphodafiaaWLast
import Derived.Test.YtbebihphodafiaaWTab
import Derived.Test.YtbebihphodafiaaWFour
import Derived.Test.YtbebihphodafiaaWQPut
import Derived.Test.YtbebihphodafiaaWApart
import Derived.Test.YtbebihphodafiaaWArr
import Derived.Test.YtbebihphodafiaaWZeros
import Derived.Test.YtbebihphodafiaaWFoot
import Derived.Test.YtbebihphodafiaaWKept
import Derived.Test.YtbebihphodafiaaWShare
import Derived.Test.YtbebihphodafiaaWN
import Derived.Test.YtbebihphodafiaaWFootNe
import Derived.Test.YtbebihphodafiaaWAt
import Derived.Test.YtbebihphodafiaaWEqStruct
import Derived.Test.YtbebihphodafiaaWRepsOne
import Derived.Test.YtbebihphodafiaaWInv
import Derived.Test.YtbebihphodafiaaWInvWords
import Derived.Test.YtbebihphodafiaaWGuard
import Derived.Test.YtbebihphodafiaaWNEv
import Derived.Test.YtbebihphodafiaaWMore
import Derived.Outline
import Derived.Lib.Hide
import Derived.Deep.DeepMust
import Derived.IntWalk
import Derived.Test.YtbebihphodafiaaWbB
namespace Go.Proofs.Ytbebihphodafiaa.Iv
open Go.RowKit Go.Proofs.YtbebihphodafiaaW.PrintWords Go.Proofs.YtbebihphodafiaaW.PrintLast Go.Proofs.YtbebihphodafiaaW.PrintMore Go.Proofs.Ytbebihphodafiaa.PWb Go.Maps
set_option linter.unusedVariables false
set_option linter.unusedSimpArgs false

def okNew (blocks most : Int) : Prop := 1 ≤ blocks ∧ blocks ≤ 1048576 ∧ 0 ≤ most
set_option maxHeartbeats 1000000 in
theorem newB_calls (blocks most : Int) (fr mb : Nat) (w : World) (hok : okNew blocks most) (hm : mb = w.heap.size) (hfr : mb + 1 < fr) :
    Calls Try.prog 14 #[.int .i64 blocks, .int .i64 most] w fun e w' => e = .returned (.tuple #[.pointer (some ⟨mb + 1, 0, none⟩), .int .i64 0]) ∧ RowKit.Below w.heap.size w w' ∧ IsBuf w' fr mb blocks most [] ∧ mb + 2 = w'.heap.size := by
  subst hm
  obtain ⟨h0, h1, h2⟩ := hok
  have hmm := @run_makeMap Try.prog
  go_enter Try.func14, Try.ntmps14
  go_wp2
  go_ret2
  have hown := (World.ownsMap_made w Try.prog 3 Rh).alloc (.cells #[.int .i64 blocks, .int .i64 most, .map (some w.heap.size)] 101)
  refine ⟨rfl, below_alloc (below_alloc (Below.refl _ _) _) _, ⟨hfr, ?_, ?_, ?_, ⟨_, hown, rfl, fun x _ => rfl, by simp⟩, List.Pairwise.nil, by simp, ⟨h0, h1⟩⟩, by simp⟩
  · rw [World.cell?_alloc_at _ _ _ _ (by simp)]; rfl
  · rw [World.cell?_alloc_at _ _ _ _ (by simp)]; rfl
  · rw [World.cell?_alloc_at _ _ _ _ (by simp)]; rfl
set_option maxHeartbeats 1000000 in
theorem newBad_calls (blocks most : Int) (w : World) (hok : ¬ okNew blocks most) :
    Calls Try.prog 14 #[.int .i64 blocks, .int .i64 most] w fun e w' => e = .returned (.tuple #[.pointer none, .int .i64 1]) ∧ w' = w := by
  unfold okNew at hok
  by_cases h0 : blocks < 1
  · go_enter Try.func14, Try.ntmps14
    go_wp2
    go_ret2
    exact ⟨rfl, rfl⟩
  by_cases h1 : 1048576 < blocks
  · go_enter Try.func14, Try.ntmps14
    go_wp2
    go_ret2
    exact ⟨rfl, rfl⟩
  have h2 : most < 0 := by omega
  clear hok
  go_enter Try.func14, Try.ntmps14
  go_wp2
  go_ret2
  exact ⟨rfl, rfl⟩
set_option maxHeartbeats 1000000 in
theorem get_calls (fr mb : Nat) (blocks most : Int) (M : List S31) (x : Int) (w : World) (hb : IsBuf w fr mb blocks most M) (hx : (Lit.int .i64 x).wf = true) :
    Calls Try.prog 24 #[.pointer (some ⟨mb + 1, 0, none⟩), .int .i64 x] w fun e w' => ∃ v, e = .returned (.tuple #[v, .bool (hasM M x)]) ∧ RowKit.Below w.heap.size w w' ∧ Kd.R kb 5 w' w.heap.size (fun _ => True) v (lookM M x) := by
  obtain ⟨A, c, hrun, hl, hC⟩ := hb.look x hx true
  replace hrun := hrun w rfl
  rw [if_pos rfl] at hrun
  have c2 := hb.c2
  have hlen : (lookM M x).length ≤ 40 := by
    cases hm : hasM M x with
    | false => rw [lookM_none M x hm]; simp
    | true =>
      obtain ⟨p, hp, rfl⟩ := (hasM_iff M x).1 hm
      rw [lookM_mem hb.srt hp, (hb.rng p hp).2.2]
      exact Nat.le_refl _
  have HC := Lib.hid hC
  obtain ⟨b, hb'⟩ : ∃ b, b = hasM M x := ⟨_, rfl⟩
  obtain ⟨l, hl'⟩ : ∃ l, l = lookM M x := ⟨_, rfl⟩
  rw [← hb', ← hl'] at hrun
  rw [← hl'] at HC hlen
  rw [← hb', ← hl']
  clear hb hC hl hb' hl' hx
  go_enter Try.func24, Try.ntmps24
  go_wp2_with (go_at_call 49; go_must (refine (cloneB_calls A c l _ HC.out (by omega)).mono ?_; rintro _ w1 ⟨v1, rfl, hB1, hR1⟩))
  go_ret2
  exact ⟨_, rfl, hB1, hR1⟩
theorem getNil_calls (x : Int) (w : World) : Calls Try.prog 24 #[.pointer none, .int .i64 x] w fun e w' => e = .returned (.tuple #[.slice none 0 0, .bool false]) ∧ w' = w := by
  go_enter Try.func24, Try.ntmps24
  go_wp2
  go_ret2
  exact ⟨rfl, rfl⟩
def dupB (l : List S31) : Bool := !decide ((l.map (·.f0)).Nodup)
theorem K_C31 {w w' : World} {A : Option Addr} {n : Nat} {l : List S31} (h : Kd.C k31 w A n l) (hb : RowKit.Below w.heap.size w w') : Kd.C k31 w' A n l := Kd.C_below h hb
theorem zero3 (w : World) : (zeroValue 3).run Try.prog w = .ok (.int .i64 0) w := by kernel_rfl
set_option maxHeartbeats 4000000 in
set_option maxRecDepth 100000 in
theorem twice_calls (A : Option Addr) (c : Nat) (l : List S31) (w : World) (hr : Kd.C k31 w A l.length l) (hl : l.length ≤ 140737488355328) (hrg : ∀ p ∈ l, 0 ≤ p.f0 ∧ p.f0 < 1048576) :
    Calls Try.prog 48 #[.slice A l.length c] w fun e w' => e = .returned (.bool (dupB l)) ∧ RowKit.Below w.heap.size w w' := by
  have HR := Lib.hid (fun w' (h : RowKit.Below w.heap.size w w') => Kd.C_below hr h)
  have HG := Lib.hid hrg
  have hmm := @run_makeMap Try.prog
  have hown0 := World.ownsMap_made w Try.prog 3 (plainElem (H := Value) Try.prog 3)
  have HO0 := Lib.hid hown0
  clear hr hrg hown0
  go_enter Try.func48, Try.ntmps48
  go_wp2
  go_step3
  go_wp2
  clear hmm
  go_step3
  go_wp2
  go_loopw [5, 9] (fun _ i wr => ∃ k : Nat, k ≤ l.length ∧ i = .int .i64 k ∧ Aside0 (RowKit.Below w.heap.size w wr ∧ w.heap.size < wr.heap.size ∧ ((l.take k).map (·.f0)).Nodup ∧ ∃ D : DataW Value, wr.ownsMap Try.prog 3 (plainElem Try.prog 3) w.heap.size k D ∧ IsMap D ∧ ∀ x : Int, D.atKey (ky x) (.lit (.int .i64 0)) = .lit (.int .i64 (if x ∈ (l.take k).map (·.f0) then 1 else 0)))) (fun _ i _ => l.length - (intOf i).toNat)
  case atStart =>
    exact ⟨0, Nat.zero_le _, rfl, ⟨below_alloc (Below.refl _ _) _, by simp, by simp, .map [], HO0.out, isMap_empty, fun x => by simp [DataW.atKey]⟩⟩
  case round =>
    clear HO0
    obtain ⟨k, hk, rfl, HB⟩ := hrel
    by_cases hlt : k < l.length
    · obtain ⟨ad, A1, c1, rfl, x0, x1, _, _⟩ := at_T31 (HR.out _ HB.out.1) (k : Int) (by omega) (by omega)
      simp only [Int.toNat_natCast] at x0 x1
      obtain ⟨q, hq⟩ : ∃ q, q = rd_T31 l (k : Int) := ⟨_, rfl⟩
      rw [← hq] at x0 x1
      have hqe : q = l[k] := by rw [hq]; simp [rd_T31, List.getD_eq_getElem?_getD, List.getElem?_eq_getElem hlt]
      obtain ⟨q0, q1⟩ := HG.out q (by rw [hqe]; exact List.getElem_mem hlt)
      have HT := Lib.hid (show (l.take (k + 1)).map (·.f0) = (l.take k).map (·.f0) ++ [q.f0] by
        rw [List.take_succ_eq_append_getElem hlt, List.map_append, hqe]; rfl)
      obtain ⟨hB, hsz, hnd, D, hD, hI, hat⟩ := HB.out
      have hwf := wf_small q.f0 q0 (by omega)
      have hkey : keyOf Try.prog 3 (.int .i64 q.f0) = some (ky q.f0) := keyOf_int_mk Try.underlying3 hwf
      have hD5 := hD.alloc (.cells #[.int .i64 q.f0, .slice A1 q.f1.length c1] 31)
      obtain ⟨cc, hrun, hcc, _⟩ := hD5.lookup_int law3 (t := 139) Try.underlying139 Try.underlying3 (zero3 _) hkey
      rw [hat] at hcc
      have hccv : cc = if q.f0 ∈ (l.take k).map (·.f0) then 1 else 0 := by injection hcc with h; injection h with _ h; exact h.symm
      have b0 := World.cell?_alloc_at (w := wr) #[.int .i64 q.f0, .slice A1 q.f1.length c1] 31 wr.heap.size 0 rfl
      have HX := Lib.hid (show (wr.alloc (.cells #[.int .i64 q.f0, .slice A1 q.f1.length c1] 31)).cell? ⟨wr.heap.size, 0, none⟩ = some (.int .i64 q.f0) from b0)
      have b2 : (k : Int) < (l.length : Int) := by omega
      have HQ := Lib.hid hqe
      have HI := Lib.hid hI
      have HAT := Lib.hid hat
      have HND := Lib.hid hnd
      have HBB := Lib.hid hB
      have HSZ := Lib.hid hsz
      have HK := Lib.hid hkey
      have HD5 := Lib.hid hD5
      clear hq hqe hcc b0 hI hat hnd hB hsz hkey hD5 hD hwf HB
      by_cases hmem : q.f0 ∈ (l.take k).map (·.f0)
      · rw [if_pos hmem] at hccv
        subst hccv
        have HM := Lib.hid (show dupB l = true by
          unfold dupB
          rw [Bool.not_eq_true', decide_eq_false_iff_not]
          intro h
          have h2 : ((l.take (k + 1)).map (·.f0)).Nodup := (h.sublist ((List.take_sublist _ _).map _))
          rw [HT.out] at h2
          exact (List.nodup_append.1 h2).2.2 _ hmem _ (by simp) rfl)
        clear hmem
        go_wp2_with ((at_mapUpdate; refine wpList_mapUpdate_own _ rfl _ _ _ 139 rfl 3 3 law3 Try.underlying139 (plainElem Try.prog 3) w.heap.size k D rfl HD5.out (by unfold maxLen; omega) _ _ _ rfl rfl HK.out _ [] (plainElem_int Try.underlying3 (wf_small 2 (by decide) (by decide))) ?_; intro w6 hown6 hgrow6; have y0 : w6.cell? ⟨wr.heap.size, 0, none⟩ = some (.int .i64 q.f0) := hgrow6.cell (a := ⟨wr.heap.size, 0, none⟩) HX.out (by have := HSZ.out; simp; omega); obtain ⟨c6, hrun6, hc6, _⟩ := hown6.lookup_int law3 (t := 139) Try.underlying139 Try.underlying3 (zero3 _) HK.out; rw [atKey_put_same HI.out (ky_key _)] at hc6; have hc6' : c6 = 2 := (by injection hc6 with h; injection h with _ h; exact h.symm); subst hc6'; have HB6 := Lib.hid ((below_alloc HBB.out _).grown hgrow6 (by have := HSZ.out; simp; omega) (fun j hj => by cases hj; exact Nat.le_refl _)); clear hown6 hgrow6 hc6))
        try rw [Exit.noGoto_ret]
        go_ret
        exact ⟨by rw [HM.out]; rfl, HB6.out⟩
      · rw [if_neg hmem] at hccv
        subst hccv
        have HM := Lib.hid hmem
        clear hmem
        go_wp2_with ((at_mapUpdate; refine wpList_mapUpdate_own _ rfl _ _ _ 139 rfl 3 3 law3 Try.underlying139 (plainElem Try.prog 3) w.heap.size k D rfl HD5.out (by unfold maxLen; omega) _ _ _ rfl rfl HK.out _ [] (plainElem_int Try.underlying3 (wf_small 1 (by decide) (by decide))) ?_; intro w6 hown6 hgrow6; have y0 : w6.cell? ⟨wr.heap.size, 0, none⟩ = some (.int .i64 q.f0) := hgrow6.cell (a := ⟨wr.heap.size, 0, none⟩) HX.out (by have := HSZ.out; simp; omega); obtain ⟨c6, hrun6, hc6, _⟩ := hown6.lookup_int law3 (t := 139) Try.underlying139 Try.underlying3 (zero3 _) HK.out; rw [atKey_put_same HI.out (ky_key _)] at hc6; have hc6' : c6 = 1 := (by injection hc6 with h; injection h with _ h; exact h.symm); subst hc6'; have HB6 := Lib.hid ((below_alloc HBB.out _).grown hgrow6 (by have := HSZ.out; simp; omega) (fun j hj => by cases hj; exact Nat.le_refl _)); have HS6 := Lib.hid hgrow6.size; have HO6 := Lib.hid hown6; clear hown6 hgrow6 hc6))
        go_roundw
        case rel =>
          refine ⟨k + 1, by omega, by go_num, ⟨HB6.out, ?_, ?_, _, HO6.out, HI.out.put _ _, fun x => ?_⟩⟩
          · have h1 := HS6.out; have h2 := HSZ.out; simp at h1; omega
          · rw [HT.out]
            exact List.nodup_append.2 ⟨HND.out, by simp, fun a ha b hb => by simp at hb; subst hb; rintro rfl; exact HM.out ha⟩
          · rw [HT.out]
            by_cases hx : x = q.f0
            · subst hx
              rw [atKey_put_same HI.out (ky_key _), if_pos (by simp)]
            · rw [atKey_put_other (ky_inj hx), HAT.out]
              simp [hx]
        case measure => simp [intOf]; omega
    · obtain rfl : k = l.length := by omega
      have hF : l.take l.length = l := List.take_length
      have HM := Lib.hid (show dupB l = false by
        unfold dupB
        have := HB.out.2.2.1
        rw [hF] at this
        simpa using this)
      have HBB := Lib.hid HB.out.1
      have b2 : ¬ (l.length : Int) < (l.length : Int) := by omega
      clear hF HB
      go_wp2
      try rw [Exit.noGoto_ret]
      go_ret
      exact ⟨by rw [HM.out]; rfl, HBB.out⟩
end Go.Proofs.Ytbebihphodafiaa.Iv
