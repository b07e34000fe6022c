/- What a map of versions is in memory, and walks of what is read of it. -/
import Derived.Test.YtbebihphodafiaaProg
import Derived.Below
import Derived.Deep.Draws
import Derived.Deep.AppendLies
import Derived.Maps.AppendAt
import Derived.OwnWalk
import Derived.Laws.BytesArg
import Derived.Laws.MakeOwn
import Derived.Laws.OwnMore
import Derived.Deep.OwnRows
import Derived.Tactics
import Derived.Lib.ConvBytes
import Derived.Laws.Slices
import Derived.WalkKit
import Derived.KernelRfl
import Derived.RowKit3
import Derived.Deep.LoopGhost
import Derived.Deep.QuietTactic
import Derived.BigQuiet
import Derived.WideLaws
import Derived.Deep.DeepCutAuto
import Derived.Deep.CutBlock
import Derived.Deep.RegionHeld3
import Derived.Laws.Rows
import Derived.Lib.AppendStr
import Derived.ArgAppend
import Derived.Laws.IdiomCopy
import Derived.OrdersHeld
import Derived.Laws.BitsLemmas
import Derived.RowKit
import Derived.Test.YtbebihphodafiaaWWords
import Derived.Test.YtbebihphodafiaaWLast
import Derived.Test.YtbebihphodafiaaWTab
import Derived.Test.YtbebihphodafiaaWFour
import Derived.Test.YtbebihphodafiaaWQPut
import Derived.Test.YtbebihphodafiaaWApart
import Derived.Test.YtbebihphodafiaaWArr
import Derived.Test.YtbebihphodafiaaWZeros
import Derived.Test.YtbebihphodafiaaWFoot
import Derived.Test.YtbebihphodafiaaWKept
import Derived.Test.YtbebihphodafiaaWShare
import Derived.Test.YtbebihphodafiaaWN
import Derived.Test.YtbebihphodafiaaWFootNe
import Derived.Test.YtbebihphodafiaaWAt
import Derived.Test.YtbebihphodafiaaWEqStruct
import Derived.Test.YtbebihphodafiaaWRepsOne
import Derived.Test.YtbebihphodafiaaWInv
import Derived.Test.YtbebihphodafiaaWInvWords
import Derived.Test.YtbebihphodafiaaWGuard
import Derived.Test.YtbebihphodafiaaWNEv
import Derived.Test.YtbebihphodafiaaWMore
import Derived.Outline
import Derived.Lib.Hide
import Derived.Deep.DeepMust
import Derived.Deep.RegionHeld3
import Derived.IntWalk
import Derived.Test.YtbebihphodafiaaWbG
namespace Go.Proofs.Ytbebihphodafiaa.Iv
open Go.RowKit Go.Proofs.YtbebihphodafiaaW.PrintWords Go.Proofs.YtbebihphodafiaaW.PrintLast Go.Proofs.YtbebihphodafiaaW.PrintMore Go.Proofs.Ytbebihphodafiaa.PWb Go.Maps
set_option linter.unusedVariables false
set_option linter.unusedSimpArgs false

/-- What is held of a block's versions (time, data), the eldest first. -/
structure IsExt (W : World) (fr em : Nat) (blocks last : Int) (V : Int → List S31) : Prop where
  lt : em + 1 < fr
  c0 : W.cell? ⟨em + 1, 0, none⟩ = some (.int .i64 blocks)
  c1 : W.cell? ⟨em + 1, 1, none⟩ = some (.map (some em))
  c2 : W.cell? ⟨em + 1, 2, none⟩ = some (.int .i64 last)
  map : ∃ (n : Nat) (D : DataW Value) (vv : Int → Value), W.ownsMap Try.prog 3 Rh em n D ∧ n ≤ 1048576 ∧ (∀ x, V x = [] → has D (ky x) = false) ∧
    (∀ x, V x ≠ [] → has D (ky x) = true ∧ (∀ z, D.atKey (ky x) z = .held (vv x)) ∧ Kd.R k31 126 W fr (fun k => fr ≤ k) (vv x) (V x)) ∧
    ∀ x y, x ≠ y → V x ≠ [] → V y ≠ [] → (vv x).ownBlock ≠ (vv y).ownBlock
  rng : ∀ x, V x ≠ [] → 0 ≤ x ∧ x < blocks
  dat : ∀ x, ∀ p ∈ V x, p.f1.length = 40
  bl : 1 ≤ blocks ∧ blocks ≤ 1048576
theorem IsExt.grown {W W' : World} {fr em : Nat} {blocks last : Int} {V : Int → List S31} (h : IsExt W fr em blocks last V) {row : Option Nat} (hg : W.grownBy W' row) (hr : ∀ k, row = some k → k < fr ∧ k ≠ em ∧ k ≠ em + 1) : IsExt W' fr em blocks last V := by
  have h1 : some (em + 1) ≠ row := fun e => (hr _ e.symm).2.2 rfl
  have h2 : some em ≠ row := fun e => (hr _ e.symm).2.1 rfl
  obtain ⟨n, D, vv, d1, d2, d3, d4, d5⟩ := h.map
  refine ⟨h.lt, hg.cell h.c0 h1, hg.cell h.c1 h1, hg.cell h.c2 h1, ⟨n, D, vv, d1.kept hg h2, d2, d3, fun x hx => ?_, d5⟩, h.rng, h.dat, h.bl⟩
  obtain ⟨e1, e2, e3⟩ := d4 x hx
  exact ⟨e1, e2, Kd.R_grown e3 hg (fun k hk e => by have := (hr k e.symm).1; omega)⟩
theorem IsExt.below {W W' : World} {fr em : Nat} {blocks last : Int} {V : Int → List S31} (h : IsExt W fr em blocks last V) (hb : RowKit.Below W.heap.size W W') : IsExt W' fr em blocks last V :=
  h.grown (grown_of_below hb none) (fun k hk => by cases hk)
theorem IsExt.look {W : World} {fr em : Nat} {blocks last : Int} {V : Int → List S31} (h : IsExt W fr em blocks last V) (x : Int) (hx : (Lit.int .i64 x).wf = true) :
    ∃ A c, (∀ W' : World, W'.heap[em]? = W.heap[em]? → (Instr.lookup 121 (.map (some em)) (.int .i64 x) false).run Try.prog W' = .ok (.slice A (V x).length c) W') ∧ (V x).length ≤ c ∧ Kd.C k31 W A (V x).length (V x) := by
  obtain ⟨n, D, vv, d1, d2, d3, d4, d5⟩ := h.map
  have key : keyOf Try.prog 3 (.int .i64 x) = some (ky x) := keyOf_int_mk Try.underlying3 hx
  have hz : Rh (.slice none 0 0) = some (.held (.slice none 0 0), []) := rfl
  have zero124 : ∀ w : World, (zeroValue 124).run Try.prog w = .ok (.slice none 0 0) w := fun w => by kernel_rfl
  have hv : ∃ A c, D.atKey (ky x) (.held (.slice none 0 0)) = .held (.slice A (V x).length c) ∧ (V x).length ≤ c ∧ Kd.C k31 W A (V x).length (V x) := by
    by_cases hV : V x = []
    · refine ⟨none, 0, ?_, ?_, ?_⟩
      · rw [atKey_of_not_has (d3 x hV), hV]; rfl
      · rw [hV]; exact Nat.le_refl _
      · rw [hV]; exact Kd.C_nil _ _
    · obtain ⟨_, e2, e3⟩ := d4 x hV
      obtain ⟨A, c, hv, hc, hC⟩ := Kd.R_reads e3
      exact ⟨A, c, by rw [e2, hv], hc, hC⟩
  obtain ⟨A, c, v1, v2, v3⟩ := hv
  refine ⟨A, c, fun W' hW' => ?_, v2, v3⟩
  replace d1 : W'.ownsMap Try.prog 3 Rh em n D := by
    obtain ⟨es, clock, hb, r⟩ := d1
    exact ⟨es, clock, hW'.trans hb, r⟩
  obtain ⟨v, ps, hrun, hR⟩ := d1.lookup law3 Try.underlying121 (zero124 W') hz key
  rw [hrun]
  have : v = .slice A (V x).length c ∧ ps = [] := by
    rw [v1] at hR
    simpa [Rh] using hR
  rw [this.1]
set_option maxHeartbeats 1000000 in
theorem newE_calls (blocks : Int) (fr em : Nat) (w : World) (hok : 1 ≤ blocks ∧ blocks ≤ 1048576) (hm : em = w.heap.size) (hfr : em + 1 < fr) :
    Calls Try.prog 53 #[.int .i64 blocks] w fun e w' => e = .returned (.tuple #[.pointer (some ⟨em + 1, 0, none⟩), .int .i64 0]) ∧ RowKit.Below w.heap.size w w' ∧ IsExt w' fr em blocks 0 (fun _ => []) ∧ em + 2 = w'.heap.size := by
  subst hm
  obtain ⟨h0, h1⟩ := hok
  have hmm := @run_makeMap Try.prog
  go_enter Try.func53, Try.ntmps53
  go_wp2
  go_ret2
  have hown := (World.ownsMap_made w Try.prog 3 Rh).alloc (.cells #[.int .i64 blocks, .map (some w.heap.size), .int .i64 0] 123)
  refine ⟨rfl, below_alloc (below_alloc (Below.refl _ _) _) _, ⟨hfr, ?_, ?_, ?_, ⟨0, _, fun _ => .nilIface, hown, by omega, fun x _ => rfl, fun x hx => absurd rfl hx, fun x y _ hx => absurd rfl hx⟩, fun x hx => absurd rfl hx, by simp, ⟨h0, h1⟩⟩, by simp⟩
  · rw [World.cell?_alloc_at _ _ _ _ (by simp)]; rfl
  · rw [World.cell?_alloc_at _ _ _ _ (by simp)]; rfl
  · rw [World.cell?_alloc_at _ _ _ _ (by simp)]; rfl
theorem blocksE_calls (em : Nat) (blocks : Int) (w : World) (h : w.cell? ⟨em + 1, 0, none⟩ = some (.int .i64 blocks)) :
    Calls Try.prog 76 #[.pointer (some ⟨em + 1, 0, none⟩)] w fun e w' => e = .returned (.int .i64 blocks) ∧ w = w' := by
  go_enter Try.func76, Try.ntmps76
  go_wp2
  go_ret
  exact ⟨rfl, rfl⟩
theorem blockE_calls (em : Nat) (blocks x : Int) (w : World) (h : w.cell? ⟨em + 1, 0, none⟩ = some (.int .i64 blocks)) :
    Calls Try.prog 60 #[.pointer (some ⟨em + 1, 0, none⟩), .int .i64 x] w fun e w' => e = .returned (.bool (decide (0 ≤ x) && decide (x < blocks))) ∧ w' = w := by
  by_cases h0 : 0 ≤ x
  · have d0 : decide (0 ≤ x) = true := by simpa using h0
    go_enter Try.func60, Try.ntmps60
    go_wp2_with (go_at_call 76; go_must (refine (blocksE_calls em blocks _ h).mono ?_; rintro _ w1 ⟨rfl, rfl⟩))
    go_ret
    exact ⟨by simp [h0], rfl⟩
  · have d0 : decide (0 ≤ x) = false := by simpa using h0
    have h0' : x < 0 := by omega
    go_enter Try.func60, Try.ntmps60
    go_wp2
    go_ret
    exact ⟨by simp [h0], rfl⟩
/-- The newest version that is not above a time. -/
def verAt (l : List S31) (t : Int) : Option S31 := l.reverse.find? (fun p => decide (p.f0 ≤ t))
theorem verAt_nil (t : Int) : verAt [] t = none := rfl
theorem verAt_snoc (l : List S31) (p : S31) (t : Int) : verAt (l ++ [p]) t = if p.f0 ≤ t then some p else verAt l t := by
  unfold verAt
  rw [List.reverse_append, List.reverse_cons, List.reverse_nil, List.nil_append, List.singleton_append, List.find?_cons]
  by_cases h : p.f0 ≤ t <;> simp [h]
def AtIs (l : List S31) (t i : Int) : Prop := (i = -1 ∧ verAt l t = none) ∨ ∃ k : Nat, i = k ∧ ∃ h : k < l.length, verAt l t = some l[k]
set_option maxHeartbeats 4000000 in
set_option maxRecDepth 100000 in
theorem at_calls (fr em : Nat) (blocks last : Int) (V : Int → List S31) (x t : Int) (w : World) (hE : IsExt w fr em blocks last V) (hx : (Lit.int .i64 x).wf = true) :
    Calls Try.prog 82 #[.pointer (some ⟨em + 1, 0, none⟩), .int .i64 x, .int .i64 t] w fun e w' => ∃ i, e = .returned (.int .i64 i) ∧ AtIs (V x) t i ∧ w' = w := by
  obtain ⟨A, c, hrun, hl, hC⟩ := hE.look x hx
  replace hrun := hrun w rfl
  have c1 := hE.c1
  obtain ⟨l, hl'⟩ : ∃ l, l = V x := ⟨_, rfl⟩
  rw [← hl'] at hrun hl hC ⊢
  have HC := Lib.hid hC
  have hn : l.length ≤ 9223372036854775807 := hC.2.1
  clear hE hx hl' hC
  go_enter Try.func82, Try.ntmps82
  go_wp2
  go_step3
  go_wp2
  clear hrun c1
  go_step3
  go_wp2
  go_loop [8] (fun i => ∃ m : Nat, m ≤ l.length ∧ i = .int .i64 ((m : Int) - 1) ∧ Aside0 (verAt l t = verAt (l.take m) t)) (fun i => (intOf i + 1).toNat)
  case atStart => exact ⟨l.length, Nat.le_refl _, rfl, ⟨by rw [List.take_length]⟩⟩
  case round =>
    obtain ⟨m, hm, rfl, HV⟩ := hrel
    by_cases h0 : m = 0
    · subst h0
      have e1 : ((0 : Nat) : Int) - 1 = -1 := rfl
      rw [e1]
      have HV' := Lib.hid (show verAt l t = none from HV.out.trans rfl)
      clear HV e1
      go_wp2
      try rw [Exit.noGoto_ret]
      go_ret
      exact ⟨_, rfl, .inl ⟨rfl, HV'.out⟩, rfl⟩
    · obtain ⟨p, rfl⟩ : ∃ p, m = p + 1 := ⟨m - 1, by omega⟩
      have e1 : ((p + 1 : Nat) : Int) - 1 = (p : Int) := by omega
      rw [e1]
      have hlt : p < l.length := by omega
      obtain ⟨ad, A1, c1, rfl, x0, _, _, _⟩ := at_T31 HC.out (p : Int) (by omega) (by omega)
      simp only [Int.toNat_natCast] at x0
      obtain ⟨q, hq⟩ : ∃ q, q = rd_T31 l (p : Int) := ⟨_, rfl⟩
      rw [← hq] at x0
      have hqe : q = l[p] := by rw [hq]; simp [rd_T31, List.getD_eq_getElem?_getD, List.getElem?_eq_getElem hlt]
      have hvs := HV.out
      rw [List.take_succ_eq_append_getElem hlt, verAt_snoc, ← hqe] at hvs
      have HVS := Lib.hid hvs
      have HQ := Lib.hid hqe
      have b1 : (0 : Int) ≤ (p : Int) := by omega
      have b2 : (p : Int) < (l.length : Int) := by omega
      clear hq hqe hvs HV e1 h0
      by_cases hle : q.f0 ≤ t
      · have HX := Lib.hid (show verAt l t = some q by rw [HVS.out, if_pos hle])
        go_wp2
        try rw [Exit.noGoto_ret]
        go_ret
        exact ⟨_, rfl, .inr ⟨p, rfl, hlt, by rw [HX.out, HQ.out]⟩, rfl⟩
      · have HX := Lib.hid (show verAt l t = verAt (l.take p) t by rw [HVS.out, if_neg hle])
        go_wp2
        go_round
        case rel => exact ⟨p, by omega, by go_num, ⟨HX.out⟩⟩
        case measure => simp [intOf]
end Go.Proofs.Ytbebihphodafiaa.Iv
