/- Walks of what is read of a map of versions: a block, an extent. -/
import Derived.Test.YtbebihphodafiaaProg
import Derived.Below
import Derived.Deep.Draws
import Derived.Deep.AppendLies
import Derived.Maps.AppendAt
import Derived.OwnWalk
import Derived.Laws.BytesArg
import Derived.Laws.MakeOwn
import Derived.Laws.OwnMore
import Derived.Deep.OwnRows
import Derived.Tactics
import Derived.Lib.ConvBytes
import Derived.Laws.Slices
import Derived.WalkKit
import Derived.KernelRfl
import Derived.RowKit3
import Derived.Deep.LoopGhost
import Derived.Deep.QuietTactic
import Derived.BigQuiet
import Derived.WideLaws
import Derived.Deep.DeepCutAuto
import Derived.Deep.CutBlock
import Derived.Deep.RegionHeld3
import Derived.Laws.Rows
import Derived.Lib.AppendStr
import Derived.ArgAppend
import Derived.Laws.IdiomCopy
import Derived.OrdersHeld
import Derived.Laws.BitsLemmas
import Derived.RowKit
import Derived.Test.YtbebihphodafiaaWWords
import Derived.Test.YtbebihphodafiaaWLast
import Derived.Test.YtbebihphodafiaaWTab
import Derived.Test.YtbebihphodafiaaWFour
import Derived.Test.YtbebihphodafiaaWQPut
import Derived.Test.YtbebihphodafiaaWApart
import Derived.Test.YtbebihphodafiaaWArr
import Derived.Test.YtbebihphodafiaaWZeros
import Derived.Test.YtbebihphodafiaaWFoot
import Derived.Test.YtbebihphodafiaaWKept
import Derived.Test.YtbebihphodafiaaWShare
import Derived.Test.YtbebihphodafiaaWN
import Derived.Test.YtbebihphodafiaaWFootNe
import Derived.Test.YtbebihphodafiaaWAt
import Derived.Test.YtbebihphodafiaaWEqStruct
import Derived.Test.YtbebihphodafiaaWRepsOne
import Derived.Test.YtbebihphodafiaaWInv
import Derived.Test.YtbebihphodafiaaWInvWords
import Derived.Test.YtbebihphodafiaaWGuard
import Derived.Test.YtbebihphodafiaaWNEv
import Derived.Test.YtbebihphodafiaaWMore
import Derived.Outline
import Derived.Lib.Hide
import Derived.Deep.DeepMust
import Derived.Deep.RegionHeld3
import Derived.IntWalk
import Derived.Test.YtbebihphodafiaaRsA
namespace Go.Proofs.Ytbebihphodafiaa.Iv
open Go.RowKit Go.Proofs.YtbebihphodafiaaW.PrintWords Go.Proofs.YtbebihphodafiaaW.PrintLast Go.Proofs.YtbebihphodafiaaW.PrintMore Go.Proofs.Ytbebihphodafiaa.PWb Go.Maps
set_option linter.unusedVariables false
set_option linter.unusedSimpArgs false

def inE (blocks : Int) (e : S60) : Bool := decide (0 ≤ e.f0) && decide (1 ≤ e.f1) && decide (e.f1 ≤ blocks) && decide (e.f0 ≤ blocks - e.f1)
theorem blocksE_calls' (em : Nat) (blocks : Int) (w : World) (h : w.cell? ⟨em + 1, 0, none⟩ = some (.int .i64 blocks)) :
    Calls Try.prog 76 #[.pointer (some ⟨em + 1, 0, none⟩)] w fun e w' => e = .returned (.int .i64 blocks) ∧ w' = w :=
  (blocksE_calls em blocks w h).mono fun e w' ⟨a, b⟩ => ⟨a, b.symm⟩
set_option maxHeartbeats 4000000 in
theorem within_calls (em : Nat) (blocks : Int) (e : S60) (w : World) (h : w.cell? ⟨em + 1, 0, none⟩ = some (.int .i64 blocks)) (hb : 1 ≤ blocks ∧ blocks ≤ 1048576) :
    Calls Try.prog 71 #[.pointer (some ⟨em + 1, 0, none⟩), .agg #[.int .i64 e.f0, .int .i64 e.f1]] w fun r w' => r = .returned (.bool (inE blocks e)) ∧ RowKit.Below w.heap.size w w' := by
  obtain ⟨b1, b2⟩ := hb
  have c0 := World.cell?_alloc_at (w := w) #[.int .i64 e.f0, .int .i64 e.f1] 60 w.heap.size 0 rfl
  have c1 := World.cell?_alloc_at (w := w) #[.int .i64 e.f0, .int .i64 e.f1] 60 w.heap.size 1 rfl
  have c2 := pw_cell_below (below_alloc (Below.refl _ _) (.cells #[.int .i64 e.f0, .int .i64 e.f1] 60)) h
  have C := Lib.hid (show (w.alloc (.cells #[.int .i64 e.f0, .int .i64 e.f1] 60)).cell? ⟨w.heap.size, 0, none⟩ = some (.int .i64 e.f0) ∧ (w.alloc (.cells #[.int .i64 e.f0, .int .i64 e.f1] 60)).cell? ⟨w.heap.size, 1, none⟩ = some (.int .i64 e.f1) ∧ (w.alloc (.cells #[.int .i64 e.f0, .int .i64 e.f1] 60)).cell? ⟨em + 1, 0, none⟩ = some (.int .i64 blocks) from ⟨c0, c1, c2⟩)
  have HB := Lib.hid (below_alloc (Below.refl w.heap.size w) (.cells #[.int .i64 e.f0, .int .i64 e.f1] 60))
  clear c0 c1 c2 h
  by_cases g0 : 0 ≤ e.f0
  · by_cases g1 : 1 ≤ e.f1
    · by_cases g2 : e.f1 ≤ blocks
      · have wr : IntKind.i64.wrap (blocks - e.f1) = blocks - e.f1 := IntWalk.i64_in _ (by omega)
        by_cases g3 : e.f0 ≤ blocks - e.f1
        · have d0 : decide (0 ≤ e.f0) = true := by simpa using g0
          have d1 : decide (1 ≤ e.f1) = true := by simpa using g1
          have d2 : decide (e.f1 ≤ blocks) = true := by simpa using g2
          have d3 : decide (e.f0 ≤ blocks - e.f1) = true := by simpa using g3
          go_enter Try.func71, Try.ntmps71
          go_wp2
          obtain ⟨w5, h5⟩ : ∃ y, y = w.alloc (.cells #[.int .i64 e.f0, .int .i64 e.f1] 60) := ⟨_, rfl⟩
          rw [← h5] at C HB ⊢
          clear h5
          obtain ⟨k0, k1, k2⟩ := C.out
          go_quiet ((go_at_call 76; exact Calls.quiet_of_same (blocksE_calls' em blocks _ (by assumption))))
          go_wp2
          go_ret
          exact ⟨by unfold inE; first | (simp [g0, g1, g2, g3]; done) | (simp [g0, g1, g2, g3]; omega), pw_below_drewN HB.out _⟩
        · have d0 : decide (0 ≤ e.f0) = true := by simpa using g0
          have d1 : decide (1 ≤ e.f1) = true := by simpa using g1
          have d2 : decide (e.f1 ≤ blocks) = true := by simpa using g2
          have d3 : decide (e.f0 ≤ blocks - e.f1) = false := by simpa using g3
          go_enter Try.func71, Try.ntmps71
          go_wp2
          obtain ⟨w5, h5⟩ : ∃ y, y = w.alloc (.cells #[.int .i64 e.f0, .int .i64 e.f1] 60) := ⟨_, rfl⟩
          rw [← h5] at C HB ⊢
          clear h5
          obtain ⟨k0, k1, k2⟩ := C.out
          go_quiet ((go_at_call 76; exact Calls.quiet_of_same (blocksE_calls' em blocks _ (by assumption))))
          go_wp2
          go_ret
          exact ⟨by unfold inE; first | (simp [g0, g1, g2, g3]; done) | (simp [g0, g1, g2, g3]; omega), pw_below_drewN HB.out _⟩
      · have d0 : decide (0 ≤ e.f0) = true := by simpa using g0
        have d1 : decide (1 ≤ e.f1) = true := by simpa using g1
        have d2 : decide (e.f1 ≤ blocks) = false := by simpa using g2
        go_enter Try.func71, Try.ntmps71
        go_wp2
        obtain ⟨w5, h5⟩ : ∃ y, y = w.alloc (.cells #[.int .i64 e.f0, .int .i64 e.f1] 60) := ⟨_, rfl⟩
        rw [← h5] at C HB ⊢
        clear h5
        obtain ⟨k0, k1, k2⟩ := C.out
        go_quiet ((go_at_call 76; exact Calls.quiet_of_same (blocksE_calls' em blocks _ (by assumption))))
        go_wp2
        go_ret
        exact ⟨by unfold inE; first | (simp [g0, g1, g2]; done) | (simp [g0, g1, g2]; omega), pw_below_drewN HB.out _⟩
    · have d0 : decide (0 ≤ e.f0) = true := by simpa using g0
      have d1 : decide (1 ≤ e.f1) = false := by simpa using g1
      go_enter Try.func71, Try.ntmps71
      go_wp2
      obtain ⟨w5, h5⟩ : ∃ y, y = w.alloc (.cells #[.int .i64 e.f0, .int .i64 e.f1] 60) := ⟨_, rfl⟩
      rw [← h5] at C HB ⊢
      clear h5
      obtain ⟨k0, k1, k2⟩ := C.out
      go_quiet ((go_at_call 76; exact Calls.quiet_of_same (blocksE_calls' em blocks _ (by assumption))))
      go_wp2
      go_ret
      exact ⟨by unfold inE; first | (simp [g0, g1]; done) | (simp [g0, g1]; omega), pw_below_drewN HB.out _⟩
  · have d0 : decide (0 ≤ e.f0) = false := by simpa using g0
    go_enter Try.func71, Try.ntmps71
    go_wp2
    obtain ⟨w5, h5⟩ : ∃ y, y = w.alloc (.cells #[.int .i64 e.f0, .int .i64 e.f1] 60) := ⟨_, rfl⟩
    rw [← h5] at C HB ⊢
    clear h5
    obtain ⟨k0, k1, k2⟩ := C.out
    go_quiet ((go_at_call 76; exact Calls.quiet_of_same (blocksE_calls' em blocks _ (by assumption))))
    go_wp2
    go_ret
    exact ⟨by unfold inE; first | (simp [g0]; done) | (simp [g0]; omega), pw_below_drewN HB.out _⟩

/-- What a block was at a time. -/
def getE (V : Int → List S31) (x t : Int) : List Int := ((verAt (V x) t).map (·.f1)).getD (List.replicate 40 0)
theorem getE_len {V : Int → List S31} (h : ∀ x, ∀ p ∈ V x, p.f1.length = 40) (x t : Int) : (getE V x t).length = 40 := by
  unfold getE
  cases hv : verAt (V x) t with
  | none => simp
  | some p =>
    have := List.mem_of_find?_eq_some hv
    exact h x p (by simpa using this)
set_option maxHeartbeats 8000000 in
set_option maxRecDepth 100000 in
theorem getE_calls (fr em : Nat) (blocks last : Int) (V : Int → List S31) (x t : Int) (w : World) (hE : IsExt w fr em blocks last V) (hx : 0 ≤ x ∧ x < blocks) :
    Calls Try.prog 72 #[.pointer (some ⟨em + 1, 0, none⟩), .int .i64 x, .int .i64 t] w fun e w' => ∃ v ti, e = .returned (.tuple #[v, .int .i64 ti]) ∧ RowKit.Below w.heap.size w w' ∧ Kd.R kb 5 w' w.heap.size (fun _ => True) v (getE V x t) := by
  have hbl := hE.bl
  obtain ⟨x0, x1⟩ := hx
  have hwf := wf_small x x0 (by omega)
  have HBK := Lib.hid (blockE_calls em blocks x w hE.c0)
  have HAT := Lib.hid (at_calls fr em blocks last V x t w hE hwf)
  obtain ⟨A, c, hrun, hl, hC⟩ := hE.look x hwf
  replace hrun := hrun w rfl
  have c1 := hE.c1
  have HDT := Lib.hid (hE.dat x)
  have hbk : (decide (0 ≤ x) && decide (x < blocks)) = true := by simp [x0, x1]
  obtain ⟨l, hl'⟩ : ∃ l, l = V x := ⟨_, rfl⟩
  have HG : Hid (getE V x t = ((verAt l t).map (·.f1)).getD (List.replicate 40 0)) := Lib.hid (by rw [hl']; rfl)
  obtain ⟨G, hG⟩ : ∃ G, G = getE V x t := ⟨_, rfl⟩
  rw [← hG] at HG ⊢
  rw [← hl'] at hrun hl hC HAT HDT
  rw [hbk] at HBK
  have HC := Lib.hid hC
  have hn : l.length ≤ 9223372036854775807 := hC.2.1
  clear hE hwf hl' hC hbk hG
  cases hv : verAt l t with
  | none =>
    have HA := Lib.hid (HAT.out.mono fun e w' ⟨i, he, hi, hw⟩ => (show e = Ending.returned (.int .i64 (-1)) ∧ w' = w by
      rcases hi with ⟨h1, _⟩ | ⟨k, _, _, h3⟩
      · rw [he, h1]; exact ⟨rfl, hw⟩
      · rw [hv] at h3; cases h3))
    have HG0 := Lib.hid (show G = List.replicate (40 : Int).toNat 0 by rw [HG.out, hv]; rfl)
    clear hv HAT HG hrun hl
    go_enter Try.func72, Try.ntmps72
    go_wp2_with (first
      | (go_at_call 60; go_must (refine HBK.out.mono ?_; rintro _ w1 ⟨rfl, rfl⟩))
      | (go_at_call 82; go_must (refine HA.out.mono ?_; rintro _ w2 ⟨rfl, rfl⟩))
      | ((with_reducible refine gate_dst (N := 20) rfl ?_); go_must (refine Kd.R_make kb (w0 := w2) w2.heap.size 5 rfl (N := 20) rfl 28 _ _ rfl 40 rfl rfl Try.underlying28 (.int .u8 0) 1 info5 rfl (by decide) (by decide) (0 : Int) (ok := fun _ => True) (okp := fun _ => True) rfl (fun _ h => h) trivial (by decide) (by decide) (Below.refl _ _) (Nat.le_refl _) ?_; intro v3 w3 hR3 hB3 hg3 hb3; rw [← HG0.out] at hR3; obtain ⟨A3, c3, hv3⟩ := Kd.R_slice hR3; subst hv3; have HR3 := Lib.hid hR3; have HB3 := Lib.hid hB3; clear hR3 hB3 hg3 hb3)))
    go_ret2
    exact ⟨_, 0, rfl, HB3.out, HR3.out⟩
  | some p =>
    have HA := Lib.hid (HAT.out.mono fun e w' ⟨i, he, hi, hw⟩ => (show ∃ k : Nat, e = Ending.returned (.int .i64 k) ∧ (k < l.length ∧ rd_T31 l (k : Int) = p) ∧ w' = w by
      rcases hi with ⟨_, h2⟩ | ⟨k, h1, h2, h3⟩
      · rw [hv] at h2; cases h2
      · rw [hv] at h3
        exact ⟨k, by rw [he, h1], ⟨h2, by injection h3 with h3; rw [h3]; simp [rd_T31, List.getD_eq_getElem?_getD, List.getElem?_eq_getElem h2]⟩, hw⟩))
    have HG0 := Lib.hid (show G = p.f1 by rw [HG.out, hv]; rfl)
    have H40 := Lib.hid (show p.f1.length = 40 from by
      have h1 := List.mem_of_find?_eq_some hv
      exact HDT.out p (by simpa using h1))
    clear hv HAT HG hl
    go_enter Try.func72, Try.ntmps72
    go_wp2_with (first
      | (go_at_call 60; go_must (refine HBK.out.mono ?_; rintro _ w1 ⟨rfl, rfl⟩))
      | (go_at_call 82; go_must (refine HA.out.mono ?_; rintro _ w2 ⟨k, rfl, ⟨hk, hp⟩, rfl⟩; obtain ⟨ad, A1, c4, hA, x0, x1, x2, x3⟩ := at_T31 HC.out (k : Int) (by omega) (by omega); rw [hp] at x0 x1 x2 x3; subst hA; simp only [Int.toNat_natCast] at x0 x1; have b1 : (0 : Int) ≤ (k : Int) := (by omega); have b2 : (k : Int) < (l.length : Int) := (by omega); have HX3 := Lib.hid x3; clear hp x2 x3)))
    obtain ⟨w5, h5⟩ : ∃ y, y = w2.alloc (.cells #[.int .i64 p.f0, .slice A1 p.f1.length c4] 126) := ⟨_, rfl⟩
    have y0 := World.cell?_alloc_at (w := w2) #[.int .i64 p.f0, .slice A1 p.f1.length c4] 126 w2.heap.size 0 rfl
    have y1 := World.cell?_alloc_at (w := w2) #[.int .i64 p.f0, .slice A1 p.f1.length c4] 126 w2.heap.size 1 rfl
    have hb5 := below_alloc (Below.refl w2.heap.size w2) (.cells #[.int .i64 p.f0, .slice A1 p.f1.length c4] 126)
    rw [← h5] at y0 y1 hb5 ⊢
    clear h5
    have y0' : w5.cell? ⟨w2.heap.size, 0, none⟩ = some (.int .i64 p.f0) := y0
    have y1' : w5.cell? ⟨w2.heap.size, 1, none⟩ = some (.slice A1 p.f1.length c4) := y1
    have HX5 := Lib.hid (Kd.C_below HX3.out (below_drew1 hb5))
    have HB5 := Lib.hid (below_drew1 hb5)
    clear y0 y1 hb5 x0 x1
    go_region_held3 (fun w' => w'.cell? ⟨w2.heap.size, 0, none⟩ = some (.int .i64 p.f0) ∧ w'.cell? ⟨w2.heap.size, 1, none⟩ = some (.slice A1 p.f1.length c4))
      (first | exact HS6.out | exact ⟨y0', y1'⟩)
      ((go_at_call 49; refine (cloneB_calls A1 c4 p.f1 _ HX5.out (by have := H40.out; omega)).mono ?_; rintro _ w6 ⟨v6, rfl, hB6, hR6⟩; have HS6 := Lib.hid (show w6.cell? ⟨w2.heap.size, 0, none⟩ = some (.int .i64 p.f0) ∧ w6.cell? ⟨w2.heap.size, 1, none⟩ = some (.slice A1 p.f1.length c4) from ⟨pw_cell_below hB6 y0', pw_cell_below hB6 y1'⟩); have HB6 := Lib.hid (below_step HB5.out hB6); have HR6 := Lib.hid (Kd.R_lower hR6 HB5.out.size); clear hB6 hR6))
    go_wp2
    go_ret2
    exact ⟨_, _, rfl, HB6.out, by rw [HG0.out]; exact HR6.out⟩
def rangeK (V : Int → List S31) (x t : Int) (k : Nat) : List Int := (List.range k).flatMap (fun i : Nat => getE V (x + (i : Int)) t)
theorem rangeK_succ (V : Int → List S31) (x t : Int) (k : Nat) : rangeK V x t (k + 1) = rangeK V x t k ++ getE V (x + (k : Int)) t := by
  unfold rangeK
  rw [List.range_succ, List.flatMap_append]
  simp
theorem rangeK_len {V : Int → List S31} (h : ∀ x, ∀ p ∈ V x, p.f1.length = 40) (x t : Int) (k : Nat) : (rangeK V x t k).length = 40 * k := by
  induction k with
  | zero => rfl
  | succ k ih => rw [rangeK_succ, List.length_append, ih, getE_len h]; omega
theorem inE_iff (blocks : Int) (e : S60) : inE blocks e = true ↔ 0 ≤ e.f0 ∧ 1 ≤ e.f1 ∧ e.f1 ≤ blocks ∧ e.f0 ≤ blocks - e.f1 := by
  simp [inE, and_assoc]
set_option maxHeartbeats 8000000 in
set_option maxRecDepth 100000 in
theorem range_calls (fr em : Nat) (blocks last : Int) (V : Int → List S31) (e : S60) (t : Int) (w : World) (hE : IsExt w fr em blocks last V) (hi : inE blocks e = true) :
    Calls Try.prog 56 #[.pointer (some ⟨em + 1, 0, none⟩), .agg #[.int .i64 e.f0, .int .i64 e.f1], .int .i64 t] w fun r w' => ∃ v, r = .returned (.tuple #[v, .int .i64 0]) ∧ RowKit.Below w.heap.size w w' ∧ Kd.R kb 5 w' w.heap.size (fun _ => True) v (rangeK V e.f0 t e.f1.toNat) := by
  have HE := Lib.hid (fun w' (h : RowKit.Below w.heap.size w w') => hE.below h)
  have hbl := hE.bl
  have HDT := Lib.hid hE.dat
  have HIN := Lib.hid hi
  obtain ⟨i0, i1, i2, i3⟩ := (inE_iff blocks e).1 hi
  obtain ⟨n, hn⟩ : ∃ n : Nat, n = e.f1.toNat := ⟨_, rfl⟩
  rw [← hn]
  have hn1 : e.f1 = (n : Int) := by omega
  obtain ⟨f0, f1⟩ := e
  simp only at hn1 i0 i1 i2 i3 hn ⊢
  subst hn1
  have HB0 := Lib.hid (below_alloc (Below.refl w.heap.size w) (.cells #[.int .i64 f0, .int .i64 (n : Int)] 60))
  have HK := Lib.hid (show (w.alloc (.cells #[.int .i64 f0, .int .i64 (n : Int)] 60)).cell? ⟨w.heap.size, 0, none⟩ = some (.int .i64 f0) ∧ (w.alloc (.cells #[.int .i64 f0, .int .i64 (n : Int)] 60)).cell? ⟨w.heap.size, 1, none⟩ = some (.int .i64 (n : Int)) from ⟨World.cell?_alloc_at _ _ _ _ rfl, World.cell?_alloc_at _ _ _ _ rfl⟩)
  clear hE hi hn
  go_enter Try.func56, Try.ntmps56
  go_wp2_with (go_at_call 71; go_must (refine (within_calls em blocks ⟨f0, (n : Int)⟩ _ (HE.out _ HB0.out).c0 hbl).mono ?_; rintro _ w1 ⟨rfl, hB1⟩; rw [HIN.out]; have HB1 := Lib.hid (below_step HB0.out hB1); have k0 := pw_cell_below hB1 HK.out.1; have k1 := pw_cell_below hB1 HK.out.2; have HK1 := Lib.hid (And.intro k0 k1); clear hB1))
  clear k0 k1
  go_loopw [6, 8, 9, 10, 17] (fun v _ _ _ i wr => ∃ k : Nat, k ≤ n ∧ i = .int .i64 k ∧ Aside0 (RowKit.Below w1.heap.size w1 wr ∧ Kd.R kb 5 wr w1.heap.size (fun _ => True) v (rangeK V f0 t k))) (fun _ _ _ _ i _ => n - (intOf i).toNat)
  case atStart => exact ⟨0, Nat.zero_le _, rfl, ⟨Below.refl _ _, Kd.R_nil _ _ _ _ _⟩⟩
  case round =>
    obtain ⟨k, hk, rfl, HO⟩ := hrel
    obtain ⟨A2, c2, hv2⟩ := Kd.R_slice HO.out.2
    subst hv2
    have HR := Lib.hid HO.out.2
    have HB := Lib.hid HO.out.1
    have hrl := rangeK_len HDT.out f0 t k
    have k0 := pw_cell_below HB.out HK1.out.1
    have k1 := pw_cell_below HB.out HK1.out.2
    clear HO
    by_cases hlt : k < n
    · have HT := Lib.hid (rangeK_succ V f0 t k)
      have hgl := getE_len HDT.out (f0 + (k : Int)) t
      have HGE := Lib.hid (getE_calls fr em blocks last V (f0 + (k : Int)) t wr (HE.out _ (Below.trans HB1.out (HB.out.mono HB1.out.size))) (by omega))
      obtain ⟨G, hG⟩ : ∃ G, G = getE V (f0 + (k : Int)) t := ⟨_, rfl⟩
      rw [← hG] at HT HGE hgl
      have HL := Lib.hid (show (rangeK V f0 t k).length + G.length ≤ 140737488355328 by omega)
      obtain ⟨X, hX⟩ : ∃ X, X = rangeK V f0 t k := ⟨_, rfl⟩
      rw [← hX] at HT HR HL ⊢
      have b2 : (k : Int) < (n : Int) := by omega
      clear hrl hgl hG hX
      go_wp2_with (first
        | (go_at_call 72; go_must (refine HGE.out.mono ?_; rintro _ w6 ⟨v6, ti, rfl, hB6, hR6⟩; obtain ⟨A6, c6, hv6, _, hC6⟩ := Kd.R_reads hR6; subst hv6; have HB6 := Lib.hid (below_step HB.out hB6); have HC6 := Lib.hid hC6; have HO6 := Lib.hid (Kd.R_below HR.out hB6); clear hB6 hR6 hC6))
        | ((with_reducible refine gate_builtin (b := .append) (xs := #[.tmp 30, .tmp 31]) rfl ?_); at_builtin; go_must (refine app_bytes (w0 := w1) w1.heap.size rfl (.tmp 30) (.tmp 31) rfl (.slice A2 X.length c2) X G A6 G.length c6 rfl rfl HO6.out HC6.out HB6.out HB6.out.size (by have := HL.out; omega) ?_; intro v7 w7 hR7 hB7 hg7 _; have HR7 := Lib.hid hR7; have HB7 := Lib.hid hB7; clear hR7 hB7 hg7)))
      go_roundw
      case rel => exact ⟨k + 1, by omega, by go_num, ⟨HB7.out, by rw [HT.out]; exact HR7.out⟩⟩
      case measure => simp [intOf]; omega
    · obtain rfl : k = n := by omega
      have b2 : ¬ (k : Int) < (k : Int) := by omega
      obtain ⟨X, hX⟩ : ∃ X, X = rangeK V f0 t k := ⟨_, rfl⟩
      rw [← hX] at HR ⊢
      have HXX := Lib.hid hX
      clear hrl hX
      go_wp2
      try rw [Exit.noGoto_ret]
      go_ret2
      exact ⟨_, rfl, Below.trans HB1.out (HB.out.mono HB1.out.size), by rw [← HXX.out]; exact Kd.R_lower HR.out HB1.out.size⟩
theorem rangeBad_calls (fr em : Nat) (blocks last : Int) (V : Int → List S31) (e : S60) (t : Int) (w : World) (hE : IsExt w fr em blocks last V) (hi : inE blocks e = false) :
    Calls Try.prog 56 #[.pointer (some ⟨em + 1, 0, none⟩), .agg #[.int .i64 e.f0, .int .i64 e.f1], .int .i64 t] w fun r w' => r = .returned (.tuple #[.slice none 0 0, .int .i64 2]) ∧ RowKit.Below w.heap.size w w' := by
  have HE := Lib.hid (fun w' (h : RowKit.Below w.heap.size w w') => hE.below h)
  have hbl := hE.bl
  have HIN := Lib.hid hi
  have HB0 := Lib.hid (below_alloc (Below.refl w.heap.size w) (.cells #[.int .i64 e.f0, .int .i64 e.f1] 60))
  clear hE hi
  go_enter Try.func56, Try.ntmps56
  go_wp2_with (go_at_call 71; go_must (refine (within_calls em blocks e _ (HE.out _ HB0.out).c0 hbl).mono ?_; rintro _ w1 ⟨rfl, hB1⟩; rw [HIN.out]; have HB1 := Lib.hid (below_step HB0.out hB1); clear hB1))
  try rw [Exit.noGoto_ret]
  go_ret2
  exact ⟨rfl, HB1.out⟩
end Go.Proofs.Ytbebihphodafiaa.Iv
