/- A view's Read refused; no view; fresh worlds; awake; the law RsetNothing. -/
import Derived.Test.YtbebihphodafiaaProg
import Derived.Below
import Derived.Deep.Draws
import Derived.Deep.AppendLies
import Derived.Maps.AppendAt
import Derived.OwnWalk
import Derived.Laws.BytesArg
import Derived.Laws.MakeOwn
import Derived.Laws.OwnMore
import Derived.Deep.OwnRows
import Derived.Tactics
import Derived.Lib.ConvBytes
import Derived.Laws.Slices
import Derived.WalkKit
import Derived.KernelRfl
import Derived.RowKit3
import Derived.Deep.LoopGhost
import Derived.Deep.QuietTactic
import Derived.BigQuiet
import Derived.WideLaws
import Derived.Deep.DeepCutAuto
import Derived.Deep.CutBlock
import Derived.Deep.RegionHeld3
import Derived.Laws.Rows
import Derived.Lib.AppendStr
import Derived.ArgAppend
import Derived.Laws.IdiomCopy
import Derived.OrdersHeld
import Derived.Laws.BitsLemmas
import Derived.RowKit
import Derived.Test.YtbebihphodafiaaWWords
import Derived.Test.YtbebihphodafiaaWLast
import Derived.Test.YtbebihphodafiaaWTab
import Derived.Test.YtbebihphodafiaaWFour
import Derived.Test.YtbebihphodafiaaWQPut
import Derived.Test.YtbebihphodafiaaWApart
import Derived.Test.YtbebihphodafiaaWArr
import Derived.Test.YtbebihphodafiaaWZeros
import Derived.Test.YtbebihphodafiaaWFoot
import Derived.Test.YtbebihphodafiaaWKept
import Derived.Test.YtbebihphodafiaaWShare
import Derived.Test.YtbebihphodafiaaWN
import Derived.Test.YtbebihphodafiaaWFootNe
import Derived.Test.YtbebihphodafiaaWAt
import Derived.Test.YtbebihphodafiaaWEqStruct
import Derived.Test.YtbebihphodafiaaWRepsOne
import Derived.Test.YtbebihphodafiaaWInv
import Derived.Test.YtbebihphodafiaaWInvWords
import Derived.Test.YtbebihphodafiaaWGuard
import Derived.Test.YtbebihphodafiaaWNEv
import Derived.Test.YtbebihphodafiaaWMore
import Derived.Outline
import Derived.Lib.Hide
import Derived.Deep.DeepMust
import Derived.IntWalk
import Derived.Test.YtbebihphodafiaaRsG
import Derived.Test.YtbebihphodafiaaWbF
import Derived.Test.YtbebihphodafiaaWbL
namespace Go.Proofs.Ytbebihphodafiaa.Iv
open Go.RowKit Go.Proofs.YtbebihphodafiaaW.PrintWords Go.Proofs.YtbebihphodafiaaW.PrintLast Go.Proofs.YtbebihphodafiaaW.PrintMore Go.Proofs.Ytbebihphodafiaa.PWb Go.Maps
set_option linter.unusedVariables false
set_option linter.unusedSimpArgs false

set_option maxHeartbeats 4000000 in
theorem readLen_calls (p : Option Addr) (f0 n : Int) (w : World) (hn : n < 1 ∨ 16 < n) :
    Calls Try.prog 28 #[.pointer p, .agg #[.int .i64 f0, .int .i64 n]] w fun r w' => r = .returned (.tuple #[.slice none 0 0, .int .i64 3]) ∧ RowKit.Below w.heap.size w w' := by
  have HB5 := Lib.hid (below_alloc (Below.refl w.heap.size w) (.cells #[.int .i64 f0, .int .i64 n] 60))
  by_cases h1 : n < 1
  · have d1 : decide (n < 1) = true := by simpa using h1
    go_enter Try.func28, Try.ntmps28
    go_wp2
    go_step3
    go_wp2
    try rw [Exit.noGoto_ret]
    go_ret2
    exact ⟨rfl, HB5.out⟩
  · have d1 : decide (n < 1) = false := by simpa using h1
    have h2 : (16 : Int) < n := by omega
    have d2 : decide ((16 : Int) < n) = true := by simpa using h2
    go_enter Try.func28, Try.ntmps28
    go_wp2
    go_step3
    go_wp2
    try rw [Exit.noGoto_ret]
    go_ret2
    exact ⟨rfl, HB5.out⟩
set_option maxHeartbeats 4000000 in
theorem readNil_calls (f0 n : Int) (w : World) (hn : 1 ≤ n ∧ n ≤ 16) :
    Calls Try.prog 28 #[.pointer none, .agg #[.int .i64 f0, .int .i64 n]] w fun r w' => r = .returned (.tuple #[.slice none 0 0, .int .i64 2]) ∧ RowKit.Below w.heap.size w w' := by
  have HB5 := Lib.hid (below_alloc (Below.refl w.heap.size w) (.cells #[.int .i64 f0, .int .i64 n] 60))
  have h1 : ¬ n < 1 := by omega
  have h2 : ¬ (16 : Int) < n := by omega
  have d1 : decide (n < 1) = false := by simpa using h1
  have d2 : decide ((16 : Int) < n) = false := by simpa using h2
  go_enter Try.func28, Try.ntmps28
  go_wp2
  go_step3
  go_wp2
  try rw [Exit.noGoto_ret]
  go_ret2
  exact ⟨rfl, HB5.out⟩
theorem newNil_calls (a : Int) (w : World) : Calls Try.prog 32 #[.pointer none, .pointer none, .int .i64 a] w fun r w' => r = .returned (.pointer none) ∧ w' = w := by
  go_enter Try.func32, Try.ntmps32
  go_wp2
  go_ret
  exact ⟨rfl, rfl⟩
theorem newV_calls (fr em mb : Nat) (a : Int) (w : World) (hfr : w.heap.size + 1 < fr) : Calls Try.prog 32 #[.pointer (some ⟨em + 1, 0, none⟩), .pointer (some ⟨mb + 1, 0, none⟩), .int .i64 a] w fun r w' => r = .returned (.pointer (some ⟨w.heap.size + 1, 0, none⟩)) ∧ RowKit.Below w.heap.size w w' ∧ IsSet w' fr w.heap.size 64 [] ∧ IsView w' fr (w.heap.size + 1) em mb w.heap.size a (fun _ => True) [] ∧ w'.heap.size = w.heap.size + 2 := by
  go_enter Try.func32, Try.ntmps32
  go_wp2_with (go_at_call 62; go_must (refine (new_calls 64 fr w (by omega)).mono ?_; rintro _ w1 ⟨rfl, rfl, hI1⟩; have HI1 := Lib.hid hI1; clear hI1))
  go_ret
  have hb := below_alloc (Below.refl w.heap.size w) (.cells #[.int .i64 64, .slice none 0 0] 137)
  have hs : (w.alloc (.cells #[.int .i64 64, .slice none 0 0] 137)).heap.size = w.heap.size + 1 := by simp
  refine ⟨by first | rfl | simp, below_alloc hb _, HI1.out.below (below_alloc (Below.refl _ _) _), ⟨hfr, ?_, ?_, ?_, ?_, ⟨none, 0, ?_, Kd.R_nil _ _ _ _ _⟩, ?_⟩, by simp⟩
  · rw [World.cell?_alloc_at _ _ _ _ hs.symm]; rfl
  · rw [World.cell?_alloc_at _ _ _ _ hs.symm]; rfl
  · rw [World.cell?_alloc_at _ _ _ _ hs.symm]; rfl
  · rw [World.cell?_alloc_at _ _ _ _ hs.symm]; rfl
  · rw [World.cell?_alloc_at _ _ _ _ hs.symm]; rfl
  · rw [World.frozen?_alloc_at _ _ _ _ hs.symm]
end Go.Proofs.Ytbebihphodafiaa.Iv

namespace Go.Proofs.Ytbebihphodafiaa.Iv
open Go.RowKit Go.Proofs.YtbebihphodafiaaW.PrintWords Go.Proofs.YtbebihphodafiaaW.PrintLast Go.Proofs.YtbebihphodafiaaW.PrintMore Go.Proofs.Ytbebihphodafiaa.PWb Go.Maps
set_option linter.unusedVariables false
set_option linter.unusedSimpArgs false

theorem refMap_calls (blocks : Int) (w : World) (hb : 1 ≤ blocks ∧ blocks ≤ 1048576) : Calls Try.prog 54 #[.int .i64 blocks] w fun r w' => r = .returned (.tuple #[.pointer (some ⟨w.heap.size, 0, none⟩), .int .i64 0]) ∧ RowKit.Below w.heap.size w w' ∧ w'.heap.size = w.heap.size + 1 := by
  obtain ⟨h0, h1⟩ := hb
  have e0 : ¬ blocks < 1 := by omega
  have e1 : ¬ (1048576 : Int) < blocks := by omega
  have d0 : decide (blocks < 1) = false := by simpa using e0
  have d1 : decide ((1048576 : Int) < blocks) = false := by simpa using e1
  go_enter Try.func54, Try.ntmps54
  go_wp2
  go_ret2
  exact ⟨rfl, below_alloc (Below.refl _ _) _, by simp⟩
theorem refBuf_calls (blocks most : Int) (w : World) (hb : 1 ≤ blocks ∧ blocks ≤ 1048576) (hm : 0 ≤ most) : Calls Try.prog 41 #[.int .i64 blocks, .int .i64 most] w fun r w' => r = .returned (.tuple #[.pointer (some ⟨w.heap.size, 0, none⟩), .int .i64 0]) ∧ RowKit.Below w.heap.size w w' ∧ w'.heap.size = w.heap.size + 1 := by
  obtain ⟨h0, h1⟩ := hb
  have e0 : ¬ blocks < 1 := by omega
  have e1 : ¬ (1048576 : Int) < blocks := by omega
  have e2 : ¬ most < 0 := by omega
  have d0 : decide (blocks < 1) = false := by simpa using e0
  have d1 : decide ((1048576 : Int) < blocks) = false := by simpa using e1
  have d2 : decide (most < 0) = false := by simpa using e2
  go_enter Try.func41, Try.ntmps41
  go_wp2
  go_ret2
  exact ⟨rfl, below_alloc (Below.refl _ _) _, by simp⟩
theorem refView_calls (p q : Option Addr) (a : Int) (w : World) : Calls Try.prog 55 #[.pointer p, .pointer q, .int .i64 a] w fun r w' => r = .returned (.pointer (some ⟨w.heap.size, 0, none⟩)) ∧ RowKit.Below w.heap.size w w' ∧ w'.heap.size = w.heap.size + 1 := by
  go_enter Try.func55, Try.ntmps55
  go_wp2
  go_ret
  exact ⟨rfl, below_alloc (Below.refl _ _) _, by simp⟩
theorem setNilV_calls (w : World) : Calls Try.prog 31 #[.pointer none] w fun r w' => r = .returned (.pointer (some ⟨w.heap.size, 0, none⟩)) ∧ RowKit.Below w.heap.size w w' ∧ IsSet w' (w.heap.size + 1) w.heap.size 64 [] := by
  go_enter Try.func31, Try.ntmps31
  go_wp2_with (go_at_call 62; go_must (refine (new_calls 64 (w.heap.size + 1) w (by omega)).mono ?_; rintro _ w1 ⟨rfl, rfl, hI1⟩; have HI1 := Lib.hid hI1; clear hI1))
  go_ret
  exact ⟨rfl, below_alloc (Below.refl _ _) _, HI1.out⟩
theorem readsNil_calls (w : World) : Calls Try.prog 33 #[.pointer none] w fun r w' => r = .returned (.slice none 0 0) ∧ w' = w := by
  go_enter Try.func33, Try.ntmps33
  go_wp2
  try rw [Exit.noGoto_ret]
  go_ret
  exact ⟨rfl, rfl⟩
theorem atNil_calls (w : World) : Calls Try.prog 34 #[.pointer none] w fun r w' => r = .returned (.int .i64 0) ∧ w' = w := by
  go_enter Try.func34, Try.ntmps34
  go_wp2
  try rw [Exit.noGoto_ret]
  go_ret
  exact ⟨rfl, rfl⟩
/-- The world's struct, and what it leads to. -/
structure Fresh (w w' : World) (blocks at_ : Int) : Prop where
  b : RowKit.Below w.heap.size w w'
  v : IsW w' (w.heap.size + 10) w.heap.size (w.heap.size + 2) (w.heap.size + 6) (w.heap.size + 7) blocks 16 0 at_ (fun _ => []) [] [] [] (fun _ => True)
  c0 : w'.cell? ⟨w.heap.size + 9, 0, none⟩ = some (.pointer (some ⟨w.heap.size + 1, 0, none⟩))
  c1 : w'.cell? ⟨w.heap.size + 9, 1, none⟩ = some (.pointer (some ⟨w.heap.size + 3, 0, none⟩))
  c2 : w'.cell? ⟨w.heap.size + 9, 2, none⟩ = some (.pointer (some ⟨w.heap.size + 7, 0, none⟩))
theorem Fresh.step {w w' w2 : World} {blocks at_ : Int} (h : Fresh w w' blocks at_) (hb : RowKit.Below w'.heap.size w' w2) : Fresh w w2 blocks at_ :=
  ⟨below_step h.b hb, h.v.below hb, pw_cell_below hb h.c0, pw_cell_below hb h.c1, pw_cell_below hb h.c2⟩
set_option maxHeartbeats 4000000 in
theorem fresh_calls (blocks at_ : Int) (w : World) (hb : 1 ≤ blocks ∧ blocks ≤ 1048576) : Calls Try.prog 27 #[.int .i64 blocks, .int .i64 at_] w fun r w' => r = .returned (.tuple #[.pointer (some ⟨w.heap.size + 9, 0, none⟩), .bool true]) ∧ Fresh w w' blocks at_ := by
  have HB := Lib.hid hb
  clear hb
  go_enter Try.func27, Try.ntmps27
  go_wp2_with (first
    | (go_at_call 53; go_must (refine (newE_calls blocks (w.heap.size + 10) w.heap.size w HB.out rfl (by omega)).mono ?_; rintro _ w1 ⟨rfl, hB1, hI1, hS1⟩; have HB1 := Lib.hid hB1; have HI1 := Lib.hid hI1; have HS1 := Lib.hid hS1; clear hB1 hI1 hS1))
    | (go_at_call 14; go_must (refine (newB_calls blocks 16 (w.heap.size + 10) (w.heap.size + 2) w1 ⟨HB.out.1, HB.out.2, by decide⟩ HS1.out (by omega)).mono ?_; rintro _ w2 ⟨rfl, hB2, hI2, hS2⟩; have HB2 := Lib.hid (below_step HB1.out hB2); have HE2 := Lib.hid (HI1.out.below hB2); have HI2 := Lib.hid hI2; have HS2 := Lib.hid (show w.heap.size + 4 = w2.heap.size from hS2); clear hB2 hI2 hS2))
    | (go_at_call 54; go_must (refine (refMap_calls blocks w2 HB.out).mono ?_; rintro _ w3 ⟨rfl, hB3, hS3⟩; rw [← HS2.out] at hS3 ⊢; have HB3 := Lib.hid (below_step HB2.out hB3); have HE3 := Lib.hid (HE2.out.below hB3); have HI3 := Lib.hid (HI2.out.below hB3); have HS3 := Lib.hid (show w.heap.size + 5 = w3.heap.size from hS3.symm); clear hB3 hS3))
    | (go_at_call 41; go_must (refine (refBuf_calls blocks 16 w3 HB.out (by decide)).mono ?_; rintro _ w4 ⟨rfl, hB4, hS4⟩; rw [← HS3.out] at hS4 ⊢; have HB4 := Lib.hid (below_step HB3.out hB4); have HE4 := Lib.hid (HE3.out.below hB4); have HI4 := Lib.hid (HI3.out.below hB4); have HS4 := Lib.hid (show w.heap.size + 6 = w4.heap.size from hS4.symm); clear hB4 hS4))
    | (go_at_call 32; go_must (refine (newV_calls (w.heap.size + 10) w.heap.size (w.heap.size + 2) at_ w4 (by have := HS4.out; omega)).mono ?_; rintro _ w5 ⟨rfl, hB5, hI5, hV5, hS5⟩; rw [← HS4.out] at hI5 hV5 hS5 ⊢; have HB5 := Lib.hid (below_step HB4.out hB5); have HE5 := Lib.hid (HE4.out.below hB5); have HM5 := Lib.hid (HI4.out.below hB5); have HI5 := Lib.hid hI5; have HV5 := Lib.hid hV5; have HS5 := Lib.hid (show w.heap.size + 8 = w5.heap.size from hS5.symm); clear hB5 hI5 hV5 hS5))
    | (go_at_call 55; go_must (refine (refView_calls _ _ at_ w5).mono ?_; rintro _ w6 ⟨rfl, hB6, hS6⟩; rw [← HS5.out] at hS6 ⊢; have HB6 := Lib.hid (below_step HB5.out hB6); have HE6 := Lib.hid (HE5.out.below hB6); have HM6 := Lib.hid (HM5.out.below hB6); have HI6 := Lib.hid (HI5.out.below hB6); have HV6 := Lib.hid (HV5.out.step (grown_of_below hB6 none) (by simp) (fun v hv => Kd.R_below hv hB6)); have HS6 := Lib.hid (show w.heap.size + 9 = w6.heap.size from hS6.symm); clear hB6 hS6)))
  obtain ⟨w7, h7⟩ : ∃ y, y = w6.alloc (.cells #[.pointer (some ⟨w.heap.size + 1, 0, none⟩), .pointer (some ⟨w.heap.size + 2 + 1, 0, none⟩), .pointer (some ⟨w.heap.size + 6 + 1, 0, none⟩), .pointer (some ⟨w.heap.size + 4, 0, none⟩), .pointer (some ⟨w.heap.size + 5, 0, none⟩), .pointer (some ⟨w.heap.size + 8, 0, none⟩)] 57) := ⟨_, rfl⟩
  have y0 := World.cell?_alloc_at (w := w6) #[.pointer (some ⟨w.heap.size + 1, 0, none⟩), .pointer (some ⟨w.heap.size + 2 + 1, 0, none⟩), .pointer (some ⟨w.heap.size + 6 + 1, 0, none⟩), .pointer (some ⟨w.heap.size + 4, 0, none⟩), .pointer (some ⟨w.heap.size + 5, 0, none⟩), .pointer (some ⟨w.heap.size + 8, 0, none⟩)] 57 w6.heap.size 0 rfl
  have y1 := World.cell?_alloc_at (w := w6) #[.pointer (some ⟨w.heap.size + 1, 0, none⟩), .pointer (some ⟨w.heap.size + 2 + 1, 0, none⟩), .pointer (some ⟨w.heap.size + 6 + 1, 0, none⟩), .pointer (some ⟨w.heap.size + 4, 0, none⟩), .pointer (some ⟨w.heap.size + 5, 0, none⟩), .pointer (some ⟨w.heap.size + 8, 0, none⟩)] 57 w6.heap.size 1 rfl
  have y2 := World.cell?_alloc_at (w := w6) #[.pointer (some ⟨w.heap.size + 1, 0, none⟩), .pointer (some ⟨w.heap.size + 2 + 1, 0, none⟩), .pointer (some ⟨w.heap.size + 6 + 1, 0, none⟩), .pointer (some ⟨w.heap.size + 4, 0, none⟩), .pointer (some ⟨w.heap.size + 5, 0, none⟩), .pointer (some ⟨w.heap.size + 8, 0, none⟩)] 57 w6.heap.size 2 rfl
  have hb7 := below_alloc (Below.refl w6.heap.size w6) (.cells #[.pointer (some ⟨w.heap.size + 1, 0, none⟩), .pointer (some ⟨w.heap.size + 2 + 1, 0, none⟩), .pointer (some ⟨w.heap.size + 6 + 1, 0, none⟩), .pointer (some ⟨w.heap.size + 4, 0, none⟩), .pointer (some ⟨w.heap.size + 5, 0, none⟩), .pointer (some ⟨w.heap.size + 8, 0, none⟩)] 57)
  have hs7 : (w6.alloc (.cells #[.pointer (some ⟨w.heap.size + 1, 0, none⟩), .pointer (some ⟨w.heap.size + 2 + 1, 0, none⟩), .pointer (some ⟨w.heap.size + 6 + 1, 0, none⟩), .pointer (some ⟨w.heap.size + 4, 0, none⟩), .pointer (some ⟨w.heap.size + 5, 0, none⟩), .pointer (some ⟨w.heap.size + 8, 0, none⟩)] 57)).heap.size = w6.heap.size + 1 := by simp
  rw [← h7] at y0 y1 y2 hb7 hs7 ⊢
  clear h7
  rw [← HS6.out] at y0 y1 y2 hs7 ⊢
  have y2' : w7.cell? ⟨w.heap.size + 9, 2, none⟩ = some (.pointer (some ⟨w.heap.size + 6 + 1, 0, none⟩)) := y2
  have HF := Lib.hid (show Fresh w w7 blocks at_ from ⟨below_step HB6.out hb7, ⟨HE6.out.below hb7, HM6.out.below hb7, HI6.out.below hb7, HV6.out.step (grown_of_below hb7 none) (by simp) (fun v hv => Kd.R_below hv hb7), ⟨by omega, by omega, by omega⟩, by omega⟩, y0, y1, y2⟩)
  clear y0 y1 y2 hb7 hs7
  go_quiet (fail)
  go_wp2
  go_ret2
  exact ⟨rfl, HF.out.step (pw_below_drewN (Below.refl _ _) _)⟩
end Go.Proofs.Ytbebihphodafiaa.Iv

namespace Go.Proofs.Ytbebihphodafiaa.Iv
open Go.RowKit Go.Proofs.YtbebihphodafiaaW.PrintWords Go.Proofs.YtbebihphodafiaaW.PrintLast Go.Proofs.YtbebihphodafiaaW.PrintMore Go.Proofs.Ytbebihphodafiaa.PWb Go.Maps
set_option linter.unusedVariables false
set_option linter.unusedSimpArgs false

theorem IsW.wr {W W' : World} {fr em mb sb vb : Nat} {blocks most last at_ : Int} {V : Int → List S31} {M M' : List S31} {L : List S60} {R : List S77} {ok : Nat → Prop} (h : IsW W fr em mb sb vb blocks most last at_ V M L R ok) (hg : W.grownBy W' (some mb)) (hb : IsBuf W' fr mb blocks most M') : IsW W' fr em mb sb vb blocks most last at_ V M' L R ok := by
  have ho := h.ord
  have hv := h.view.lt
  have hoff : ∀ ts, Off W fr ts (some mb) := fun ts j hj => by cases hj; exact .inl (by omega)
  exact ⟨h.ext.grown2 hg (fun j hj => by cases hj; omega) (hoff _), hb, h.set.grown2 hg (fun j hj => by cases hj; omega) (hoff _), h.view.step hg (fun e => by injection e with e; omega) (fun v hv => R_off hv hg (hoff _)), h.ord, Nat.le_trans h.fits hg.size⟩
theorem wr_one5 (d : List Int) (hd : d.length = 40) : wrC 5 16 [] [⟨2, d⟩] = 0 := by simp [wrC, outB, lenB, dupB, hd, freshN, hasM]
/-- What awake reads. -/
theorem awake_read (d : List Int) : rdK (fun _ => []) [⟨2, d⟩] 1 0 2 = List.replicate 40 0 ++ d := by
  simp [rdK, List.range_succ, rdB, hasM, lookM, getE, verAt]
theorem awake_add : addS 64 [] [⟨1, ((2 : Nat) : Int)⟩] = (0, nrm [⟨1, 2⟩]) := by
  have h1 : (([] : List S60) ++ [⟨1, 2⟩]) = [⟨1, 2⟩] := rfl
  have h2 : (nrm [(⟨1, 2⟩ : S60)]).length ≤ 1 := by
    have := nrm_len [(⟨1, 2⟩ : S60)]
    simpa using this
  unfold addS
  rw [if_pos (by decide), if_neg (by simp)]
  show (if ((nrm ([] ++ [(⟨1, 2⟩ : S60)])).length : Int) > 64 then _ else _) = _
  rw [h1, if_neg (by omega)]
  rfl
theorem cut_b40 (g cap : Nat) (hc : 80 ≤ cap) : ∀ W : World, (Instr.slice 28 (.slice (some ⟨g, 0, none⟩) 80 cap) (some (.int .i64 40)) none none).run Try.prog W = .ok (.slice (some ⟨g, 40, none⟩) 40 (cap - 40)) W := by
  intro W
  obtain ⟨i, hi1, hi2⟩ := Option.map_eq_some_iff.1 info5
  simp only [Prod.mk.injEq] at hi2
  have := cut_from (P := Try.prog) 28 5 .i64 Try.underlying28 hi1 1 hi2.2.1 (some ⟨g, 0, none⟩) 80 cap 40 (by decide) (by decide) W
  rw [this]
  have hne : ¬ cap = 40 := by omega
  simp [hne, add_plain]
set_option maxHeartbeats 8000000 in
set_option maxRecDepth 100000 in
theorem awakeV_calls (w : World) : Calls Try.prog 26 #[] w fun e w' => e = .returned (.bool true) ∧ RowKit.Below w.heap.size w w' := by
  have HE0 := Lib.hid (wr_one5 (dat 7) (dat_len 7))
  have HM0 := Lib.hid (show wrM 5 16 [] [⟨2, dat 7⟩] = [⟨2, dat 7⟩] by unfold wrM; rw [wr_one5 _ (dat_len 7)]; rfl)
  have HDL := Lib.hid (dat_len 7)
  go_enter Try.func26, Try.ntmps26
  go_wp2_with (go_at_call 27; go_must (refine (fresh_calls 5 0 w ⟨by decide, by decide⟩).mono ?_; rintro _ w1 ⟨rfl, hF1⟩; have HF1 := Lib.hid hF1; clear hF1))
  have HC1 := Lib.hid (show w1.cell? ⟨w.heap.size + 9, 1, none⟩ = some (.pointer (some ⟨w.heap.size + 3, 0, none⟩)) from HF1.out.c1)
  go_region_held3 (fun w' => w'.cell? ⟨w.heap.size + 9, 1, none⟩ = some (.pointer (some ⟨w.heap.size + 3, 0, none⟩)))
    (first | exact HC3.out | exact HC2a.out | exact HC2.out | exact HC1.out)
    (first
      | (go_at_call 15; refine (data_calls 7 _).mono ?_; rintro _ w2 ⟨v2, rfl, hR2, hB2⟩; obtain ⟨A2, c2, hv2, hc2, hC2⟩ := Kd.R_reads hR2; rw [HDL.out] at hv2 hc2 hC2; subst hv2; have HF2 := Lib.hid ((HF1.out.step (below_drew1 (Below.refl _ _))).step hB2); have HC2 := Lib.hid (show w2.cell? ⟨w.heap.size + 9, 1, none⟩ = some (.pointer (some ⟨w.heap.size + 3, 0, none⟩)) from HF2.out.c1); have D2 := Lib.hid hC2; have L2 := Lib.hid hc2; have HC2a := Lib.hid (show (w2.alloc (.cells #[.int .i64 2, .slice A2 40 c2] 31)).cell? ⟨w.heap.size + 9, 1, none⟩ = some (.pointer (some ⟨w.heap.size + 3, 0, none⟩)) from pw_cell_below (below_alloc (Below.refl w2.heap.size w2) _) HF2.out.c1); clear hR2 hB2 hC2 hc2)
      | (go_at_call 17; refine (write_calls (w.heap.size + 10) (w.heap.size + 2) 5 16 [] (some ⟨w2.heap.size, 0, none⟩) 1 [⟨2, dat 7⟩] _ (HF2.out.v.buf.below (below_alloc (Below.refl _ _) _)) (by have h := C31_one w2 w2.heap.size 2 0 A2 c2 (dat 7) rfl (by rw [HDL.out]; exact L2.out) (by rw [HDL.out]; exact D2.out); rw [HDL.out] at h; exact h) (by decide) (Nat.le_trans HF2.out.v.fits (below_alloc (Below.refl _ _) _).size)).mono ?_; rintro _ w3 ⟨rfl, hI3, hg3⟩; rw [HE0.out]; rw [HM0.out] at hI3; have HW3 := Lib.hid ((HF2.out.v.below (below_alloc (Below.refl _ _) _)).wr hg3 hI3); have HC3 := Lib.hid (show w3.cell? ⟨w.heap.size + 9, 1, none⟩ = some (.pointer (some ⟨w.heap.size + 3, 0, none⟩)) from hg3.cell HC2a.out (by simp)); have Y3 := Lib.hid (hg3.cell (pw_cell_below (below_alloc (Below.refl w2.heap.size w2) (.cells #[.int .i64 2, .slice A2 40 c2] 31)) HF2.out.c2) (by simp)); have HB3 := Lib.hid (Below.grown (below_step HF2.out.b (below_alloc (Below.refl w2.heap.size w2) (.cells #[.int .i64 2, .slice A2 40 c2] 31))) hg3 (Nat.le_trans HF2.out.b.size (below_alloc (Below.refl w2.heap.size w2) _).size) (fun k hk => by cases hk; omega)); clear hI3 hg3))
  have y3 := Y3.out
  go_wp2_with (go_at_call 28; go_must (refine (readOk_calls (w.heap.size + 10) w.heap.size (w.heap.size + 2) (w.heap.size + 6) (w.heap.size + 7) 5 16 0 0 (fun _ => []) [⟨2, dat 7⟩] [] _ [] 1 2 w3 HW3.out ⟨by decide, by decide⟩ (by decide) awake_add (by decide) (by decide)).mono ?_; rintro _ w4 ⟨v4, rfl, _, hK4, hS4, hR4⟩; rw [awake_read] at hR4; have HR4 := Lib.hid hR4; have HB4 := Lib.hid (show RowKit.Below w.heap.size w w4 from ⟨hS4.1.trans HB3.out.os, hS4.2.1.trans HB3.out.tape, hS4.2.2.trans HB3.out.output, Nat.le_trans HB3.out.size hK4.1, fun k hk => (hK4.2 k (Nat.lt_of_lt_of_le hk HB3.out.size) (Sv_not_map (by omega) (by omega) (by omega))).trans (HB3.out.block k hk)⟩); clear hR4 hK4 hS4))
  have hlen : (List.replicate 40 (0 : Int) ++ dat 7).length = 80 := by simp [dat_len]
  obtain ⟨g, cap, hv4, hg1, hg2, _⟩ := Kd.R_form HR4.out (by rw [hlen]; decide)
  rw [hlen] at hv4
  subst hv4
  obtain ⟨hq1, hq2, hq3⟩ := Kd.R_reads' HR4.out
  have hC := hq3
  have HCAP := Lib.hid hq2
  have hcut := cut_b40 g cap hq2
  have hc1 := Kd.C_drop (m := 40) (c := cap) hq3 (by rw [hlen]; decide) (by rw [hlen]; exact hq2)
  have hdr : (List.replicate 40 (0 : Int) ++ dat 7).drop 40 = dat 7 := by rw [List.drop_append_of_le_length (by simp)]; simp
  have hne : ¬ cap = 40 := by omega
  rw [hdr, if_neg hne] at hc1
  have HCD := Lib.hid (show Kd.C kb w4 (some ⟨g, 40, none⟩) (dat 7).length (dat 7) by simpa [add_plain, kb, show (Kd.int IntKind.u8).sz = 1 from rfl] using hc1)
  obtain ⟨ad, had, hcell⟩ := (Kd.reads_of_C (d := (0 : Int)) hq3).2.2 (by rw [hlen]; decide)
  have hz := hcell 0 (by rw [hlen]; decide)
  have x0 : w4.cell? ⟨g, 0, none⟩ = some (.int .u8 0) := by
    cases had
    simpa [add_plain, List.getD_eq_getElem?_getD] using hz
  have HX0 := Lib.hid x0
  have HBY := Lib.hid (bytes_refl (dat 7) (by rw [HDL.out]; decide))
  clear hq1 hq2 hq3 hC hc1 hdr hne had hcell hz hlen hg1 hg2 y3
  have HCDd := Lib.hid (Kd.C_below HCD.out (below_drew1 (Below.refl w4.heap.size w4)))
  have HX0d := Lib.hid (show w4.drew.cell? ⟨g, 0, none⟩ = some (.int .u8 0) from HX0.out)
  go_region_held3 (fun w' => w'.cell? ⟨g, 0, none⟩ = some (.int .u8 0))
    (first | exact HX5.out | exact HX6.out | exact HX0.out)
    (first
      | (go_at_call 15; refine (data_calls 7 _).mono ?_; rintro _ w5 ⟨v5, rfl, hR5, hB5⟩; obtain ⟨A5, c5, hv5, hc5, hC5⟩ := Kd.R_reads hR5; rw [HDL.out] at hv5; subst hv5; have HX5 := Lib.hid (show w5.cell? ⟨g, 0, none⟩ = some (.int .u8 0) from pw_cell_below hB5 HX0d.out); have HCD5 := Lib.hid (Kd.C_below HCDd.out hB5); have HC5 := Lib.hid hC5; have HL5 := Lib.hid hc5; have HB5 := Lib.hid (below_step (below_drew1 HB4.out) hB5); clear hR5 hB5 hC5 hc5)
      | (go_at_call 25; refine ((fun h => by rw [HDL.out] at h; exact h) (scarpalike_Bytes.calls ((dat 7).length + 1) (some ⟨g, 40, none⟩) (cap - 40) (dat 7) A5 c5 (dat 7) true _ HCD5.out (by have := HCAP.out; have := HDL.out; omega) HC5.out HL5.out HBY.out) : Calls Try.prog 25 #[.slice (some ⟨g, 40, none⟩) 40 (cap - 40), .slice A5 40 c5] _ _).mono ?_; rintro _ w6 ⟨rfl, hD6⟩; have HX6 := Lib.hid (show w6.cell? ⟨g, 0, none⟩ = some (.int .u8 0) from by obtain ⟨⟨n8, rfl⟩⟩ := hD6; exact HX5.out); have HB6 := Lib.hid (show RowKit.Below w.heap.size w w6 from by obtain ⟨⟨n8, rfl⟩⟩ := hD6; exact pw_below_drewN HB5.out _); clear hD6))
  go_wp2
  go_ret
  exact ⟨rfl, HB6.out⟩
end Go.Proofs.Ytbebihphodafiaa.Iv

namespace Go.Proofs.Ytbebihphodafiaa.Iv
open Go.RowKit Go.Proofs.YtbebihphodafiaaW.PrintWords Go.Proofs.YtbebihphodafiaaW.PrintLast Go.Proofs.YtbebihphodafiaaW.PrintMore Go.Proofs.Ytbebihphodafiaa.PWb Go.Maps
set_option linter.unusedVariables false
set_option linter.unusedSimpArgs false

set_option maxHeartbeats 4000000 in
set_option maxRecDepth 100000 in
theorem rsetNothing_calls (f0 n : Int) (w : World) : Calls Try.prog 8 #[.agg #[.int .i64 f0, .int .i64 n]] w fun r w' => r = .returned (.bool true) ∧ RowKit.Below w.heap.size w w' := by
  have HB0 := Lib.hid (below_alloc (Below.refl w.heap.size w) (.cells #[.int .i64 f0, .int .i64 n] 60))
  have k1 : (w.alloc (.cells #[.int .i64 f0, .int .i64 n] 60)).cell? ⟨w.heap.size, 1, none⟩ = some (.int .i64 n) := World.cell?_alloc_at (w := w) #[.int .i64 f0, .int .i64 n] 60 w.heap.size 1 rfl
  by_cases h1 : n < 1
  · have d1 : decide (n < 1) = true := by simpa using h1
    go_enter Try.func8, Try.ntmps8
    go_wp2_with (first
      | (go_at_call 28; go_must (refine (readLen_calls none f0 n _ (.inl h1)).mono ?_; rintro _ w1 ⟨rfl, hB1⟩; have HB1 := Lib.hid (below_step HB0.out hB1); have q0 := pw_cell_below hB1 k1; clear hB1))
      | (go_at_call 31; go_must (refine (setNilV_calls _).mono ?_; rintro _ w2 ⟨rfl, hB2, hI2⟩; have HI2 := Lib.hid hI2; have HB2 := Lib.hid (below_step HB1.out hB2); clear hB2 hI2))
      | (go_at_call 32; go_must (refine (newNil_calls 0 _).mono ?_; rintro _ w3 ⟨rfl, rfl⟩))
      | (go_at_call 33; go_must (refine (readsNil_calls _).mono ?_; rintro _ w4 ⟨rfl, rfl⟩))
      | (go_at_call 34; go_must (refine (atNil_calls _).mono ?_; rintro _ w5 ⟨rfl, rfl⟩))
      | (go_at_call 35; go_must (refine (count_calls _ _ 64 [] _ HI2.out (by decide)).mono ?_; rintro _ w6 ⟨rfl, hB6⟩; have HB6 := Lib.hid (below_step HB2.out hB6); clear hB6))
      | (go_at_call 26; go_must (refine (awakeV_calls _).mono ?_; rintro _ w7 ⟨rfl, hB7⟩; have HB7 := Lib.hid (below_step HB6.out hB7); clear hB7)))
    go_ret
    exact ⟨rfl, HB7.out⟩

  · have d1 : decide (n < 1) = false := by simpa using h1
    by_cases h2 : (16 : Int) < n
    · have d2 : decide ((16 : Int) < n) = true := by simpa using h2
      go_enter Try.func8, Try.ntmps8
      go_wp2_with (first
        | (go_at_call 28; go_must (refine (readLen_calls none f0 n _ (.inr h2)).mono ?_; rintro _ w1 ⟨rfl, hB1⟩; have HB1 := Lib.hid (below_step HB0.out hB1); have q0 := pw_cell_below hB1 k1; clear hB1))
        | (go_at_call 31; go_must (refine (setNilV_calls _).mono ?_; rintro _ w2 ⟨rfl, hB2, hI2⟩; have HI2 := Lib.hid hI2; have HB2 := Lib.hid (below_step HB1.out hB2); clear hB2 hI2))
        | (go_at_call 32; go_must (refine (newNil_calls 0 _).mono ?_; rintro _ w3 ⟨rfl, rfl⟩))
        | (go_at_call 33; go_must (refine (readsNil_calls _).mono ?_; rintro _ w4 ⟨rfl, rfl⟩))
        | (go_at_call 34; go_must (refine (atNil_calls _).mono ?_; rintro _ w5 ⟨rfl, rfl⟩))
        | (go_at_call 35; go_must (refine (count_calls _ _ 64 [] _ HI2.out (by decide)).mono ?_; rintro _ w6 ⟨rfl, hB6⟩; have HB6 := Lib.hid (below_step HB2.out hB6); clear hB6))
        | (go_at_call 26; go_must (refine (awakeV_calls _).mono ?_; rintro _ w7 ⟨rfl, hB7⟩; have HB7 := Lib.hid (below_step HB6.out hB7); clear hB7)))
      go_ret
      exact ⟨rfl, HB7.out⟩

    · have d2 : decide ((16 : Int) < n) = false := by simpa using h2
      go_enter Try.func8, Try.ntmps8
      go_wp2_with (first
        | (go_at_call 28; go_must (refine (readNil_calls f0 n _ ⟨by omega, by omega⟩).mono ?_; rintro _ w1 ⟨rfl, hB1⟩; have HB1 := Lib.hid (below_step HB0.out hB1); have q0 := pw_cell_below hB1 k1; clear hB1))
        | (go_at_call 31; go_must (refine (setNilV_calls _).mono ?_; rintro _ w2 ⟨rfl, hB2, hI2⟩; have HI2 := Lib.hid hI2; have HB2 := Lib.hid (below_step HB1.out hB2); clear hB2 hI2))
        | (go_at_call 32; go_must (refine (newNil_calls 0 _).mono ?_; rintro _ w3 ⟨rfl, rfl⟩))
        | (go_at_call 33; go_must (refine (readsNil_calls _).mono ?_; rintro _ w4 ⟨rfl, rfl⟩))
        | (go_at_call 34; go_must (refine (atNil_calls _).mono ?_; rintro _ w5 ⟨rfl, rfl⟩))
        | (go_at_call 35; go_must (refine (count_calls _ _ 64 [] _ HI2.out (by decide)).mono ?_; rintro _ w6 ⟨rfl, hB6⟩; have HB6 := Lib.hid (below_step HB2.out hB6); clear hB6))
        | (go_at_call 26; go_must (refine (awakeV_calls _).mono ?_; rintro _ w7 ⟨rfl, hB7⟩; have HB7 := Lib.hid (below_step HB6.out hB7); clear hB7)))
      go_ret
      exact ⟨rfl, HB7.out⟩

end Go.Proofs.Ytbebihphodafiaa.Iv
