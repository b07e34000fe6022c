/- The walks of crc.Check, of the law's eye, and of CrcAsks. -/
import Derived.Test.YtkackggplinelaaProg
import Derived.Below
import Derived.Deep.Draws
import Derived.Deep.AppendLies
import Derived.Maps.AppendAt
import Derived.OwnWalk
import Derived.Laws.BytesArg
import Derived.Laws.MakeOwn
import Derived.Laws.OwnMore
import Derived.Deep.OwnRows
import Derived.Tactics
import Derived.Lib.ConvBytes
import Derived.Laws.Slices
import Derived.WalkKit
import Derived.KernelRfl
import Derived.RowKit3
import Derived.Deep.LoopGhost
import Derived.Deep.QuietTactic
import Derived.BigQuiet
import Derived.WideLaws
import Derived.Deep.DeepCutAuto
import Derived.Deep.CutBlock
import Derived.Deep.RegionHeld3
import Derived.Laws.Rows
import Derived.Lib.AppendStr
import Derived.ArgAppend
import Derived.Laws.IdiomCopy
import Derived.OrdersHeld
import Derived.Laws.BitsLemmas
import Derived.RowKit
import Derived.Test.YtkackggplinelaaWWords
import Derived.Test.YtkackggplinelaaWLast
import Derived.Test.YtkackggplinelaaWTab
import Derived.Test.YtkackggplinelaaWFour
import Derived.Test.YtkackggplinelaaWQPut
import Derived.Test.YtkackggplinelaaWApart
import Derived.Test.YtkackggplinelaaWArr
import Derived.Test.YtkackggplinelaaWZeros
import Derived.Test.YtkackggplinelaaWFoot
import Derived.Test.YtkackggplinelaaWKept
import Derived.Test.YtkackggplinelaaWShare
import Derived.Test.YtkackggplinelaaWN
import Derived.Test.YtkackggplinelaaWFootNe
import Derived.Test.YtkackggplinelaaWAt
import Derived.Test.YtkackggplinelaaWEqStruct
import Derived.Test.YtkackggplinelaaWRepsOne
import Derived.Test.YtkackggplinelaaWInv
import Derived.Test.YtkackggplinelaaWInvWords
import Derived.Test.YtkackggplinelaaWGuard
import Derived.Test.YtkackggplinelaaWNEv
import Derived.Test.YtkackggplinelaaWMore
import Derived.Lib.Hide
import Derived.Lib.SlBytesConst
import Derived.Test.YtkackggplinelaaCrcW
namespace Go.Proofs.Ytkackggplinelaa.Crc
open Go.RowKit Go.Proofs.YtkackggplinelaaW.PrintWords Go.Proofs.YtkackggplinelaaW.PrintLast Go.Proofs.YtkackggplinelaaW.PrintMore
set_option linter.unusedVariables false
set_option linter.unusedSimpArgs false
theorem check_calls (A1 : Option Addr) (c1 : Nat) (l : List Int) (v : Int) (r : Bool) (w : World) (hr : Kd.C (Kd.int .u8) w A1 l.length l) (hb : ∀ x ∈ l, 0 ≤ x ∧ x < 256) (hl : l.length ≤ 4611686018427387904) (he : (crcOf l == v) = r) :
    Calls Try.prog 18 #[.slice A1 l.length c1, .int .u32 v] w fun e w' => e = .returned (.bool r) ∧ Below w.heap.size w w' := by
  go_enter Try.func18, Try.ntmps18
  go_wp2_with (go_at_call 16; refine (of_calls A1 c1 l _ hr hb hl).mono ?_; rintro e w' ⟨rfl, hb1⟩)
  go_ret
  exact ⟨rfl, hb1⟩
def one9 : List Int := [49, 50, 51, 52, 53, 54, 55, 56, 57]
theorem one9_crc : crcOf one9 = 3808858755 := by
  rw [crcOf_nat one9 (by decide)]
  decide +kernel
theorem nil_crc : crcOf [] = 0 := by
  rw [crcOf_nat [] (by decide)]
  decide +kernel
theorem C_lit (w : World) (l : List Int) (e : TypeId) (fr : Nat × Nat) (hl : l.length ≤ 9223372036854775807) :
    Kd.C (Kd.int .u8) (w.alloc (.cells (l.map (Value.int .u8)).toArray e fr)) (some ⟨w.heap.size, 0, none⟩) l.length l := by
  refine Kd.C_of_reads (d := (0 : Int)) (h1 := fun _ => rfl) ⟨rfl, hl, fun _ => ⟨_, rfl, fun j hj => ?_⟩⟩
  rw [add_plain, World.cell?_alloc_mark]
  simp [List.getD_eq_getElem?_getD, List.getElem?_eq_getElem hj]
theorem awake_calls (w : World) : Calls Try.prog 15 #[] w fun e w' => e = .returned (.bool true) ∧ Below w.heap.size w w' := by
  have kc := fun (w : World) (C : Array Value) (n c : Nat) => Lib.run_convert_bytes_const (P := Try.prog) w 24 5 C n c Try.underlying24 Try.underlying5
  have h9 := C_lit w one9 5 (9, 10) (by decide)
  go_enter Try.func15, Try.ntmps15
  go_wp2_with (first | (go_at_call 16; refine (of_calls (some ⟨w.heap.size, 0, none⟩) 9 one9 _ h9 (by decide) (by decide)).mono ?_; rintro e w1 ⟨rfl, hb1⟩; rw [one9_crc]) | (go_at_call 18; refine (check_calls none 0 [] 1 false _ (Kd.C_nil _ _) (by decide) (by decide) (by rw [nil_crc]; rfl)).mono ?_; rintro e w2 ⟨rfl, hb2⟩))
  go_ret
  exact ⟨rfl, below_step (below_step (below_alloc (Below.refl _ _) _) hb1) hb2⟩
theorem byteRange {l : List Int} (h : ∀ x ∈ l, (Lit.int .u8 x).wf = true) : ∀ x ∈ l, 0 ≤ x ∧ x < 256 := fun x hx => by
  have := h x hx
  simp [Lit.wf, IntKind.min, IntKind.max, IntKind.signed, IntKind.bits] at this
  omega
set_option maxHeartbeats 1000000 in
theorem asks_calls (A1 : Option Addr) (c1 : Nat) (l : List Int) (v : Int) (w : World) (hr : Kd.C (Kd.int .u8) w A1 l.length l) (hb : ∀ x ∈ l, 0 ≤ x ∧ x < 256) (hl : l.length ≤ 4611686018427387904) :
    Calls Try.prog 4 #[.slice A1 l.length c1, .int .u32 v] w fun e w' => e = .returned (.bool true) ∧ Below w.heap.size w w' := by
  have HB := Lib.hid hb
  have HL := Lib.hid hl
  have HR := Lib.hid hr
  clear hb hl hr
  by_cases hbig : (2000 : Int) < l.length
  · have hbig' : 2000 < l.length := by omega
    go_enter Try.func4, Try.ntmps4
    go_wp2_with (go_at_call 15; refine (awake_calls _).mono ?_; rintro e w' ⟨rfl, hb1⟩)
    go_ret
    exact ⟨rfl, hb1⟩
  · have hsm : ¬ 2000 < l.length := by omega
    obtain ⟨x, hx⟩ : ∃ x, x = crcOf l := ⟨_, rfl⟩
    have HX := Lib.hid hx
    clear hx
    have H1 : ∀ w1, Below w.heap.size w w1 → Kd.C (Kd.int .u8) w1 A1 l.length l := fun w1 h => Kd.C_below HR.out h
    obtain ⟨r0, hr0⟩ : ∃ r0, (x == v) = r0 := ⟨_, rfl⟩
    have HV : Hid ((crcOf l == v) = r0) := Lib.hid (by rw [← HX.out]; exact hr0)
    have HT : Hid ((crcOf l == x) = true) := Lib.hid (by rw [← HX.out]; simp)
    go_enter Try.func4, Try.ntmps4
    go_wp2_with (go_at_call 16; refine (of_calls A1 c1 l _ HR.out HB.out HL.out).mono ?_; rintro e w1 ⟨rfl, hb1⟩; rw [← HX.out])
    go_wp2_with (go_at_call 17; refine (ref_calls A1 c1 l _ (H1 _ hb1) HB.out HL.out).mono ?_; rintro e w' ⟨rfl, rfl⟩; rw [← HX.out])
    go_wp2_with (go_at_call 18; refine (check_calls A1 c1 l v r0 _ (H1 _ hb1) HB.out HL.out HV.out).mono ?_; rintro e w2 ⟨rfl, hb2⟩)
    have hb12 := below_step hb1 hb2
    go_wp2_with (go_at_call 17; refine (ref_calls A1 c1 l _ (H1 _ hb12) HB.out HL.out).mono ?_; rintro e w' ⟨rfl, rfl⟩; rw [← HX.out])
    go_wp2_with (go_at_call 17; refine (ref_calls A1 c1 l _ (H1 _ hb12) HB.out HL.out).mono ?_; rintro e w' ⟨rfl, rfl⟩; rw [← HX.out])
    go_wp2_with (go_at_call 18; refine (check_calls A1 c1 l x true _ (H1 _ hb12) HB.out HL.out HT.out).mono ?_; rintro e w3 ⟨rfl, hb3⟩)
    go_wp2_with (go_at_call 15; refine (awake_calls _).mono ?_; rintro e w4 ⟨rfl, hb4⟩)
    go_ret
    exact ⟨rfl, below_step (below_step hb12 hb3) hb4⟩
end Go.Proofs.Ytkackggplinelaa.Crc
