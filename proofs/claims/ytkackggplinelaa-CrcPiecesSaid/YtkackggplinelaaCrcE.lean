/- The walk of CrcEnds: bytes with their own sum behind them. -/
import Derived.Test.YtkackggplinelaaProg
import Derived.Below
import Derived.Deep.Draws
import Derived.Deep.AppendLies
import Derived.Maps.AppendAt
import Derived.OwnWalk
import Derived.Laws.BytesArg
import Derived.Laws.MakeOwn
import Derived.Laws.OwnMore
import Derived.Deep.OwnRows
import Derived.Tactics
import Derived.Lib.ConvBytes
import Derived.Laws.Slices
import Derived.WalkKit
import Derived.KernelRfl
import Derived.RowKit3
import Derived.Deep.LoopGhost
import Derived.Deep.QuietTactic
import Derived.BigQuiet
import Derived.WideLaws
import Derived.Deep.DeepCutAuto
import Derived.Deep.CutBlock
import Derived.Deep.RegionHeld3
import Derived.Laws.Rows
import Derived.Lib.AppendStr
import Derived.ArgAppend
import Derived.Laws.IdiomCopy
import Derived.OrdersHeld
import Derived.Laws.BitsLemmas
import Derived.RowKit
import Derived.Test.YtkackggplinelaaWWords
import Derived.Test.YtkackggplinelaaWLast
import Derived.Test.YtkackggplinelaaWTab
import Derived.Test.YtkackggplinelaaWFour
import Derived.Test.YtkackggplinelaaWQPut
import Derived.Test.YtkackggplinelaaWApart
import Derived.Test.YtkackggplinelaaWArr
import Derived.Test.YtkackggplinelaaWZeros
import Derived.Test.YtkackggplinelaaWFoot
import Derived.Test.YtkackggplinelaaWKept
import Derived.Test.YtkackggplinelaaWShare
import Derived.Test.YtkackggplinelaaWN
import Derived.Test.YtkackggplinelaaWFootNe
import Derived.Test.YtkackggplinelaaWAt
import Derived.Test.YtkackggplinelaaWEqStruct
import Derived.Test.YtkackggplinelaaWRepsOne
import Derived.Test.YtkackggplinelaaWInv
import Derived.Test.YtkackggplinelaaWInvWords
import Derived.Test.YtkackggplinelaaWGuard
import Derived.Test.YtkackggplinelaaWNEv
import Derived.Test.YtkackggplinelaaWMore
import Derived.Lib.Hide
import Derived.Deep.DeepMust
import Derived.Test.YtkackggplinelaaCrcA
namespace Go.Proofs.Ytkackggplinelaa.Crc
open Go.RowKit Go.Proofs.YtkackggplinelaaW.PrintWords Go.Proofs.YtkackggplinelaaW.PrintLast Go.Proofs.YtkackggplinelaaW.PrintMore
set_option linter.unusedVariables false
set_option linter.unusedSimpArgs false
theorem info5 : (Try.prog.info? 5).map (fun i => (i.zero, i.size, i.bytes)) = some (some (.int .u8 0), 1, 1) := by kernel_rfl
/-- A literal's row is the call's own. -/
theorem R_lit8 (w : World) (base : Nat) (l : List Int) (hb : base ≤ w.heap.size) (hl : l.length ≤ 9223372036854775807) :
    Kd.R (Kd.int .u8) 5 (w.alloc (.cells (l.map (Value.int .u8)).toArray 5)) base (fun _ => True) (.slice (some ⟨w.heap.size, 0, none⟩) l.length l.length) l :=
  Kd.R_of_own (own_lit w base 5 .u8 l hb hl) (fun _ _ => trivial)
def four (v : Int) : List Int := [v % 256, v / 256 % 256, v / 65536 % 256, v / 16777216 % 256]
/-- What the document's sentence comes to. -/
def EndsFact (l : List Int) : Prop := crcOf (l ++ four (crcOf l)) = crcOf [0, 0, 0, 0]
theorem nat_four (v : Nat) : nat (four (v : Int)) = CrcP.four v := by
  simp [nat, four, CrcP.four]
  omega
theorem endsFact (l : List Int) (hb : ∀ x ∈ l, 0 ≤ x ∧ x < 256) : EndsFact l := by
  have hC : CrcP.crc (nat l) < 2 ^ 32 := Nat.xor_lt_two_pow (CrcP.C_lt (nat l) CrcP.F_lt (nat_lt hb)) CrcP.F_lt
  unfold EndsFact
  rw [crcOf_nat l hb, crcOf_nat [0, 0, 0, 0] (by decide), crcOf_nat _ (fun y hy => by
    rcases List.mem_append.1 hy with h | h
    · exact hb y h
    · simp [four] at h; omega)]
  have : nat (l ++ four ((CrcP.crc (nat l) : Nat) : Int)) = nat l ++ CrcP.four (CrcP.crc (nat l)) := by
    rw [← nat_four]; simp [nat]
  rw [this, CrcP.ends _ (nat_lt hb)]
  rfl
set_option maxHeartbeats 1000000 in
theorem ends_calls (A1 : Option Addr) (c1 : Nat) (l : List Int) (w : World) (hr : Kd.C (Kd.int .u8) w A1 l.length l) (hb : ∀ x ∈ l, 0 ≤ x ∧ x < 256) (hl : l.length ≤ 4611686018427387904) (hE : EndsFact l) :
    Calls Try.prog 8 #[.slice A1 l.length c1] w fun e w' => e = .returned (.bool true) ∧ Below w.heap.size w w' := by
  have HB := Lib.hid hb
  have HL := Lib.hid hl
  have HR := Lib.hid hr
  have HE := Lib.hid hE
  clear hb hl hr hE
  by_cases hbig : (2000 : Int) < l.length
  · have hbig' : 2000 < l.length := by omega
    go_enter Try.func8, Try.ntmps8
    go_wp2_with (go_at_call 15; refine (awake_calls _).mono ?_; rintro e w' ⟨rfl, hb1⟩)
    go_ret
    exact ⟨rfl, hb1⟩
  · have hsm : ¬ 2000 < l.length := by omega
    obtain ⟨x, hx⟩ : ∃ x, x = crcOf l := ⟨_, rfl⟩
    have HX := Lib.hid hx
    clear hx
    go_enter Try.func8, Try.ntmps8
    have t1 : True := trivial
    go_wp2_with (first
      | (go_at_call 16; have _t := t1; clear t1; refine (of_calls A1 c1 l _ HR.out HB.out HL.out).mono ?_; rintro e w1 ⟨rfl, hb1⟩; rw [← HX.out])
      | ((with_reducible refine gate_builtin (b := .append) (xs := #[.tmp 12, .tmp 13]) rfl ?_); at_builtin; (refine Kd.R_append_row (Value.int .u8) 0 (w0 := w) w.heap.size rfl (.tmp 12) (.tmp 13) 24 5 (.int .u8 0) 1 rfl Try.underlying24 info5 rfl (by decide) (.slice (some ⟨w1.heap.size, 0, none⟩) 0 0) [] l A1 l.length c1 (fun _ => True) rfl rfl (fun _ _ => trivial) (R_lit8 w1 _ [] hb1.size (by decide)) (Kd.C_alloc (Kd.C_below HR.out hb1) _) (below_alloc hb1 _) ?aS ?aL ?_; (case aS => have := hb1.size; simp; omega); (case aL => simp; omega); intro v2 w2 hO2 hB2 hg2 hat2))
      | ((with_reducible refine gate_builtin (b := .append) (xs := #[.tmp 14, .tmp 26]) rfl ?_); go_must (at_builtin; refine Kd.R_append_row (Value.int .u8) 0 (w0 := w) w.heap.size rfl (.tmp 14) (.tmp 26) 24 5 (.int .u8 0) 1 rfl Try.underlying24 info5 rfl (by decide) v2 l (four x) (some ⟨w2.heap.size, 0, none⟩) 4 4 (fun _ => True) rfl rfl (fun _ _ => trivial) (Kd.R_alloc hO2 _) (C_lit w2 (four x) 5 (0, 0) (by simp [four])) (below_alloc hB2 _) ?aS ?aL ?_; (case aS => have := hB2.size; simp; omega); (case aL => simp; omega); intro v3 w3 hO3 hB3 hg3 hat3)))
    obtain ⟨y, hy⟩ : ∃ y, y = l ++ four x := ⟨_, rfl⟩
    rw [← hy] at hO3
    obtain ⟨A3, c3, rfl, _, hC3⟩ := Kd.R_reads hO3
    have H3 := Lib.hid (fun w' (h : Below w3.heap.size w3 w') => Kd.C_below hC3 h)
    have hx0 : 0 ≤ x ∧ x < 4294967296 := by
      rw [HX.out, crcOf_nat l HB.out]
      have := CrcP.C_lt (nat l) CrcP.F_lt (nat_lt HB.out)
      have h2 := Nat.xor_lt_two_pow this CrcP.F_lt
      unfold CrcP.crc
      omega
    have H5 : Hid (∀ q ∈ y, 0 ≤ q ∧ q < 256) := Lib.hid (fun q hq => by
      rw [hy] at hq
      rcases List.mem_append.1 hq with h | h
      · exact HB.out q h
      · simp [four] at h; omega)
    have H6 : Hid (y.length ≤ 4611686018427387904) := Lib.hid (by rw [hy]; simp [four]; omega)
    obtain ⟨z, hz⟩ : ∃ z, z = crcOf [0, 0, 0, 0] := ⟨_, rfl⟩
    have HZ := Lib.hid hz
    have HQ : Hid (crcOf y = z) := Lib.hid (by rw [hz, hy, HX.out]; exact HE.out)
    clear hz hx0 hO3 hg3 hat3 hg2 hat2 hO2 hC3 hy
    have t2 : True := trivial
    have t3 : True := trivial
    go_wp2_with (first
      | (go_at_call 16; have _t := t2; clear t2; go_must (refine (of_calls (some ⟨w3.heap.size, 0, none⟩) 4 [0, 0, 0, 0] _ (C_lit w3 [0, 0, 0, 0] 5 (0, 0) (by decide)) (by decide) (by decide)).mono ?_; rintro e w4 ⟨rfl, hb4⟩; rw [← HZ.out]; have hb34 : Below w3.heap.size w3 w4 := below_step (below_alloc (Below.refl _ _) _) hb4))
      | (go_at_call 16; have _t := t3; clear t3; go_must (refine (of_calls A3 c3 y _ (H3.out _ hb34) H5.out H6.out).mono ?_; rintro e w5 ⟨rfl, hb5⟩; rw [HQ.out]))
      | (go_at_call 16; go_must (refine (of_calls none 0 [] _ (Kd.C_nil _ _) (by decide) (by decide)).mono ?_; rintro e w6 ⟨rfl, hb6⟩; rw [nil_crc]))
      | (go_at_call 15; refine (awake_calls _).mono ?_; rintro e w7 ⟨rfl, hb7⟩))
    go_ret
    exact ⟨rfl, below_step (below_step (below_step (below_step hB3 hb34) hb5) hb6) hb7⟩
end Go.Proofs.Ytkackggplinelaa.Crc
