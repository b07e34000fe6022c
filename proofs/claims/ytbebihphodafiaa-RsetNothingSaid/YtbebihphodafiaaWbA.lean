/- Walks of wbuf's small functions: a copy of bytes, whether one of a row of writes is such, whether a block is written twice. -/
import Derived.Test.YtbebihphodafiaaProg
import Derived.Below
import Derived.Deep.Draws
import Derived.Deep.AppendLies
import Derived.Maps.AppendAt
import Derived.OwnWalk
import Derived.Laws.BytesArg
import Derived.Laws.MakeOwn
import Derived.Laws.OwnMore
import Derived.Deep.OwnRows
import Derived.Tactics
import Derived.Lib.ConvBytes
import Derived.Laws.Slices
import Derived.WalkKit
import Derived.KernelRfl
import Derived.RowKit3
import Derived.Deep.LoopGhost
import Derived.Deep.QuietTactic
import Derived.BigQuiet
import Derived.WideLaws
import Derived.Deep.DeepCutAuto
import Derived.Deep.CutBlock
import Derived.Deep.RegionHeld3
import Derived.Laws.Rows
import Derived.Lib.AppendStr
import Derived.ArgAppend
import Derived.Laws.IdiomCopy
import Derived.OrdersHeld
import Derived.Laws.BitsLemmas
import Derived.RowKit
import Derived.Test.YtbebihphodafiaaWWords
import Derived.Test.YtbebihphodafiaaWLast
import Derived.Test.YtbebihphodafiaaWTab
import Derived.Test.YtbebihphodafiaaWFour
import Derived.Test.YtbebihphodafiaaWQPut
import Derived.Test.YtbebihphodafiaaWApart
import Derived.Test.YtbebihphodafiaaWArr
import Derived.Test.YtbebihphodafiaaWZeros
import Derived.Test.YtbebihphodafiaaWFoot
import Derived.Test.YtbebihphodafiaaWKept
import Derived.Test.YtbebihphodafiaaWShare
import Derived.Test.YtbebihphodafiaaWN
import Derived.Test.YtbebihphodafiaaWFootNe
import Derived.Test.YtbebihphodafiaaWAt
import Derived.Test.YtbebihphodafiaaWEqStruct
import Derived.Test.YtbebihphodafiaaWRepsOne
import Derived.Test.YtbebihphodafiaaWInv
import Derived.Test.YtbebihphodafiaaWInvWords
import Derived.Test.YtbebihphodafiaaWGuard
import Derived.Test.YtbebihphodafiaaWNEv
import Derived.Test.YtbebihphodafiaaWMore
import Derived.Outline
import Derived.Lib.Hide
import Derived.Deep.DeepMust
import Derived.Maps.Own
import Derived.Maps.OwnOps
import Derived.Maps.OwnSet
import Derived.Maps.Views
import Derived.Maps.Ext
import Derived.IntWalk
import Derived.Test.YtbebihphodafiaaIvC
namespace Go.Proofs.Ytbebihphodafiaa.Iv
open Go.RowKit Go.Proofs.YtbebihphodafiaaW.PrintWords Go.Proofs.YtbebihphodafiaaW.PrintLast Go.Proofs.YtbebihphodafiaaW.PrintMore Go.Proofs.Ytbebihphodafiaa.PWb Go.Maps
set_option linter.unusedVariables false
set_option linter.unusedSimpArgs false

abbrev kb : Kd Int := Kd.int .u8
theorem info5 : (Try.prog.info? 5).map (fun i => (i.zero, i.size, i.bytes)) = some (some (.int .u8 0), 1, 1) := by kernel_rfl
theorem info31 : (Try.prog.info? 31).map (fun i => (i.zero, i.size, i.bytes)) = some (some (.agg #[.int .i64 0, .slice none 0 0]), 2, 32) := by kernel_rfl
theorem Kb_M {w W : World} {base : Nat} {ok : Nat → Prop} {x : Int} {cs : List Value} (h : kb.K w x cs) : kb.M W base ok x cs := h
/-- A row with room, of nothing yet. -/
theorem Rb_room (w : World) (base G : Nat) (cells : Array Value) (hb : base ≤ w.heap.size) (hs : cells.size = G * 1) (hm : G ≤ maxLen) :
    Kd.R kb 5 (w.alloc (.cells cells 5)) base (fun _ => True) (.slice (some ⟨w.heap.size, 0, none⟩) 0 G) [] :=
  ⟨fun _ _ => trivial, [], ⟨rfl, .inr ⟨w.heap.size, G, cells, rfl, hb, Deep.blk_alloc_new _ _, Nat.zero_le _, hm, hs, by simp⟩⟩, Reps.none _ _⟩
section
variable {P : Program} {ops : Array Oper} {rest : List Oper} {o : Oper} {a : Act} {Q : Exit → Act → World → Prop}
/-- append(v, x...), rows of bytes. -/
theorem app_bytes {w0 W : World} (base : Nat) (hgd : o.guard = none) (s x : Operand) 
    (ho : o.op = .call { callee := .builtin .append, args := #[s, x], argTypes := #[28, 28] })
    (v : Value) (xs ys : List Int) (A : Option Addr) (m c : Nat) (hs : a.eval s = v) (hx : a.eval x = .slice A m c)
    (HO : Kd.R kb 5 W base (fun _ => True) v xs) (HR : Kd.C kb W A m ys)
    (HB : Below base w0 W) (hbase : base ≤ W.heap.size) (hl : (xs.length + m) * 1 ≤ 140737488355328)
    (h : ∀ v1 w1, Kd.R kb 5 w1 base (fun _ => True) v1 (xs ++ ys) → Below base w0 w1 → W.grownBy w1 v.ownBlock → (v1.ownBlock = v.ownBlock ∨ ∃ b, v1.ownBlock = some b ∧ W.heap.size ≤ b) → wpList Try.prog ops Q rest (a.put o.dst v1) w1) :
    wpList Try.prog ops Q (o :: rest) a W :=
  Kd.R_append_rows kb (Rr := kb.K W) base hgd s x 28 5 (.int .u8 0) 1 ho Try.underlying28 info5 rfl (by decide) (by decide) v xs ys A m c (fun _ => True) (fun k => some k ≠ v.ownBlock) hs hx HO HR (fun _ _ h => Kb_M h) (fun _ h => ⟨trivial, h⟩) (fun _ _ => trivial) HB hbase hl h
end
set_option maxHeartbeats 1000000 in
theorem cloneB_calls (A : Option Addr) (c : Nat) (l : List Int) (w : World) (hr : Kd.C kb w A l.length l) (hl : l.length ≤ 140737488355328) :
    Calls Try.prog 49 #[.slice A l.length c] w fun e w' => ∃ v, e = .returned v ∧ Below w.heap.size w w' ∧ Kd.R kb 5 w' w.heap.size (fun _ => True) v l := by
  cases A with
  | none =>
    have h0 : l = [] := by
      rcases l with _ | ⟨x, l⟩
      · rfl
      · obtain ⟨ad, h, _⟩ := hr.2.2 (by simp)
        cases h
    subst h0
    clear hr
    have hq := fun W : World => Lib.run_eql_slice_nil (P := Try.prog) W 28 5 none 0 c 0 0 Try.underlying28
    go_enter Try.func49, Try.ntmps49
    go_wp2
    go_ret
    exact ⟨_, rfl, Below.refl _ _, Kd.R_nil _ _ _ _ _⟩
  | some ad =>
    have HR := Lib.hid hr
    clear hr
    have hq := fun W : World => Lib.run_eql_slice_nil (P := Try.prog) W 28 5 (some ad) l.length c 0 0 Try.underlying28
    go_enter Try.func49, Try.ntmps49
    go_wp2_with ((with_reducible refine gate_builtin (b := .append) (xs := #[.tmp 5, .tmp 6]) rfl ?_); at_builtin; go_must (refine app_bytes (w0 := w) w.heap.size rfl (.tmp 5) (.tmp 6) rfl (.slice (some ⟨w.heap.size, 0, none⟩) 0 0) [] l (some ad) l.length c rfl rfl (Rb_room w w.heap.size 0 #[] (Nat.le_refl _) rfl (by decide)) (Kd.C_alloc HR.out _) (below_alloc (Below.refl _ _) _) (by simp) (by simpa using hl) ?_; intro v w1 h1 h2 h3 h4))
    go_ret
    exact ⟨_, rfl, h2, h1⟩
/-- What is asked of a function that is handed over, of writes. -/
def TellsP (g : Nat) (lb : Array Value) (p : S31 → Bool) (l : List S31) (w : World) : Prop :=
  ∀ W x A c, x ∈ l → Below w.heap.size w W → Calls Try.prog g (#[.agg #[.int .i64 x.f0, .slice A x.f1.length c]] ++ lb) W fun e w' => e = .returned (.bool (p x)) ∧ Below w.heap.size w w'
set_option maxHeartbeats 4000000 in
theorem idxP_calls (g : Nat) (lb : Array Value) (p : S31 → Bool) (eg : ∀ args w, (callFunc g args).run Try.prog w = .ok (.enter g args) w) (A : Option Addr) (c : Nat) (l : List S31) (w : World) (hr : Kd.C k31 w A l.length l) (hl : l.length ≤ 9223372036854775807) (hp : TellsP g lb p l w) :
    Calls Try.prog 67 #[.slice A l.length c, .func (.func g) #[] lb] w fun e w' => ∃ i : Int, e = .returned (.int .i64 i) ∧ (decide (0 ≤ i)) = l.any p ∧ Below w.heap.size w w' := by
  have HR := Lib.hid (fun w' (h : Below w.heap.size w w') => Kd.C_below hr h)
  have HP := Lib.hid hp
  clear hr hp
  go_enter Try.func67, Try.ntmps67
  go_wp2
  go_loopw [5, 8] (fun _ i wr => ∃ k : Nat, k ≤ l.length ∧ i = .int .i64 k ∧ Aside0 (Below w.heap.size w wr ∧ (l.take k).any p = false)) (fun _ i _ => l.length - (intOf i).toNat)
  case atStart => exact ⟨0, Nat.zero_le _, rfl, ⟨Below.refl _ _, by simp⟩⟩
  case round =>
    obtain ⟨k, hk, rfl, HB⟩ := hrel
    by_cases hlt : k < l.length
    · obtain ⟨ad, A1, c1', rfl, c0, c1, _, _⟩ := at_T31 (HR.out _ HB.out.1) (k : Int) (by omega) (by omega)
      simp only [Int.toNat_natCast] at c0 c1
      obtain ⟨q, hq⟩ : ∃ q, q = rd_T31 l (k : Int) := ⟨_, rfl⟩
      rw [← hq] at c0 c1
      have hqe : q = l[k] := by rw [hq]; simp [rd_T31, List.getD_eq_getElem?_getD, List.getElem?_eq_getElem hlt]
      have hc := HP.out wr q A1 c1' (by rw [hqe]; exact List.getElem_mem hlt) HB.out.1
      have HT := Lib.hid (show (l.take (k + 1)).any p = ((l.take k).any p || p q) by
        rw [List.take_succ_eq_append_getElem hlt, List.any_append, hqe]; simp)
      have HM := Lib.hid (show p q = true → l.any p = true from fun h => List.any_eq_true.2 ⟨q, by rw [hqe]; exact List.getElem_mem hlt, h⟩)
      clear hq hqe
      have b2 : (k : Int) < (l.length : Int) := by omega
      have c0' := c0
      have c1' := c1
      cases hpq : p q with
      | true =>
        rw [hpq] at hc
        go_wp2_with (go_at_fn g; refine hc.mono ?_; rintro e w' ⟨rfl, hb'⟩)
        try rw [Exit.noGoto_ret]
        go_ret
        exact ⟨_, rfl, by rw [HM.out hpq]; simp, hb'⟩
      | false =>
        rw [hpq] at hc
        go_wp2_with (go_at_fn g; refine hc.mono ?_; rintro e w' ⟨rfl, hb'⟩)
        go_roundw
        case rel => exact ⟨k + 1, by omega, by go_num, ⟨hb', by rw [HT.out, HB.out.2, hpq]; rfl⟩⟩
        case measure => simp [intOf]; omega
    · obtain rfl : k = l.length := by omega
      have hF : l.take l.length = l := List.take_length
      rw [hF] at HB
      have b2 : ¬ (l.length : Int) < (l.length : Int) := by omega
      clear hF
      go_wp2
      try rw [Exit.noGoto_ret]
      go_ret
      exact ⟨_, rfl, by rw [HB.out.2]; rfl, HB.out.1⟩
set_option maxHeartbeats 1000000 in
theorem containsP_calls (g : Nat) (lb : Array Value) (p : S31 → Bool) (eg : ∀ args w, (callFunc g args).run Try.prog w = .ok (.enter g args) w) (A : Option Addr) (c : Nat) (l : List S31) (w : World) (hr : Kd.C k31 w A l.length l) (hl : l.length ≤ 9223372036854775807) (hp : TellsP g lb p l w) :
    Calls Try.prog 45 #[.slice A l.length c, .func (.func g) #[] lb] w fun e w' => e = .returned (.bool (l.any p)) ∧ Below w.heap.size w w' := by
  have hc := idxP_calls g lb p eg A c l w hr hl hp
  clear hr hp
  generalize l.any p = b at hc ⊢
  go_enter Try.func45, Try.ntmps45
  go_wp2_with (go_at_call 67; refine hc.mono ?_; rintro e w' ⟨i, rfl, hi, hb⟩)
  go_ret
  refine ⟨?_, hb⟩
  rw [← hi]
  rfl
/-- Which writes lie outside. -/
def outB (blocks : Int) (x : S31) : Bool := decide (x.f0 < 0) || decide (blocks ≤ x.f0)
theorem ne40 (n : Nat) : ((n : Int) != 40) = !decide (n = 40) := by rw [Bool.eq_iff_iff]; simp; omega
def lenB (x : S31) : Bool := !decide (x.f1.length = 40)
set_option maxHeartbeats 1000000 in
theorem closure46 (x : S31) (A : Option Addr) (c g bb : Nat) (blocks : Int) (W : World) (h0 : W.cell? ⟨g, 0, none⟩ = some (.pointer (some ⟨bb, 0, none⟩))) (h1 : W.cell? ⟨bb, 0, none⟩ = some (.int .i64 blocks)) :
    Calls Try.prog 46 #[.agg #[.int .i64 x.f0, .slice A x.f1.length c], .pointer (some ⟨g, 0, none⟩)] W fun e w' => e = .returned (.bool (outB blocks x)) ∧ Below W.heap.size W w' := by
  have hgl := World.block_lt_of_cell? _ _ h0
  have hbl := World.block_lt_of_cell? _ _ h1
  simp only at hgl hbl
  have hg : g ≠ W.heap.size := by omega
  have hb : bb ≠ W.heap.size := by omega
  unfold outB
  have c0 := World.cell?_alloc_at (w := W) #[.int .i64 x.f0, .slice A x.f1.length c] 31 W.heap.size 0 rfl
  have c1 := pw_cell_below (below_alloc (Below.refl _ _) (.cells #[.int .i64 x.f0, .slice A x.f1.length c] 31)) h0
  have c2 := pw_cell_below (below_alloc (Below.refl _ _) (.cells #[.int .i64 x.f0, .slice A x.f1.length c] 31)) h1
  have C := Lib.hid (And.intro c0 (And.intro c1 c2))
  have HB := Lib.hid (below_alloc (Below.refl W.heap.size W) (.cells #[.int .i64 x.f0, .slice A x.f1.length c] 31))
  clear c0 c1 c2 h0 h1
  by_cases g0 : x.f0 < 0
  · have d0 : decide (x.f0 < 0) = true := by simpa using g0
    go_enter Try.func46, Try.ntmps46
    go_wp2
    obtain ⟨w5, h5⟩ : ∃ y, y = W.alloc (.cells #[.int .i64 x.f0, .slice A x.f1.length c] 31) := ⟨_, rfl⟩
    rw [← h5] at C HB ⊢
    clear h5
    obtain ⟨c0, c1, c2⟩ := C.out
    go_quiet (fail)
    go_wp2
    go_ret
    exact ⟨by simp [g0], pw_below_drewN HB.out _⟩
  · have d0 : decide (x.f0 < 0) = false := by simpa using g0
    go_enter Try.func46, Try.ntmps46
    go_wp2
    obtain ⟨w5, h5⟩ : ∃ y, y = W.alloc (.cells #[.int .i64 x.f0, .slice A x.f1.length c] 31) := ⟨_, rfl⟩
    rw [← h5] at C HB ⊢
    clear h5
    obtain ⟨c0, c1, c2⟩ := C.out
    go_quiet (fail)
    go_wp2
    go_ret
    exact ⟨by simp [g0]; omega, pw_below_drewN HB.out _⟩
set_option maxHeartbeats 1000000 in
theorem closure47 (x : S31) (A : Option Addr) (c : Nat) (W : World) :
    Calls Try.prog 47 #[.agg #[.int .i64 x.f0, .slice A x.f1.length c]] W fun e w' => e = .returned (.bool (lenB x)) ∧ Below W.heap.size W w' := by
  go_enter Try.func47, Try.ntmps47
  go_wp2
  go_ret
  exact ⟨by unfold lenB; rw [← ne40]; rfl, below_alloc (Below.refl _ _) _⟩
end Go.Proofs.Ytbebihphodafiaa.Iv
