/- Merged texts of this session: Walks of ival: rows of extents behind each other. Walks of wbuf's small functions: a copy of bytes, whether one of a row of writes is such, whether a block is written twice. What a buffer of writes is in memory: its box, its map, the rows of bytes behind the map; what is read of it, and what a write leaves of it. Walks of a buffer's making, of what is read of it, and of whether a block is written twice. The walk of a buffer's Write. What Apply asks of its writes. The texts of the sorts, and of the sorted keys of a map, at this program: the kit's contracts are laid at it (written by the kit's own tool). What rows of extents that rise and do not touch are: each is told by the blocks it has; joining keeps the blocks. Plain law, no program in it. The walk of the sort of extents by their first block. The walk of joined: extents that rise and do not touch, of any. -/
import Derived.Test.YtbebihphodafiaaProg
import Derived.Below
import Derived.Deep.Draws
import Derived.Deep.AppendLies
import Derived.Maps.AppendAt
import Derived.OwnWalk
import Derived.Laws.BytesArg
import Derived.Laws.MakeOwn
import Derived.Laws.OwnMore
import Derived.Deep.OwnRows
import Derived.Tactics
import Derived.Lib.ConvBytes
import Derived.Laws.Slices
import Derived.WalkKit
import Derived.KernelRfl
import Derived.RowKit3
import Derived.Deep.LoopGhost
import Derived.Deep.QuietTactic
import Derived.BigQuiet
import Derived.WideLaws
import Derived.Deep.DeepCutAuto
import Derived.Deep.CutBlock
import Derived.Deep.RegionHeld3
import Derived.Laws.Rows
import Derived.Lib.AppendStr
import Derived.ArgAppend
import Derived.Laws.IdiomCopy
import Derived.OrdersHeld
import Derived.Laws.BitsLemmas
import Derived.RowKit
import Derived.Test.YtbebihphodafiaaWWords
import Derived.Test.YtbebihphodafiaaWLast
import Derived.Test.YtbebihphodafiaaWTab
import Derived.Test.YtbebihphodafiaaWFour
import Derived.Test.YtbebihphodafiaaWQPut
import Derived.Test.YtbebihphodafiaaWApart
import Derived.Test.YtbebihphodafiaaWArr
import Derived.Test.YtbebihphodafiaaWZeros
import Derived.Test.YtbebihphodafiaaWFoot
import Derived.Test.YtbebihphodafiaaWKept
import Derived.Test.YtbebihphodafiaaWShare
import Derived.Test.YtbebihphodafiaaWN
import Derived.Test.YtbebihphodafiaaWFootNe
import Derived.Test.YtbebihphodafiaaWAt
import Derived.Test.YtbebihphodafiaaWEqStruct
import Derived.Test.YtbebihphodafiaaWRepsOne
import Derived.Test.YtbebihphodafiaaWInv
import Derived.Test.YtbebihphodafiaaWInvWords
import Derived.Test.YtbebihphodafiaaWGuard
import Derived.Test.YtbebihphodafiaaWNEv
import Derived.Test.YtbebihphodafiaaWMore
import Derived.Outline
import Derived.Lib.Hide
import Derived.Deep.DeepMust
import Derived.Maps.Own
import Derived.Maps.OwnOps
import Derived.Maps.OwnSet
import Derived.Maps.Views
import Derived.Maps.Ext
import Derived.IntWalk
import Derived.RangeFuncOwn
import Derived.Shelf.SlIterI.Nil
import Derived.Shelf.SortM.Plain
import Derived.Shelf.SortM.SortNone
import Derived.Shelf.SlSortCmp.NoneTotal
import Derived.StillTailTactics
import Derived.Test.YtbebihphodafiaaZRsetOwn1
import Derived.Test.YtbebihphodafiaaZRsetOwn2
namespace Go.Proofs.Ytbebihphodafiaa.Iv
open Go.RowKit Go.Proofs.YtbebihphodafiaaW.PrintWords Go.Proofs.YtbebihphodafiaaW.PrintLast Go.Proofs.YtbebihphodafiaaW.PrintMore Go.Proofs.Ytbebihphodafiaa.PWb
set_option linter.unusedVariables false
set_option linter.unusedSimpArgs false

set_option maxHeartbeats 1000000 in
theorem grow_calls (n : Nat) (w : World) (hn : n * 16 ≤ 140737488355328) :
    Calls Try.prog 89 #[.slice none 0 0, .int .i64 n] w fun e w' => ∃ v, e = .returned v ∧ Below w.heap.size w w' ∧ Kd.R k60 60 w' w.heap.size (fun _ => True) v [] := by
  have d0 : decide ((n : Int) < 0) = false := by simp <;> omega
  have b0 : ¬ ((n : Int) < 0) := by omega
  by_cases h0 : n = 0
  · subst h0
    go_enter Try.func89, Try.ntmps89
    go_wp2
    go_ret
    exact ⟨_, rfl, Below.refl _ _, Kd.R_nil _ _ _ _ _⟩
  · obtain ⟨i0, hi0, hz⟩ := Option.map_eq_some_iff.1 info60
    simp only [Prod.mk.injEq] at hz
    obtain ⟨hz0, hz1, hz2⟩ := hz
    have h1 : (n : Int) > 0 := by omega
    have d1 : decide ((0 : Int) < n) = true := by simp <;> omega
    have w1 : wrap64 ((n : Int) - 0) = (n : Int) := by unfold wrap64; omega
    have hrz : ∀ ty, (Builtin.append_ #[83, 3] ty #[.slice none 0 0, .int .i64 (n : Int)]).run Try.prog w = .ok (.slice (some ⟨w.heap.size, 0, none⟩) n (grownCap w n 0 60)) (w.drew.alloc (.cells (Builtin.zeroCells #[.int .i64 0, .int .i64 0] n ++ Builtin.zeroCells #[.int .i64 0, .int .i64 0] (grownCap w n 0 60 - n)) 60)) := fun ty => by
      have h := Lib.run_append_grow_zeros w 83 3 ty 60 i0 (.agg #[.int .i64 0, .int .i64 0]) .i64 .i64 Try.underlying83 Try.underlying3 hi0 hz0 none 0 0 [] (run_firstCells_none w.drew i0.size 0 0 0) n (by omega) (by omega) (by omega) (by omega) (by rw [hz2]; omega) (by rw [hz2]; exact growslice_fits (by omega) (by omega))
      simpa [Value.cells] using h
    have hGn : n ≤ grownCap w n 0 60 := grownCap_ge w _ _ _
    have hG63 := grownCap_le_maxLen w n 0 60 (by unfold maxLen; omega)
    obtain ⟨G, hG⟩ : ∃ G, G = grownCap w n 0 60 := ⟨_, rfl⟩
    rw [← hG] at hrz hGn hG63
    have hz28 : ∀ W, (Go.sizeOf 60).run Try.prog W = .ok 2 W := Try.sizeOf60
    have hG9 : G ≤ 9223372036854775807 := by unfold maxLen at hG63; omega
    have hrow : Kd.R k60 60 (w.drew.alloc (.cells (Builtin.zeroCells #[.int .i64 0, .int .i64 0] n ++ Builtin.zeroCells #[.int .i64 0, .int .i64 0] (G - n)) 60)) w.heap.size (fun _ => True) (.slice (some ⟨w.heap.size, 0, none⟩) 0 G) [] :=
      R_room w.drew w.heap.size G _ (Nat.le_refl _) (by simp [Builtin.zeroCells]; omega) hG63
    have HROW := Lib.hid hrow
    obtain ⟨cs, hcs⟩ : ∃ cs, cs = Builtin.zeroCells #[.int .i64 0, .int .i64 0] n ++ Builtin.zeroCells #[.int .i64 0, .int .i64 0] (G - n) := ⟨_, rfl⟩
    rw [← hcs] at hrz HROW
    clear hrow hG hcs hi0 hz0 hz1 hz2
    go_enter Try.func89, Try.ntmps89
    go_wp2_with (at_builtin; go_must (refine Lib.wpList_append_run _ rfl _ _ _ _ rfl _ _ rfl rfl _ _ (hrz _) ?_))
    go_ret
    exact ⟨_, rfl, below_alloc (below_drew (Below.refl _ _)) _, HROW.out⟩
def tot (l : List (List S60)) : Nat := (l.map List.length).sum
theorem tot_take (l : List (List S60)) : ∀ k : Nat, tot (l.take k) ≤ tot l := by
  induction l with
  | nil => intro k; simp
  | cons x l ih =>
    intro k
    cases k with
    | zero => simp [tot]
    | succ k => have := ih k; simp [tot] at this ⊢; omega
theorem flat_len (l : List (List S60)) : l.flatten.length = tot l := by simp [tot]
theorem tot_succ (l : List (List S60)) (k : Nat) (h : k < l.length) : tot (l.take (k + 1)) = tot (l.take k) + (rd_L6 l (k : Int)).length := by
  have e : rd_L6 l (k : Int) = l[k] := by simp [rd_L6, List.getD_eq_getElem?_getD, List.getElem?_eq_getElem h]
  rw [e, List.take_succ_eq_append_getElem h]
  simp only [tot, List.map_append, List.sum_append, List.map_cons, List.map_nil, List.sum_cons, List.sum_nil, Nat.add_zero]
theorem flat_succ (l : List (List S60)) (k : Nat) (h : k < l.length) : (l.take (k + 1)).flatten = (l.take k).flatten ++ rd_L6 l (k : Int) := by
  have e : rd_L6 l (k : Int) = l[k] := by simp [rd_L6, List.getD_eq_getElem?_getD, List.getElem?_eq_getElem h]
  rw [e, List.take_succ_eq_append_getElem h]
  simp only [List.flatten_append, List.flatten_cons, List.flatten_nil, List.append_nil]
set_option maxHeartbeats 4000000 in
set_option maxRecDepth 100000 in
theorem concat_calls (A : Option Addr) (c : Nat) (l : List (List S60)) (w : World) (hr : Kd.C (Kd.slice 60 k60) w A l.length l) (hl : tot l * 16 ≤ 140737488355328) (hl2 : l.length ≤ 9223372036854775807) :
    Calls Try.prog 75 #[.slice A l.length c] w fun e w' => ∃ v, e = .returned v ∧ Below w.heap.size w w' ∧ Kd.R k60 60 w' w.heap.size (fun _ => True) v l.flatten := by
  have HR := Lib.hid (fun w' (h : Below w.heap.size w w') => Kd.C_below hr h)
  have HL := Lib.hid hl
  clear hr hl
  go_enter Try.func75, Try.ntmps75
  go_wp2
  go_loop [3, 5, 11] (fun sz _ i => ∃ k : Nat, k ≤ l.length ∧ i = .int .i64 k ∧ sz = .int .i64 (tot (l.take k) : Nat)) (fun _ _ i => l.length - (intOf i).toNat)
  case atStart => exact ⟨0, Nat.zero_le _, rfl, by simp [tot]⟩
  case round =>
    obtain ⟨k, hk, rfl, rfl⟩ := hrel
    by_cases hlt : k < l.length
    · obtain ⟨ad, A0, c0, rfl, x0, x1, x2⟩ := at_L6 (HR.out _ (Below.refl _ _)) (k : Int) (by omega) (by omega)
      simp only [Int.toNat_natCast] at x0
      have hts := tot_succ l k hlt
      have htl := tot_take l (k + 1)
      obtain ⟨q, hq⟩ : ∃ q, q = rd_L6 l (k : Int) := ⟨_, rfl⟩
      rw [← hq] at x0 hts
      clear x1 x2 hq
      obtain ⟨m, hm⟩ : ∃ m, m = q.length := ⟨_, rfl⟩
      rw [← hm] at x0 hts
      obtain ⟨tk, htk⟩ : ∃ t, t = tot (l.take k) := ⟨_, rfl⟩
      rw [← htk] at hts ⊢
      have hb := HL.out
      have b2 : (k : Int) < (l.length : Int) := by omega
      have w1 : wrap64 ((tk : Int) + m) = ((tk + m : Nat) : Int) := by unfold wrap64; omega
      have d1 : decide (((tk + m : Nat) : Int) < 0) = false := by simp <;> omega
      have b1 : ¬ (((tk + m : Nat) : Int) < 0) := by omega
      have HTS := Lib.hid hts
      have HW1 := Lib.hid w1
      clear hts htl hb htk hm
      go_wp2
      go_round
      case rel => exact ⟨k + 1, by omega, by go_num, by rw [HTS.out, HW1.out]⟩
      case measure => simp [intOf]; omega
    · obtain rfl : k = l.length := by omega
      have hF : l.take l.length = l := List.take_length
      rw [hF]
      have b2 : ¬ (l.length : Int) < (l.length : Int) := by omega
      clear hF
      have hg := grow_calls (tot l) w HL.out
      go_wp2_with (go_at_call 89; go_must (refine hg.mono ?_; rintro e w1 ⟨v1, rfl, hB1, hR1⟩))
      have HB1 := Lib.hid hB1
      have HR1 := Lib.hid hR1
      clear hB1 hR1 hg
      go_loopw [6, 8, 27] (fun v _ i ww => ∃ k : Nat, k ≤ l.length ∧ i = .int .i64 k ∧ Aside0 (Below w.heap.size w ww ∧ Kd.R k60 60 ww w.heap.size (fun _ => True) v (l.take k).flatten)) (fun _ _ i _ => l.length - (intOf i).toNat)
      case atStart => exact ⟨0, Nat.zero_le _, rfl, ⟨HB1.out, by simpa using HR1.out⟩⟩
      case round =>
        obtain ⟨k, hk, rfl, HO⟩ := hrel
        by_cases hlt : k < l.length
        · obtain ⟨ad, A0, c0, rfl, x0, x1, x2⟩ := at_L6 (HR.out _ HO.out.1) (k : Int) (by omega) (by omega)
          simp only [Int.toNat_natCast] at x0
          have hfs := flat_succ l k hlt
          have htl := tot_take l (k + 1)
          have hts := tot_succ l k hlt
          have hfl := flat_len (l.take k)
          obtain ⟨q, hq⟩ : ∃ q, q = rd_L6 l (k : Int) := ⟨_, rfl⟩
          rw [← hq] at x0 hts hfs x2
          have HX := Lib.hid x2
          have HFS := Lib.hid hfs
          have HLEN := Lib.hid (show ((l.take k).flatten.length + q.length) * 16 ≤ 140737488355328 by have := HL.out; omega)
          have HSZ := Lib.hid HO.out.1.size
          have b2 : (k : Int) < (l.length : Int) := by omega
          clear x1 x2 hq hfs hts htl hfl
          obtain ⟨p, hp⟩ : ∃ p, p = (l.take k).flatten := ⟨_, rfl⟩
          rw [← hp] at HO HLEN HFS
          clear hp
          go_wp2_with ((with_reducible refine gate_builtin (b := .append) (xs := #[.tmp 31, .tmp 32]) rfl ?_); at_builtin; go_must (refine app_rows (w0 := w) w.heap.size rfl (.tmp 31) (.tmp 32) rfl _ p q A0 q.length c0 rfl rfl HO.out.2 HX.out HO.out.1 HSZ.out HLEN.out ?_; intro v3 w3 h1 h2 h3; have H1 := Lib.hid h1; have H2 := Lib.hid h2; clear h1 h2 h3))
          go_roundw
          case rel => exact ⟨k + 1, by omega, by go_num, ⟨H2.out, by rw [HFS.out]; exact H1.out⟩⟩
          case measure => simp [intOf]; omega
        · obtain rfl : k = l.length := by omega
          have hF : l.take l.length = l := List.take_length
          rw [hF] at HO
          have b2 : ¬ (l.length : Int) < (l.length : Int) := by omega
          clear hF
          go_wp2
          try rw [Exit.noGoto_ret]
          go_ret
          exact ⟨_, rfl, HO.out.1, HO.out.2⟩
end Go.Proofs.Ytbebihphodafiaa.Iv

namespace Go.Proofs.Ytbebihphodafiaa.Iv
open Go.RowKit Go.Proofs.YtbebihphodafiaaW.PrintWords Go.Proofs.YtbebihphodafiaaW.PrintLast Go.Proofs.YtbebihphodafiaaW.PrintMore Go.Proofs.Ytbebihphodafiaa.PWb Go.Maps
set_option linter.unusedVariables false
set_option linter.unusedSimpArgs false

abbrev kb : Kd Int := Kd.int .u8
theorem info5 : (Try.prog.info? 5).map (fun i => (i.zero, i.size, i.bytes)) = some (some (.int .u8 0), 1, 1) := by kernel_rfl
theorem info31 : (Try.prog.info? 31).map (fun i => (i.zero, i.size, i.bytes)) = some (some (.agg #[.int .i64 0, .slice none 0 0]), 2, 32) := by kernel_rfl
theorem Kb_M {w W : World} {base : Nat} {ok : Nat → Prop} {x : Int} {cs : List Value} (h : kb.K w x cs) : kb.M W base ok x cs := h
/-- A row with room, of nothing yet. -/
theorem Rb_room (w : World) (base G : Nat) (cells : Array Value) (hb : base ≤ w.heap.size) (hs : cells.size = G * 1) (hm : G ≤ maxLen) :
    Kd.R kb 5 (w.alloc (.cells cells 5)) base (fun _ => True) (.slice (some ⟨w.heap.size, 0, none⟩) 0 G) [] :=
  ⟨fun _ _ => trivial, [], ⟨rfl, .inr ⟨w.heap.size, G, cells, rfl, hb, Deep.blk_alloc_new _ _, Nat.zero_le _, hm, hs, by simp⟩⟩, Reps.none _ _⟩
section
variable {P : Program} {ops : Array Oper} {rest : List Oper} {o : Oper} {a : Act} {Q : Exit → Act → World → Prop}
/-- append(v, x...), rows of bytes. -/
theorem app_bytes {w0 W : World} (base : Nat) (hgd : o.guard = none) (s x : Operand) 
    (ho : o.op = .call { callee := .builtin .append, args := #[s, x], argTypes := #[28, 28] })
    (v : Value) (xs ys : List Int) (A : Option Addr) (m c : Nat) (hs : a.eval s = v) (hx : a.eval x = .slice A m c)
    (HO : Kd.R kb 5 W base (fun _ => True) v xs) (HR : Kd.C kb W A m ys)
    (HB : Below base w0 W) (hbase : base ≤ W.heap.size) (hl : (xs.length + m) * 1 ≤ 140737488355328)
    (h : ∀ v1 w1, Kd.R kb 5 w1 base (fun _ => True) v1 (xs ++ ys) → Below base w0 w1 → W.grownBy w1 v.ownBlock → (v1.ownBlock = v.ownBlock ∨ ∃ b, v1.ownBlock = some b ∧ W.heap.size ≤ b) → wpList Try.prog ops Q rest (a.put o.dst v1) w1) :
    wpList Try.prog ops Q (o :: rest) a W :=
  Kd.R_append_rows kb (Rr := kb.K W) base hgd s x 28 5 (.int .u8 0) 1 ho Try.underlying28 info5 rfl (by decide) (by decide) v xs ys A m c (fun _ => True) (fun k => some k ≠ v.ownBlock) hs hx HO HR (fun _ _ h => Kb_M h) (fun _ h => ⟨trivial, h⟩) (fun _ _ => trivial) HB hbase hl h
end
set_option maxHeartbeats 1000000 in
theorem cloneB_calls (A : Option Addr) (c : Nat) (l : List Int) (w : World) (hr : Kd.C kb w A l.length l) (hl : l.length ≤ 140737488355328) :
    Calls Try.prog 49 #[.slice A l.length c] w fun e w' => ∃ v, e = .returned v ∧ Below w.heap.size w w' ∧ Kd.R kb 5 w' w.heap.size (fun _ => True) v l := by
  cases A with
  | none =>
    have h0 : l = [] := by
      rcases l with _ | ⟨x, l⟩
      · rfl
      · obtain ⟨ad, h, _⟩ := hr.2.2 (by simp)
        cases h
    subst h0
    clear hr
    have hq := fun W : World => Lib.run_eql_slice_nil (P := Try.prog) W 28 5 none 0 c 0 0 Try.underlying28
    go_enter Try.func49, Try.ntmps49
    go_wp2
    go_ret
    exact ⟨_, rfl, Below.refl _ _, Kd.R_nil _ _ _ _ _⟩
  | some ad =>
    have HR := Lib.hid hr
    clear hr
    have hq := fun W : World => Lib.run_eql_slice_nil (P := Try.prog) W 28 5 (some ad) l.length c 0 0 Try.underlying28
    go_enter Try.func49, Try.ntmps49
    go_wp2_with ((with_reducible refine gate_builtin (b := .append) (xs := #[.tmp 5, .tmp 6]) rfl ?_); at_builtin; go_must (refine app_bytes (w0 := w) w.heap.size rfl (.tmp 5) (.tmp 6) rfl (.slice (some ⟨w.heap.size, 0, none⟩) 0 0) [] l (some ad) l.length c rfl rfl (Rb_room w w.heap.size 0 #[] (Nat.le_refl _) rfl (by decide)) (Kd.C_alloc HR.out _) (below_alloc (Below.refl _ _) _) (by simp) (by simpa using hl) ?_; intro v w1 h1 h2 h3 h4))
    go_ret
    exact ⟨_, rfl, h2, h1⟩
/-- What is asked of a function that is handed over, of writes. -/
def TellsP (g : Nat) (lb : Array Value) (p : S31 → Bool) (l : List S31) (w : World) : Prop :=
  ∀ W x A c, x ∈ l → Below w.heap.size w W → Calls Try.prog g (#[.agg #[.int .i64 x.f0, .slice A x.f1.length c]] ++ lb) W fun e w' => e = .returned (.bool (p x)) ∧ Below w.heap.size w w'
set_option maxHeartbeats 4000000 in
theorem idxP_calls (g : Nat) (lb : Array Value) (p : S31 → Bool) (eg : ∀ args w, (callFunc g args).run Try.prog w = .ok (.enter g args) w) (A : Option Addr) (c : Nat) (l : List S31) (w : World) (hr : Kd.C k31 w A l.length l) (hl : l.length ≤ 9223372036854775807) (hp : TellsP g lb p l w) :
    Calls Try.prog 67 #[.slice A l.length c, .func (.func g) #[] lb] w fun e w' => ∃ i : Int, e = .returned (.int .i64 i) ∧ (decide (0 ≤ i)) = l.any p ∧ Below w.heap.size w w' := by
  have HR := Lib.hid (fun w' (h : Below w.heap.size w w') => Kd.C_below hr h)
  have HP := Lib.hid hp
  clear hr hp
  go_enter Try.func67, Try.ntmps67
  go_wp2
  go_loopw [5, 8] (fun _ i wr => ∃ k : Nat, k ≤ l.length ∧ i = .int .i64 k ∧ Aside0 (Below w.heap.size w wr ∧ (l.take k).any p = false)) (fun _ i _ => l.length - (intOf i).toNat)
  case atStart => exact ⟨0, Nat.zero_le _, rfl, ⟨Below.refl _ _, by simp⟩⟩
  case round =>
    obtain ⟨k, hk, rfl, HB⟩ := hrel
    by_cases hlt : k < l.length
    · obtain ⟨ad, A1, c1', rfl, c0, c1, _, _⟩ := at_T31 (HR.out _ HB.out.1) (k : Int) (by omega) (by omega)
      simp only [Int.toNat_natCast] at c0 c1
      obtain ⟨q, hq⟩ : ∃ q, q = rd_T31 l (k : Int) := ⟨_, rfl⟩
      rw [← hq] at c0 c1
      have hqe : q = l[k] := by rw [hq]; simp [rd_T31, List.getD_eq_getElem?_getD, List.getElem?_eq_getElem hlt]
      have hc := HP.out wr q A1 c1' (by rw [hqe]; exact List.getElem_mem hlt) HB.out.1
      have HT := Lib.hid (show (l.take (k + 1)).any p = ((l.take k).any p || p q) by
        rw [List.take_succ_eq_append_getElem hlt, List.any_append, hqe]; simp)
      have HM := Lib.hid (show p q = true → l.any p = true from fun h => List.any_eq_true.2 ⟨q, by rw [hqe]; exact List.getElem_mem hlt, h⟩)
      clear hq hqe
      have b2 : (k : Int) < (l.length : Int) := by omega
      have c0' := c0
      have c1' := c1
      cases hpq : p q with
      | true =>
        rw [hpq] at hc
        go_wp2_with (go_at_fn g; refine hc.mono ?_; rintro e w' ⟨rfl, hb'⟩)
        try rw [Exit.noGoto_ret]
        go_ret
        exact ⟨_, rfl, by rw [HM.out hpq]; simp, hb'⟩
      | false =>
        rw [hpq] at hc
        go_wp2_with (go_at_fn g; refine hc.mono ?_; rintro e w' ⟨rfl, hb'⟩)
        go_roundw
        case rel => exact ⟨k + 1, by omega, by go_num, ⟨hb', by rw [HT.out, HB.out.2, hpq]; rfl⟩⟩
        case measure => simp [intOf]; omega
    · obtain rfl : k = l.length := by omega
      have hF : l.take l.length = l := List.take_length
      rw [hF] at HB
      have b2 : ¬ (l.length : Int) < (l.length : Int) := by omega
      clear hF
      go_wp2
      try rw [Exit.noGoto_ret]
      go_ret
      exact ⟨_, rfl, by rw [HB.out.2]; rfl, HB.out.1⟩
set_option maxHeartbeats 1000000 in
theorem containsP_calls (g : Nat) (lb : Array Value) (p : S31 → Bool) (eg : ∀ args w, (callFunc g args).run Try.prog w = .ok (.enter g args) w) (A : Option Addr) (c : Nat) (l : List S31) (w : World) (hr : Kd.C k31 w A l.length l) (hl : l.length ≤ 9223372036854775807) (hp : TellsP g lb p l w) :
    Calls Try.prog 45 #[.slice A l.length c, .func (.func g) #[] lb] w fun e w' => e = .returned (.bool (l.any p)) ∧ Below w.heap.size w w' := by
  have hc := idxP_calls g lb p eg A c l w hr hl hp
  clear hr hp
  generalize l.any p = b at hc ⊢
  go_enter Try.func45, Try.ntmps45
  go_wp2_with (go_at_call 67; refine hc.mono ?_; rintro e w' ⟨i, rfl, hi, hb⟩)
  go_ret
  refine ⟨?_, hb⟩
  rw [← hi]
  rfl
/-- Which writes lie outside. -/
def outB (blocks : Int) (x : S31) : Bool := decide (x.f0 < 0) || decide (blocks ≤ x.f0)
theorem ne40 (n : Nat) : ((n : Int) != 40) = !decide (n = 40) := by rw [Bool.eq_iff_iff]; simp; omega
def lenB (x : S31) : Bool := !decide (x.f1.length = 40)
set_option maxHeartbeats 1000000 in
theorem closure46 (x : S31) (A : Option Addr) (c g bb : Nat) (blocks : Int) (W : World) (h0 : W.cell? ⟨g, 0, none⟩ = some (.pointer (some ⟨bb, 0, none⟩))) (h1 : W.cell? ⟨bb, 0, none⟩ = some (.int .i64 blocks)) :
    Calls Try.prog 46 #[.agg #[.int .i64 x.f0, .slice A x.f1.length c], .pointer (some ⟨g, 0, none⟩)] W fun e w' => e = .returned (.bool (outB blocks x)) ∧ Below W.heap.size W w' := by
  have hgl := World.block_lt_of_cell? _ _ h0
  have hbl := World.block_lt_of_cell? _ _ h1
  simp only at hgl hbl
  have hg : g ≠ W.heap.size := by omega
  have hb : bb ≠ W.heap.size := by omega
  unfold outB
  have c0 := World.cell?_alloc_at (w := W) #[.int .i64 x.f0, .slice A x.f1.length c] 31 W.heap.size 0 rfl
  have c1 := pw_cell_below (below_alloc (Below.refl _ _) (.cells #[.int .i64 x.f0, .slice A x.f1.length c] 31)) h0
  have c2 := pw_cell_below (below_alloc (Below.refl _ _) (.cells #[.int .i64 x.f0, .slice A x.f1.length c] 31)) h1
  have C := Lib.hid (And.intro c0 (And.intro c1 c2))
  have HB := Lib.hid (below_alloc (Below.refl W.heap.size W) (.cells #[.int .i64 x.f0, .slice A x.f1.length c] 31))
  clear c0 c1 c2 h0 h1
  by_cases g0 : x.f0 < 0
  · have d0 : decide (x.f0 < 0) = true := by simpa using g0
    go_enter Try.func46, Try.ntmps46
    go_wp2
    obtain ⟨w5, h5⟩ : ∃ y, y = W.alloc (.cells #[.int .i64 x.f0, .slice A x.f1.length c] 31) := ⟨_, rfl⟩
    rw [← h5] at C HB ⊢
    clear h5
    obtain ⟨c0, c1, c2⟩ := C.out
    go_quiet (fail)
    go_wp2
    go_ret
    exact ⟨by simp [g0], pw_below_drewN HB.out _⟩
  · have d0 : decide (x.f0 < 0) = false := by simpa using g0
    go_enter Try.func46, Try.ntmps46
    go_wp2
    obtain ⟨w5, h5⟩ : ∃ y, y = W.alloc (.cells #[.int .i64 x.f0, .slice A x.f1.length c] 31) := ⟨_, rfl⟩
    rw [← h5] at C HB ⊢
    clear h5
    obtain ⟨c0, c1, c2⟩ := C.out
    go_quiet (fail)
    go_wp2
    go_ret
    exact ⟨by simp [g0]; omega, pw_below_drewN HB.out _⟩
set_option maxHeartbeats 1000000 in
theorem closure47 (x : S31) (A : Option Addr) (c : Nat) (W : World) :
    Calls Try.prog 47 #[.agg #[.int .i64 x.f0, .slice A x.f1.length c]] W fun e w' => e = .returned (.bool (lenB x)) ∧ Below W.heap.size W w' := by
  go_enter Try.func47, Try.ntmps47
  go_wp2
  go_ret
  exact ⟨by unfold lenB; rw [← ne40]; rfl, below_alloc (Below.refl _ _) _⟩
end Go.Proofs.Ytbebihphodafiaa.Iv

namespace Go.Proofs.Ytbebihphodafiaa.Iv
open Go.RowKit Go.Proofs.YtbebihphodafiaaW.PrintWords Go.Proofs.YtbebihphodafiaaW.PrintLast Go.Proofs.YtbebihphodafiaaW.PrintMore Go.Proofs.Ytbebihphodafiaa.PWb Go.Maps
set_option linter.unusedVariables false
set_option linter.unusedSimpArgs false

abbrev ky (x : Int) : Lit := .int .i64 x
def Rh (v : Value) : Option (DataW Value × List MemPlace) := some (.held v, [])
theorem law3 : Keyed Try.prog 3 := int_keyed Try.underlying3
theorem zero28 (w : World) : (zeroValue 28).run Try.prog w = .ok (.slice none 0 0) w := by kernel_rfl
theorem ky_key (x : Int) : WideAt.IsKeyLit (ky x) := trivial
theorem ky_inj {x y : Int} (h : x ≠ y) : ky x ≠ ky y := fun e => h (by injection e)
theorem wf_small (x : Int) (h0 : 0 ≤ x) (h1 : x < 9223372036854775808) : (Lit.int .i64 x).wf = true := WalkArith.wf_i64 (by omega)
theorem tight {W : World} {P : Program} {k : TypeId} {R : Value → Option (DataW Value × List MemPlace)} {b n : Nat} {D : DataW Value} (h : W.ownsMap P k R b n D) : W.ownsMap P k R b (size D) D := by
  obtain ⟨es, clock, hb, F, hs, hD⟩ := h
  refine ⟨es, clock, hb, F, ?_, hD⟩
  rw [hD, size_eq, length_sorted]
  simp
theorem tidy_of {W : World} {b n : Nat} {D : DataW Value} (h : W.ownsMap Try.prog 3 Rh b n D) : Tidy D := by
  obtain ⟨es, e, h1, _⟩ := h.canon law3
  exact ⟨es, e, apart_of_rising h1⟩
/-! ### writes by their blocks, rising -/
def Rise (M : List S31) : Prop := M.Pairwise (fun a b => a.f0 < b.f0)
def ins : List S31 → S31 → List S31
  | [], x => [x]
  | y :: r, x => if x.f0 < y.f0 then x :: y :: r else if x.f0 = y.f0 then x :: r else y :: ins r x
def hasM (M : List S31) (x : Int) : Bool := M.any (fun p => decide (p.f0 = x))
def lookM (M : List S31) (x : Int) : List Int := ((M.find? (fun p => decide (p.f0 = x))).map (·.f1)).getD []
theorem hasM_iff (M : List S31) (x : Int) : hasM M x = true ↔ ∃ p ∈ M, p.f0 = x := by
  simp [hasM]
theorem hasM_false (M : List S31) (x : Int) : hasM M x = false ↔ ∀ p ∈ M, p.f0 ≠ x := by
  simp [hasM]
theorem lookM_none (M : List S31) (x : Int) (h : hasM M x = false) : lookM M x = [] := by
  unfold lookM
  rw [List.find?_eq_none.2 (by simpa using (hasM_false M x).1 h)]
  rfl
theorem rise_inj {M : List S31} (h : Rise M) {p q : S31} (hp : p ∈ M) (hq : q ∈ M) (e : p.f0 = q.f0) : p = q := by
  obtain ⟨i, hi, rfl⟩ := List.getElem_of_mem hp
  obtain ⟨j, hj, rfl⟩ := List.getElem_of_mem hq
  have h2 := List.pairwise_iff_getElem.1 h
  rcases Nat.lt_trichotomy i j with h1 | h1 | h1
  · have := h2 i j hi hj h1; omega
  · subst h1; rfl
  · have := h2 j i hj hi h1; omega
theorem lookM_mem {M : List S31} (h : Rise M) {p : S31} (hp : p ∈ M) : lookM M p.f0 = p.f1 := by
  unfold lookM
  cases he : M.find? (fun q => decide (q.f0 = p.f0)) with
  | none => exact absurd (List.find?_eq_none.1 he p hp) (by simp)
  | some q =>
    have h1 := List.mem_of_find?_eq_some he
    have h2 := List.find?_some he
    have := rise_inj h h1 hp (by simpa using h2)
    subst this
    rfl
theorem ins_mem : ∀ (M : List S31) (x : S31), Rise M → ∀ p, p ∈ ins M x ↔ p = x ∨ (p ∈ M ∧ p.f0 ≠ x.f0) := by
  intro M
  induction M with
  | nil => intro x _ p; simp [ins]
  | cons y r ih =>
    intro x h p
    obtain ⟨h1, h2⟩ := List.pairwise_cons.1 h
    unfold ins
    split
    · rename_i hlt
      simp only [List.mem_cons]
      constructor
      · rintro (h3 | h3 | h3)
        · exact .inl h3
        · subst h3; exact .inr ⟨.inl rfl, by omega⟩
        · exact .inr ⟨.inr h3, by have := h1 p h3; omega⟩
      · rintro (h3 | ⟨h3, _⟩)
        · exact .inl h3
        · exact .inr h3
    · split
      · rename_i _ he
        simp only [List.mem_cons]
        constructor
        · rintro (h3 | h3)
          · exact .inl h3
          · exact .inr ⟨.inr h3, by have := h1 p h3; omega⟩
        · rintro (h3 | ⟨h3 | h3, h4⟩)
          · exact .inl h3
          · subst h3; exact absurd he.symm h4
          · exact .inr h3
      · rename_i hn he
        simp only [List.mem_cons, ih x h2 p]
        constructor
        · rintro (h3 | h3 | h3)
          · subst h3; exact .inr ⟨.inl rfl, by omega⟩
          · exact .inl h3
          · exact .inr ⟨.inr h3.1, h3.2⟩
        · rintro (h3 | ⟨h3 | h3, h4⟩)
          · exact .inr (.inl h3)
          · exact .inl h3
          · exact .inr (.inr ⟨h3, h4⟩)
theorem ins_rise : ∀ (M : List S31) (x : S31), Rise M → Rise (ins M x) := by
  intro M
  induction M with
  | nil => intro x _; exact List.pairwise_singleton _ _
  | cons y r ih =>
    intro x h
    obtain ⟨h1, h2⟩ := List.pairwise_cons.1 h
    unfold ins
    split
    · rename_i hlt
      refine List.pairwise_cons.2 ⟨fun p hp => ?_, h⟩
      rcases List.mem_cons.1 hp with rfl | hp
      · exact hlt
      · have := h1 p hp; omega
    · split
      · rename_i _ he
        exact List.pairwise_cons.2 ⟨fun p hp => by have := h1 p hp; omega, h2⟩
      · rename_i hn he
        refine List.pairwise_cons.2 ⟨fun p hp => ?_, ih x h2⟩
        rcases (ins_mem r x h2 p).1 hp with rfl | hp
        · omega
        · exact h1 p hp.1
theorem ins_len : ∀ (M : List S31) (x : S31), Rise M → (ins M x).length = if hasM M x.f0 = true then M.length else M.length + 1 := by
  intro M
  induction M with
  | nil => intro x _; simp [ins, hasM]
  | cons y r ih =>
    intro x h
    obtain ⟨h1, h2⟩ := List.pairwise_cons.1 h
    unfold ins
    split
    · rename_i hlt
      have : hasM (y :: r) x.f0 = false := (hasM_false _ _).2 (fun p hp => by
        rcases List.mem_cons.1 hp with rfl | hp
        · omega
        · have := h1 p hp; omega)
      rw [this]; simp
    · split
      · rename_i _ he
        have : hasM (y :: r) x.f0 = true := (hasM_iff _ _).2 ⟨y, by simp, he.symm⟩
        rw [this]; simp
      · rename_i hn he
        have : hasM (y :: r) x.f0 = hasM r x.f0 := by
          unfold hasM; rw [List.any_cons, decide_eq_false (fun e => he e.symm), Bool.false_or]
        rw [this, List.length_cons, ih x h2]
        split <;> simp
/-- Rising, from 0 on, below a number: so many at most. -/
theorem rise_len : ∀ (M : List S31) (a b : Int), Rise M → (∀ p ∈ M, a ≤ p.f0 ∧ p.f0 < b) → a ≤ b → (M.length : Int) ≤ b - a := by
  intro M
  induction M with
  | nil => intro a b _ _ h; simp; omega
  | cons y r ih =>
    intro a b h hb hab
    obtain ⟨h1, h2⟩ := List.pairwise_cons.1 h
    have hy := hb y (by simp)
    have := ih (y.f0 + 1) b h2 (fun p hp => ⟨by have := h1 p hp; omega, (hb p (by simp [hp])).2⟩) (by omega)
    simp only [List.length_cons]
    omega
/-! ### the buffer -/
theorem lt_of_some {α : Type} {a : Array α} {i : Nat} {x : α} (h : a[i]? = some x) : i < a.size := by
  obtain ⟨h, _⟩ := Array.getElem?_eq_some_iff.1 h
  exact h
def Held (W : World) (fr : Nat) (D : DataW Value) (p : S31) : Prop :=
  ∃ g c, has D (ky p.f0) = true ∧ (∀ z, D.atKey (ky p.f0) z = .held (.slice (some ⟨g, 0, none⟩) p.f1.length c)) ∧ p.f1.length ≤ c ∧ Kd.C kb W (some ⟨g, 0, none⟩) p.f1.length p.f1 ∧ fr ≤ g ∧ ∃ cells, W.heap[g]? = some (.cells cells 5 (0, 0))
structure IsBuf (W : World) (fr mb : Nat) (blocks most : Int) (M : List S31) : Prop where
  lt : mb + 1 < fr
  c0 : W.cell? ⟨mb + 1, 0, none⟩ = some (.int .i64 blocks)
  c1 : W.cell? ⟨mb + 1, 1, none⟩ = some (.int .i64 most)
  c2 : W.cell? ⟨mb + 1, 2, none⟩ = some (.map (some mb))
  map : ∃ D, W.ownsMap Try.prog 3 Rh mb M.length D ∧ size D = M.length ∧ (∀ x, hasM M x = false → has D (ky x) = false) ∧ ∀ p ∈ M, Held W fr D p
  srt : Rise M
  rng : ∀ p ∈ M, 0 ≤ p.f0 ∧ p.f0 < blocks ∧ p.f1.length = 40
  bl : 1 ≤ blocks ∧ blocks ≤ 1048576
theorem IsBuf.len {W : World} {fr mb : Nat} {blocks most : Int} {M : List S31} (h : IsBuf W fr mb blocks most M) : M.length ≤ 1048576 := by
  have := rise_len M 0 blocks h.srt (fun p hp => ⟨(h.rng p hp).1, (h.rng p hp).2.1⟩) (by have := h.bl; omega)
  have := h.bl
  omega
theorem addr_block (ad : Addr) (m : Nat) : (ad.add m).block = ad.block := by unfold Addr.add; split <;> rfl
/-- A row of bytes stays where no cell of it is written. -/
theorem Cb_grown {W W' : World} {row : Option Nat} {A : Option Addr} {n : Nat} {l : List Int} (h : Kd.C kb W A n l) (hg : W.grownBy W' row) (hA : ∀ x, A = some x → some x.block ≠ row) : Kd.C kb W' A n l := by
  refine ⟨h.1, h.2.1, fun hp => ?_⟩
  obtain ⟨ad, he, hc⟩ := h.2.2 hp
  refine ⟨ad, he, fun j p hj => ?_⟩
  obtain ⟨cs, c1, c2, c3⟩ := hc j p hj
  exact ⟨cs, c1, c2, fun i u hu => hg.cell (c3 i u hu) (by rw [addr_block]; exact hA ad he)⟩
theorem grown_trans {W W1 W2 : World} {row : Option Nat} (h : W.grownBy W1 row) (k : W1.grownBy W2 row) : W.grownBy W2 row :=
  ⟨k.os.trans h.os, k.tape.trans h.tape, k.output.trans h.output, Nat.le_trans h.size k.size, fun i hi hr => (k.block i (Nat.lt_of_lt_of_le hi h.size) hr).trans (h.block i hi hr)⟩
theorem IsBuf.grown {W W' : World} {fr mb : Nat} {blocks most : Int} {M : List S31} (h : IsBuf W fr mb blocks most M) {row : Option Nat} (hg : W.grownBy W' row) (hr : ∀ k, row = some k → k < fr ∧ k ≠ mb ∧ k ≠ mb + 1) : IsBuf W' fr mb blocks most M := by
  have h1 : some (mb + 1) ≠ row := fun e => (hr _ e.symm).2.2 rfl
  have h2 : some mb ≠ row := fun e => (hr _ e.symm).2.1 rfl
  obtain ⟨D, d1, d2, d3, d4⟩ := h.map
  refine ⟨h.lt, hg.cell h.c0 h1, hg.cell h.c1 h1, hg.cell h.c2 h1, ⟨D, d1.kept hg h2, d2, d3, fun p hp => ?_⟩, h.srt, h.rng, h.bl⟩
  obtain ⟨g, c, e1, e2, e3, e4, e5, cells, e6⟩ := d4 p hp
  exact ⟨g, c, e1, e2, e3, Cb_grown e4 hg (fun x hx hk => by cases hx; have := (hr _ hk.symm).1; simp only at this; omega), e5, cells,
    (hg.block g (lt_of_some e6) (fun hk => by have := (hr _ hk.symm).1; omega)).trans e6⟩
/-- What is written to a row of another type changes nothing. -/
theorem IsBuf.grown2 {W W' : World} {fr mb : Nat} {blocks most : Int} {M : List S31} (h : IsBuf W fr mb blocks most M) {row : Option Nat} (hg : W.grownBy W' row) (hr : ∀ k, row = some k → k ≠ mb ∧ k ≠ mb + 1 ∧ (k < fr ∨ ∃ cells t, t ≠ 5 ∧ W.heap[k]? = some (.cells cells t (0, 0)))) : IsBuf W' fr mb blocks most M := by
  have h1 : some (mb + 1) ≠ row := fun e => (hr _ e.symm).2.1 rfl
  have h2 : some mb ≠ row := fun e => (hr _ e.symm).1 rfl
  obtain ⟨D, d1, d2, d3, d4⟩ := h.map
  refine ⟨h.lt, hg.cell h.c0 h1, hg.cell h.c1 h1, hg.cell h.c2 h1, ⟨D, d1.kept hg h2, d2, d3, fun p hp => ?_⟩, h.srt, h.rng, h.bl⟩
  obtain ⟨g, c, e1, e2, e3, e4, e5, cells, e6⟩ := d4 p hp
  have hne : some g ≠ row := fun hk => by
    rcases (hr _ hk.symm).2.2 with h5 | ⟨cs, t, h6, h7⟩
    · omega
    · rw [e6] at h7; injection h7 with h7; injection h7 with _ h7; exact h6 h7.symm
  exact ⟨g, c, e1, e2, e3, Cb_grown e4 hg (fun x hx => by cases hx; exact hne), e5, cells, (hg.block g (lt_of_some e6) hne).trans e6⟩
theorem IsBuf.below {W W' : World} {fr mb : Nat} {blocks most : Int} {M : List S31} (h : IsBuf W fr mb blocks most M) (hb : RowKit.Below W.heap.size W W') : IsBuf W' fr mb blocks most M :=
  h.grown (grown_of_below hb none) (fun k hk => by cases hk)
/-- What is read of it. -/
theorem IsBuf.look {W : World} {fr mb : Nat} {blocks most : Int} {M : List S31} (h : IsBuf W fr mb blocks most M) (x : Int) (hx : (Lit.int .i64 x).wf = true) (b : Bool) :
    ∃ A c, (∀ W' : World, W'.heap[mb]? = W.heap[mb]? → (Instr.lookup 99 (.map (some mb)) (.int .i64 x) b).run Try.prog W' = .ok (if b = true then .tuple #[.slice A (lookM M x).length c, .bool (hasM M x)] else .slice A (lookM M x).length c) W') ∧ (lookM M x).length ≤ c ∧ Kd.C kb W A (lookM M x).length (lookM M x) := by
  obtain ⟨D, d1, d2, d3, d4⟩ := h.map
  have key : keyOf Try.prog 3 (.int .i64 x) = some (ky x) := keyOf_int_mk Try.underlying3 hx
  have hz : Rh (.slice none 0 0) = some (.held (.slice none 0 0), []) := rfl
  have hh : has D (ky x) = hasM M x := by
    cases hm : hasM M x with
    | false => exact d3 x hm
    | true =>
      obtain ⟨p, hp, rfl⟩ := (hasM_iff M x).1 hm
      obtain ⟨g, c, e1, _⟩ := d4 p hp
      exact e1
  have hv : ∃ A c, D.atKey (ky x) (.held (.slice none 0 0)) = .held (.slice A (lookM M x).length c) ∧ (lookM M x).length ≤ c ∧ Kd.C kb W A (lookM M x).length (lookM M x) := by
    cases hm : hasM M x with
    | false =>
      refine ⟨none, 0, ?_, ?_, ?_⟩
      · rw [atKey_of_not_has (d3 x hm), lookM_none M x hm]; rfl
      · rw [lookM_none M x hm]; exact Nat.le_refl _
      · rw [lookM_none M x hm]; exact Kd.C_nil _ _
    | true =>
      obtain ⟨p, hp, rfl⟩ := (hasM_iff M x).1 hm
      obtain ⟨g, c, _, e2, e3, e4, _⟩ := d4 p hp
      rw [lookM_mem h.srt hp]
      exact ⟨_, c, e2 _, e3, e4⟩
  obtain ⟨A, c, v1, v2, v3⟩ := hv
  refine ⟨A, c, fun W' hW' => ?_, v2, v3⟩
  replace d1 : W'.ownsMap Try.prog 3 Rh mb M.length D := by
    obtain ⟨es, clock, hb, r⟩ := d1
    exact ⟨es, clock, hW'.trans hb, r⟩
  cases b with
  | true =>
    obtain ⟨v, ps, hrun, hR⟩ := d1.look_ok law3 Try.underlying99 (zero28 W') hz key
    rw [hrun, hh]
    have : v = .slice A (lookM M x).length c ∧ ps = [] := by
      rw [v1] at hR
      simpa [Rh] using hR
    rw [this.1]; rfl
  | false =>
    obtain ⟨v, ps, hrun, hR⟩ := d1.lookup law3 Try.underlying99 (zero28 W') hz key
    rw [hrun]
    have : v = .slice A (lookM M x).length c ∧ ps = [] := by
      rw [v1] at hR
      simpa [Rh] using hR
    rw [this.1]; rfl
/-- A write. -/
theorem IsBuf.put {W1 W2 : World} {fr mb : Nat} {blocks most : Int} {M : List S31} {D : DataW Value} {x : S31} {g c : Nat} (h : IsBuf W1 fr mb blocks most M)
    (hD : W1.ownsMap Try.prog 3 Rh mb M.length D) (hs : size D = M.length) (hn : ∀ y, hasM M y = false → has D (ky y) = false) (hh : ∀ p ∈ M, Held W1 fr D p)
    (hm : W2.ownsMap Try.prog 3 Rh mb (M.length + 1) (D.put (ky x.f0) (.held (.slice (some ⟨g, 0, none⟩) x.f1.length c)))) (hg : W1.grownBy W2 (some mb))
    (hx : 0 ≤ x.f0 ∧ x.f0 < blocks ∧ x.f1.length = 40) (hc : x.f1.length ≤ c) (hC : Kd.C kb W1 (some ⟨g, 0, none⟩) x.f1.length x.f1) (hfr : fr ≤ g) (hty : ∃ cells, W1.heap[g]? = some (.cells cells 5 (0, 0))) :
    IsBuf W2 fr mb blocks most (ins M x) := by
  have hlt := h.lt
  have h1 : some (mb + 1) ≠ some mb := by simp
  have hT := tidy_of hD
  have hgm : ∀ y : Addr, (some (⟨g, 0, none⟩ : Addr)) = some y → some y.block ≠ some mb := by
    intro y hy e; cases hy; simp at e; omega
  have hs2 : size (D.put (ky x.f0) (.held (.slice (some ⟨g, 0, none⟩) x.f1.length c))) = (ins M x).length := by
    rw [size_put hT, hs, ins_len M x h.srt]
    cases hm0 : hasM M x.f0 with
    | false => rw [hn _ hm0]
    | true =>
      obtain ⟨p, hp, e⟩ := (hasM_iff M _).1 hm0
      obtain ⟨_, _, e1, _⟩ := hh p hp
      rw [← e, e1]
  refine ⟨h.lt, hg.cell h.c0 h1, hg.cell h.c1 h1, hg.cell h.c2 h1, ⟨_, by rw [← hs2]; exact tight hm, hs2, fun y hy => ?_, fun p hp => ?_⟩, ins_rise M x h.srt, fun p hp => ?_, h.bl⟩
  · have hy' := (hasM_false _ _).1 hy
    have hne : x.f0 ≠ y := hy' x ((ins_mem M x h.srt x).2 (.inl rfl))
    rw [has_put_other (ky_inj (Ne.symm hne))]
    refine hn y ((hasM_false _ _).2 (fun p hp => ?_))
    by_cases e : p.f0 = x.f0
    · rw [e]; exact hne
    · exact hy' p ((ins_mem M x h.srt p).2 (.inr ⟨hp, e⟩))
  · rcases (ins_mem M x h.srt p).1 hp with rfl | ⟨hp, hne⟩
    · exact ⟨g, c, has_put_same hT.isMap (ky_key _) _, fun z => atKey_put_same hT.isMap (ky_key _) _ _, hc, Cb_grown hC hg hgm, hfr, hty.elim fun cells e6 => ⟨cells, (hg.block g (lt_of_some e6) (hgm _ rfl)).trans e6⟩⟩
    · obtain ⟨g', c', e1, e2, e3, e4, e5, cells, e6⟩ := hh p hp
      refine ⟨g', c', by rw [has_put_other (ky_inj hne)]; exact e1, fun z => by rw [atKey_put_other (ky_inj hne)]; exact e2 z, e3, Cb_grown e4 hg ?_, e5, cells, (hg.block g' (lt_of_some e6) (fun hk => by injection hk with hk; omega)).trans e6⟩
      intro y hy e; cases hy; simp at e; omega
  · rcases (ins_mem M x h.srt p).1 hp with rfl | ⟨hp, _⟩
    · exact hx
    · exact h.rng p hp
end Go.Proofs.Ytbebihphodafiaa.Iv

namespace Go.Proofs.Ytbebihphodafiaa.Iv
open Go.RowKit Go.Proofs.YtbebihphodafiaaW.PrintWords Go.Proofs.YtbebihphodafiaaW.PrintLast Go.Proofs.YtbebihphodafiaaW.PrintMore Go.Proofs.Ytbebihphodafiaa.PWb Go.Maps
set_option linter.unusedVariables false
set_option linter.unusedSimpArgs false

def okNew (blocks most : Int) : Prop := 1 ≤ blocks ∧ blocks ≤ 1048576 ∧ 0 ≤ most
set_option maxHeartbeats 1000000 in
theorem newB_calls (blocks most : Int) (fr mb : Nat) (w : World) (hok : okNew blocks most) (hm : mb = w.heap.size) (hfr : mb + 1 < fr) :
    Calls Try.prog 14 #[.int .i64 blocks, .int .i64 most] w fun e w' => e = .returned (.tuple #[.pointer (some ⟨mb + 1, 0, none⟩), .int .i64 0]) ∧ RowKit.Below w.heap.size w w' ∧ IsBuf w' fr mb blocks most [] ∧ mb + 2 = w'.heap.size := by
  subst hm
  obtain ⟨h0, h1, h2⟩ := hok
  have hmm := @run_makeMap Try.prog
  go_enter Try.func14, Try.ntmps14
  go_wp2
  go_ret2
  have hown := (World.ownsMap_made w Try.prog 3 Rh).alloc (.cells #[.int .i64 blocks, .int .i64 most, .map (some w.heap.size)] 101)
  refine ⟨rfl, below_alloc (below_alloc (Below.refl _ _) _) _, ⟨hfr, ?_, ?_, ?_, ⟨_, hown, rfl, fun x _ => rfl, by simp⟩, List.Pairwise.nil, by simp, ⟨h0, h1⟩⟩, by simp⟩
  · rw [World.cell?_alloc_at _ _ _ _ (by simp)]; rfl
  · rw [World.cell?_alloc_at _ _ _ _ (by simp)]; rfl
  · rw [World.cell?_alloc_at _ _ _ _ (by simp)]; rfl
set_option maxHeartbeats 1000000 in
theorem newBad_calls (blocks most : Int) (w : World) (hok : ¬ okNew blocks most) :
    Calls Try.prog 14 #[.int .i64 blocks, .int .i64 most] w fun e w' => e = .returned (.tuple #[.pointer none, .int .i64 1]) ∧ w' = w := by
  unfold okNew at hok
  by_cases h0 : blocks < 1
  · go_enter Try.func14, Try.ntmps14
    go_wp2
    go_ret2
    exact ⟨rfl, rfl⟩
  by_cases h1 : 1048576 < blocks
  · go_enter Try.func14, Try.ntmps14
    go_wp2
    go_ret2
    exact ⟨rfl, rfl⟩
  have h2 : most < 0 := by omega
  clear hok
  go_enter Try.func14, Try.ntmps14
  go_wp2
  go_ret2
  exact ⟨rfl, rfl⟩
set_option maxHeartbeats 1000000 in
theorem get_calls (fr mb : Nat) (blocks most : Int) (M : List S31) (x : Int) (w : World) (hb : IsBuf w fr mb blocks most M) (hx : (Lit.int .i64 x).wf = true) :
    Calls Try.prog 24 #[.pointer (some ⟨mb + 1, 0, none⟩), .int .i64 x] w fun e w' => ∃ v, e = .returned (.tuple #[v, .bool (hasM M x)]) ∧ RowKit.Below w.heap.size w w' ∧ Kd.R kb 5 w' w.heap.size (fun _ => True) v (lookM M x) := by
  obtain ⟨A, c, hrun, hl, hC⟩ := hb.look x hx true
  replace hrun := hrun w rfl
  rw [if_pos rfl] at hrun
  have c2 := hb.c2
  have hlen : (lookM M x).length ≤ 40 := by
    cases hm : hasM M x with
    | false => rw [lookM_none M x hm]; simp
    | true =>
      obtain ⟨p, hp, rfl⟩ := (hasM_iff M x).1 hm
      rw [lookM_mem hb.srt hp, (hb.rng p hp).2.2]
      exact Nat.le_refl _
  have HC := Lib.hid hC
  obtain ⟨b, hb'⟩ : ∃ b, b = hasM M x := ⟨_, rfl⟩
  obtain ⟨l, hl'⟩ : ∃ l, l = lookM M x := ⟨_, rfl⟩
  rw [← hb', ← hl'] at hrun
  rw [← hl'] at HC hlen
  rw [← hb', ← hl']
  clear hb hC hl hb' hl' hx
  go_enter Try.func24, Try.ntmps24
  go_wp2_with (go_at_call 49; go_must (refine (cloneB_calls A c l _ HC.out (by omega)).mono ?_; rintro _ w1 ⟨v1, rfl, hB1, hR1⟩))
  go_ret2
  exact ⟨_, rfl, hB1, hR1⟩
theorem getNil_calls (x : Int) (w : World) : Calls Try.prog 24 #[.pointer none, .int .i64 x] w fun e w' => e = .returned (.tuple #[.slice none 0 0, .bool false]) ∧ w' = w := by
  go_enter Try.func24, Try.ntmps24
  go_wp2
  go_ret2
  exact ⟨rfl, rfl⟩
def dupB (l : List S31) : Bool := !decide ((l.map (·.f0)).Nodup)
theorem K_C31 {w w' : World} {A : Option Addr} {n : Nat} {l : List S31} (h : Kd.C k31 w A n l) (hb : RowKit.Below w.heap.size w w') : Kd.C k31 w' A n l := Kd.C_below h hb
theorem zero3 (w : World) : (zeroValue 3).run Try.prog w = .ok (.int .i64 0) w := by kernel_rfl
set_option maxHeartbeats 4000000 in
set_option maxRecDepth 100000 in
theorem twice_calls (A : Option Addr) (c : Nat) (l : List S31) (w : World) (hr : Kd.C k31 w A l.length l) (hl : l.length ≤ 140737488355328) (hrg : ∀ p ∈ l, 0 ≤ p.f0 ∧ p.f0 < 1048576) :
    Calls Try.prog 48 #[.slice A l.length c] w fun e w' => e = .returned (.bool (dupB l)) ∧ RowKit.Below w.heap.size w w' := by
  have HR := Lib.hid (fun w' (h : RowKit.Below w.heap.size w w') => Kd.C_below hr h)
  have HG := Lib.hid hrg
  have hmm := @run_makeMap Try.prog
  have hown0 := World.ownsMap_made w Try.prog 3 (plainElem (H := Value) Try.prog 3)
  have HO0 := Lib.hid hown0
  clear hr hrg hown0
  go_enter Try.func48, Try.ntmps48
  go_wp2
  go_step3
  go_wp2
  clear hmm
  go_step3
  go_wp2
  go_loopw [5, 9] (fun _ i wr => ∃ k : Nat, k ≤ l.length ∧ i = .int .i64 k ∧ Aside0 (RowKit.Below w.heap.size w wr ∧ w.heap.size < wr.heap.size ∧ ((l.take k).map (·.f0)).Nodup ∧ ∃ D : DataW Value, wr.ownsMap Try.prog 3 (plainElem Try.prog 3) w.heap.size k D ∧ IsMap D ∧ ∀ x : Int, D.atKey (ky x) (.lit (.int .i64 0)) = .lit (.int .i64 (if x ∈ (l.take k).map (·.f0) then 1 else 0)))) (fun _ i _ => l.length - (intOf i).toNat)
  case atStart =>
    exact ⟨0, Nat.zero_le _, rfl, ⟨below_alloc (Below.refl _ _) _, by simp, by simp, .map [], HO0.out, isMap_empty, fun x => by simp [DataW.atKey]⟩⟩
  case round =>
    clear HO0
    obtain ⟨k, hk, rfl, HB⟩ := hrel
    by_cases hlt : k < l.length
    · obtain ⟨ad, A1, c1, rfl, x0, x1, _, _⟩ := at_T31 (HR.out _ HB.out.1) (k : Int) (by omega) (by omega)
      simp only [Int.toNat_natCast] at x0 x1
      obtain ⟨q, hq⟩ : ∃ q, q = rd_T31 l (k : Int) := ⟨_, rfl⟩
      rw [← hq] at x0 x1
      have hqe : q = l[k] := by rw [hq]; simp [rd_T31, List.getD_eq_getElem?_getD, List.getElem?_eq_getElem hlt]
      obtain ⟨q0, q1⟩ := HG.out q (by rw [hqe]; exact List.getElem_mem hlt)
      have HT := Lib.hid (show (l.take (k + 1)).map (·.f0) = (l.take k).map (·.f0) ++ [q.f0] by
        rw [List.take_succ_eq_append_getElem hlt, List.map_append, hqe]; rfl)
      obtain ⟨hB, hsz, hnd, D, hD, hI, hat⟩ := HB.out
      have hwf := wf_small q.f0 q0 (by omega)
      have hkey : keyOf Try.prog 3 (.int .i64 q.f0) = some (ky q.f0) := keyOf_int_mk Try.underlying3 hwf
      have hD5 := hD.alloc (.cells #[.int .i64 q.f0, .slice A1 q.f1.length c1] 31)
      obtain ⟨cc, hrun, hcc, _⟩ := hD5.lookup_int law3 (t := 139) Try.underlying139 Try.underlying3 (zero3 _) hkey
      rw [hat] at hcc
      have hccv : cc = if q.f0 ∈ (l.take k).map (·.f0) then 1 else 0 := by injection hcc with h; injection h with _ h; exact h.symm
      have b0 := World.cell?_alloc_at (w := wr) #[.int .i64 q.f0, .slice A1 q.f1.length c1] 31 wr.heap.size 0 rfl
      have HX := Lib.hid (show (wr.alloc (.cells #[.int .i64 q.f0, .slice A1 q.f1.length c1] 31)).cell? ⟨wr.heap.size, 0, none⟩ = some (.int .i64 q.f0) from b0)
      have b2 : (k : Int) < (l.length : Int) := by omega
      have HQ := Lib.hid hqe
      have HI := Lib.hid hI
      have HAT := Lib.hid hat
      have HND := Lib.hid hnd
      have HBB := Lib.hid hB
      have HSZ := Lib.hid hsz
      have HK := Lib.hid hkey
      have HD5 := Lib.hid hD5
      clear hq hqe hcc b0 hI hat hnd hB hsz hkey hD5 hD hwf HB
      by_cases hmem : q.f0 ∈ (l.take k).map (·.f0)
      · rw [if_pos hmem] at hccv
        subst hccv
        have HM := Lib.hid (show dupB l = true by
          unfold dupB
          rw [Bool.not_eq_true', decide_eq_false_iff_not]
          intro h
          have h2 : ((l.take (k + 1)).map (·.f0)).Nodup := (h.sublist ((List.take_sublist _ _).map _))
          rw [HT.out] at h2
          exact (List.nodup_append.1 h2).2.2 _ hmem _ (by simp) rfl)
        clear hmem
        go_wp2_with ((at_mapUpdate; refine wpList_mapUpdate_own _ rfl _ _ _ 139 rfl 3 3 law3 Try.underlying139 (plainElem Try.prog 3) w.heap.size k D rfl HD5.out (by unfold maxLen; omega) _ _ _ rfl rfl HK.out _ [] (plainElem_int Try.underlying3 (wf_small 2 (by decide) (by decide))) ?_; intro w6 hown6 hgrow6; have y0 : w6.cell? ⟨wr.heap.size, 0, none⟩ = some (.int .i64 q.f0) := hgrow6.cell (a := ⟨wr.heap.size, 0, none⟩) HX.out (by have := HSZ.out; simp; omega); obtain ⟨c6, hrun6, hc6, _⟩ := hown6.lookup_int law3 (t := 139) Try.underlying139 Try.underlying3 (zero3 _) HK.out; rw [atKey_put_same HI.out (ky_key _)] at hc6; have hc6' : c6 = 2 := (by injection hc6 with h; injection h with _ h; exact h.symm); subst hc6'; have HB6 := Lib.hid ((below_alloc HBB.out _).grown hgrow6 (by have := HSZ.out; simp; omega) (fun j hj => by cases hj; exact Nat.le_refl _)); clear hown6 hgrow6 hc6))
        try rw [Exit.noGoto_ret]
        go_ret
        exact ⟨by rw [HM.out]; rfl, HB6.out⟩
      · rw [if_neg hmem] at hccv
        subst hccv
        have HM := Lib.hid hmem
        clear hmem
        go_wp2_with ((at_mapUpdate; refine wpList_mapUpdate_own _ rfl _ _ _ 139 rfl 3 3 law3 Try.underlying139 (plainElem Try.prog 3) w.heap.size k D rfl HD5.out (by unfold maxLen; omega) _ _ _ rfl rfl HK.out _ [] (plainElem_int Try.underlying3 (wf_small 1 (by decide) (by decide))) ?_; intro w6 hown6 hgrow6; have y0 : w6.cell? ⟨wr.heap.size, 0, none⟩ = some (.int .i64 q.f0) := hgrow6.cell (a := ⟨wr.heap.size, 0, none⟩) HX.out (by have := HSZ.out; simp; omega); obtain ⟨c6, hrun6, hc6, _⟩ := hown6.lookup_int law3 (t := 139) Try.underlying139 Try.underlying3 (zero3 _) HK.out; rw [atKey_put_same HI.out (ky_key _)] at hc6; have hc6' : c6 = 1 := (by injection hc6 with h; injection h with _ h; exact h.symm); subst hc6'; have HB6 := Lib.hid ((below_alloc HBB.out _).grown hgrow6 (by have := HSZ.out; simp; omega) (fun j hj => by cases hj; exact Nat.le_refl _)); have HS6 := Lib.hid hgrow6.size; have HO6 := Lib.hid hown6; clear hown6 hgrow6 hc6))
        go_roundw
        case rel =>
          refine ⟨k + 1, by omega, by go_num, ⟨HB6.out, ?_, ?_, _, HO6.out, HI.out.put _ _, fun x => ?_⟩⟩
          · have h1 := HS6.out; have h2 := HSZ.out; simp at h1; omega
          · rw [HT.out]
            exact List.nodup_append.2 ⟨HND.out, by simp, fun a ha b hb => by simp at hb; subst hb; rintro rfl; exact HM.out ha⟩
          · rw [HT.out]
            by_cases hx : x = q.f0
            · subst hx
              rw [atKey_put_same HI.out (ky_key _), if_pos (by simp)]
            · rw [atKey_put_other (ky_inj hx), HAT.out]
              simp [hx]
        case measure => simp [intOf]; omega
    · obtain rfl : k = l.length := by omega
      have hF : l.take l.length = l := List.take_length
      have HM := Lib.hid (show dupB l = false by
        unfold dupB
        have := HB.out.2.2.1
        rw [hF] at this
        simpa using this)
      have HBB := Lib.hid HB.out.1
      have b2 : ¬ (l.length : Int) < (l.length : Int) := by omega
      clear hF HB
      go_wp2
      try rw [Exit.noGoto_ret]
      go_ret
      exact ⟨by rw [HM.out]; rfl, HBB.out⟩
end Go.Proofs.Ytbebihphodafiaa.Iv

namespace Go.Proofs.Ytbebihphodafiaa.Iv
open Go.RowKit Go.Proofs.YtbebihphodafiaaW.PrintWords Go.Proofs.YtbebihphodafiaaW.PrintLast Go.Proofs.YtbebihphodafiaaW.PrintMore Go.Proofs.Ytbebihphodafiaa.PWb Go.Maps
set_option linter.unusedVariables false
set_option linter.unusedSimpArgs false

theorem ent46 : Enters Try.prog 46 := enters_of Try.func46 (by kernel_rfl) rfl
theorem ent47 : Enters Try.prog 47 := enters_of Try.func47 (by kernel_rfl) rfl
theorem contains46 (A : Option Addr) (c : Nat) (l : List S31) (g mb : Nat) (blocks : Int) (W : World) (hr : Kd.C k31 W A l.length l) (hl : l.length ≤ 9223372036854775807) (h0 : W.cell? ⟨g, 0, none⟩ = some (.pointer (some ⟨mb + 1, 0, none⟩))) (h1 : W.cell? ⟨mb + 1, 0, none⟩ = some (.int .i64 blocks)) :
    Calls Try.prog 45 #[.slice A l.length c, .func (.func 46) #[] #[.pointer (some ⟨g, 0, none⟩)]] W fun e w' => e = .returned (.bool (l.any (outB blocks))) ∧ RowKit.Below W.heap.size W w' :=
  containsP_calls 46 #[.pointer (some ⟨g, 0, none⟩)] (outB blocks) ent46 A c l W hr hl (fun W' x A' c' _ hb =>
    (closure46 x A' c' g (mb + 1) blocks W' (pw_cell_below hb h0) (pw_cell_below hb h1)).mono fun r w' ⟨hr, hb'⟩ => ⟨hr, below_step hb hb'⟩)
theorem contains47 (A : Option Addr) (c : Nat) (l : List S31) (W : World) (hr : Kd.C k31 W A l.length l) (hl : l.length ≤ 9223372036854775807) :
    Calls Try.prog 45 #[.slice A l.length c, .func (.func 47) #[] #[]] W fun e w' => e = .returned (.bool (l.any lenB)) ∧ RowKit.Below W.heap.size W w' :=
  containsP_calls 47 #[] lenB ent47 A c l W hr hl (fun W' x A' c' _ hb =>
    (closure47 x A' c' W').mono fun r w' ⟨hr, hb'⟩ => ⟨hr, below_step hb hb'⟩)
theorem IsBuf.len99 {W : World} {fr mb : Nat} {blocks most : Int} {M : List S31} (h : IsBuf W fr mb blocks most M) (ty : TypeId) : (Builtin.len_ #[99] ty #[.map (some mb)]).run Try.prog W = .ok (.int .i64 M.length) W := by
  obtain ⟨D, d1, d2, _, _⟩ := h.map
  rw [d1.len Try.underlying99, d2]
theorem IsBuf.isMap {W : World} {fr mb : Nat} {blocks most : Int} {M : List S31} (h : IsBuf W fr mb blocks most M) : ∃ o : Obj, W.heap[mb]? = some o ∧ o.isCells = false := by
  obtain ⟨D, ⟨es, clock, hb, _⟩, _⟩ := h.map
  exact ⟨_, hb, rfl⟩
/-- A row of writes stays where a map is written. -/
theorem Cb_map {W W' : World} {m : Nat} {A : Option Addr} {n : Nat} {l : List Int} (h : Kd.C kb W A n l) (hg : W.grownBy W' (some m)) (hm : ∃ o : Obj, W.heap[m]? = some o ∧ o.isCells = false) : Kd.C kb W' A n l := by
  refine ⟨h.1, h.2.1, fun hp => ?_⟩
  obtain ⟨ad, he, hc⟩ := h.2.2 hp
  refine ⟨ad, he, fun j p hj => ?_⟩
  obtain ⟨cs, c1, c2, c3⟩ := hc j p hj
  exact ⟨cs, c1, c2, fun i u hu => cell_kept (c3 i u hu) hg (fun r hr => by cases hr; exact hm)⟩
theorem C31_map {W W' : World} {m : Nat} {A : Option Addr} {n : Nat} {l : List S31} (h : Kd.C k31 W A n l) (hg : W.grownBy W' (some m)) (hm : ∃ o : Obj, W.heap[m]? = some o ∧ o.isCells = false) : Kd.C k31 W' A n l := by
  refine ⟨h.1, h.2.1, fun hp => ?_⟩
  obtain ⟨ad, he, hc⟩ := h.2.2 hp
  refine ⟨ad, he, fun j p hj => ?_⟩
  obtain ⟨cs, c1, c2, c3⟩ := hc j p hj
  obtain ⟨A1, n1, rfl, l1, g1⟩ := k31_open c2
  exact ⟨_, c1, k31_mk W' p l1 (Cb_map g1 hg hm), fun i u hu => cell_kept (c3 i u hu) hg (fun r hr => by cases hr; exact hm)⟩
def freshN (M l : List S31) : Nat := l.countP (fun x => !hasM M x.f0)
def insL (M l : List S31) : List S31 := l.foldl ins M
/-- What a write answers, and what it leaves. -/
def wrC (blocks most : Int) (M l : List S31) : Int :=
  if l = [] then 1 else if l.any (outB blocks) = true then 2 else if l.any lenB = true then 3 else if dupB l = true then 4 else if most < (M.length : Int) + (freshN M l : Int) then 7 else 0
def wrM (blocks most : Int) (M l : List S31) : List S31 := if wrC blocks most M l = 0 then insL M l else M
theorem fresh_le (M l : List S31) : freshN M l ≤ l.length := List.countP_le_length
theorem fresh_succ (M l : List S31) (k : Nat) (h : k < l.length) : freshN M (l.take (k + 1)) = freshN M (l.take k) + if hasM M l[k].f0 = true then 0 else 1 := by
  rw [List.take_succ_eq_append_getElem h]
  unfold freshN
  rw [List.countP_append, List.countP_singleton]
  cases hasM M l[k].f0 <;> simp
theorem insL_succ (M l : List S31) (k : Nat) (h : k < l.length) : insL M (l.take (k + 1)) = ins (insL M (l.take k)) l[k] := by
  rw [List.take_succ_eq_append_getElem h]
  unfold insL
  rw [List.foldl_append]
  rfl
/-- The store of one write. -/
theorem put_run {W : World} {fr mb base : Nat} {blocks most : Int} {M : List S31} {x : S31} {v : Value} (h : IsBuf W fr mb blocks most M) (hx : 0 ≤ x.f0 ∧ x.f0 < blocks ∧ x.f1.length = 40)
    (hR : Kd.R kb 5 W base (fun _ => True) v x.f1) (hfr : fr ≤ base) :
    ∃ W2, (Instr.mapUpdate 99 (.map (some mb)) (.int .i64 x.f0) v).run Try.prog W = .ok () W2 ∧ W.grownBy W2 (some mb) ∧ IsBuf W2 fr mb blocks most (ins M x) := by
  obtain ⟨D, d1, d2, d3, d4⟩ := h.map
  have hl := h.len
  have hbl := h.bl
  have key : keyOf Try.prog 3 (.int .i64 x.f0) = some (ky x.f0) := keyOf_int_mk Try.underlying3 (wf_small _ hx.1 (by omega))
  obtain ⟨W2, hrun, hown, hg⟩ := d1.update law3 Try.underlying99 (by unfold maxLen; omega) key (show Rh v = some (.held v, []) from rfl)
  obtain ⟨g, cap, rfl, hb, _, _⟩ := Kd.R_form hR (by omega)
  obtain ⟨_, hc, hC⟩ := Kd.R_reads' hR
  exact ⟨W2, hrun, hg, h.put d1 d2 d3 d4 hown hg hx hc hC (Nat.le_trans hfr hb) (Kd.R_typed hR g rfl)⟩
theorem nodup_len : ∀ (l : List S31) (b : Nat), (l.map (·.f0)).Nodup → (∀ p ∈ l, 0 ≤ p.f0 ∧ p.f0 < (b : Int)) → l.length ≤ b := by
  intro l b h1 h2
  have h3 : (l.map fun p => p.f0.toNat).Nodup := by
    have : (l.map fun p => p.f0.toNat) = (l.map (·.f0)).map Int.toNat := by simp
    rw [this]
    exact List.Pairwise.map _ (fun a b hab => hab) (List.pairwise_iff_getElem.2 (fun i j hi hj hij he => by
      have h4 := List.pairwise_iff_getElem.1 h1 i j hi hj hij
      have hi' : i < l.length := by simpa using hi
      have hj' : j < l.length := by simpa using hj
      have h5 := h2 _ (List.getElem_mem hi')
      have h6 := h2 _ (List.getElem_mem hj')
      rw [List.getElem_map] at h4 he
      rw [List.getElem_map] at h4 he
      exact h4 (by omega)))
  have h4 := List.Nodup.length_le_of_subset h3 (l₂ := List.range b) (fun x hx => by
    obtain ⟨p, hp, rfl⟩ := List.mem_map.1 hx
    have := h2 p hp
    simp; omega)
  simpa using h4

set_option maxHeartbeats 8000000 in
set_option maxRecDepth 100000 in
theorem write_calls (fr mb : Nat) (blocks most : Int) (M : List S31) (A : Option Addr) (c : Nat) (l : List S31) (w : World) (hb : IsBuf w fr mb blocks most M) (hr : Kd.C k31 w A l.length l) (hl : l.length ≤ 140737488355328) (hfr : fr ≤ w.heap.size) :
    Calls Try.prog 17 #[.pointer (some ⟨mb + 1, 0, none⟩), .slice A l.length c] w fun e w' => e = .returned (.int .i64 (wrC blocks most M l)) ∧ IsBuf w' fr mb blocks most (wrM blocks most M l) ∧ w.grownBy w' (some mb) := by
  have HR := Lib.hid (fun w' (h : RowKit.Below w.heap.size w w') => Kd.C_below hr h)
  have HB0 := Lib.hid (fun w' (h : RowKit.Below w.heap.size w w') => hb.below h)
  have HBL := Lib.hid hb.bl
  have HML := Lib.hid hb.len
  have hlt := hb.lt
  have HW0 := Lib.hid (And.intro (below_alloc (Below.refl w.heap.size w) (.cells #[.pointer (some ⟨mb + 1, 0, none⟩)] 23)) (show (w.alloc (.cells #[.pointer (some ⟨mb + 1, 0, none⟩)] 23)).cell? ⟨w.heap.size, 0, none⟩ = some (.pointer (some ⟨mb + 1, 0, none⟩)) from World.cell?_alloc_at (w := w) #[.pointer (some ⟨mb + 1, 0, none⟩)] 23 w.heap.size 0 rfl))
  have t1 : True := trivial
  clear hr hb
  by_cases he : l = []
  · subst he
    have e1 : wrC blocks most M [] = 1 := by simp [wrC]
    have e2 : wrM blocks most M [] = M := by simp [wrM, e1]
    rw [e1, e2]
    clear e1 e2
    go_enter Try.func17, Try.ntmps17
    go_wp2
    try rw [Exit.noGoto_ret]
    go_ret
    exact ⟨rfl, (HB0.out _ HW0.out.1), grown_of_below HW0.out.1 _⟩
  have hne : ¬ ((l.length : Int) = 0) := by
    intro h; exact he (List.length_eq_zero_iff.1 (by omega))
  have hne' : ¬ (l.length = 0) := by omega
  cases ho : l.any (outB blocks) with
  | true =>
    have e1 : wrC blocks most M l = 2 := by simp [wrC, he, ho]
    have e2 : wrM blocks most M l = M := by simp [wrM, e1]
    rw [e1, e2]
    have HO := Lib.hid ho
    clear e1 e2 ho
    go_enter Try.func17, Try.ntmps17
    go_wp2_with (first
      | (go_at_call 45; have _t := t1; clear t1; go_must (refine (contains46 A c l w.heap.size mb blocks _ (HR.out _ HW0.out.1) (by omega) HW0.out.2 (HB0.out _ HW0.out.1).c0).mono ?_; rw [HO.out]; rintro _ w1 ⟨rfl, hB1⟩; have HW1 := Lib.hid (And.intro (below_step HW0.out.1 hB1) (pw_cell_below hB1 HW0.out.2)); have p1 := HW1.out.2; have q1 := (HB0.out _ HW1.out.1).c2; have r1 := (HB0.out _ HW1.out.1).c1; clear hB1)))
    try rw [Exit.noGoto_ret]
    go_ret
    exact ⟨rfl, (HB0.out _ HW1.out.1), grown_of_below HW1.out.1 _⟩
  | false =>
    have hrg : ∀ p ∈ l, 0 ≤ p.f0 ∧ p.f0 < blocks := by
      intro p hp
      have := List.any_eq_false.1 ho p hp
      simp [outB] at this
      exact this
    have HO := Lib.hid ho
    cases hle : l.any lenB with
    | true =>
      have e1 : wrC blocks most M l = 3 := by simp [wrC, he, ho, hle]
      have e2 : wrM blocks most M l = M := by simp [wrM, e1]
      rw [e1, e2]
      have HL := Lib.hid hle
      clear e1 e2 ho hle hrg
      go_enter Try.func17, Try.ntmps17
      go_wp2_with (first
        | (go_at_call 45; have _t := t1; clear t1; go_must (refine (contains46 A c l w.heap.size mb blocks _ (HR.out _ HW0.out.1) (by omega) HW0.out.2 (HB0.out _ HW0.out.1).c0).mono ?_; rw [HO.out]; rintro _ w1 ⟨rfl, hB1⟩; have HW1 := Lib.hid (And.intro (below_step HW0.out.1 hB1) (pw_cell_below hB1 HW0.out.2)); have p1 := HW1.out.2; have q1 := (HB0.out _ HW1.out.1).c2; have r1 := (HB0.out _ HW1.out.1).c1; clear hB1))
        | (go_at_call 45; go_must (refine (contains47 A c l _ (HR.out _ HW1.out.1) (by omega)).mono ?_; rw [HL.out]; rintro _ w2 ⟨rfl, hB2⟩; have HW2 := Lib.hid (And.intro (below_step HW1.out.1 hB2) (pw_cell_below hB2 HW1.out.2)); have p2 := HW2.out.2; have q2 := (HB0.out _ HW2.out.1).c2; have r2 := (HB0.out _ HW2.out.1).c1; clear hB2 p1 q1 r1)))
      try rw [Exit.noGoto_ret]
      go_ret
      exact ⟨rfl, (HB0.out _ HW2.out.1), grown_of_below HW2.out.1 _⟩
    | false =>
      have hl40 : ∀ p ∈ l, p.f1.length = 40 := by
        intro p hp
        have := List.any_eq_false.1 hle p hp
        simpa [lenB] using this
      have HL := Lib.hid hle
      have HRG := Lib.hid (show ∀ p ∈ l, 0 ≤ p.f0 ∧ p.f0 < 1048576 from fun p hp => ⟨(hrg p hp).1, by have := (hrg p hp).2; have := HBL.out; omega⟩)
      cases hd : dupB l with
      | true =>
        have e1 : wrC blocks most M l = 4 := by simp [wrC, he, ho, hle, hd]
        have e2 : wrM blocks most M l = M := by simp [wrM, e1]
        rw [e1, e2]
        have HD := Lib.hid hd
        clear e1 e2 ho hle hrg hl40 hd
        go_enter Try.func17, Try.ntmps17
        go_wp2_with (first
          | (go_at_call 45; have _t := t1; clear t1; go_must (refine (contains46 A c l w.heap.size mb blocks _ (HR.out _ HW0.out.1) (by omega) HW0.out.2 (HB0.out _ HW0.out.1).c0).mono ?_; rw [HO.out]; rintro _ w1 ⟨rfl, hB1⟩; have HW1 := Lib.hid (And.intro (below_step HW0.out.1 hB1) (pw_cell_below hB1 HW0.out.2)); have p1 := HW1.out.2; have q1 := (HB0.out _ HW1.out.1).c2; have r1 := (HB0.out _ HW1.out.1).c1; clear hB1))
          | (go_at_call 45; go_must (refine (contains47 A c l _ (HR.out _ HW1.out.1) (by omega)).mono ?_; rw [HL.out]; rintro _ w2 ⟨rfl, hB2⟩; have HW2 := Lib.hid (And.intro (below_step HW1.out.1 hB2) (pw_cell_below hB2 HW1.out.2)); have p2 := HW2.out.2; have q2 := (HB0.out _ HW2.out.1).c2; have r2 := (HB0.out _ HW2.out.1).c1; clear hB2 p1 q1 r1))
          | (go_at_call 48; go_must (refine (twice_calls A c l _ (HR.out _ HW2.out.1) (by omega) HRG.out).mono ?_; rw [HD.out]; rintro _ w3 ⟨rfl, hB3⟩; have HW3 := Lib.hid (And.intro (below_step HW2.out.1 hB3) (pw_cell_below hB3 HW2.out.2)); have p3 := HW3.out.2; have q3 := (HB0.out _ HW3.out.1).c2; have r3 := (HB0.out _ HW3.out.1).c1; have s3 := (HB0.out _ HW3.out.1).len99; clear hB3 p2 q2 r2)))
        try rw [Exit.noGoto_ret]
        go_ret
        exact ⟨rfl, (HB0.out _ HW3.out.1), grown_of_below HW3.out.1 _⟩
      | false =>
        have hnd : (l.map (·.f0)).Nodup := by simpa [dupB] using hd
        have hlen := nodup_len l 1048576 hnd HRG.out
        have HD := Lib.hid hd
        have HG := Lib.hid hrg
        have H40 := Lib.hid hl40
        have hml := HML.out
        have hfl := fresh_le M l
        have he0 := Lib.hid he
        have HC := Lib.hid (show wrC blocks most M l = if most < (M.length : Int) + (freshN M l : Int) then 7 else 0 by simp [wrC, he, ho, hle, hd])
        clear ho hle hd hnd hrg hl40 he
        go_enter Try.func17, Try.ntmps17
        go_wp2_with (first
          | (go_at_call 45; have _t := t1; clear t1; go_must (refine (contains46 A c l w.heap.size mb blocks _ (HR.out _ HW0.out.1) (by omega) HW0.out.2 (HB0.out _ HW0.out.1).c0).mono ?_; rw [HO.out]; rintro _ w1 ⟨rfl, hB1⟩; have HW1 := Lib.hid (And.intro (below_step HW0.out.1 hB1) (pw_cell_below hB1 HW0.out.2)); have p1 := HW1.out.2; have q1 := (HB0.out _ HW1.out.1).c2; have r1 := (HB0.out _ HW1.out.1).c1; clear hB1))
          | (go_at_call 45; go_must (refine (contains47 A c l _ (HR.out _ HW1.out.1) (by omega)).mono ?_; rw [HL.out]; rintro _ w2 ⟨rfl, hB2⟩; have HW2 := Lib.hid (And.intro (below_step HW1.out.1 hB2) (pw_cell_below hB2 HW1.out.2)); have p2 := HW2.out.2; have q2 := (HB0.out _ HW2.out.1).c2; have r2 := (HB0.out _ HW2.out.1).c1; clear hB2 p1 q1 r1))
          | (go_at_call 48; go_must (refine (twice_calls A c l _ (HR.out _ HW2.out.1) (by omega) HRG.out).mono ?_; rw [HD.out]; rintro _ w3 ⟨rfl, hB3⟩; have HW3 := Lib.hid (And.intro (below_step HW2.out.1 hB3) (pw_cell_below hB3 HW2.out.2)); have p3 := HW3.out.2; have q3 := (HB0.out _ HW3.out.1).c2; have r3 := (HB0.out _ HW3.out.1).c1; have s3 := (HB0.out _ HW3.out.1).len99; clear hB3 p2 q2 r2)))
        clear HW0 HW1 HW2 HO HL HD HRG
        go_loopw [5, 7, 8, 9, 37] (fun n _ _ _ i wr => ∃ k : Nat, k ≤ l.length ∧ i = .int .i64 k ∧ n = .int .i64 (((M.length + freshN M (l.take k) : Nat)) : Int) ∧ Aside0 (RowKit.Below w.heap.size w wr ∧ wr.cell? ⟨w.heap.size, 0, none⟩ = some (.pointer (some ⟨mb + 1, 0, none⟩)))) (fun _ _ _ _ i _ => l.length - (intOf i).toNat)
        case atStart => exact ⟨0, Nat.zero_le _, rfl, by simp [freshN], ⟨HW3.out⟩⟩
        case round =>
          clear HW3 p3 q3 r3 s3
          obtain ⟨k, hk, rfl, rfl, HJ⟩ := hrel
          by_cases hkl : k < l.length
          · obtain ⟨ad, A1, c1, rfl, x0, x1, _, _⟩ := at_T31 (HR.out _ HJ.out.1) (k : Int) (by omega) (by omega)
            simp only [Int.toNat_natCast] at x0 x1
            obtain ⟨q, hq⟩ : ∃ q, q = rd_T31 l (k : Int) := ⟨_, rfl⟩
            rw [← hq] at x0 x1
            have hqe : q = l[k] := by rw [hq]; simp [rd_T31, List.getD_eq_getElem?_getD, List.getElem?_eq_getElem hkl]
            obtain ⟨q0, q1⟩ := HG.out q (by rw [hqe]; exact List.getElem_mem hkl)
            have hfs := fresh_succ M l k hkl
            rw [← hqe] at hfs
            have hfk := fresh_le M (l.take k)
            have htk : (l.take k).length ≤ l.length := by rw [List.length_take]; omega
            obtain ⟨f, hf⟩ : ∃ f, f = freshN M (l.take k) := ⟨_, rfl⟩
            rw [← hf] at hfs hfk ⊢
            have hbl := HBL.out
            have HB5 := Lib.hid (below_alloc HJ.out.1 (.cells #[.int .i64 q.f0, .slice A1 q.f1.length c1] 31))
            obtain ⟨A7, c7, hlk, _, _⟩ := (HB0.out _ HB5.out).look q.f0 (wf_small q.f0 q0 (by omega)) true
            have hlk' := fun n => hlk ((wr.alloc (.cells #[.int .i64 q.f0, .slice A1 q.f1.length c1] 31)).drewN n) rfl
            replace hlk := hlk _ rfl
            rw [if_pos rfl] at hlk
            simp only [if_pos] at hlk'
            have y0 := pw_cell_below (below_alloc (Below.refl _ _) (.cells #[.int .i64 q.f0, .slice A1 q.f1.length c1] 31)) HJ.out.2
            have y1 := (HB0.out _ HB5.out).c2
            have HY := Lib.hid HJ.out.2
            have z0 := World.cell?_alloc_at (w := wr) #[.int .i64 q.f0, .slice A1 q.f1.length c1] 31 wr.heap.size 0 rfl
            have b2 : (k : Int) < (l.length : Int) := by omega
            have HF := Lib.hid hfs
            clear hq hqe hfs hf HJ
            cases hm : hasM M q.f0 with
            | true =>
              rw [hm, if_pos rfl] at HF
              rw [hm] at hlk hlk'
              clear hm
              go_wp2
              go_quiet (fail)
              clear hlk hlk' y0 y1 z0
              have HB6 := Lib.hid (pw_below_drewN HB5.out nq)
              have HP6 := Lib.hid (show ((wr.alloc (.cells #[.int .i64 q.f0, .slice A1 q.f1.length c1] 31)).drewN nq).cell? ⟨w.heap.size, 0, none⟩ = some (.pointer (some ⟨mb + 1, 0, none⟩)) from pw_cell_below (pw_below_drewN (below_alloc (Below.refl _ _) _) _) HY.out)
              go_wp2
              go_roundw
              case rel => exact ⟨k + 1, by omega, by go_num, by rw [HF.out]; rfl, ⟨HB6.out, HP6.out⟩⟩
              case measure => simp [intOf]; omega
            | false =>
              rw [hm] at HF
              replace HF : Hid (freshN M (l.take (k + 1)) = f + 1) := Lib.hid (by rw [HF.out]; rfl)
              rw [hm] at hlk hlk'
              clear hm
              go_wp2
              go_quiet (fail)
              clear hlk hlk' y0 y1 z0
              have HB6 := Lib.hid (pw_below_drewN HB5.out nq)
              have HP6 := Lib.hid (show ((wr.alloc (.cells #[.int .i64 q.f0, .slice A1 q.f1.length c1] 31)).drewN nq).cell? ⟨w.heap.size, 0, none⟩ = some (.pointer (some ⟨mb + 1, 0, none⟩)) from pw_cell_below (pw_below_drewN (below_alloc (Below.refl _ _) _) _) HY.out)
              go_wp2
              go_roundw
              case rel => exact ⟨k + 1, by omega, by go_num, by rw [HF.out]; simp; omega, ⟨HB6.out, HP6.out⟩⟩
              case measure => simp [intOf]; omega
          · obtain rfl : k = l.length := by omega
            have hF : l.take l.length = l := List.take_length
            rw [hF]
            have b2 : ¬ (l.length : Int) < (l.length : Int) := by omega
            have HB4 := Lib.hid HJ.out.1
            have p4 := HJ.out.2
            have c1 := (HB0.out _ HB4.out).c1
            obtain ⟨f, hf⟩ : ∃ f, f = freshN M l := ⟨_, rfl⟩
            rw [← hf] at HC hfl ⊢
            clear hF hf HJ
            by_cases hbig : most < (M.length : Int) + (f : Int)
            · have e1 := HC.out
              rw [if_pos hbig] at e1
              have e2 : wrM blocks most M l = M := by simp [wrM, e1]
              have E1 := Lib.hid e1
              have E2 := Lib.hid e2
              have hbig' : most < ((M.length + f : Nat) : Int) := by omega
              clear e1 e2
              go_wp2
              try rw [Exit.noGoto_ret]
              go_ret
              exact ⟨by rw [E1.out]; rfl, by rw [E2.out]; exact HB0.out _ HB4.out, grown_of_below HB4.out _⟩
            · have e1 := HC.out
              rw [if_neg hbig] at e1
              have e2 : wrM blocks most M l = insL M l := by simp [wrM, e1]
              have E1 := Lib.hid e1
              have E2 := Lib.hid e2
              have hbig' : ¬ most < ((M.length + f : Nat) : Int) := by omega
              clear e1 e2
              go_wp2
              obtain ⟨wo, hwo⟩ : ∃ wo : World, wo = wr := ⟨_, rfl⟩
              subst hwo
              have HP4 := Lib.hid p4
              have HFR := Lib.hid (Nat.le_trans hfr HB4.out.size)
              have HCC := Lib.hid (fun w' (h : wo.grownBy w' (some mb)) => C31_map (HR.out _ HB4.out) h (HB0.out _ HB4.out).isMap)
              clear p4 c1
              go_loopw [11, 64] (fun _ i wr => ∃ k : Nat, k ≤ l.length ∧ i = .int .i64 k ∧ Aside0 (wo.grownBy wr (some mb) ∧ wr.cell? ⟨w.heap.size, 0, none⟩ = some (.pointer (some ⟨mb + 1, 0, none⟩)) ∧ IsBuf wr fr mb blocks most (insL M (l.take k)) ∧ wo.heap.size ≤ wr.heap.size)) (fun _ i _ => l.length - (intOf i).toNat)
              case atStart => exact ⟨0, Nat.zero_le _, rfl, ⟨World.grownBy.refl _ _, HP4.out, HB0.out _ HB4.out, Nat.le_refl _⟩⟩
              case round =>
                obtain ⟨k, hk, rfl, HJ⟩ := hrel
                by_cases hkl : k < l.length
                · obtain ⟨ad, A1, c1, rfl, x0, x1, x2, x3⟩ := at_T31 (HCC.out _ HJ.out.1) (k : Int) (by omega) (by omega)
                  simp only [Int.toNat_natCast] at x0 x1
                  obtain ⟨q, hq⟩ : ∃ q, q = rd_T31 l (k : Int) := ⟨_, rfl⟩
                  rw [← hq] at x0 x1 x2 x3
                  have hqe : q = l[k] := by rw [hq]; simp [rd_T31, List.getD_eq_getElem?_getD, List.getElem?_eq_getElem hkl]
                  have hqm : q ∈ l := by rw [hqe]; exact List.getElem_mem hkl
                  have HQ := Lib.hid (show (0 ≤ q.f0 ∧ q.f0 < blocks) ∧ q.f1.length = 40 from ⟨HG.out q hqm, H40.out q hqm⟩)
                  have HIL := Lib.hid (show insL M (l.take (k + 1)) = ins (insL M (l.take k)) q by rw [insL_succ M l k hkl, hqe])
                  have b2 : (k : Int) < (l.length : Int) := by omega
                  obtain ⟨M', hM'⟩ : ∃ M', M' = insL M (l.take k) := ⟨_, rfl⟩
                  rw [← hM'] at HIL HJ
                  have HX3 := Lib.hid x3
                  have HJ5 := Lib.hid HJ.out
                  clear hq hqe hqm hM' x2 x3 HJ
                  go_wp2
                  obtain ⟨w5, h5⟩ : ∃ y, y = wr.alloc (.cells #[.int .i64 q.f0, .slice A1 q.f1.length c1] 31) := ⟨_, rfl⟩
                  have y0 := World.cell?_alloc_at (w := wr) #[.int .i64 q.f0, .slice A1 q.f1.length c1] 31 wr.heap.size 0 rfl
                  have y1 := World.cell?_alloc_at (w := wr) #[.int .i64 q.f0, .slice A1 q.f1.length c1] 31 wr.heap.size 1 rfl
                  have hb5 := below_alloc (Below.refl wr.heap.size wr) (.cells #[.int .i64 q.f0, .slice A1 q.f1.length c1] 31)
                  rw [← h5] at y0 y1 hb5 ⊢
                  clear h5
                  have y2 := pw_cell_below hb5 HJ5.out.2.1
                  have HB5 := Lib.hid (HJ5.out.2.2.1.below (below_drew1 hb5))
                  have y3 : w5.cell? ⟨mb + 1, 2, none⟩ = some (.map (some mb)) := HB5.out.c2
                  have HX5 := Lib.hid (Kd.C_below HX3.out (below_drew1 hb5))
                  have HG5 := Lib.hid (grown_trans HJ5.out.1 (grown_of_below (below_drew1 hb5) _))
                  have HS5 := Lib.hid (Nat.le_trans HJ5.out.2.2.2 hb5.size)
                  have HIM := Lib.hid (fun w' (h : RowKit.Below w5.drew.heap.size w5.drew w') => (HB5.out.below h).isMap)
                  clear hb5 x0 x1 HX3
                  have y0' : w5.cell? ⟨wr.heap.size, 0, none⟩ = some (.int .i64 q.f0) := y0
                  have y1' : w5.cell? ⟨wr.heap.size, 1, none⟩ = some (.slice A1 q.f1.length c1) := y1
                  clear y0 y1
                  go_region_held3 (fun w' => w'.cell? ⟨w.heap.size, 0, none⟩ = some (.pointer (some ⟨mb + 1, 0, none⟩)) ∧ w'.cell? ⟨mb + 1, 2, none⟩ = some (.map (some mb)) ∧ w'.cell? ⟨wr.heap.size, 0, none⟩ = some (.int .i64 q.f0) ∧ w'.cell? ⟨wr.heap.size, 1, none⟩ = some (.slice A1 q.f1.length c1))
                    (first | exact HS7.out | exact HS6.out | exact ⟨y2, y3, y0', y1'⟩)
                    ((go_at_call 49; refine (cloneB_calls A1 c1 q.f1 _ HX5.out (by have := HQ.out.2; omega)).mono ?_; rintro _ w6 ⟨v6, rfl, hB6, hR6⟩; have HS6 := Lib.hid (show w6.cell? ⟨w.heap.size, 0, none⟩ = some (.pointer (some ⟨mb + 1, 0, none⟩)) ∧ w6.cell? ⟨mb + 1, 2, none⟩ = some (.map (some mb)) ∧ w6.cell? ⟨wr.heap.size, 0, none⟩ = some (.int .i64 q.f0) ∧ w6.cell? ⟨wr.heap.size, 1, none⟩ = some (.slice A1 q.f1.length c1) from ⟨pw_cell_below hB6 y2, pw_cell_below hB6 y3, pw_cell_below hB6 y0', pw_cell_below hB6 y1'⟩); have HPK := Lib.hid (put_run (fr := fr) (blocks := blocks) (most := most) (M := M') (x := q) (v := v6) (HB5.out.below hB6) ⟨HQ.out.1.1, HQ.out.1.2, HQ.out.2⟩ hR6 (by have h1 := HS5.out; have h2 : w5.heap.size = w5.drew.heap.size := rfl; have h3 := HFR.out; omega)); obtain ⟨w7, hrun7, hg7, hb7⟩ := HPK.out; have HS7 := Lib.hid (show w7.cell? ⟨w.heap.size, 0, none⟩ = some (.pointer (some ⟨mb + 1, 0, none⟩)) ∧ w7.cell? ⟨mb + 1, 2, none⟩ = some (.map (some mb)) ∧ w7.cell? ⟨wr.heap.size, 0, none⟩ = some (.int .i64 q.f0) ∧ w7.cell? ⟨wr.heap.size, 1, none⟩ = some (.slice A1 q.f1.length c1) from ⟨cell_kept HS6.out.1 hg7 (fun r hr => by cases hr; exact HIM.out _ hB6), cell_kept HS6.out.2.1 hg7 (fun r hr => by cases hr; exact HIM.out _ hB6), cell_kept HS6.out.2.2.1 hg7 (fun r hr => by cases hr; exact HIM.out _ hB6), cell_kept HS6.out.2.2.2 hg7 (fun r hr => by cases hr; exact HIM.out _ hB6)⟩); have HG7 := Lib.hid (grown_trans HG5.out (grown_trans (grown_of_below hB6 _) hg7)); have HB7 := Lib.hid hb7; have HS8 := Lib.hid (Nat.le_trans (Nat.le_trans HS5.out hB6.size) hg7.size); clear hR6 hB6 hg7 hb7 HPK))
                  go_wp2
                  go_roundw
                  case rel => exact ⟨k + 1, by omega, by go_num, ⟨HG7.out, HS7.out.1, by rw [HIL.out]; exact HB7.out, HS8.out⟩⟩
                  case measure => simp [intOf]; omega
                · obtain rfl : k = l.length := by omega
                  have hF : l.take l.length = l := List.take_length
                  rw [hF] at HJ
                  have HJ5 := Lib.hid HJ.out
                  have b2 : ¬ (l.length : Int) < (l.length : Int) := by omega
                  clear hF HJ
                  go_wp2
                  try rw [Exit.noGoto_ret]
                  go_ret
                  exact ⟨by rw [E1.out]; rfl, by rw [E2.out]; exact HJ5.out.2.2.1, grown_trans (grown_of_below HB4.out _) HJ5.out.1⟩
end Go.Proofs.Ytbebihphodafiaa.Iv

namespace Go.Proofs.Ytbebihphodafiaa.Iv
open Go.RowKit Go.Proofs.YtbebihphodafiaaW.PrintWords Go.Proofs.YtbebihphodafiaaW.PrintLast Go.Proofs.YtbebihphodafiaaW.PrintMore Go.Proofs.Ytbebihphodafiaa.PWb Go.Maps
set_option linter.unusedVariables false
set_option linter.unusedSimpArgs false

instance riseDec (l : List S31) : Decidable (Rise l) := inferInstanceAs (Decidable (List.Pairwise _ l))
theorem rise_adj (l : List S31) : Rise l ↔ ∀ (j : Nat) (h : j + 1 < l.length), (l[j]'(by omega)).f0 < l[j + 1].f0 := by
  constructor
  · intro h j hj
    exact List.pairwise_iff_getElem.1 h j (j + 1) (by omega) hj (by omega)
  · intro h
    refine List.pairwise_iff_getElem.2 (fun i j hi hj hij => ?_)
    obtain ⟨d, rfl⟩ : ∃ d, j = i + 1 + d := ⟨j - i - 1, by omega⟩
    clear hij
    induction d with
    | zero => exact h i hj
    | succ d ih =>
      have h1 := ih (by omega)
      have h2 := h (i + 1 + d) (by omega)
      exact Int.lt_trans h1 h2
def riseB (l : List S31) : Bool := decide (Rise l) && decide (0 < l.length)
theorem wrap_pred (n : Nat) (h1 : 1 ≤ n) (h2 : n ≤ 140737488355328) : wrap64 ((n : Int) - 1) = ((n - 1 : Nat) : Int) := by
  unfold wrap64; omega
theorem wrap_succ (n : Nat) (h2 : n ≤ 140737488355328) : wrap64 ((n : Int) + 1) = ((n + 1 : Nat) : Int) := by
  unfold wrap64; omega
theorem rd_at (l : List S31) (j : Nat) (h : j < l.length) : rd_T31 l (j : Int) = l[j] := by
  simp [rd_T31, List.getD_eq_getElem?_getD, List.getElem?_eq_getElem h]
theorem rise_l0 (l : List S31) (hl : l.length ≤ 140737488355328) : ∀ k i : Nat, 1 ≤ i → l.length + 2 ≤ i + k → i ≤ l.length + 1 → (∀ (j : Nat) (h : j + 1 < l.length), j + 1 < i → (l[j]'(by omega)).f0 < l[j + 1].f0) → extmap_rise.l0 k l (i : Int) = some (riseB l) := by
  intro k
  induction k with
  | zero => intro i h1 h2 h3; omega
  | succ k ih =>
    intro i h1 h2 h3 h4
    unfold extmap_rise.l0
    by_cases hi : i < l.length
    · rw [if_pos (by omega), if_pos (by omega), wrap_pred i h1 (by omega), if_pos (by omega), if_pos (by omega), rd_at l i hi, rd_at l (i - 1) (by omega)]
      obtain ⟨j, rfl⟩ : ∃ j, i = j + 1 := ⟨i - 1, by omega⟩
      by_cases hle : l[j + 1].f0 ≤ (l[j + 1 - 1]'(by omega)).f0
      · rw [if_pos hle]
        have : ¬ Rise l := fun h => by
          have := (rise_adj l).1 h j hi
          simp only [Nat.add_sub_cancel] at hle
          omega
        simp [riseB, this]
      · rw [if_neg hle, wrap_succ (j + 1) (by omega)]
        refine ih (j + 1 + 1) (by omega) (by omega) (by omega) (fun a ha hb => ?_)
        by_cases e : a = j
        · subst e
          simp only [Nat.add_sub_cancel] at hle
          omega
        · exact h4 a ha (by omega)
    · rw [if_neg (by omega)]
      have : Rise l := (rise_adj l).2 (fun j hj => h4 j hj (by omega))
      simp [riseB, this]
theorem rise_f (l : List S31) (hl : l.length ≤ 140737488355328) : extmap_rise.f (l.length + 1) l = some (riseB l) :=
  rise_l0 l hl _ 1 (Nat.le_refl _) (by omega) (by omega) (fun j h hj => by omega)
theorem rise_calls (A : Option Addr) (c : Nat) (l : List S31) (w : World) (hr : Kd.C k31 w A l.length l) (hc : l.length ≤ c) (hl : l.length ≤ 140737488355328) :
    Calls Try.prog 59 #[.slice A l.length c] w fun e w' => e = .returned (.bool (riseB l)) ∧ RowKit.Below w.heap.size w w' :=
  (extmap_rise.calls (l.length + 1) A c l (riseB l) w hr hc (rise_f l hl)).mono fun e w' ⟨h1, h2⟩ => ⟨h1, by obtain ⟨⟨n, rfl⟩⟩ := h2; exact pw_below_drewN (Below.refl _ _) _⟩
theorem gone_calls (em : Nat) (blocks : Int) (w : World) (h : w.cell? ⟨em + 1, 0, none⟩ = some (.int .i64 blocks)) (hb : 1 ≤ blocks) :
    Calls Try.prog 58 #[.pointer (some ⟨em + 1, 0, none⟩)] w fun e w' => e = .returned (.bool false) ∧ w' = w := by
  have h0 : ¬ blocks = 0 := by omega
  have d0 : decide (blocks = 0) = false := by simpa using h0
  go_enter Try.func58, Try.ntmps58
  go_wp2
  go_ret
  exact ⟨by simp [h0], rfl⟩
theorem closure61 (x : S31) (A : Option Addr) (c : Nat) (W : World) :
    Calls Try.prog 61 #[.agg #[.int .i64 x.f0, .slice A x.f1.length c]] W fun e w' => e = .returned (.bool (lenB x)) ∧ Below W.heap.size W w' := by
  go_enter Try.func61, Try.ntmps61
  go_wp2
  go_ret
  exact ⟨by unfold lenB; rw [← ne40]; rfl, below_alloc (Below.refl _ _) _⟩
theorem ent61 : Enters Try.prog 61 := enters_of Try.func61 (by kernel_rfl) rfl
theorem contains61 (A : Option Addr) (c : Nat) (l : List S31) (W : World) (hr : Kd.C k31 W A l.length l) (hl : l.length ≤ 9223372036854775807) :
    Calls Try.prog 45 #[.slice A l.length c, .func (.func 61) #[] #[]] W fun e w' => e = .returned (.bool (l.any lenB)) ∧ RowKit.Below W.heap.size W w' :=
  containsP_calls 61 #[] lenB ent61 A c l W hr hl (fun W' x A' c' _ hb =>
    (closure61 x A' c' W').mono fun r w' ⟨hr, hb'⟩ => ⟨hr, below_step hb hb'⟩)
/-- Of writes that rise, the first and the last tell. -/
theorem rise_ends (l : List S31) (h : Rise l) (h0 : 0 < l.length) (blocks : Int) : l.any (outB blocks) = (outB blocks (l[0]'h0) || outB blocks (l[l.length - 1]'(by omega))) := by
  cases e : (outB blocks (l[0]'h0) || outB blocks (l[l.length - 1]'(by omega))) with
  | true =>
    refine List.any_eq_true.2 ?_
    rcases Bool.or_eq_true_iff.1 e with e | e
    · exact ⟨_, List.getElem_mem _, e⟩
    · exact ⟨_, List.getElem_mem _, e⟩
  | false =>
    refine List.any_eq_false.2 (fun p hp => ?_)
    obtain ⟨e1, e2⟩ := Bool.or_eq_false_iff.1 e
    obtain ⟨i, hi, rfl⟩ := List.getElem_of_mem hp
    have hp := List.pairwise_iff_getElem.1 h
    have g1 : l[0].f0 ≤ l[i].f0 := by
      by_cases hz : i = 0
      · subst hz; exact Int.le_refl _
      · exact Int.le_of_lt (hp 0 i h0 hi (by omega))
    have g2 : l[i].f0 ≤ l[l.length - 1].f0 := by
      by_cases hz : i = l.length - 1
      · subst hz; exact Int.le_refl _
      · exact Int.le_of_lt (hp i (l.length - 1) hi (by omega) (by omega))
    simp [outB] at e1 e2 ⊢
    omega
end Go.Proofs.Ytbebihphodafiaa.Iv

namespace Go.Proofs.Ytbebihphodafiaa.Iv
open Go.Shelf
def keysX_ren : Go.Shelf.Ren := ⟨fun | 7 => 52 | 10 => 70 | n => n, fun | 23 => 99 | 26 => 3 | 3 => 28 | 28 => 110 | 0 => 0 | 27 => 109 | 33 => 98 | 4 => 4 | n => n, fun | n => n⟩
theorem keysX : Go.Proofs.SlLaysZI.n7 Try.prog keysX_ren := {
  mixed := by kernel_rfl
  f7 := ⟨Try.f52.name, by decide, Try.func52.trans (congrArg some (by kernel_rfl))⟩
  f10 := ⟨Try.f70.name, by decide, Try.func70.trans (congrArg some (by kernel_rfl))⟩
  t0 := Try.underlying0
  a0 := Try.isAgg0
  z0 := Try.sizeOf0
  v0 := Try.zeroValue0
  t4 := Try.underlying4
  a4 := Try.isAgg4
  z4 := Try.sizeOf4
  v4 := Try.zeroValue4
  t23 := Try.underlying99
  a23 := Try.isAgg99
  z23 := Try.sizeOf99
  v23 := Try.zeroValue99
  t26 := Try.underlying3
  a26 := Try.isAgg3
  z26 := Try.sizeOf3
  v26 := Try.zeroValue3
  t27 := Try.underlying109
  a27 := Try.isAgg109
  z27 := Try.sizeOf109
  v27 := Try.zeroValue109
  t28 := Try.underlying110
  a28 := Try.isAgg110
  z28 := Try.sizeOf110
  v28 := Try.zeroValue110
  t33 := Try.underlying98
  a33 := Try.isAgg98
  z33 := Try.sizeOf98
  v33 := Try.zeroValue98 }
def sortedX_ren : Go.Shelf.Ren := ⟨fun | 6 => 51 | 8 => 68 | 9 => 69 | 11 => 79 | 13 => 81 | 12 => 80 | 23 => 99 | 24 => 100 | 14 => 90 | 15 => 91 | 16 => 92 | 17 => 93 | 18 => 94 | 19 => 95 | 20 => 96 | 21 => 97 | 22 => 98 | 25 => 104 | 26 => 105 | 27 => 106 | 28 => 107 | 29 => 108 | 30 => 103 | 31 => 117 | n => n, fun | 26 => 3 | 28 => 110 | 24 => 107 | 0 => 0 | 3 => 3 | 37 => 147 | 48 => 162 | 50 => 164 | 4 => 4 | 40 => 155 | 39 => 154 | 45 => 159 | 5 => 5 | 9 => 9 | 51 => 167 | 55 => 171 | 57 => 178 | 58 => 179 | 33 => 98 | n => n, fun | n => n⟩
theorem sortedX : Go.Proofs.SlLaysZI.n6 Try.prog sortedX_ren := {
  mixed := by kernel_rfl
  f6 := ⟨Try.f51.name, by decide, Try.func51.trans (congrArg some (by kernel_rfl))⟩
  f8 := ⟨Try.f68.name, by decide, Try.func68.trans (congrArg some (by kernel_rfl))⟩
  f11 := ⟨Try.f79.name, by decide, Try.func79.trans (congrArg some (by kernel_rfl))⟩
  t0 := Try.underlying0
  a0 := Try.isAgg0
  z0 := Try.sizeOf0
  v0 := Try.zeroValue0
  t24 := Try.underlying107
  a24 := Try.isAgg107
  z24 := Try.sizeOf107
  v24 := Try.zeroValue107
  t26 := Try.underlying3
  a26 := Try.isAgg3
  z26 := Try.sizeOf3
  v26 := Try.zeroValue3
  t28 := Try.underlying110
  a28 := Try.isAgg110
  z28 := Try.sizeOf110
  v28 := Try.zeroValue110
  i26 := by kernel_rfl }
def sortI_ren : Go.Shelf.Ren := ⟨fun | 5 => 69 | 8 => 81 | 7 => 80 | 19 => 99 | 20 => 100 | 10 => 90 | 11 => 91 | 12 => 92 | 13 => 93 | 14 => 94 | 15 => 95 | 16 => 96 | 17 => 97 | 18 => 98 | 30 => 104 | 31 => 105 | 32 => 106 | 33 => 107 | 34 => 108 | 35 => 103 | 40 => 117 | n => n, fun | 23 => 107 | 25 => 3 | 3 => 3 | 32 => 147 | 22 => 107 | 0 => 0 | 44 => 162 | 46 => 164 | 4 => 4 | 36 => 155 | 35 => 154 | 41 => 159 | 5 => 5 | 9 => 9 | 53 => 167 | 57 => 171 | 63 => 178 | 64 => 179 | n => n, fun | n => n⟩
theorem sortI : Go.Proofs.SlLaysM.n5 Try.prog sortI_ren := {
  mixed := by kernel_rfl
  f5 := ⟨Try.f69.name, by decide, Try.func69.trans (congrArg some (by kernel_rfl))⟩
  f7 := ⟨Try.f80.name, by decide, Try.func80.trans (congrArg some (by kernel_rfl))⟩
  f8 := Try.func81.trans (congrArg some (by kernel_rfl))
  f10 := ⟨Try.f90.name, by decide, Try.func90.trans (congrArg some (by kernel_rfl))⟩
  f11 := ⟨Try.f91.name, by decide, Try.func91.trans (congrArg some (by kernel_rfl))⟩
  f12 := ⟨Try.f92.name, by decide, Try.func92.trans (congrArg some (by kernel_rfl))⟩
  f13 := ⟨Try.f93.name, by decide, Try.func93.trans (congrArg some (by kernel_rfl))⟩
  f14 := ⟨Try.f94.name, by decide, Try.func94.trans (congrArg some (by kernel_rfl))⟩
  f15 := ⟨Try.f95.name, by decide, Try.func95.trans (congrArg some (by kernel_rfl))⟩
  f16 := ⟨Try.f96.name, by decide, Try.func96.trans (congrArg some (by kernel_rfl))⟩
  f17 := ⟨Try.f97.name, by decide, Try.func97.trans (congrArg some (by kernel_rfl))⟩
  f18 := ⟨Try.f98.name, by decide, Try.func98.trans (congrArg some (by kernel_rfl))⟩
  f19 := Try.func99.trans (congrArg some (by kernel_rfl))
  f20 := Try.func100.trans (congrArg some (by kernel_rfl))
  f30 := ⟨Try.f104.name, by decide, Try.func104.trans (congrArg some (by kernel_rfl))⟩
  f31 := Try.func105.trans (congrArg some (by kernel_rfl))
  f32 := Try.func106.trans (congrArg some (by kernel_rfl))
  f33 := ⟨Try.f107.name, by decide, Try.func107.trans (congrArg some (by kernel_rfl))⟩
  f34 := ⟨Try.f108.name, by decide, Try.func108.trans (congrArg some (by kernel_rfl))⟩
  f35 := ⟨Try.f103.name, by decide, Try.func103.trans (congrArg some (by kernel_rfl))⟩
  f40 := ⟨Try.f117.name, by decide, Try.func117.trans (congrArg some (by kernel_rfl))⟩
  t0 := Try.underlying0
  a0 := Try.isAgg0
  z0 := Try.sizeOf0
  v0 := Try.zeroValue0
  t3 := Try.underlying3
  a3 := Try.isAgg3
  z3 := Try.sizeOf3
  v3 := Try.zeroValue3
  t4 := Try.underlying4
  a4 := Try.isAgg4
  z4 := Try.sizeOf4
  v4 := Try.zeroValue4
  t5 := Try.underlying5
  a5 := Try.isAgg5
  z5 := Try.sizeOf5
  v5 := Try.zeroValue5
  t9 := Try.underlying9
  a9 := Try.isAgg9
  z9 := Try.sizeOf9
  v9 := Try.zeroValue9
  t22 := Try.underlying107
  a22 := Try.isAgg107
  z22 := Try.sizeOf107
  v22 := Try.zeroValue107
  t23 := Try.underlying107
  a23 := Try.isAgg107
  z23 := Try.sizeOf107
  v23 := Try.zeroValue107
  t25 := Try.underlying3
  a25 := Try.isAgg3
  z25 := Try.sizeOf3
  v25 := Try.zeroValue3
  t32 := Try.underlying147
  a32 := Try.isAgg147
  z32 := Try.sizeOf147
  v32 := Try.zeroValue147
  t35 := Try.underlying154
  a35 := Try.isAgg154
  z35 := Try.sizeOf154
  v35 := Try.zeroValue154
  t36 := Try.underlying155
  a36 := Try.isAgg155
  z36 := Try.sizeOf155
  v36 := Try.zeroValue155
  t41 := Try.underlying159
  a41 := Try.isAgg159
  z41 := Try.sizeOf159
  v41 := Try.zeroValue159
  t44 := Try.underlying162
  a44 := Try.isAgg162
  z44 := Try.sizeOf162
  v44 := Try.zeroValue162
  t46 := Try.underlying164
  a46 := Try.isAgg164
  z46 := Try.sizeOf164
  v46 := Try.zeroValue164
  t53 := Try.underlying167
  a53 := Try.isAgg167
  z53 := Try.sizeOf167
  v53 := Try.zeroValue167
  t57 := Try.underlying171
  a57 := Try.isAgg171
  z57 := Try.sizeOf171
  v57 := Try.zeroValue171
  t63 := Try.underlying178
  a63 := Try.isAgg178
  z63 := Try.sizeOf178
  v63 := Try.zeroValue178
  t64 := Try.underlying179
  a64 := Try.isAgg179
  z64 := Try.sizeOf179
  v64 := Try.zeroValue179 }
def sortX_ren : Go.Shelf.Ren := ⟨fun | 6 => 86 | 15 => 81 | 14 => 102 | 28 => 99 | 29 => 100 | 20 => 109 | 21 => 110 | 22 => 111 | 23 => 112 | 24 => 113 | 25 => 114 | 26 => 115 | 27 => 116 | 46 => 118 | 47 => 105 | 48 => 106 | 49 => 119 | 50 => 120 | 57 => 121 | n => n, fun | 22 => 83 | 24 => 60 | 25 => 150 | 3 => 3 | 39 => 147 | 0 => 0 | 53 => 162 | 55 => 164 | 4 => 4 | 46 => 155 | 45 => 154 | 50 => 159 | 5 => 5 | 9 => 9 | 66 => 167 | 70 => 171 | 76 => 178 | 77 => 179 | n => n, fun | n => n⟩
theorem sortX : Go.Proofs.SlLaysF0.n6 Try.prog sortX_ren := {
  mixed := by kernel_rfl
  f6 := ⟨Try.f86.name, by decide, Try.func86.trans (congrArg some (by kernel_rfl))⟩
  f14 := ⟨Try.f102.name, by decide, Try.func102.trans (congrArg some (by kernel_rfl))⟩
  f15 := Try.func81.trans (congrArg some (by kernel_rfl))
  f20 := ⟨Try.f109.name, by decide, Try.func109.trans (congrArg some (by kernel_rfl))⟩
  f21 := ⟨Try.f110.name, by decide, Try.func110.trans (congrArg some (by kernel_rfl))⟩
  f22 := ⟨Try.f111.name, by decide, Try.func111.trans (congrArg some (by kernel_rfl))⟩
  f23 := ⟨Try.f112.name, by decide, Try.func112.trans (congrArg some (by kernel_rfl))⟩
  f24 := ⟨Try.f113.name, by decide, Try.func113.trans (congrArg some (by kernel_rfl))⟩
  f25 := ⟨Try.f114.name, by decide, Try.func114.trans (congrArg some (by kernel_rfl))⟩
  f26 := ⟨Try.f115.name, by decide, Try.func115.trans (congrArg some (by kernel_rfl))⟩
  f27 := ⟨Try.f116.name, by decide, Try.func116.trans (congrArg some (by kernel_rfl))⟩
  f28 := Try.func99.trans (congrArg some (by kernel_rfl))
  f29 := Try.func100.trans (congrArg some (by kernel_rfl))
  f46 := ⟨Try.f118.name, by decide, Try.func118.trans (congrArg some (by kernel_rfl))⟩
  f47 := Try.func105.trans (congrArg some (by kernel_rfl))
  f48 := Try.func106.trans (congrArg some (by kernel_rfl))
  f49 := ⟨Try.f119.name, by decide, Try.func119.trans (congrArg some (by kernel_rfl))⟩
  f50 := ⟨Try.f120.name, by decide, Try.func120.trans (congrArg some (by kernel_rfl))⟩
  f57 := ⟨Try.f121.name, by decide, Try.func121.trans (congrArg some (by kernel_rfl))⟩
  t0 := Try.underlying0
  a0 := Try.isAgg0
  z0 := Try.sizeOf0
  v0 := Try.zeroValue0
  t3 := Try.underlying3
  a3 := Try.isAgg3
  z3 := Try.sizeOf3
  v3 := Try.zeroValue3
  t4 := Try.underlying4
  a4 := Try.isAgg4
  z4 := Try.sizeOf4
  v4 := Try.zeroValue4
  t5 := Try.underlying5
  a5 := Try.isAgg5
  z5 := Try.sizeOf5
  v5 := Try.zeroValue5
  t9 := Try.underlying9
  a9 := Try.isAgg9
  z9 := Try.sizeOf9
  v9 := Try.zeroValue9
  t22 := Try.underlying83
  a22 := Try.isAgg83
  z22 := Try.sizeOf83
  v22 := Try.zeroValue83
  t25 := Try.underlying150
  a25 := Try.isAgg150
  z25 := Try.sizeOf150
  v25 := Try.zeroValue150
  t39 := Try.underlying147
  a39 := Try.isAgg147
  z39 := Try.sizeOf147
  v39 := Try.zeroValue147
  t45 := Try.underlying154
  a45 := Try.isAgg154
  z45 := Try.sizeOf154
  v45 := Try.zeroValue154
  t46 := Try.underlying155
  a46 := Try.isAgg155
  z46 := Try.sizeOf155
  v46 := Try.zeroValue155
  t50 := Try.underlying159
  a50 := Try.isAgg159
  z50 := Try.sizeOf159
  v50 := Try.zeroValue159
  t53 := Try.underlying162
  a53 := Try.isAgg162
  z53 := Try.sizeOf162
  v53 := Try.zeroValue162
  t55 := Try.underlying164
  a55 := Try.isAgg164
  z55 := Try.sizeOf164
  v55 := Try.zeroValue164
  t66 := Try.underlying167
  a66 := Try.isAgg167
  z66 := Try.sizeOf167
  v66 := Try.zeroValue167
  t70 := Try.underlying171
  a70 := Try.isAgg171
  z70 := Try.sizeOf171
  v70 := Try.zeroValue171
  t76 := Try.underlying178
  a76 := Try.isAgg178
  z76 := Try.sizeOf178
  v76 := Try.zeroValue178
  t77 := Try.underlying179
  a77 := Try.isAgg179
  z77 := Try.sizeOf179
  v77 := Try.zeroValue179 }
end Go.Proofs.Ytbebihphodafiaa.Iv

namespace Go.Proofs.Ytbebihphodafiaa.Iv
open Go.Proofs.Ytbebihphodafiaa.PWb
set_option linter.unusedVariables false
set_option linter.unusedSimpArgs false

def In (e : S60) (x : Int) : Prop := e.f0 ≤ x ∧ x < e.f0 + e.f1
def Cov (l : List S60) (x : Int) : Prop := ∃ e ∈ l, In e x
/-- They rise and do not touch. -/
def Nf (l : List S60) : Prop := l.Pairwise (fun a b => a.f0 + a.f1 < b.f0) ∧ ∀ e ∈ l, 1 ≤ e.f1
def jstep (out : List S60) (e : S60) : List S60 :=
  match out.getLast? with
  | none => [e]
  | some t => if e.f0 ≤ t.f0 + t.f1 then out.dropLast ++ [⟨t.f0, max t.f1 (e.f0 + e.f1 - t.f0)⟩] else out ++ [e]
def joinL (l : List S60) : List S60 := l.foldl jstep []
theorem jstep_nil (e : S60) : jstep [] e = [e] := rfl
theorem jstep_snoc (o : List S60) (t e : S60) : jstep (o ++ [t]) e = if e.f0 ≤ t.f0 + t.f1 then o ++ [⟨t.f0, max t.f1 (e.f0 + e.f1 - t.f0)⟩] else (o ++ [t]) ++ [e] := by
  simp [jstep]
theorem jstep_len (o : List S60) (e : S60) : (jstep o e).length ≤ o.length + 1 := by
  rcases List.eq_nil_or_concat o with rfl | ⟨o1, t, rfl⟩
  · simp [jstep_nil]
  · rw [List.concat_eq_append, jstep_snoc]
    split <;> simp
theorem joinL_len' (l : List S60) : ∀ o : List S60, (l.foldl jstep o).length ≤ o.length + l.length := by
  induction l with
  | nil => intro o; simp
  | cons e l ih => intro o; have h1 := ih (jstep o e); have h2 := jstep_len o e; simp only [List.foldl_cons, List.length_cons]; omega
theorem joinL_len (l : List S60) : (joinL l).length ≤ l.length := by have := joinL_len' l []; simpa [joinL] using this
def Asc (l : List S60) : Prop := l.Pairwise (fun a b => a.f0 ≤ b.f0)
theorem cov_nil (x : Int) : ¬ Cov [] x := fun ⟨e, h, _⟩ => by simp at h
theorem cov_append (a b : List S60) (x : Int) : Cov (a ++ b) x ↔ Cov a x ∨ Cov b x := by
  simp only [Cov, List.mem_append]
  constructor
  · rintro ⟨e, h | h, hx⟩
    · exact .inl ⟨e, h, hx⟩
    · exact .inr ⟨e, h, hx⟩
  · rintro (⟨e, h, hx⟩ | ⟨e, h, hx⟩)
    · exact ⟨e, .inl h, hx⟩
    · exact ⟨e, .inr h, hx⟩
theorem cov_one (e : S60) (x : Int) : Cov [e] x ↔ In e x := by simp [Cov]
theorem cov_perm {a b : List S60} (h : a.Perm b) (x : Int) : Cov a x ↔ Cov b x := by
  simp only [Cov, h.mem_iff]
theorem cov_cons (e : S60) (a : List S60) (x : Int) : Cov (e :: a) x ↔ In e x ∨ Cov a x := by
  simp [Cov]
/-- A step: the blocks of both, and still they rise and do not touch. -/
theorem jstep_nf (o : List S60) (e : S60) (ho : Nf o) (he : 1 ≤ e.f1) (hlo : ∀ a ∈ o, a.f0 ≤ e.f0) :
    Nf (jstep o e) ∧ (∀ x, Cov (jstep o e) x ↔ Cov o x ∨ In e x) ∧ ∀ a ∈ jstep o e, a.f0 ≤ e.f0 := by
  rcases List.eq_nil_or_concat o with rfl | ⟨o1, t, rfl⟩
  · rw [jstep_nil]
    refine ⟨⟨List.pairwise_singleton _ _, by simpa using he⟩, fun x => ?_, by simp⟩
    rw [cov_one]
    simp [cov_nil]
  · rw [List.concat_eq_append] at *
    rw [jstep_snoc]
    obtain ⟨h1, h2⟩ := ho
    rw [List.pairwise_append] at h1
    obtain ⟨p1, _, p3⟩ := h1
    have ht := h2 t (by simp)
    have htl := hlo t (by simp)
    split
    · rename_i hle
      refine ⟨⟨?_, ?_⟩, fun x => ?_, ?_⟩
      · rw [List.pairwise_append]
        refine ⟨p1, List.pairwise_singleton _ _, fun a ha b hb => ?_⟩
        simp at hb
        subst hb
        exact p3 a ha t (by simp)
      · intro a ha
        rcases List.mem_append.1 ha with h | h
        · exact h2 a (by simp [h])
        · simp at h; subst h; simp only; omega
      · rw [cov_append, cov_append, cov_one, cov_one]
        unfold In
        simp only
        constructor
        · rintro (h | h)
          · exact .inl (.inl h)
          · by_cases hx : x < t.f0 + t.f1
            · exact .inl (.inr ⟨h.1, hx⟩)
            · exact .inr ⟨by omega, by omega⟩
        · rintro ((h | h) | h)
          · exact .inl h
          · exact .inr ⟨h.1, by omega⟩
          · exact .inr ⟨by omega, by omega⟩
      · intro a ha
        rcases List.mem_append.1 ha with h | h
        · exact hlo a (by simp [h])
        · simp at h; subst h; exact htl
    · rename_i hle
      refine ⟨⟨?_, ?_⟩, fun x => ?_, ?_⟩
      · rw [List.pairwise_append]
        refine ⟨by rw [List.pairwise_append]; exact ⟨p1, List.pairwise_singleton _ _, p3⟩, List.pairwise_singleton _ _, fun a ha b hb => ?_⟩
        simp at hb
        subst hb
        rcases List.mem_append.1 ha with h | h
        · have := p3 a h t (by simp)
          omega
        · simp at h; subst h; omega
      · intro a ha
        rcases List.mem_append.1 ha with h | h
        · exact h2 a h
        · simp at h; subst h; exact he
      · rw [cov_append, cov_one]
      · intro a ha
        rcases List.mem_append.1 ha with h | h
        · exact hlo a h
        · simp at h; subst h; exact Int.le_refl _
theorem fold_nf (l : List S60) : ∀ o : List S60, Nf o → Asc l → (∀ e ∈ l, 1 ≤ e.f1) → (∀ a ∈ o, ∀ e ∈ l, a.f0 ≤ e.f0) →
    Nf (l.foldl jstep o) ∧ ∀ x, Cov (l.foldl jstep o) x ↔ Cov o x ∨ Cov l x := by
  induction l with
  | nil => intro o ho _ _ _; exact ⟨ho, fun x => by simp [cov_nil]⟩
  | cons e l ih =>
    intro o ho ha hl hlo
    obtain ⟨h1, h2, h3⟩ := jstep_nf o e ho (hl e (by simp)) (fun a h => hlo a h e (by simp))
    obtain ⟨a1, a2⟩ := List.pairwise_cons.1 ha
    obtain ⟨k1, k2⟩ := ih (jstep o e) h1 a2 (fun x hx => hl x (by simp [hx])) (fun a h f hf => Int.le_trans (h3 a h) (a1 f hf))
    refine ⟨k1, fun x => ?_⟩
    rw [List.foldl_cons, k2 x, h2 x, cov_cons, or_assoc]
theorem joinL_nf (l : List S60) (ha : Asc l) (hl : ∀ e ∈ l, 1 ≤ e.f1) : Nf (joinL l) ∧ ∀ x, Cov (joinL l) x ↔ Cov l x := by
  obtain ⟨h1, h2⟩ := fold_nf l [] ⟨List.Pairwise.nil, by simp⟩ ha hl (by simp)
  exact ⟨h1, fun x => by rw [joinL, h2 x]; simp [cov_nil]⟩
/-- Each is told by its blocks. -/
theorem nf_unique : ∀ (a b : List S60), Nf a → Nf b → (∀ x, Cov a x ↔ Cov b x) → a = b := by
  intro a
  induction a with
  | nil =>
    intro b _ hb h
    cases b with
    | nil => rfl
    | cons f b =>
      have h1 := hb.2 f (by simp)
      exact absurd ((h f.f0).2 ⟨f, by simp, by unfold In; omega⟩) (cov_nil _)
  | cons e a ih =>
    intro b ha hb h
    cases b with
    | nil =>
      have h1 := ha.2 e (by simp)
      exact absurd ((h e.f0).1 ⟨e, by simp, by unfold In; omega⟩) (cov_nil _)
    | cons f b =>
      obtain ⟨a1, a2⟩ := List.pairwise_cons.1 ha.1
      obtain ⟨b1, b2⟩ := List.pairwise_cons.1 hb.1
      have he := ha.2 e (by simp)
      have hf := hb.2 f (by simp)
      have hge : ∀ x, Cov (e :: a) x → e.f0 ≤ x := by
        intro x hx
        rcases (cov_cons _ _ _).1 hx with hx | ⟨g, hg, hx⟩
        · exact hx.1
        · have := a1 g hg; unfold In at hx; omega
      have hgf : ∀ x, Cov (f :: b) x → f.f0 ≤ x := by
        intro x hx
        rcases (cov_cons _ _ _).1 hx with hx | ⟨g, hg, hx⟩
        · exact hx.1
        · have := b1 g hg; unfold In at hx; omega
      have e1 : f.f0 ≤ e.f0 := hgf _ ((h _).1 ⟨e, by simp, by unfold In; omega⟩)
      have e2 : e.f0 ≤ f.f0 := hge _ ((h _).2 ⟨f, by simp, by unfold In; omega⟩)
      have hae : ¬ Cov (e :: a) (e.f0 + e.f1) := by
        intro hx
        rcases (cov_cons _ _ _).1 hx with hx | ⟨g, hg, hx⟩
        · unfold In at hx; omega
        · have := a1 g hg; unfold In at hx; omega
      have hbf : ¬ Cov (f :: b) (f.f0 + f.f1) := by
        intro hx
        rcases (cov_cons _ _ _).1 hx with hx | ⟨g, hg, hx⟩
        · unfold In at hx; omega
        · have := b1 g hg; unfold In at hx; omega
      have e3 : e.f1 = f.f1 := by
        rcases Int.lt_trichotomy e.f1 f.f1 with h1 | h1 | h1
        · exact absurd ((h _).2 ⟨f, by simp, by unfold In; omega⟩) hae
        · exact h1
        · exact absurd ((h _).1 ⟨e, by simp, by unfold In; omega⟩) hbf
      have e4 : e = f := by
        cases e; cases f
        simp only at e1 e2 e3
        rw [e3, show _ = _ from Int.le_antisymm e2 e1]
      subst e4
      have hta : ∀ x, Cov a x ↔ Cov (e :: a) x ∧ ¬ In e x := by
        intro x
        rw [cov_cons]
        constructor
        · intro hx
          refine ⟨.inr hx, fun hi => ?_⟩
          obtain ⟨g, hg, hx⟩ := hx
          have := a1 g hg
          unfold In at hx hi
          omega
        · rintro ⟨hx | hx, hn⟩
          · exact absurd hx hn
          · exact hx
      have htb : ∀ x, Cov b x ↔ Cov (e :: b) x ∧ ¬ In e x := by
        intro x
        rw [cov_cons]
        constructor
        · intro hx
          refine ⟨.inr hx, fun hi => ?_⟩
          obtain ⟨g, hg, hx⟩ := hx
          have := b1 g hg
          unfold In at hx hi
          omega
        · rintro ⟨hx | hx, hn⟩
          · exact absurd hx hn
          · exact hx
      have := ih b ⟨a2, fun g hg => ha.2 g (by simp [hg])⟩ ⟨b2, fun g hg => hb.2 g (by simp [hg])⟩ (fun x => by rw [hta, htb, h])
      rw [this]
/-- What a set of extents comes to. -/
def nrm (l : List S60) : List S60 := joinL (l.mergeSort (fun a b => decide (a.f0 ≤ b.f0)))
theorem nrm_sort (l : List S60) : Asc (l.mergeSort (fun a b => decide (a.f0 ≤ b.f0))) := by
  have := List.pairwise_mergeSort (le := fun a b : S60 => decide (a.f0 ≤ b.f0)) (by intro a b c; simp; omega) (by intro a b; simp; omega) l
  exact this.imp (by simp)
theorem nrm_nf (l : List S60) (hl : ∀ e ∈ l, 1 ≤ e.f1) : Nf (nrm l) ∧ ∀ x, Cov (nrm l) x ↔ Cov l x := by
  have hp := List.mergeSort_perm l (fun a b => decide (a.f0 ≤ b.f0))
  obtain ⟨h1, h2⟩ := joinL_nf _ (nrm_sort l) (fun e he => hl e (hp.mem_iff.1 he))
  exact ⟨h1, fun x => by rw [nrm, h2 x, cov_perm hp]⟩
theorem nrm_len (l : List S60) : (nrm l).length ≤ l.length := by
  have := joinL_len (l.mergeSort (fun a b => decide (a.f0 ≤ b.f0)))
  rwa [List.length_mergeSort] at this
/-- Whatever order the sort leaves equals in. -/
theorem joinL_nrm (l l' : List S60) (hp : l'.Perm l) (ha : Asc l') (hl : ∀ e ∈ l, 1 ≤ e.f1) : joinL l' = nrm l := by
  obtain ⟨h1, h2⟩ := joinL_nf l' ha (fun e he => hl e (hp.mem_iff.1 he))
  obtain ⟨k1, k2⟩ := nrm_nf l hl
  exact nf_unique _ _ h1 k1 (fun x => by rw [h2, k2, cov_perm hp])
theorem nrm_of (l m : List S60) (hl : ∀ e ∈ l, 1 ≤ e.f1) (hm : Nf m) (h : ∀ x, Cov m x ↔ Cov l x) : nrm l = m := by
  obtain ⟨k1, k2⟩ := nrm_nf l hl
  exact nf_unique _ _ k1 hm (fun x => by rw [k2, h])
theorem nrm_nil : nrm [] = [] := by simp [nrm, joinL]
end Go.Proofs.Ytbebihphodafiaa.Iv

namespace Go.Proofs.Ytbebihphodafiaa.Iv
open Go.RowKit Go.Proofs.YtbebihphodafiaaW.PrintWords Go.Proofs.YtbebihphodafiaaW.PrintLast Go.Proofs.YtbebihphodafiaaW.PrintMore Go.Proofs.Ytbebihphodafiaa.PWb Go.Shelf Go.Lib Go.Sort
set_option linter.unusedVariables false
set_option linter.unusedSimpArgs false

instance inh60 : Inhabited S60 := ⟨z60⟩
def enc60 (x : S60) : List Value := [.int .i64 x.f0, .int .i64 x.f1]
def cmp60 (x y : S60) : Int := Lib.compareInt x.f0 y.f0
theorem lt60 (x y : S60) : ltOf cmp60 x y = decide (x.f0 < y.f0) := by
  unfold ltOf cmp60 Lib.compareInt
  by_cases h1 : x.f0 < y.f0
  · simp [h1]
  · by_cases h2 : y.f0 < x.f0 <;> simp [h1, h2]
theorem swo60 : SWO (ltOf cmp60) where
  irrefl x := by rw [lt60]; simp
  trans x y z h1 h2 := by rw [lt60] at *; simp at *; omega
  ntrans x y z h1 h2 := by rw [lt60] at *; simp at *; omega
theorem isNaN_calls (x : Int) (w : World) : Calls Try.prog 103 #[.int .i64 x] w fun e w' => e = .returned (.bool false) ∧ w' = w := by
  go_enter Try.func103, Try.ntmps103
  go_wp2
  go_ret
  exact ⟨by simp, rfl⟩
set_option maxHeartbeats 1000000 in
theorem compare_calls (x y : Int) (w : World) : Calls Try.prog 88 #[.int .i64 x, .int .i64 y] w fun e w' => e = .returned (.int .i64 (Lib.compareInt x y)) ∧ w' = w := by
  by_cases h1 : x < y
  · have hr : Lib.compareInt x y = -1 := by simp [Lib.compareInt, h1]
    have d1 : decide (x < y) = true := by simpa using h1
    rw [hr]
    go_enter Try.func88, Try.ntmps88
    go_wp2_with (go_at_call 103; refine (isNaN_calls _ _).mono ?_; rintro e w' ⟨rfl, rfl⟩)
    go_ret
    exact ⟨rfl, rfl⟩
  · by_cases h2 : y < x
    · have hr : Lib.compareInt x y = 1 := by simp [Lib.compareInt, h1, h2]
      have d1 : decide (x < y) = false := by simpa using h1
      have d2 : decide (y < x) = true := by simpa using h2
      rw [hr]
      go_enter Try.func88, Try.ntmps88
      go_wp2_with (go_at_call 103; refine (isNaN_calls _ _).mono ?_; rintro e w' ⟨rfl, rfl⟩)
      go_ret
      exact ⟨rfl, rfl⟩
    · have hr : Lib.compareInt x y = 0 := by simp [Lib.compareInt, h1, h2]
      have d1 : decide (x < y) = false := by simpa using h1
      have d2 : decide (y < x) = false := by simpa using h2
      rw [hr]
      go_enter Try.func88, Try.ntmps88
      go_wp2_with (go_at_call 103; refine (isNaN_calls _ _).mono ?_; rintro e w' ⟨rfl, rfl⟩)
      go_ret
      exact ⟨rfl, rfl⟩
set_option maxHeartbeats 1000000 in
theorem closure33 (x y : S60) (W : World) : Calls Try.prog 87 #[.agg #[.int .i64 x.f0, .int .i64 x.f1], .agg #[.int .i64 y.f0, .int .i64 y.f1]] W fun e w' => e = .returned (.int .i64 (cmp60 x y)) ∧ ∃ q os', w' = grow (W.drewN q) os' := by
  have hcon := fun W' => compare_calls x.f0 y.f0 W'
  unfold cmp60
  generalize Lib.compareInt x.f0 y.f0 = r at hcon ⊢
  go_enter Try.func87, Try.ntmps87
  go_wp2_with (go_at_call 88; refine (hcon _).mono ?_; rintro e w' ⟨rfl, rfl⟩)
  go_ret
  exact ⟨rfl, 0, _, by rw [alloc_eq_grow, alloc_eq_grow, grow_grow]; rfl⟩
/-- The cells of a row, read. -/
theorem C_cells (w : World) (g : Nat) (l : List S60) (hl : l.length ≤ 9223372036854775807)
    (h : ∀ j (hj : j < l.length), w.cell? ⟨g, j * 2, none⟩ = some (.int .i64 l[j].f0) ∧ w.cell? ⟨g, j * 2 + 1, none⟩ = some (.int .i64 l[j].f1)) : Kd.C k60 w (some ⟨g, 0, none⟩) l.length l := by
  refine ⟨rfl, hl, fun _ => ⟨_, rfl, fun j p hj => ?_⟩⟩
  obtain ⟨hj1, rfl⟩ := List.getElem?_eq_some_iff.1 hj
  obtain ⟨h0, h1⟩ := h j hj1
  refine ⟨_, rfl, k60_mk w _, fun i u hu => ?_⟩
  rw [add_plain]
  match i, hu with
  | 0, hu => simp at hu; subst hu; simpa [k60, Kd.iso, Kd.pair, Kd.int, Kd.scalar] using h0
  | 1, hu => simp at hu; subst hu; simpa [k60, Kd.iso, Kd.pair, Kd.int, Kd.scalar] using h1
  | i + 2, hu => simp at hu
theorem below_sorted (base : Nat) (w : World) (blk off n : Nat) (d : Array S60) (os : Array Obj) (hb : base ≤ blk) (hs : base ≤ w.heap.size) : RowKit.Below base w (sortWorldK enc60 2 w blk off n d os) := by
  have hsz : (putRowK enc60 2 (Sort.ahead w n) blk off d).heap.size = w.heap.size := by
    simp [putRowK, putRow, mapBlock, Sort.ahead]
  refine ⟨rfl, rfl, rfl, ?_, fun k hk => ?_⟩
  · show w.heap.size ≤ (_ ++ os).size
    rw [Array.size_append, hsz]; omega
  · show (_ ++ os)[k]? = _
    rw [Array.getElem?_append_left (by rw [hsz]; omega)]
    show ((Sort.ahead w n).heap.modify blk _)[k]? = _
    rw [Array.getElem?_modify, if_neg (by omega)]
    rfl
set_option maxHeartbeats 1000000 in
set_option maxRecDepth 100000 in
theorem sort_calls (base : Nat) (v : Value) (l : List S60) (w : World) (hR : Kd.R k60 60 w base (fun _ => True) v l) (hb : base ≤ w.heap.size) (hl : l.length < 4611686018427387904) :
    Calls Try.prog 86 #[v, .func (.func 87) #[] #[]] w fun e w' => e = .returned (.tuple #[]) ∧ RowKit.Below base w w' ∧ ∃ l' A c, v = .slice A l.length c ∧ l'.Perm l ∧ Asc l' ∧ Kd.C k60 w' A l.length l' := by
  by_cases h0 : l = []
  · subst h0
    obtain ⟨A, c, rfl, _, hC⟩ := Kd.R_reads hR
    refine (AnyF.slices_SortFunc_none sortX A c (.func (.func 87) #[] #[]) w).mono ?_
    rintro e w' ⟨rfl, rfl⟩
    exact ⟨rfl, Below.refl _ _, [], A, c, rfl, List.Perm.refl _, List.Pairwise.nil, hC⟩
  · have hpos : 0 < l.length := List.length_pos_iff.2 h0
    obtain ⟨g, cap, rfl, hg, hlt, cells, hcell⟩ := Kd.R_form hR hpos
    obtain ⟨_, _, hC⟩ := Kd.R_reads' hR
    have eg : ∀ args w, (callFunc 87 args).run Try.prog w = .ok (.enter 87 args) w := enters_of Try.func87 (by kernel_rfl) rfl
    have hH : HoldsK enc60 2 w g 0 l.toArray := by
      intro j hj
      rw [size_flatK] at hj
      simp only [List.size_toArray] at hj
      rw [get_flatK _ _ _ _ (by simpa using hj)]
      have hi : j / 2 < l.length := by omega
      obtain ⟨ad, he, c0, c1⟩ := at_T60 hC ((j / 2 : Nat) : Int) (by omega) (by omega)
      injection he with he
      subst he
      simp only [Int.toNat_natCast] at c0 c1
      rw [add_plain] at c0 c1
      have e1 : (l.toArray[j / 2]!) = rd_T60 l ((j / 2 : Nat) : Int) := by
        rw [getElem!_pos _ _ (by simpa using hi)]
        show l.toArray[j / 2] = l.getD (((j / 2 : Nat) : Int)).toNat z60
        rw [Int.toNat_natCast, List.getD_eq_getElem?_getD, List.getElem?_eq_getElem hi]
        rfl
      rw [e1]
      refine ⟨?_, blk_frozen hcell _⟩
      rcases Nat.mod_two_eq_zero_or_one j with hm | hm
      · rw [hm]
        have e2 : 0 + j = 0 + j / 2 * 2 := by omega
        rw [e2]
        simpa [enc60] using c0
      · rw [hm]
        have e2 : 0 + j = 0 + j / 2 * 2 + 1 := by omega
        rw [e2]
        simpa [enc60] using c1
    have hcon := AnyQ.slices_SortFunc sortX 2 Try.isAgg60 Try.sizeOf60 enc60 (fun _ => rfl) (fun x v hv => by simp [enc60] at hv; rcases hv with rfl | rfl <;> rfl) cmp60 swo60 87 #[] g 0 cap l.toArray w eg (fun _ _ _ _ x y => closure33 x y _) hH hlt (by simpa using hl)
    have hss : l.toArray.size = l.length := by simp
    rw [hss] at hcon
    change Calls Try.prog 86 _ _ _ at hcon
    refine hcon.mono ?_
    rintro e w' ⟨rfl, d', n, os, hp, hs, rfl⟩
    obtain ⟨hp1, _, hp3⟩ := hp
    have hsz : d'.size = l.length := by simpa using hp1
    refine ⟨rfl, below_sorted base w g 0 n d' os hg hb, d'.toList, _, _, rfl, ?_, ?_, ?_⟩
    · have := hp3
      rw [Array.extract_eq_self_of_le (by simpa using Nat.le_of_eq hsz), Array.extract_eq_self_of_le (by simp)] at this
      simpa using this
    · unfold Asc
      rw [List.pairwise_iff_getElem]
      intro i j hi hj hij
      have hi' : i < d'.size := by simpa using hi
      have hj' : j < d'.size := by simpa using hj
      have := hs i j (Nat.zero_le _) hij (by simpa [hsz] using hj')
      rw [lt60, getElem!_pos d' _ hj', getElem!_pos d' _ hi'] at this
      simp at this
      simpa using this
    · have hH2 := holdsK_sortWorldK_c enc60 2 w g 0 l.toArray d' n os hH hlt (by simpa using hsz)
      have hlen : d'.toList.length = l.length := by simpa using hsz
      rw [← hlen]
      refine C_cells _ g d'.toList (by omega) (fun j hj => ?_)
      have hj' : j < d'.size := by simpa using hj
      have k0 := (hH2.cell (i := j) (c := 0) hj' (by decide)).1
      have k1 := (hH2.cell (i := j) (c := 1) hj' (by decide)).1
      rw [getElem!_pos d' _ hj'] at k0 k1
      refine ⟨by simpa [enc60] using k0, by simpa [enc60] using k1⟩
end Go.Proofs.Ytbebihphodafiaa.Iv

namespace Go.Proofs.Ytbebihphodafiaa.Iv
open Go.RowKit Go.Proofs.YtbebihphodafiaaW.PrintWords Go.Proofs.YtbebihphodafiaaW.PrintLast Go.Proofs.YtbebihphodafiaaW.PrintMore Go.Proofs.Ytbebihphodafiaa.PWb
set_option linter.unusedVariables false
set_option linter.unusedSimpArgs false

attribute [local go_sem] max2_int min2_int   -- for this text's walks alone
theorem joinL_succ (l : List S60) (k : Nat) (h : k < l.length) : joinL (l.take (k + 1)) = jstep (joinL (l.take k)) (rd_T60 l (k : Int)) := by
  have e : rd_T60 l (k : Int) = l[k] := by simp [rd_T60, List.getD_eq_getElem?_getD, List.getElem?_eq_getElem h]
  rw [e, List.take_succ_eq_append_getElem h]
  simp only [joinL, List.foldl_append, List.foldl_cons, List.foldl_nil]
theorem jstep_ok (o : List S60) (e : S60) (ho : ∀ x ∈ o, Okx x) (he : Okx e) : ∀ x ∈ jstep o e, Okx x := by
  rcases List.eq_nil_or_concat o with rfl | ⟨o1, t, rfl⟩
  · intro x hx; rw [jstep_nil] at hx; simp at hx; subst hx; exact he
  · rw [List.concat_eq_append] at *
    rw [jstep_snoc]
    have ht := ho t (by simp)
    split
    · intro x hx
      rcases List.mem_append.1 hx with h | h
      · exact ho x (List.mem_append_left _ h)
      · simp at h; subst h; obtain ⟨a, b, c⟩ := ht; obtain ⟨a', b', c'⟩ := he; exact ⟨a, by simp only; omega, by simp only; omega⟩
    · intro x hx
      rcases List.mem_append.1 hx with h | h
      · exact ho x h
      · simp at h; subst h; exact he
theorem joinL_ok (l : List S60) : ∀ o : List S60, (∀ x ∈ o, Okx x) → (∀ x ∈ l, Okx x) → ∀ x ∈ l.foldl jstep o, Okx x := by
  induction l with
  | nil => intro o ho _; exact ho
  | cons e l ih => intro o ho hl; exact ih _ (jstep_ok o e ho (hl e (by simp))) (fun x hx => hl x (by simp [hx]))
theorem R_setlen {W : World} {base g n cap : Nat} {xs : List S60} (h : Kd.R k60 60 W base (fun _ => True) (.slice (some ⟨g, 0, none⟩) n cap) xs) (i : Nat) (hi : i < n) (x : Int) :
    Kd.R k60 60 (W.setCell ⟨g, i * 2 + 1, none⟩ (.int .i64 x)) base (fun _ => True) (.slice (some ⟨g, 0, none⟩) n cap) (xs.set i ⟨(xs.getD i z60).f0, x⟩) := by
  obtain ⟨c, hcl, hM, hcc, _⟩ := Kd.R_elem h z60 (i : Int) (by omega) (by omega)
  have hc := k60_openM hM
  have := (Kd.R_seg h (i : Int) (by omega) (by omega) (c := c) (seg := [.int .i64 x]) (j := 1) (x' := ⟨(xs.getD i z60).f0, x⟩) (okp := fun k => k ≠ g) hcl hcc (Nat.le_refl 2) (by rw [hc]; exact k60_mkM W base _ _) (fun k hk => ⟨trivial, hk⟩)).1
  have hk : k60.sz = 2 := rfl
  simpa [World.setCells, hk] using this
theorem R_last {W : World} {base g n cap : Nat} {o : List S60} {t : S60} (h : Kd.R k60 60 W base (fun _ => True) (.slice (some ⟨g, 0, none⟩) n cap) (o ++ [t])) :
    n = o.length + 1 ∧ W.cell? ⟨g, o.length * 2, none⟩ = some (.int .i64 t.f0) ∧ W.cell? ⟨g, o.length * 2 + 1, none⟩ = some (.int .i64 t.f1) ∧ W.frozen? ⟨g, o.length * 2 + 1, none⟩ = false := by
  obtain ⟨hn, _, _⟩ := Kd.R_reads' h
  have hn' : n = o.length + 1 := by simpa using hn
  obtain ⟨c, hcl, hM, hcc, hf⟩ := Kd.R_elem h z60 (o.length : Int) (by omega) (by omega)
  have hc := k60_openM hM
  have e : (o ++ [t]).getD ((o.length : Int)).toNat z60 = t := by simp [List.getD_eq_getElem?_getD]
  rw [e] at hc
  subst hc
  have c0 := hcc 0 _ rfl
  have c1 := hcc 1 _ rfl
  have f1 := hf 1
  simp only [Int.toNat_natCast] at c0 c1 f1
  exact ⟨hn', c0, c1, f1⟩
theorem C_one (w : World) (q : S60) : Kd.C k60 (w.alloc (.cells #[.int .i64 q.f0, .int .i64 q.f1] 60)) (some ⟨w.heap.size, 0, none⟩) 1 [q] := by
  refine C_cells _ _ [q] (show 1 ≤ 9223372036854775807 by decide) (fun j hj => ?_)
  obtain rfl : j = 0 := by simp at hj; exact hj
  exact ⟨by rw [World.cell?_alloc_at _ _ _ _ rfl]; rfl, by rw [World.cell?_alloc_at _ _ _ _ rfl]; rfl⟩
set_option maxHeartbeats 4000000 in
set_option maxRecDepth 100000 in
theorem joined_calls (A : Option Addr) (c : Nat) (l : List S60) (w : World) (hr : Kd.C k60 w A l.length l) (hl : l.length * 16 ≤ 140737488355328) (hok : ∀ x ∈ l, Okx x) :
    Calls Try.prog 74 #[.slice A l.length c] w fun e w' => ∃ v l', e = .returned v ∧ RowKit.Below w.heap.size w w' ∧ l'.Perm l ∧ Asc l' ∧ Kd.R k60 60 w' w.heap.size (fun _ => True) v (joinL l') := by
  have HR := Lib.hid hr
  have HOK := Lib.hid hok
  clear hr hok
  go_enter Try.func74, Try.ntmps74
  go_wp2
  go_step3
  go_wp2_with (first
    | (go_at_call 66; go_must (refine (clone_calls A c l w HR.out hl).mono ?_; rintro e w1 ⟨v1, rfl, hB1, hR1⟩))
    | (go_at_call 86; go_must (refine (sort_calls w.heap.size v1 l w1 hR1 hB1.size (by omega)).mono ?_; rintro e w2 ⟨rfl, hB2, l', A2, c2, rfl, hP, hA, hC⟩)))
  have hlen : l'.length = l.length := hP.length_eq
  rw [← hlen] at hC hR1 hl ⊢
  have HB := Lib.hid (Below.trans hB1 hB2)
  have HP := Lib.hid hP
  have HA := Lib.hid hA
  have HC := Lib.hid (fun w' (h : RowKit.Below w2.heap.size w2 w') => Kd.C_below hC h)
  have HOK' := Lib.hid (fun x (hx : x ∈ l') => HOK.out x (hP.mem_iff.1 hx))
  clear hB1 hB2 hP hA hC hR1 HR HOK hlen
  go_step3
  go_wp2
  go_loopw [2, 4, 5, 12] (fun v _ _ i ww => ∃ k : Nat, k ≤ l'.length ∧ i = .int .i64 k ∧ Aside0 (RowKit.Below w2.heap.size w2 ww ∧ Kd.R k60 60 ww w2.heap.size (fun _ => True) v (joinL (l'.take k)))) (fun _ _ _ i _ => l'.length - (intOf i).toNat)
  case atStart => exact ⟨0, Nat.zero_le _, rfl, ⟨Below.refl _ _, by simpa [joinL] using Kd.R_nil _ _ _ _ _⟩⟩
  case round =>
    obtain ⟨k, hk, rfl, HO⟩ := hrel
    by_cases hlt : k < l'.length
    · obtain ⟨ad, rfl, c0, c1⟩ := at_T60 (HC.out _ HO.out.1) (k : Int) (by omega) (by omega)
      simp only [Int.toNat_natCast] at c0 c1
      have hjs := joinL_succ l' k hlt
      have hqm : rd_T60 l' (k : Int) ∈ l' := by
        have e : rd_T60 l' (k : Int) = l'[k] := by simp [rd_T60, List.getD_eq_getElem?_getD, List.getElem?_eq_getElem hlt]
        rw [e]; exact List.getElem_mem hlt
      have hqo := HOK'.out _ hqm
      have hol := joinL_len (l'.take k)
      have hoo := joinL_ok (l'.take k) [] (by simp) (fun x hx => HOK'.out x (List.mem_of_mem_take hx))
      change ∀ x ∈ joinL (l'.take k), Okx x at hoo
      obtain ⟨q, hq⟩ : ∃ q, q = rd_T60 l' (k : Int) := ⟨_, rfl⟩
      rw [← hq] at c0 c1 hjs hqo
      obtain ⟨o, ho⟩ : ∃ o, o = joinL (l'.take k) := ⟨_, rfl⟩
      rw [← ho] at hjs hol hoo HO
      have HJ := Lib.hid hjs
      have HL := Lib.hid (show (o.length + 1) * 16 ≤ 140737488355328 by rw [List.length_take] at hol; omega)
      have HQ := Lib.hid hqo
      have HOO := Lib.hid hoo
      have b2 : (k : Int) < (l'.length : Int) := by omega
      clear hqm hjs hol hqo hoo ho hq
      rcases List.eq_nil_or_concat o with rfl | ⟨o1, t, ho⟩
      · obtain ⟨A5, c5, rfl, _, _⟩ := Kd.R_reads HO.out.2
        go_wp2
        obtain ⟨w5, h5⟩ : ∃ x, x = wr.alloc (.cells #[.int .i64 q.f0, .int .i64 q.f1] 60) := ⟨_, rfl⟩
        have HB5 := Lib.hid (show RowKit.Below w2.heap.size w2 w5 by rw [h5]; exact below_alloc HO.out.1 _)
        have HR5 := Lib.hid (show Kd.R k60 60 w5 w2.heap.size (fun _ => True) (.slice A5 ([] : List S60).length c5) [] by rw [h5]; exact Kd.R_alloc HO.out.2 _)
        have E0 : w5.cell? ⟨wr.heap.size, 0, none⟩ = some (.int .i64 q.f0) := by rw [h5, World.cell?_alloc_at _ _ _ _ rfl]; rfl
        have E1 : w5.cell? ⟨wr.heap.size, 1, none⟩ = some (.int .i64 q.f1) := by rw [h5, World.cell?_alloc_at _ _ _ _ rfl]; rfl
        rw [← h5]
        clear h5 HO
        go_quiet (fail)
        go_wp2_with ((with_reducible refine gate_builtin (b := .append) (xs := #[.tmp 58, .tmp 60]) rfl ?_); at_builtin; go_must (refine app_rows (w0 := w2) w2.heap.size rfl (.tmp 58) (.tmp 60) rfl (.slice A5 ([] : List S60).length c5) [] [q] _ 1 1 rfl rfl (Kd.R_alloc (Kd.R_drewN HR5.out _) _) (C_one _ q) (below_alloc (pw_below_drewN HB5.out _) _) ?aS (by simp) ?_; (case aS => have := HB5.out.size; simp; omega); intro v6 w6 hR6 hB6 hg6; have HR6 := Lib.hid hR6; have HB6 := Lib.hid hB6; clear hR6 hB6 hg6))
        go_roundw
        case rel => exact ⟨k + 1, by omega, by go_num, ⟨HB6.out, by rw [HJ.out, jstep_nil]; exact HR6.out⟩⟩
        case measure => simp [intOf]; omega
      · rw [List.concat_eq_append] at ho
        subst ho
        obtain ⟨g, cap, rfl, hg, _, _⟩ := Kd.R_form HO.out.2 (by simp)
        obtain ⟨n, hn⟩ : ∃ n, n = o1.length := ⟨_, rfl⟩
        have hxl : (o1 ++ [t]).length = n + 1 := by simp [hn]
        rw [hxl] at HO HL ⊢
        have HX := Lib.hid hxl
        have hto := HOO.out t (by simp)
        obtain ⟨t0, t1, t2⟩ := hto
        obtain ⟨q0, q1, q2⟩ := HQ.out
        have hl1 : (n : Int) < 8796093022208 := by have := HL.out; omega
        clear hxl
        have ww1 : wrap64 (((n + 1 : Nat) : Int) - 1) = (n : Int) := by unfold wrap64; omega
        have ww1' : wrap64 (((n : Int) + 1) - 1) = (n : Int) := by unfold wrap64; omega
        have ww2 : wrap64 (t.f0 + t.f1) = t.f0 + t.f1 := by unfold wrap64; omega
        have iw2 : IntKind.i64.wrap (t.f0 + t.f1) = t.f0 + t.f1 := by rw [IntKind.wrap_i64]; omega
        have iw3 : IntKind.i64.wrap (q.f0 + q.f1) = q.f0 + q.f1 := by rw [IntKind.wrap_i64]; omega
        have iw4 : IntKind.i64.wrap (q.f0 + q.f1 - t.f0) = q.f0 + q.f1 - t.f0 := by rw [IntKind.wrap_i64]; omega
        have dn : decide ((0 : Int) ≤ (n : Int)) = true := by simp
        have gn2 : (n : Int) < (n : Int) + 1 := by omega
        have gn1 : (n : Int) < ((n + 1 : Nat) : Int) := by omega
        have HN := Lib.hid hn
        clear t0 t1 t2 q0 q1 q2 hn
        go_wp2
        obtain ⟨w5, h5⟩ : ∃ x, x = wr.alloc (.cells #[.int .i64 q.f0, .int .i64 q.f1] 60) := ⟨_, rfl⟩
        have HB5 := Lib.hid (show RowKit.Below w2.heap.size w2 w5 by rw [h5]; exact below_alloc HO.out.1 _)
        have HR5 := Lib.hid (show Kd.R k60 60 w5 w2.heap.size (fun _ => True) (.slice (some ⟨g, 0, none⟩) (n + 1) cap) (o1 ++ [t]) by rw [h5]; exact Kd.R_alloc HO.out.2 _)
        have E0 : w5.cell? ⟨wr.heap.size, 0, none⟩ = some (.int .i64 q.f0) := by rw [h5, World.cell?_alloc_at _ _ _ _ rfl]; rfl
        have E1 : w5.cell? ⟨wr.heap.size, 1, none⟩ = some (.int .i64 q.f1) := by rw [h5, World.cell?_alloc_at _ _ _ _ rfl]; rfl
        obtain ⟨hrl, F0, F1, F2⟩ := R_last HR5.out
        clear hrl
        rw [← HN.out] at F0 F1 F2
        rw [← h5]
        clear h5 HO
        by_cases hc : q.f0 ≤ t.f0 + t.f1
        · have d1 : decide (q.f0 ≤ t.f0 + t.f1) = true := by simpa using hc
          have HJ2 := Lib.hid (show jstep (o1 ++ [t]) q = o1 ++ [⟨t.f0, max t.f1 (q.f0 + q.f1 - t.f0)⟩] by rw [jstep_snoc, if_pos hc])
          go_quiet (fail)
          go_wp2
          have HB6 : Hid (RowKit.Below w2.heap.size w2 (w5.drewN nq)) := Lib.hid (pw_below_drewN HB5.out _)
          have HR6 : Hid (Kd.R k60 60 (w5.drewN nq) w2.heap.size (fun _ => True) (.slice (some ⟨g, 0, none⟩) (n + 1) cap) (o1 ++ [t])) := Lib.hid (Kd.R_drewN HR5.out _)
          have e0 : (w5.drewN nq).cell? ⟨wr.heap.size, 0, none⟩ = some (.int .i64 q.f0) := E0
          have e1 : (w5.drewN nq).cell? ⟨wr.heap.size, 1, none⟩ = some (.int .i64 q.f1) := E1
          have f0 : (w5.drewN nq).cell? ⟨g, n * 2, none⟩ = some (.int .i64 t.f0) := F0
          have f1 : (w5.drewN nq).cell? ⟨g, n * 2 + 1, none⟩ = some (.int .i64 t.f1) := F1
          have f2 : (w5.drewN nq).frozen? ⟨g, n * 2 + 1, none⟩ = false := F2
          clear E0 E1 F0 F1 F2 HB5 HR5
          generalize w5.drewN nq = w6 at *
          go_still_tail 21, (by kernel_rfl)
          change wpList _ _ _ _ _ w6.drew
          have HB7 : Hid (RowKit.Below w2.heap.size w2 w6.drew) := Lib.hid (below_drew1 HB6.out)
          have HR7 : Hid (Kd.R k60 60 w6.drew w2.heap.size (fun _ => True) (.slice (some ⟨g, 0, none⟩) (n + 1) cap) (o1 ++ [t])) := Lib.hid (Kd.R_drew HR6.out)
          have g1 : w6.drew.cell? ⟨g, n * 2 + 1, none⟩ = some (.int .i64 t.f1) := f1
          have g2 : w6.drew.frozen? ⟨g, n * 2 + 1, none⟩ = false := f2
          clear e0 e1 f0 f1 f2 HB6 HR6
          generalize w6.drew = w7 at *
          have HR8 := Lib.hid (show Kd.R k60 60 (w7.setCell ⟨g, n * 2 + 1, none⟩ (.int .i64 (max t.f1 (q.f0 + q.f1 - t.f0)))) w2.heap.size (fun _ => True) (.slice (some ⟨g, 0, none⟩) (n + 1) cap) (o1 ++ [⟨t.f0, max t.f1 (q.f0 + q.f1 - t.f0)⟩]) by
            have h := R_setlen HR7.out n (by omega) (max t.f1 (q.f0 + q.f1 - t.f0))
            rw [HN.out] at h ⊢
            simpa [List.getD_eq_getElem?_getD] using h)
          have HB8 := Lib.hid (show RowKit.Below w2.heap.size w2 (w7.setCell ⟨g, n * 2 + 1, none⟩ (.int .i64 (max t.f1 (q.f0 + q.f1 - t.f0)))) from HB7.out.setCell (p := ⟨g, n * 2 + 1, none⟩) hg _)
          go_wp2
          go_roundw
          case rel => exact ⟨k + 1, by omega, by go_num, ⟨HB8.out, by rw [HJ.out, HJ2.out]; exact HR8.out⟩⟩
          case measure => simp [intOf]; omega
        · have d1 : decide (q.f0 ≤ t.f0 + t.f1) = false := by simpa using hc
          have HJ2 := Lib.hid (show jstep (o1 ++ [t]) q = (o1 ++ [t]) ++ [q] by rw [jstep_snoc, if_neg hc])
          go_quiet (fail)
          go_wp2_with ((with_reducible refine gate_builtin (b := .append) (xs := #[.tmp 58, .tmp 60]) rfl ?_); at_builtin; go_must (refine app_rows (w0 := w2) w2.heap.size rfl (.tmp 58) (.tmp 60) rfl (.slice (some ⟨g, 0, none⟩) (n + 1) cap) (o1 ++ [t]) [q] _ 1 1 rfl rfl (Kd.R_alloc (Kd.R_drewN HR5.out _) _) (C_one _ q) (below_alloc (pw_below_drewN HB5.out _) _) ?aS (by rw [HX.out]; exact HL.out) ?_; (case aS => have := HB5.out.size; simp; omega); intro v6 w6 hR6 hB6 hg6; have HR6 := Lib.hid hR6; have HB6 := Lib.hid hB6; clear hR6 hB6 hg6))
          go_roundw
          case rel => exact ⟨k + 1, by omega, by go_num, ⟨HB6.out, by rw [HJ.out, HJ2.out]; exact HR6.out⟩⟩
          case measure => simp [intOf]; omega
    · obtain rfl : k = l'.length := by omega
      have hF : l'.take l'.length = l' := List.take_length
      rw [hF] at HO
      have b2 : ¬ (l'.length : Int) < (l'.length : Int) := by omega
      clear hF
      go_wp2
      try rw [Exit.noGoto_ret]
      go_ret
      exact ⟨_, l', rfl, Below.trans HB.out (HO.out.1.mono HB.out.size), HP.out, HA.out, Kd.R_lower HO.out.2 HB.out.size⟩
end Go.Proofs.Ytbebihphodafiaa.Iv
