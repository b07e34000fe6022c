/- Merged texts of this session: The walk of a buffer's Write. The texts of the sorts, and of the sorted keys of a map, at this program: the kit's contracts are laid at it (written by the kit's own tool). What rows of extents that rise and do not touch are: each is told by the blocks it has; joining keeps the blocks. Plain law, no program in it. The walk of the sort of extents by their first block. The walk of joined: extents that rise and do not touch, of any. Walks of the set of extents: made, added to. Walks of the set of extents: asked. What the laws of sets of extents ask, of rows alone. Plain law. Walks of what is read of a buffer whole: the sorted blocks, the writes, how many, the set of the blocks; and of no buffer. -/
import Derived.Test.YtbebihphodafiaaProg
import Derived.Below
import Derived.Deep.Draws
import Derived.Deep.AppendLies
import Derived.Maps.AppendAt
import Derived.OwnWalk
import Derived.Laws.BytesArg
import Derived.Laws.MakeOwn
import Derived.Laws.OwnMore
import Derived.Deep.OwnRows
import Derived.Tactics
import Derived.Lib.ConvBytes
import Derived.Laws.Slices
import Derived.WalkKit
import Derived.KernelRfl
import Derived.RowKit3
import Derived.Deep.LoopGhost
import Derived.Deep.QuietTactic
import Derived.BigQuiet
import Derived.WideLaws
import Derived.Deep.DeepCutAuto
import Derived.Deep.CutBlock
import Derived.Deep.RegionHeld3
import Derived.Laws.Rows
import Derived.Lib.AppendStr
import Derived.ArgAppend
import Derived.Laws.IdiomCopy
import Derived.OrdersHeld
import Derived.Laws.BitsLemmas
import Derived.RowKit
import Derived.Test.YtbebihphodafiaaWWords
import Derived.Test.YtbebihphodafiaaWLast
import Derived.Test.YtbebihphodafiaaWTab
import Derived.Test.YtbebihphodafiaaWFour
import Derived.Test.YtbebihphodafiaaWQPut
import Derived.Test.YtbebihphodafiaaWApart
import Derived.Test.YtbebihphodafiaaWArr
import Derived.Test.YtbebihphodafiaaWZeros
import Derived.Test.YtbebihphodafiaaWFoot
import Derived.Test.YtbebihphodafiaaWKept
import Derived.Test.YtbebihphodafiaaWShare
import Derived.Test.YtbebihphodafiaaWN
import Derived.Test.YtbebihphodafiaaWFootNe
import Derived.Test.YtbebihphodafiaaWAt
import Derived.Test.YtbebihphodafiaaWEqStruct
import Derived.Test.YtbebihphodafiaaWRepsOne
import Derived.Test.YtbebihphodafiaaWInv
import Derived.Test.YtbebihphodafiaaWInvWords
import Derived.Test.YtbebihphodafiaaWGuard
import Derived.Test.YtbebihphodafiaaWNEv
import Derived.Test.YtbebihphodafiaaWMore
import Derived.Outline
import Derived.Lib.Hide
import Derived.Deep.DeepMust
import Derived.RangeFuncOwn
import Derived.IntWalk
import Derived.Shelf.SlIterI.Nil
import Derived.Shelf.SortM.Plain
import Derived.Shelf.SortM.SortNone
import Derived.Shelf.SlSortCmp.NoneTotal
import Derived.StillTailTactics
import Derived.Test.YtbebihphodafiaaZRsetLimits1
namespace Go.Proofs.Ytbebihphodafiaa.Iv
open Go.RowKit Go.Proofs.YtbebihphodafiaaW.PrintWords Go.Proofs.YtbebihphodafiaaW.PrintLast Go.Proofs.YtbebihphodafiaaW.PrintMore Go.Proofs.Ytbebihphodafiaa.PWb Go.Maps
set_option linter.unusedVariables false
set_option linter.unusedSimpArgs false

theorem ent46 : Enters Try.prog 46 := enters_of Try.func46 (by kernel_rfl) rfl
theorem ent47 : Enters Try.prog 47 := enters_of Try.func47 (by kernel_rfl) rfl
theorem contains46 (A : Option Addr) (c : Nat) (l : List S31) (g mb : Nat) (blocks : Int) (W : World) (hr : Kd.C k31 W A l.length l) (hl : l.length ≤ 9223372036854775807) (h0 : W.cell? ⟨g, 0, none⟩ = some (.pointer (some ⟨mb + 1, 0, none⟩))) (h1 : W.cell? ⟨mb + 1, 0, none⟩ = some (.int .i64 blocks)) :
    Calls Try.prog 45 #[.slice A l.length c, .func (.func 46) #[] #[.pointer (some ⟨g, 0, none⟩)]] W fun e w' => e = .returned (.bool (l.any (outB blocks))) ∧ RowKit.Below W.heap.size W w' :=
  containsP_calls 46 #[.pointer (some ⟨g, 0, none⟩)] (outB blocks) ent46 A c l W hr hl (fun W' x A' c' _ hb =>
    (closure46 x A' c' g (mb + 1) blocks W' (pw_cell_below hb h0) (pw_cell_below hb h1)).mono fun r w' ⟨hr, hb'⟩ => ⟨hr, below_step hb hb'⟩)
theorem contains47 (A : Option Addr) (c : Nat) (l : List S31) (W : World) (hr : Kd.C k31 W A l.length l) (hl : l.length ≤ 9223372036854775807) :
    Calls Try.prog 45 #[.slice A l.length c, .func (.func 47) #[] #[]] W fun e w' => e = .returned (.bool (l.any lenB)) ∧ RowKit.Below W.heap.size W w' :=
  containsP_calls 47 #[] lenB ent47 A c l W hr hl (fun W' x A' c' _ hb =>
    (closure47 x A' c' W').mono fun r w' ⟨hr, hb'⟩ => ⟨hr, below_step hb hb'⟩)
theorem IsBuf.len99 {W : World} {fr mb : Nat} {blocks most : Int} {M : List S31} (h : IsBuf W fr mb blocks most M) (ty : TypeId) : (Builtin.len_ #[99] ty #[.map (some mb)]).run Try.prog W = .ok (.int .i64 M.length) W := by
  obtain ⟨D, d1, d2, _, _⟩ := h.map
  rw [d1.len Try.underlying99, d2]
theorem IsBuf.isMap {W : World} {fr mb : Nat} {blocks most : Int} {M : List S31} (h : IsBuf W fr mb blocks most M) : ∃ o : Obj, W.heap[mb]? = some o ∧ o.isCells = false := by
  obtain ⟨D, ⟨es, clock, hb, _⟩, _⟩ := h.map
  exact ⟨_, hb, rfl⟩
/-- A row of writes stays where a map is written. -/
theorem Cb_map {W W' : World} {m : Nat} {A : Option Addr} {n : Nat} {l : List Int} (h : Kd.C kb W A n l) (hg : W.grownBy W' (some m)) (hm : ∃ o : Obj, W.heap[m]? = some o ∧ o.isCells = false) : Kd.C kb W' A n l := by
  refine ⟨h.1, h.2.1, fun hp => ?_⟩
  obtain ⟨ad, he, hc⟩ := h.2.2 hp
  refine ⟨ad, he, fun j p hj => ?_⟩
  obtain ⟨cs, c1, c2, c3⟩ := hc j p hj
  exact ⟨cs, c1, c2, fun i u hu => cell_kept (c3 i u hu) hg (fun r hr => by cases hr; exact hm)⟩
theorem C31_map {W W' : World} {m : Nat} {A : Option Addr} {n : Nat} {l : List S31} (h : Kd.C k31 W A n l) (hg : W.grownBy W' (some m)) (hm : ∃ o : Obj, W.heap[m]? = some o ∧ o.isCells = false) : Kd.C k31 W' A n l := by
  refine ⟨h.1, h.2.1, fun hp => ?_⟩
  obtain ⟨ad, he, hc⟩ := h.2.2 hp
  refine ⟨ad, he, fun j p hj => ?_⟩
  obtain ⟨cs, c1, c2, c3⟩ := hc j p hj
  obtain ⟨A1, n1, rfl, l1, g1⟩ := k31_open c2
  exact ⟨_, c1, k31_mk W' p l1 (Cb_map g1 hg hm), fun i u hu => cell_kept (c3 i u hu) hg (fun r hr => by cases hr; exact hm)⟩
def freshN (M l : List S31) : Nat := l.countP (fun x => !hasM M x.f0)
def insL (M l : List S31) : List S31 := l.foldl ins M
/-- What a write answers, and what it leaves. -/
def wrC (blocks most : Int) (M l : List S31) : Int :=
  if l = [] then 1 else if l.any (outB blocks) = true then 2 else if l.any lenB = true then 3 else if dupB l = true then 4 else if most < (M.length : Int) + (freshN M l : Int) then 7 else 0
def wrM (blocks most : Int) (M l : List S31) : List S31 := if wrC blocks most M l = 0 then insL M l else M
theorem fresh_le (M l : List S31) : freshN M l ≤ l.length := List.countP_le_length
theorem fresh_succ (M l : List S31) (k : Nat) (h : k < l.length) : freshN M (l.take (k + 1)) = freshN M (l.take k) + if hasM M l[k].f0 = true then 0 else 1 := by
  rw [List.take_succ_eq_append_getElem h]
  unfold freshN
  rw [List.countP_append, List.countP_singleton]
  cases hasM M l[k].f0 <;> simp
theorem insL_succ (M l : List S31) (k : Nat) (h : k < l.length) : insL M (l.take (k + 1)) = ins (insL M (l.take k)) l[k] := by
  rw [List.take_succ_eq_append_getElem h]
  unfold insL
  rw [List.foldl_append]
  rfl
/-- The store of one write. -/
theorem put_run {W : World} {fr mb base : Nat} {blocks most : Int} {M : List S31} {x : S31} {v : Value} (h : IsBuf W fr mb blocks most M) (hx : 0 ≤ x.f0 ∧ x.f0 < blocks ∧ x.f1.length = 40)
    (hR : Kd.R kb 5 W base (fun _ => True) v x.f1) (hfr : fr ≤ base) :
    ∃ W2, (Instr.mapUpdate 99 (.map (some mb)) (.int .i64 x.f0) v).run Try.prog W = .ok () W2 ∧ W.grownBy W2 (some mb) ∧ IsBuf W2 fr mb blocks most (ins M x) := by
  obtain ⟨D, d1, d2, d3, d4⟩ := h.map
  have hl := h.len
  have hbl := h.bl
  have key : keyOf Try.prog 3 (.int .i64 x.f0) = some (ky x.f0) := keyOf_int_mk Try.underlying3 (wf_small _ hx.1 (by omega))
  obtain ⟨W2, hrun, hown, hg⟩ := d1.update law3 Try.underlying99 (by unfold maxLen; omega) key (show Rh v = some (.held v, []) from rfl)
  obtain ⟨g, cap, rfl, hb, _, _⟩ := Kd.R_form hR (by omega)
  obtain ⟨_, hc, hC⟩ := Kd.R_reads' hR
  exact ⟨W2, hrun, hg, h.put d1 d2 d3 d4 hown hg hx hc hC (Nat.le_trans hfr hb) (Kd.R_typed hR g rfl)⟩
theorem nodup_len : ∀ (l : List S31) (b : Nat), (l.map (·.f0)).Nodup → (∀ p ∈ l, 0 ≤ p.f0 ∧ p.f0 < (b : Int)) → l.length ≤ b := by
  intro l b h1 h2
  have h3 : (l.map fun p => p.f0.toNat).Nodup := by
    have : (l.map fun p => p.f0.toNat) = (l.map (·.f0)).map Int.toNat := by simp
    rw [this]
    exact List.Pairwise.map _ (fun a b hab => hab) (List.pairwise_iff_getElem.2 (fun i j hi hj hij he => by
      have h4 := List.pairwise_iff_getElem.1 h1 i j hi hj hij
      have hi' : i < l.length := by simpa using hi
      have hj' : j < l.length := by simpa using hj
      have h5 := h2 _ (List.getElem_mem hi')
      have h6 := h2 _ (List.getElem_mem hj')
      rw [List.getElem_map] at h4 he
      rw [List.getElem_map] at h4 he
      exact h4 (by omega)))
  have h4 := List.Nodup.length_le_of_subset h3 (l₂ := List.range b) (fun x hx => by
    obtain ⟨p, hp, rfl⟩ := List.mem_map.1 hx
    have := h2 p hp
    simp; omega)
  simpa using h4

set_option maxHeartbeats 8000000 in
set_option maxRecDepth 100000 in
theorem write_calls (fr mb : Nat) (blocks most : Int) (M : List S31) (A : Option Addr) (c : Nat) (l : List S31) (w : World) (hb : IsBuf w fr mb blocks most M) (hr : Kd.C k31 w A l.length l) (hl : l.length ≤ 140737488355328) (hfr : fr ≤ w.heap.size) :
    Calls Try.prog 17 #[.pointer (some ⟨mb + 1, 0, none⟩), .slice A l.length c] w fun e w' => e = .returned (.int .i64 (wrC blocks most M l)) ∧ IsBuf w' fr mb blocks most (wrM blocks most M l) ∧ w.grownBy w' (some mb) := by
  have HR := Lib.hid (fun w' (h : RowKit.Below w.heap.size w w') => Kd.C_below hr h)
  have HB0 := Lib.hid (fun w' (h : RowKit.Below w.heap.size w w') => hb.below h)
  have HBL := Lib.hid hb.bl
  have HML := Lib.hid hb.len
  have hlt := hb.lt
  have HW0 := Lib.hid (And.intro (below_alloc (Below.refl w.heap.size w) (.cells #[.pointer (some ⟨mb + 1, 0, none⟩)] 23)) (show (w.alloc (.cells #[.pointer (some ⟨mb + 1, 0, none⟩)] 23)).cell? ⟨w.heap.size, 0, none⟩ = some (.pointer (some ⟨mb + 1, 0, none⟩)) from World.cell?_alloc_at (w := w) #[.pointer (some ⟨mb + 1, 0, none⟩)] 23 w.heap.size 0 rfl))
  have t1 : True := trivial
  clear hr hb
  by_cases he : l = []
  · subst he
    have e1 : wrC blocks most M [] = 1 := by simp [wrC]
    have e2 : wrM blocks most M [] = M := by simp [wrM, e1]
    rw [e1, e2]
    clear e1 e2
    go_enter Try.func17, Try.ntmps17
    go_wp2
    try rw [Exit.noGoto_ret]
    go_ret
    exact ⟨rfl, (HB0.out _ HW0.out.1), grown_of_below HW0.out.1 _⟩
  have hne : ¬ ((l.length : Int) = 0) := by
    intro h; exact he (List.length_eq_zero_iff.1 (by omega))
  have hne' : ¬ (l.length = 0) := by omega
  cases ho : l.any (outB blocks) with
  | true =>
    have e1 : wrC blocks most M l = 2 := by simp [wrC, he, ho]
    have e2 : wrM blocks most M l = M := by simp [wrM, e1]
    rw [e1, e2]
    have HO := Lib.hid ho
    clear e1 e2 ho
    go_enter Try.func17, Try.ntmps17
    go_wp2_with (first
      | (go_at_call 45; have _t := t1; clear t1; go_must (refine (contains46 A c l w.heap.size mb blocks _ (HR.out _ HW0.out.1) (by omega) HW0.out.2 (HB0.out _ HW0.out.1).c0).mono ?_; rw [HO.out]; rintro _ w1 ⟨rfl, hB1⟩; have HW1 := Lib.hid (And.intro (below_step HW0.out.1 hB1) (pw_cell_below hB1 HW0.out.2)); have p1 := HW1.out.2; have q1 := (HB0.out _ HW1.out.1).c2; have r1 := (HB0.out _ HW1.out.1).c1; clear hB1)))
    try rw [Exit.noGoto_ret]
    go_ret
    exact ⟨rfl, (HB0.out _ HW1.out.1), grown_of_below HW1.out.1 _⟩
  | false =>
    have hrg : ∀ p ∈ l, 0 ≤ p.f0 ∧ p.f0 < blocks := by
      intro p hp
      have := List.any_eq_false.1 ho p hp
      simp [outB] at this
      exact this
    have HO := Lib.hid ho
    cases hle : l.any lenB with
    | true =>
      have e1 : wrC blocks most M l = 3 := by simp [wrC, he, ho, hle]
      have e2 : wrM blocks most M l = M := by simp [wrM, e1]
      rw [e1, e2]
      have HL := Lib.hid hle
      clear e1 e2 ho hle hrg
      go_enter Try.func17, Try.ntmps17
      go_wp2_with (first
        | (go_at_call 45; have _t := t1; clear t1; go_must (refine (contains46 A c l w.heap.size mb blocks _ (HR.out _ HW0.out.1) (by omega) HW0.out.2 (HB0.out _ HW0.out.1).c0).mono ?_; rw [HO.out]; rintro _ w1 ⟨rfl, hB1⟩; have HW1 := Lib.hid (And.intro (below_step HW0.out.1 hB1) (pw_cell_below hB1 HW0.out.2)); have p1 := HW1.out.2; have q1 := (HB0.out _ HW1.out.1).c2; have r1 := (HB0.out _ HW1.out.1).c1; clear hB1))
        | (go_at_call 45; go_must (refine (contains47 A c l _ (HR.out _ HW1.out.1) (by omega)).mono ?_; rw [HL.out]; rintro _ w2 ⟨rfl, hB2⟩; have HW2 := Lib.hid (And.intro (below_step HW1.out.1 hB2) (pw_cell_below hB2 HW1.out.2)); have p2 := HW2.out.2; have q2 := (HB0.out _ HW2.out.1).c2; have r2 := (HB0.out _ HW2.out.1).c1; clear hB2 p1 q1 r1)))
      try rw [Exit.noGoto_ret]
      go_ret
      exact ⟨rfl, (HB0.out _ HW2.out.1), grown_of_below HW2.out.1 _⟩
    | false =>
      have hl40 : ∀ p ∈ l, p.f1.length = 40 := by
        intro p hp
        have := List.any_eq_false.1 hle p hp
        simpa [lenB] using this
      have HL := Lib.hid hle
      have HRG := Lib.hid (show ∀ p ∈ l, 0 ≤ p.f0 ∧ p.f0 < 1048576 from fun p hp => ⟨(hrg p hp).1, by have := (hrg p hp).2; have := HBL.out; omega⟩)
      cases hd : dupB l with
      | true =>
        have e1 : wrC blocks most M l = 4 := by simp [wrC, he, ho, hle, hd]
        have e2 : wrM blocks most M l = M := by simp [wrM, e1]
        rw [e1, e2]
        have HD := Lib.hid hd
        clear e1 e2 ho hle hrg hl40 hd
        go_enter Try.func17, Try.ntmps17
        go_wp2_with (first
          | (go_at_call 45; have _t := t1; clear t1; go_must (refine (contains46 A c l w.heap.size mb blocks _ (HR.out _ HW0.out.1) (by omega) HW0.out.2 (HB0.out _ HW0.out.1).c0).mono ?_; rw [HO.out]; rintro _ w1 ⟨rfl, hB1⟩; have HW1 := Lib.hid (And.intro (below_step HW0.out.1 hB1) (pw_cell_below hB1 HW0.out.2)); have p1 := HW1.out.2; have q1 := (HB0.out _ HW1.out.1).c2; have r1 := (HB0.out _ HW1.out.1).c1; clear hB1))
          | (go_at_call 45; go_must (refine (contains47 A c l _ (HR.out _ HW1.out.1) (by omega)).mono ?_; rw [HL.out]; rintro _ w2 ⟨rfl, hB2⟩; have HW2 := Lib.hid (And.intro (below_step HW1.out.1 hB2) (pw_cell_below hB2 HW1.out.2)); have p2 := HW2.out.2; have q2 := (HB0.out _ HW2.out.1).c2; have r2 := (HB0.out _ HW2.out.1).c1; clear hB2 p1 q1 r1))
          | (go_at_call 48; go_must (refine (twice_calls A c l _ (HR.out _ HW2.out.1) (by omega) HRG.out).mono ?_; rw [HD.out]; rintro _ w3 ⟨rfl, hB3⟩; have HW3 := Lib.hid (And.intro (below_step HW2.out.1 hB3) (pw_cell_below hB3 HW2.out.2)); have p3 := HW3.out.2; have q3 := (HB0.out _ HW3.out.1).c2; have r3 := (HB0.out _ HW3.out.1).c1; have s3 := (HB0.out _ HW3.out.1).len99; clear hB3 p2 q2 r2)))
        try rw [Exit.noGoto_ret]
        go_ret
        exact ⟨rfl, (HB0.out _ HW3.out.1), grown_of_below HW3.out.1 _⟩
      | false =>
        have hnd : (l.map (·.f0)).Nodup := by simpa [dupB] using hd
        have hlen := nodup_len l 1048576 hnd HRG.out
        have HD := Lib.hid hd
        have HG := Lib.hid hrg
        have H40 := Lib.hid hl40
        have hml := HML.out
        have hfl := fresh_le M l
        have he0 := Lib.hid he
        have HC := Lib.hid (show wrC blocks most M l = if most < (M.length : Int) + (freshN M l : Int) then 7 else 0 by simp [wrC, he, ho, hle, hd])
        clear ho hle hd hnd hrg hl40 he
        go_enter Try.func17, Try.ntmps17
        go_wp2_with (first
          | (go_at_call 45; have _t := t1; clear t1; go_must (refine (contains46 A c l w.heap.size mb blocks _ (HR.out _ HW0.out.1) (by omega) HW0.out.2 (HB0.out _ HW0.out.1).c0).mono ?_; rw [HO.out]; rintro _ w1 ⟨rfl, hB1⟩; have HW1 := Lib.hid (And.intro (below_step HW0.out.1 hB1) (pw_cell_below hB1 HW0.out.2)); have p1 := HW1.out.2; have q1 := (HB0.out _ HW1.out.1).c2; have r1 := (HB0.out _ HW1.out.1).c1; clear hB1))
          | (go_at_call 45; go_must (refine (contains47 A c l _ (HR.out _ HW1.out.1) (by omega)).mono ?_; rw [HL.out]; rintro _ w2 ⟨rfl, hB2⟩; have HW2 := Lib.hid (And.intro (below_step HW1.out.1 hB2) (pw_cell_below hB2 HW1.out.2)); have p2 := HW2.out.2; have q2 := (HB0.out _ HW2.out.1).c2; have r2 := (HB0.out _ HW2.out.1).c1; clear hB2 p1 q1 r1))
          | (go_at_call 48; go_must (refine (twice_calls A c l _ (HR.out _ HW2.out.1) (by omega) HRG.out).mono ?_; rw [HD.out]; rintro _ w3 ⟨rfl, hB3⟩; have HW3 := Lib.hid (And.intro (below_step HW2.out.1 hB3) (pw_cell_below hB3 HW2.out.2)); have p3 := HW3.out.2; have q3 := (HB0.out _ HW3.out.1).c2; have r3 := (HB0.out _ HW3.out.1).c1; have s3 := (HB0.out _ HW3.out.1).len99; clear hB3 p2 q2 r2)))
        clear HW0 HW1 HW2 HO HL HD HRG
        go_loopw [5, 7, 8, 9, 37] (fun n _ _ _ i wr => ∃ k : Nat, k ≤ l.length ∧ i = .int .i64 k ∧ n = .int .i64 (((M.length + freshN M (l.take k) : Nat)) : Int) ∧ Aside0 (RowKit.Below w.heap.size w wr ∧ wr.cell? ⟨w.heap.size, 0, none⟩ = some (.pointer (some ⟨mb + 1, 0, none⟩)))) (fun _ _ _ _ i _ => l.length - (intOf i).toNat)
        case atStart => exact ⟨0, Nat.zero_le _, rfl, by simp [freshN], ⟨HW3.out⟩⟩
        case round =>
          clear HW3 p3 q3 r3 s3
          obtain ⟨k, hk, rfl, rfl, HJ⟩ := hrel
          by_cases hkl : k < l.length
          · obtain ⟨ad, A1, c1, rfl, x0, x1, _, _⟩ := at_T31 (HR.out _ HJ.out.1) (k : Int) (by omega) (by omega)
            simp only [Int.toNat_natCast] at x0 x1
            obtain ⟨q, hq⟩ : ∃ q, q = rd_T31 l (k : Int) := ⟨_, rfl⟩
            rw [← hq] at x0 x1
            have hqe : q = l[k] := by rw [hq]; simp [rd_T31, List.getD_eq_getElem?_getD, List.getElem?_eq_getElem hkl]
            obtain ⟨q0, q1⟩ := HG.out q (by rw [hqe]; exact List.getElem_mem hkl)
            have hfs := fresh_succ M l k hkl
            rw [← hqe] at hfs
            have hfk := fresh_le M (l.take k)
            have htk : (l.take k).length ≤ l.length := by rw [List.length_take]; omega
            obtain ⟨f, hf⟩ : ∃ f, f = freshN M (l.take k) := ⟨_, rfl⟩
            rw [← hf] at hfs hfk ⊢
            have hbl := HBL.out
            have HB5 := Lib.hid (below_alloc HJ.out.1 (.cells #[.int .i64 q.f0, .slice A1 q.f1.length c1] 31))
            obtain ⟨A7, c7, hlk, _, _⟩ := (HB0.out _ HB5.out).look q.f0 (wf_small q.f0 q0 (by omega)) true
            have hlk' := fun n => hlk ((wr.alloc (.cells #[.int .i64 q.f0, .slice A1 q.f1.length c1] 31)).drewN n) rfl
            replace hlk := hlk _ rfl
            rw [if_pos rfl] at hlk
            simp only [if_pos] at hlk'
            have y0 := pw_cell_below (below_alloc (Below.refl _ _) (.cells #[.int .i64 q.f0, .slice A1 q.f1.length c1] 31)) HJ.out.2
            have y1 := (HB0.out _ HB5.out).c2
            have HY := Lib.hid HJ.out.2
            have z0 := World.cell?_alloc_at (w := wr) #[.int .i64 q.f0, .slice A1 q.f1.length c1] 31 wr.heap.size 0 rfl
            have b2 : (k : Int) < (l.length : Int) := by omega
            have HF := Lib.hid hfs
            clear hq hqe hfs hf HJ
            cases hm : hasM M q.f0 with
            | true =>
              rw [hm, if_pos rfl] at HF
              rw [hm] at hlk hlk'
              clear hm
              go_wp2
              go_quiet (fail)
              clear hlk hlk' y0 y1 z0
              have HB6 := Lib.hid (pw_below_drewN HB5.out nq)
              have HP6 := Lib.hid (show ((wr.alloc (.cells #[.int .i64 q.f0, .slice A1 q.f1.length c1] 31)).drewN nq).cell? ⟨w.heap.size, 0, none⟩ = some (.pointer (some ⟨mb + 1, 0, none⟩)) from pw_cell_below (pw_below_drewN (below_alloc (Below.refl _ _) _) _) HY.out)
              go_wp2
              go_roundw
              case rel => exact ⟨k + 1, by omega, by go_num, by rw [HF.out]; rfl, ⟨HB6.out, HP6.out⟩⟩
              case measure => simp [intOf]; omega
            | false =>
              rw [hm] at HF
              replace HF : Hid (freshN M (l.take (k + 1)) = f + 1) := Lib.hid (by rw [HF.out]; rfl)
              rw [hm] at hlk hlk'
              clear hm
              go_wp2
              go_quiet (fail)
              clear hlk hlk' y0 y1 z0
              have HB6 := Lib.hid (pw_below_drewN HB5.out nq)
              have HP6 := Lib.hid (show ((wr.alloc (.cells #[.int .i64 q.f0, .slice A1 q.f1.length c1] 31)).drewN nq).cell? ⟨w.heap.size, 0, none⟩ = some (.pointer (some ⟨mb + 1, 0, none⟩)) from pw_cell_below (pw_below_drewN (below_alloc (Below.refl _ _) _) _) HY.out)
              go_wp2
              go_roundw
              case rel => exact ⟨k + 1, by omega, by go_num, by rw [HF.out]; simp; omega, ⟨HB6.out, HP6.out⟩⟩
              case measure => simp [intOf]; omega
          · obtain rfl : k = l.length := by omega
            have hF : l.take l.length = l := List.take_length
            rw [hF]
            have b2 : ¬ (l.length : Int) < (l.length : Int) := by omega
            have HB4 := Lib.hid HJ.out.1
            have p4 := HJ.out.2
            have c1 := (HB0.out _ HB4.out).c1
            obtain ⟨f, hf⟩ : ∃ f, f = freshN M l := ⟨_, rfl⟩
            rw [← hf] at HC hfl ⊢
            clear hF hf HJ
            by_cases hbig : most < (M.length : Int) + (f : Int)
            · have e1 := HC.out
              rw [if_pos hbig] at e1
              have e2 : wrM blocks most M l = M := by simp [wrM, e1]
              have E1 := Lib.hid e1
              have E2 := Lib.hid e2
              have hbig' : most < ((M.length + f : Nat) : Int) := by omega
              clear e1 e2
              go_wp2
              try rw [Exit.noGoto_ret]
              go_ret
              exact ⟨by rw [E1.out]; rfl, by rw [E2.out]; exact HB0.out _ HB4.out, grown_of_below HB4.out _⟩
            · have e1 := HC.out
              rw [if_neg hbig] at e1
              have e2 : wrM blocks most M l = insL M l := by simp [wrM, e1]
              have E1 := Lib.hid e1
              have E2 := Lib.hid e2
              have hbig' : ¬ most < ((M.length + f : Nat) : Int) := by omega
              clear e1 e2
              go_wp2
              obtain ⟨wo, hwo⟩ : ∃ wo : World, wo = wr := ⟨_, rfl⟩
              subst hwo
              have HP4 := Lib.hid p4
              have HFR := Lib.hid (Nat.le_trans hfr HB4.out.size)
              have HCC := Lib.hid (fun w' (h : wo.grownBy w' (some mb)) => C31_map (HR.out _ HB4.out) h (HB0.out _ HB4.out).isMap)
              clear p4 c1
              go_loopw [11, 64] (fun _ i wr => ∃ k : Nat, k ≤ l.length ∧ i = .int .i64 k ∧ Aside0 (wo.grownBy wr (some mb) ∧ wr.cell? ⟨w.heap.size, 0, none⟩ = some (.pointer (some ⟨mb + 1, 0, none⟩)) ∧ IsBuf wr fr mb blocks most (insL M (l.take k)) ∧ wo.heap.size ≤ wr.heap.size)) (fun _ i _ => l.length - (intOf i).toNat)
              case atStart => exact ⟨0, Nat.zero_le _, rfl, ⟨World.grownBy.refl _ _, HP4.out, HB0.out _ HB4.out, Nat.le_refl _⟩⟩
              case round =>
                obtain ⟨k, hk, rfl, HJ⟩ := hrel
                by_cases hkl : k < l.length
                · obtain ⟨ad, A1, c1, rfl, x0, x1, x2, x3⟩ := at_T31 (HCC.out _ HJ.out.1) (k : Int) (by omega) (by omega)
                  simp only [Int.toNat_natCast] at x0 x1
                  obtain ⟨q, hq⟩ : ∃ q, q = rd_T31 l (k : Int) := ⟨_, rfl⟩
                  rw [← hq] at x0 x1 x2 x3
                  have hqe : q = l[k] := by rw [hq]; simp [rd_T31, List.getD_eq_getElem?_getD, List.getElem?_eq_getElem hkl]
                  have hqm : q ∈ l := by rw [hqe]; exact List.getElem_mem hkl
                  have HQ := Lib.hid (show (0 ≤ q.f0 ∧ q.f0 < blocks) ∧ q.f1.length = 40 from ⟨HG.out q hqm, H40.out q hqm⟩)
                  have HIL := Lib.hid (show insL M (l.take (k + 1)) = ins (insL M (l.take k)) q by rw [insL_succ M l k hkl, hqe])
                  have b2 : (k : Int) < (l.length : Int) := by omega
                  obtain ⟨M', hM'⟩ : ∃ M', M' = insL M (l.take k) := ⟨_, rfl⟩
                  rw [← hM'] at HIL HJ
                  have HX3 := Lib.hid x3
                  have HJ5 := Lib.hid HJ.out
                  clear hq hqe hqm hM' x2 x3 HJ
                  go_wp2
                  obtain ⟨w5, h5⟩ : ∃ y, y = wr.alloc (.cells #[.int .i64 q.f0, .slice A1 q.f1.length c1] 31) := ⟨_, rfl⟩
                  have y0 := World.cell?_alloc_at (w := wr) #[.int .i64 q.f0, .slice A1 q.f1.length c1] 31 wr.heap.size 0 rfl
                  have y1 := World.cell?_alloc_at (w := wr) #[.int .i64 q.f0, .slice A1 q.f1.length c1] 31 wr.heap.size 1 rfl
                  have hb5 := below_alloc (Below.refl wr.heap.size wr) (.cells #[.int .i64 q.f0, .slice A1 q.f1.length c1] 31)
                  rw [← h5] at y0 y1 hb5 ⊢
                  clear h5
                  have y2 := pw_cell_below hb5 HJ5.out.2.1
                  have HB5 := Lib.hid (HJ5.out.2.2.1.below (below_drew1 hb5))
                  have y3 : w5.cell? ⟨mb + 1, 2, none⟩ = some (.map (some mb)) := HB5.out.c2
                  have HX5 := Lib.hid (Kd.C_below HX3.out (below_drew1 hb5))
                  have HG5 := Lib.hid (grown_trans HJ5.out.1 (grown_of_below (below_drew1 hb5) _))
                  have HS5 := Lib.hid (Nat.le_trans HJ5.out.2.2.2 hb5.size)
                  have HIM := Lib.hid (fun w' (h : RowKit.Below w5.drew.heap.size w5.drew w') => (HB5.out.below h).isMap)
                  clear hb5 x0 x1 HX3
                  have y0' : w5.cell? ⟨wr.heap.size, 0, none⟩ = some (.int .i64 q.f0) := y0
                  have y1' : w5.cell? ⟨wr.heap.size, 1, none⟩ = some (.slice A1 q.f1.length c1) := y1
                  clear y0 y1
                  go_region_held3 (fun w' => w'.cell? ⟨w.heap.size, 0, none⟩ = some (.pointer (some ⟨mb + 1, 0, none⟩)) ∧ w'.cell? ⟨mb + 1, 2, none⟩ = some (.map (some mb)) ∧ w'.cell? ⟨wr.heap.size, 0, none⟩ = some (.int .i64 q.f0) ∧ w'.cell? ⟨wr.heap.size, 1, none⟩ = some (.slice A1 q.f1.length c1))
                    (first | exact HS7.out | exact HS6.out | exact ⟨y2, y3, y0', y1'⟩)
                    ((go_at_call 49; refine (cloneB_calls A1 c1 q.f1 _ HX5.out (by have := HQ.out.2; omega)).mono ?_; rintro _ w6 ⟨v6, rfl, hB6, hR6⟩; have HS6 := Lib.hid (show w6.cell? ⟨w.heap.size, 0, none⟩ = some (.pointer (some ⟨mb + 1, 0, none⟩)) ∧ w6.cell? ⟨mb + 1, 2, none⟩ = some (.map (some mb)) ∧ w6.cell? ⟨wr.heap.size, 0, none⟩ = some (.int .i64 q.f0) ∧ w6.cell? ⟨wr.heap.size, 1, none⟩ = some (.slice A1 q.f1.length c1) from ⟨pw_cell_below hB6 y2, pw_cell_below hB6 y3, pw_cell_below hB6 y0', pw_cell_below hB6 y1'⟩); have HPK := Lib.hid (put_run (fr := fr) (blocks := blocks) (most := most) (M := M') (x := q) (v := v6) (HB5.out.below hB6) ⟨HQ.out.1.1, HQ.out.1.2, HQ.out.2⟩ hR6 (by have h1 := HS5.out; have h2 : w5.heap.size = w5.drew.heap.size := rfl; have h3 := HFR.out; omega)); obtain ⟨w7, hrun7, hg7, hb7⟩ := HPK.out; have HS7 := Lib.hid (show w7.cell? ⟨w.heap.size, 0, none⟩ = some (.pointer (some ⟨mb + 1, 0, none⟩)) ∧ w7.cell? ⟨mb + 1, 2, none⟩ = some (.map (some mb)) ∧ w7.cell? ⟨wr.heap.size, 0, none⟩ = some (.int .i64 q.f0) ∧ w7.cell? ⟨wr.heap.size, 1, none⟩ = some (.slice A1 q.f1.length c1) from ⟨cell_kept HS6.out.1 hg7 (fun r hr => by cases hr; exact HIM.out _ hB6), cell_kept HS6.out.2.1 hg7 (fun r hr => by cases hr; exact HIM.out _ hB6), cell_kept HS6.out.2.2.1 hg7 (fun r hr => by cases hr; exact HIM.out _ hB6), cell_kept HS6.out.2.2.2 hg7 (fun r hr => by cases hr; exact HIM.out _ hB6)⟩); have HG7 := Lib.hid (grown_trans HG5.out (grown_trans (grown_of_below hB6 _) hg7)); have HB7 := Lib.hid hb7; have HS8 := Lib.hid (Nat.le_trans (Nat.le_trans HS5.out hB6.size) hg7.size); clear hR6 hB6 hg7 hb7 HPK))
                  go_wp2
                  go_roundw
                  case rel => exact ⟨k + 1, by omega, by go_num, ⟨HG7.out, HS7.out.1, by rw [HIL.out]; exact HB7.out, HS8.out⟩⟩
                  case measure => simp [intOf]; omega
                · obtain rfl : k = l.length := by omega
                  have hF : l.take l.length = l := List.take_length
                  rw [hF] at HJ
                  have HJ5 := Lib.hid HJ.out
                  have b2 : ¬ (l.length : Int) < (l.length : Int) := by omega
                  clear hF HJ
                  go_wp2
                  try rw [Exit.noGoto_ret]
                  go_ret
                  exact ⟨by rw [E1.out]; rfl, by rw [E2.out]; exact HJ5.out.2.2.1, grown_trans (grown_of_below HB4.out _) HJ5.out.1⟩
end Go.Proofs.Ytbebihphodafiaa.Iv

namespace Go.Proofs.Ytbebihphodafiaa.Iv
open Go.Shelf
def keysX_ren : Go.Shelf.Ren := ⟨fun | 7 => 52 | 10 => 70 | n => n, fun | 23 => 99 | 26 => 3 | 3 => 28 | 28 => 110 | 0 => 0 | 27 => 109 | 33 => 98 | 4 => 4 | n => n, fun | n => n⟩
theorem keysX : Go.Proofs.SlLaysZI.n7 Try.prog keysX_ren := {
  mixed := by kernel_rfl
  f7 := ⟨Try.f52.name, by decide, Try.func52.trans (congrArg some (by kernel_rfl))⟩
  f10 := ⟨Try.f70.name, by decide, Try.func70.trans (congrArg some (by kernel_rfl))⟩
  t0 := Try.underlying0
  a0 := Try.isAgg0
  z0 := Try.sizeOf0
  v0 := Try.zeroValue0
  t4 := Try.underlying4
  a4 := Try.isAgg4
  z4 := Try.sizeOf4
  v4 := Try.zeroValue4
  t23 := Try.underlying99
  a23 := Try.isAgg99
  z23 := Try.sizeOf99
  v23 := Try.zeroValue99
  t26 := Try.underlying3
  a26 := Try.isAgg3
  z26 := Try.sizeOf3
  v26 := Try.zeroValue3
  t27 := Try.underlying109
  a27 := Try.isAgg109
  z27 := Try.sizeOf109
  v27 := Try.zeroValue109
  t28 := Try.underlying110
  a28 := Try.isAgg110
  z28 := Try.sizeOf110
  v28 := Try.zeroValue110
  t33 := Try.underlying98
  a33 := Try.isAgg98
  z33 := Try.sizeOf98
  v33 := Try.zeroValue98 }
def sortedX_ren : Go.Shelf.Ren := ⟨fun | 6 => 51 | 8 => 68 | 9 => 69 | 11 => 79 | 13 => 81 | 12 => 80 | 23 => 99 | 24 => 100 | 14 => 90 | 15 => 91 | 16 => 92 | 17 => 93 | 18 => 94 | 19 => 95 | 20 => 96 | 21 => 97 | 22 => 98 | 25 => 104 | 26 => 105 | 27 => 106 | 28 => 107 | 29 => 108 | 30 => 103 | 31 => 117 | n => n, fun | 26 => 3 | 28 => 110 | 24 => 107 | 0 => 0 | 3 => 3 | 37 => 147 | 48 => 162 | 50 => 164 | 4 => 4 | 40 => 155 | 39 => 154 | 45 => 159 | 5 => 5 | 9 => 9 | 51 => 167 | 55 => 171 | 57 => 178 | 58 => 179 | 33 => 98 | n => n, fun | n => n⟩
theorem sortedX : Go.Proofs.SlLaysZI.n6 Try.prog sortedX_ren := {
  mixed := by kernel_rfl
  f6 := ⟨Try.f51.name, by decide, Try.func51.trans (congrArg some (by kernel_rfl))⟩
  f8 := ⟨Try.f68.name, by decide, Try.func68.trans (congrArg some (by kernel_rfl))⟩
  f11 := ⟨Try.f79.name, by decide, Try.func79.trans (congrArg some (by kernel_rfl))⟩
  t0 := Try.underlying0
  a0 := Try.isAgg0
  z0 := Try.sizeOf0
  v0 := Try.zeroValue0
  t24 := Try.underlying107
  a24 := Try.isAgg107
  z24 := Try.sizeOf107
  v24 := Try.zeroValue107
  t26 := Try.underlying3
  a26 := Try.isAgg3
  z26 := Try.sizeOf3
  v26 := Try.zeroValue3
  t28 := Try.underlying110
  a28 := Try.isAgg110
  z28 := Try.sizeOf110
  v28 := Try.zeroValue110
  i26 := by kernel_rfl }
def sortI_ren : Go.Shelf.Ren := ⟨fun | 5 => 69 | 8 => 81 | 7 => 80 | 19 => 99 | 20 => 100 | 10 => 90 | 11 => 91 | 12 => 92 | 13 => 93 | 14 => 94 | 15 => 95 | 16 => 96 | 17 => 97 | 18 => 98 | 30 => 104 | 31 => 105 | 32 => 106 | 33 => 107 | 34 => 108 | 35 => 103 | 40 => 117 | n => n, fun | 23 => 107 | 25 => 3 | 3 => 3 | 32 => 147 | 22 => 107 | 0 => 0 | 44 => 162 | 46 => 164 | 4 => 4 | 36 => 155 | 35 => 154 | 41 => 159 | 5 => 5 | 9 => 9 | 53 => 167 | 57 => 171 | 63 => 178 | 64 => 179 | n => n, fun | n => n⟩
theorem sortI : Go.Proofs.SlLaysM.n5 Try.prog sortI_ren := {
  mixed := by kernel_rfl
  f5 := ⟨Try.f69.name, by decide, Try.func69.trans (congrArg some (by kernel_rfl))⟩
  f7 := ⟨Try.f80.name, by decide, Try.func80.trans (congrArg some (by kernel_rfl))⟩
  f8 := Try.func81.trans (congrArg some (by kernel_rfl))
  f10 := ⟨Try.f90.name, by decide, Try.func90.trans (congrArg some (by kernel_rfl))⟩
  f11 := ⟨Try.f91.name, by decide, Try.func91.trans (congrArg some (by kernel_rfl))⟩
  f12 := ⟨Try.f92.name, by decide, Try.func92.trans (congrArg some (by kernel_rfl))⟩
  f13 := ⟨Try.f93.name, by decide, Try.func93.trans (congrArg some (by kernel_rfl))⟩
  f14 := ⟨Try.f94.name, by decide, Try.func94.trans (congrArg some (by kernel_rfl))⟩
  f15 := ⟨Try.f95.name, by decide, Try.func95.trans (congrArg some (by kernel_rfl))⟩
  f16 := ⟨Try.f96.name, by decide, Try.func96.trans (congrArg some (by kernel_rfl))⟩
  f17 := ⟨Try.f97.name, by decide, Try.func97.trans (congrArg some (by kernel_rfl))⟩
  f18 := ⟨Try.f98.name, by decide, Try.func98.trans (congrArg some (by kernel_rfl))⟩
  f19 := Try.func99.trans (congrArg some (by kernel_rfl))
  f20 := Try.func100.trans (congrArg some (by kernel_rfl))
  f30 := ⟨Try.f104.name, by decide, Try.func104.trans (congrArg some (by kernel_rfl))⟩
  f31 := Try.func105.trans (congrArg some (by kernel_rfl))
  f32 := Try.func106.trans (congrArg some (by kernel_rfl))
  f33 := ⟨Try.f107.name, by decide, Try.func107.trans (congrArg some (by kernel_rfl))⟩
  f34 := ⟨Try.f108.name, by decide, Try.func108.trans (congrArg some (by kernel_rfl))⟩
  f35 := ⟨Try.f103.name, by decide, Try.func103.trans (congrArg some (by kernel_rfl))⟩
  f40 := ⟨Try.f117.name, by decide, Try.func117.trans (congrArg some (by kernel_rfl))⟩
  t0 := Try.underlying0
  a0 := Try.isAgg0
  z0 := Try.sizeOf0
  v0 := Try.zeroValue0
  t3 := Try.underlying3
  a3 := Try.isAgg3
  z3 := Try.sizeOf3
  v3 := Try.zeroValue3
  t4 := Try.underlying4
  a4 := Try.isAgg4
  z4 := Try.sizeOf4
  v4 := Try.zeroValue4
  t5 := Try.underlying5
  a5 := Try.isAgg5
  z5 := Try.sizeOf5
  v5 := Try.zeroValue5
  t9 := Try.underlying9
  a9 := Try.isAgg9
  z9 := Try.sizeOf9
  v9 := Try.zeroValue9
  t22 := Try.underlying107
  a22 := Try.isAgg107
  z22 := Try.sizeOf107
  v22 := Try.zeroValue107
  t23 := Try.underlying107
  a23 := Try.isAgg107
  z23 := Try.sizeOf107
  v23 := Try.zeroValue107
  t25 := Try.underlying3
  a25 := Try.isAgg3
  z25 := Try.sizeOf3
  v25 := Try.zeroValue3
  t32 := Try.underlying147
  a32 := Try.isAgg147
  z32 := Try.sizeOf147
  v32 := Try.zeroValue147
  t35 := Try.underlying154
  a35 := Try.isAgg154
  z35 := Try.sizeOf154
  v35 := Try.zeroValue154
  t36 := Try.underlying155
  a36 := Try.isAgg155
  z36 := Try.sizeOf155
  v36 := Try.zeroValue155
  t41 := Try.underlying159
  a41 := Try.isAgg159
  z41 := Try.sizeOf159
  v41 := Try.zeroValue159
  t44 := Try.underlying162
  a44 := Try.isAgg162
  z44 := Try.sizeOf162
  v44 := Try.zeroValue162
  t46 := Try.underlying164
  a46 := Try.isAgg164
  z46 := Try.sizeOf164
  v46 := Try.zeroValue164
  t53 := Try.underlying167
  a53 := Try.isAgg167
  z53 := Try.sizeOf167
  v53 := Try.zeroValue167
  t57 := Try.underlying171
  a57 := Try.isAgg171
  z57 := Try.sizeOf171
  v57 := Try.zeroValue171
  t63 := Try.underlying178
  a63 := Try.isAgg178
  z63 := Try.sizeOf178
  v63 := Try.zeroValue178
  t64 := Try.underlying179
  a64 := Try.isAgg179
  z64 := Try.sizeOf179
  v64 := Try.zeroValue179 }
def sortX_ren : Go.Shelf.Ren := ⟨fun | 6 => 86 | 15 => 81 | 14 => 102 | 28 => 99 | 29 => 100 | 20 => 109 | 21 => 110 | 22 => 111 | 23 => 112 | 24 => 113 | 25 => 114 | 26 => 115 | 27 => 116 | 46 => 118 | 47 => 105 | 48 => 106 | 49 => 119 | 50 => 120 | 57 => 121 | n => n, fun | 22 => 83 | 24 => 60 | 25 => 150 | 3 => 3 | 39 => 147 | 0 => 0 | 53 => 162 | 55 => 164 | 4 => 4 | 46 => 155 | 45 => 154 | 50 => 159 | 5 => 5 | 9 => 9 | 66 => 167 | 70 => 171 | 76 => 178 | 77 => 179 | n => n, fun | n => n⟩
theorem sortX : Go.Proofs.SlLaysF0.n6 Try.prog sortX_ren := {
  mixed := by kernel_rfl
  f6 := ⟨Try.f86.name, by decide, Try.func86.trans (congrArg some (by kernel_rfl))⟩
  f14 := ⟨Try.f102.name, by decide, Try.func102.trans (congrArg some (by kernel_rfl))⟩
  f15 := Try.func81.trans (congrArg some (by kernel_rfl))
  f20 := ⟨Try.f109.name, by decide, Try.func109.trans (congrArg some (by kernel_rfl))⟩
  f21 := ⟨Try.f110.name, by decide, Try.func110.trans (congrArg some (by kernel_rfl))⟩
  f22 := ⟨Try.f111.name, by decide, Try.func111.trans (congrArg some (by kernel_rfl))⟩
  f23 := ⟨Try.f112.name, by decide, Try.func112.trans (congrArg some (by kernel_rfl))⟩
  f24 := ⟨Try.f113.name, by decide, Try.func113.trans (congrArg some (by kernel_rfl))⟩
  f25 := ⟨Try.f114.name, by decide, Try.func114.trans (congrArg some (by kernel_rfl))⟩
  f26 := ⟨Try.f115.name, by decide, Try.func115.trans (congrArg some (by kernel_rfl))⟩
  f27 := ⟨Try.f116.name, by decide, Try.func116.trans (congrArg some (by kernel_rfl))⟩
  f28 := Try.func99.trans (congrArg some (by kernel_rfl))
  f29 := Try.func100.trans (congrArg some (by kernel_rfl))
  f46 := ⟨Try.f118.name, by decide, Try.func118.trans (congrArg some (by kernel_rfl))⟩
  f47 := Try.func105.trans (congrArg some (by kernel_rfl))
  f48 := Try.func106.trans (congrArg some (by kernel_rfl))
  f49 := ⟨Try.f119.name, by decide, Try.func119.trans (congrArg some (by kernel_rfl))⟩
  f50 := ⟨Try.f120.name, by decide, Try.func120.trans (congrArg some (by kernel_rfl))⟩
  f57 := ⟨Try.f121.name, by decide, Try.func121.trans (congrArg some (by kernel_rfl))⟩
  t0 := Try.underlying0
  a0 := Try.isAgg0
  z0 := Try.sizeOf0
  v0 := Try.zeroValue0
  t3 := Try.underlying3
  a3 := Try.isAgg3
  z3 := Try.sizeOf3
  v3 := Try.zeroValue3
  t4 := Try.underlying4
  a4 := Try.isAgg4
  z4 := Try.sizeOf4
  v4 := Try.zeroValue4
  t5 := Try.underlying5
  a5 := Try.isAgg5
  z5 := Try.sizeOf5
  v5 := Try.zeroValue5
  t9 := Try.underlying9
  a9 := Try.isAgg9
  z9 := Try.sizeOf9
  v9 := Try.zeroValue9
  t22 := Try.underlying83
  a22 := Try.isAgg83
  z22 := Try.sizeOf83
  v22 := Try.zeroValue83
  t25 := Try.underlying150
  a25 := Try.isAgg150
  z25 := Try.sizeOf150
  v25 := Try.zeroValue150
  t39 := Try.underlying147
  a39 := Try.isAgg147
  z39 := Try.sizeOf147
  v39 := Try.zeroValue147
  t45 := Try.underlying154
  a45 := Try.isAgg154
  z45 := Try.sizeOf154
  v45 := Try.zeroValue154
  t46 := Try.underlying155
  a46 := Try.isAgg155
  z46 := Try.sizeOf155
  v46 := Try.zeroValue155
  t50 := Try.underlying159
  a50 := Try.isAgg159
  z50 := Try.sizeOf159
  v50 := Try.zeroValue159
  t53 := Try.underlying162
  a53 := Try.isAgg162
  z53 := Try.sizeOf162
  v53 := Try.zeroValue162
  t55 := Try.underlying164
  a55 := Try.isAgg164
  z55 := Try.sizeOf164
  v55 := Try.zeroValue164
  t66 := Try.underlying167
  a66 := Try.isAgg167
  z66 := Try.sizeOf167
  v66 := Try.zeroValue167
  t70 := Try.underlying171
  a70 := Try.isAgg171
  z70 := Try.sizeOf171
  v70 := Try.zeroValue171
  t76 := Try.underlying178
  a76 := Try.isAgg178
  z76 := Try.sizeOf178
  v76 := Try.zeroValue178
  t77 := Try.underlying179
  a77 := Try.isAgg179
  z77 := Try.sizeOf179
  v77 := Try.zeroValue179 }
end Go.Proofs.Ytbebihphodafiaa.Iv

namespace Go.Proofs.Ytbebihphodafiaa.Iv
open Go.Proofs.Ytbebihphodafiaa.PWb
set_option linter.unusedVariables false
set_option linter.unusedSimpArgs false

def In (e : S60) (x : Int) : Prop := e.f0 ≤ x ∧ x < e.f0 + e.f1
def Cov (l : List S60) (x : Int) : Prop := ∃ e ∈ l, In e x
/-- They rise and do not touch. -/
def Nf (l : List S60) : Prop := l.Pairwise (fun a b => a.f0 + a.f1 < b.f0) ∧ ∀ e ∈ l, 1 ≤ e.f1
def jstep (out : List S60) (e : S60) : List S60 :=
  match out.getLast? with
  | none => [e]
  | some t => if e.f0 ≤ t.f0 + t.f1 then out.dropLast ++ [⟨t.f0, max t.f1 (e.f0 + e.f1 - t.f0)⟩] else out ++ [e]
def joinL (l : List S60) : List S60 := l.foldl jstep []
theorem jstep_nil (e : S60) : jstep [] e = [e] := rfl
theorem jstep_snoc (o : List S60) (t e : S60) : jstep (o ++ [t]) e = if e.f0 ≤ t.f0 + t.f1 then o ++ [⟨t.f0, max t.f1 (e.f0 + e.f1 - t.f0)⟩] else (o ++ [t]) ++ [e] := by
  simp [jstep]
theorem jstep_len (o : List S60) (e : S60) : (jstep o e).length ≤ o.length + 1 := by
  rcases List.eq_nil_or_concat o with rfl | ⟨o1, t, rfl⟩
  · simp [jstep_nil]
  · rw [List.concat_eq_append, jstep_snoc]
    split <;> simp
theorem joinL_len' (l : List S60) : ∀ o : List S60, (l.foldl jstep o).length ≤ o.length + l.length := by
  induction l with
  | nil => intro o; simp
  | cons e l ih => intro o; have h1 := ih (jstep o e); have h2 := jstep_len o e; simp only [List.foldl_cons, List.length_cons]; omega
theorem joinL_len (l : List S60) : (joinL l).length ≤ l.length := by have := joinL_len' l []; simpa [joinL] using this
def Asc (l : List S60) : Prop := l.Pairwise (fun a b => a.f0 ≤ b.f0)
theorem cov_nil (x : Int) : ¬ Cov [] x := fun ⟨e, h, _⟩ => by simp at h
theorem cov_append (a b : List S60) (x : Int) : Cov (a ++ b) x ↔ Cov a x ∨ Cov b x := by
  simp only [Cov, List.mem_append]
  constructor
  · rintro ⟨e, h | h, hx⟩
    · exact .inl ⟨e, h, hx⟩
    · exact .inr ⟨e, h, hx⟩
  · rintro (⟨e, h, hx⟩ | ⟨e, h, hx⟩)
    · exact ⟨e, .inl h, hx⟩
    · exact ⟨e, .inr h, hx⟩
theorem cov_one (e : S60) (x : Int) : Cov [e] x ↔ In e x := by simp [Cov]
theorem cov_perm {a b : List S60} (h : a.Perm b) (x : Int) : Cov a x ↔ Cov b x := by
  simp only [Cov, h.mem_iff]
theorem cov_cons (e : S60) (a : List S60) (x : Int) : Cov (e :: a) x ↔ In e x ∨ Cov a x := by
  simp [Cov]
/-- A step: the blocks of both, and still they rise and do not touch. -/
theorem jstep_nf (o : List S60) (e : S60) (ho : Nf o) (he : 1 ≤ e.f1) (hlo : ∀ a ∈ o, a.f0 ≤ e.f0) :
    Nf (jstep o e) ∧ (∀ x, Cov (jstep o e) x ↔ Cov o x ∨ In e x) ∧ ∀ a ∈ jstep o e, a.f0 ≤ e.f0 := by
  rcases List.eq_nil_or_concat o with rfl | ⟨o1, t, rfl⟩
  · rw [jstep_nil]
    refine ⟨⟨List.pairwise_singleton _ _, by simpa using he⟩, fun x => ?_, by simp⟩
    rw [cov_one]
    simp [cov_nil]
  · rw [List.concat_eq_append] at *
    rw [jstep_snoc]
    obtain ⟨h1, h2⟩ := ho
    rw [List.pairwise_append] at h1
    obtain ⟨p1, _, p3⟩ := h1
    have ht := h2 t (by simp)
    have htl := hlo t (by simp)
    split
    · rename_i hle
      refine ⟨⟨?_, ?_⟩, fun x => ?_, ?_⟩
      · rw [List.pairwise_append]
        refine ⟨p1, List.pairwise_singleton _ _, fun a ha b hb => ?_⟩
        simp at hb
        subst hb
        exact p3 a ha t (by simp)
      · intro a ha
        rcases List.mem_append.1 ha with h | h
        · exact h2 a (by simp [h])
        · simp at h; subst h; simp only; omega
      · rw [cov_append, cov_append, cov_one, cov_one]
        unfold In
        simp only
        constructor
        · rintro (h | h)
          · exact .inl (.inl h)
          · by_cases hx : x < t.f0 + t.f1
            · exact .inl (.inr ⟨h.1, hx⟩)
            · exact .inr ⟨by omega, by omega⟩
        · rintro ((h | h) | h)
          · exact .inl h
          · exact .inr ⟨h.1, by omega⟩
          · exact .inr ⟨by omega, by omega⟩
      · intro a ha
        rcases List.mem_append.1 ha with h | h
        · exact hlo a (by simp [h])
        · simp at h; subst h; exact htl
    · rename_i hle
      refine ⟨⟨?_, ?_⟩, fun x => ?_, ?_⟩
      · rw [List.pairwise_append]
        refine ⟨by rw [List.pairwise_append]; exact ⟨p1, List.pairwise_singleton _ _, p3⟩, List.pairwise_singleton _ _, fun a ha b hb => ?_⟩
        simp at hb
        subst hb
        rcases List.mem_append.1 ha with h | h
        · have := p3 a h t (by simp)
          omega
        · simp at h; subst h; omega
      · intro a ha
        rcases List.mem_append.1 ha with h | h
        · exact h2 a h
        · simp at h; subst h; exact he
      · rw [cov_append, cov_one]
      · intro a ha
        rcases List.mem_append.1 ha with h | h
        · exact hlo a h
        · simp at h; subst h; exact Int.le_refl _
theorem fold_nf (l : List S60) : ∀ o : List S60, Nf o → Asc l → (∀ e ∈ l, 1 ≤ e.f1) → (∀ a ∈ o, ∀ e ∈ l, a.f0 ≤ e.f0) →
    Nf (l.foldl jstep o) ∧ ∀ x, Cov (l.foldl jstep o) x ↔ Cov o x ∨ Cov l x := by
  induction l with
  | nil => intro o ho _ _ _; exact ⟨ho, fun x => by simp [cov_nil]⟩
  | cons e l ih =>
    intro o ho ha hl hlo
    obtain ⟨h1, h2, h3⟩ := jstep_nf o e ho (hl e (by simp)) (fun a h => hlo a h e (by simp))
    obtain ⟨a1, a2⟩ := List.pairwise_cons.1 ha
    obtain ⟨k1, k2⟩ := ih (jstep o e) h1 a2 (fun x hx => hl x (by simp [hx])) (fun a h f hf => Int.le_trans (h3 a h) (a1 f hf))
    refine ⟨k1, fun x => ?_⟩
    rw [List.foldl_cons, k2 x, h2 x, cov_cons, or_assoc]
theorem joinL_nf (l : List S60) (ha : Asc l) (hl : ∀ e ∈ l, 1 ≤ e.f1) : Nf (joinL l) ∧ ∀ x, Cov (joinL l) x ↔ Cov l x := by
  obtain ⟨h1, h2⟩ := fold_nf l [] ⟨List.Pairwise.nil, by simp⟩ ha hl (by simp)
  exact ⟨h1, fun x => by rw [joinL, h2 x]; simp [cov_nil]⟩
/-- Each is told by its blocks. -/
theorem nf_unique : ∀ (a b : List S60), Nf a → Nf b → (∀ x, Cov a x ↔ Cov b x) → a = b := by
  intro a
  induction a with
  | nil =>
    intro b _ hb h
    cases b with
    | nil => rfl
    | cons f b =>
      have h1 := hb.2 f (by simp)
      exact absurd ((h f.f0).2 ⟨f, by simp, by unfold In; omega⟩) (cov_nil _)
  | cons e a ih =>
    intro b ha hb h
    cases b with
    | nil =>
      have h1 := ha.2 e (by simp)
      exact absurd ((h e.f0).1 ⟨e, by simp, by unfold In; omega⟩) (cov_nil _)
    | cons f b =>
      obtain ⟨a1, a2⟩ := List.pairwise_cons.1 ha.1
      obtain ⟨b1, b2⟩ := List.pairwise_cons.1 hb.1
      have he := ha.2 e (by simp)
      have hf := hb.2 f (by simp)
      have hge : ∀ x, Cov (e :: a) x → e.f0 ≤ x := by
        intro x hx
        rcases (cov_cons _ _ _).1 hx with hx | ⟨g, hg, hx⟩
        · exact hx.1
        · have := a1 g hg; unfold In at hx; omega
      have hgf : ∀ x, Cov (f :: b) x → f.f0 ≤ x := by
        intro x hx
        rcases (cov_cons _ _ _).1 hx with hx | ⟨g, hg, hx⟩
        · exact hx.1
        · have := b1 g hg; unfold In at hx; omega
      have e1 : f.f0 ≤ e.f0 := hgf _ ((h _).1 ⟨e, by simp, by unfold In; omega⟩)
      have e2 : e.f0 ≤ f.f0 := hge _ ((h _).2 ⟨f, by simp, by unfold In; omega⟩)
      have hae : ¬ Cov (e :: a) (e.f0 + e.f1) := by
        intro hx
        rcases (cov_cons _ _ _).1 hx with hx | ⟨g, hg, hx⟩
        · unfold In at hx; omega
        · have := a1 g hg; unfold In at hx; omega
      have hbf : ¬ Cov (f :: b) (f.f0 + f.f1) := by
        intro hx
        rcases (cov_cons _ _ _).1 hx with hx | ⟨g, hg, hx⟩
        · unfold In at hx; omega
        · have := b1 g hg; unfold In at hx; omega
      have e3 : e.f1 = f.f1 := by
        rcases Int.lt_trichotomy e.f1 f.f1 with h1 | h1 | h1
        · exact absurd ((h _).2 ⟨f, by simp, by unfold In; omega⟩) hae
        · exact h1
        · exact absurd ((h _).1 ⟨e, by simp, by unfold In; omega⟩) hbf
      have e4 : e = f := by
        cases e; cases f
        simp only at e1 e2 e3
        rw [e3, show _ = _ from Int.le_antisymm e2 e1]
      subst e4
      have hta : ∀ x, Cov a x ↔ Cov (e :: a) x ∧ ¬ In e x := by
        intro x
        rw [cov_cons]
        constructor
        · intro hx
          refine ⟨.inr hx, fun hi => ?_⟩
          obtain ⟨g, hg, hx⟩ := hx
          have := a1 g hg
          unfold In at hx hi
          omega
        · rintro ⟨hx | hx, hn⟩
          · exact absurd hx hn
          · exact hx
      have htb : ∀ x, Cov b x ↔ Cov (e :: b) x ∧ ¬ In e x := by
        intro x
        rw [cov_cons]
        constructor
        · intro hx
          refine ⟨.inr hx, fun hi => ?_⟩
          obtain ⟨g, hg, hx⟩ := hx
          have := b1 g hg
          unfold In at hx hi
          omega
        · rintro ⟨hx | hx, hn⟩
          · exact absurd hx hn
          · exact hx
      have := ih b ⟨a2, fun g hg => ha.2 g (by simp [hg])⟩ ⟨b2, fun g hg => hb.2 g (by simp [hg])⟩ (fun x => by rw [hta, htb, h])
      rw [this]
/-- What a set of extents comes to. -/
def nrm (l : List S60) : List S60 := joinL (l.mergeSort (fun a b => decide (a.f0 ≤ b.f0)))
theorem nrm_sort (l : List S60) : Asc (l.mergeSort (fun a b => decide (a.f0 ≤ b.f0))) := by
  have := List.pairwise_mergeSort (le := fun a b : S60 => decide (a.f0 ≤ b.f0)) (by intro a b c; simp; omega) (by intro a b; simp; omega) l
  exact this.imp (by simp)
theorem nrm_nf (l : List S60) (hl : ∀ e ∈ l, 1 ≤ e.f1) : Nf (nrm l) ∧ ∀ x, Cov (nrm l) x ↔ Cov l x := by
  have hp := List.mergeSort_perm l (fun a b => decide (a.f0 ≤ b.f0))
  obtain ⟨h1, h2⟩ := joinL_nf _ (nrm_sort l) (fun e he => hl e (hp.mem_iff.1 he))
  exact ⟨h1, fun x => by rw [nrm, h2 x, cov_perm hp]⟩
theorem nrm_len (l : List S60) : (nrm l).length ≤ l.length := by
  have := joinL_len (l.mergeSort (fun a b => decide (a.f0 ≤ b.f0)))
  rwa [List.length_mergeSort] at this
/-- Whatever order the sort leaves equals in. -/
theorem joinL_nrm (l l' : List S60) (hp : l'.Perm l) (ha : Asc l') (hl : ∀ e ∈ l, 1 ≤ e.f1) : joinL l' = nrm l := by
  obtain ⟨h1, h2⟩ := joinL_nf l' ha (fun e he => hl e (hp.mem_iff.1 he))
  obtain ⟨k1, k2⟩ := nrm_nf l hl
  exact nf_unique _ _ h1 k1 (fun x => by rw [h2, k2, cov_perm hp])
theorem nrm_of (l m : List S60) (hl : ∀ e ∈ l, 1 ≤ e.f1) (hm : Nf m) (h : ∀ x, Cov m x ↔ Cov l x) : nrm l = m := by
  obtain ⟨k1, k2⟩ := nrm_nf l hl
  exact nf_unique _ _ k1 hm (fun x => by rw [k2, h])
theorem nrm_nil : nrm [] = [] := by simp [nrm, joinL]
end Go.Proofs.Ytbebihphodafiaa.Iv

namespace Go.Proofs.Ytbebihphodafiaa.Iv
open Go.RowKit Go.Proofs.YtbebihphodafiaaW.PrintWords Go.Proofs.YtbebihphodafiaaW.PrintLast Go.Proofs.YtbebihphodafiaaW.PrintMore Go.Proofs.Ytbebihphodafiaa.PWb Go.Shelf Go.Lib Go.Sort
set_option linter.unusedVariables false
set_option linter.unusedSimpArgs false

instance inh60 : Inhabited S60 := ⟨z60⟩
def enc60 (x : S60) : List Value := [.int .i64 x.f0, .int .i64 x.f1]
def cmp60 (x y : S60) : Int := Lib.compareInt x.f0 y.f0
theorem lt60 (x y : S60) : ltOf cmp60 x y = decide (x.f0 < y.f0) := by
  unfold ltOf cmp60 Lib.compareInt
  by_cases h1 : x.f0 < y.f0
  · simp [h1]
  · by_cases h2 : y.f0 < x.f0 <;> simp [h1, h2]
theorem swo60 : SWO (ltOf cmp60) where
  irrefl x := by rw [lt60]; simp
  trans x y z h1 h2 := by rw [lt60] at *; simp at *; omega
  ntrans x y z h1 h2 := by rw [lt60] at *; simp at *; omega
theorem isNaN_calls (x : Int) (w : World) : Calls Try.prog 103 #[.int .i64 x] w fun e w' => e = .returned (.bool false) ∧ w' = w := by
  go_enter Try.func103, Try.ntmps103
  go_wp2
  go_ret
  exact ⟨by simp, rfl⟩
set_option maxHeartbeats 1000000 in
theorem compare_calls (x y : Int) (w : World) : Calls Try.prog 88 #[.int .i64 x, .int .i64 y] w fun e w' => e = .returned (.int .i64 (Lib.compareInt x y)) ∧ w' = w := by
  by_cases h1 : x < y
  · have hr : Lib.compareInt x y = -1 := by simp [Lib.compareInt, h1]
    have d1 : decide (x < y) = true := by simpa using h1
    rw [hr]
    go_enter Try.func88, Try.ntmps88
    go_wp2_with (go_at_call 103; refine (isNaN_calls _ _).mono ?_; rintro e w' ⟨rfl, rfl⟩)
    go_ret
    exact ⟨rfl, rfl⟩
  · by_cases h2 : y < x
    · have hr : Lib.compareInt x y = 1 := by simp [Lib.compareInt, h1, h2]
      have d1 : decide (x < y) = false := by simpa using h1
      have d2 : decide (y < x) = true := by simpa using h2
      rw [hr]
      go_enter Try.func88, Try.ntmps88
      go_wp2_with (go_at_call 103; refine (isNaN_calls _ _).mono ?_; rintro e w' ⟨rfl, rfl⟩)
      go_ret
      exact ⟨rfl, rfl⟩
    · have hr : Lib.compareInt x y = 0 := by simp [Lib.compareInt, h1, h2]
      have d1 : decide (x < y) = false := by simpa using h1
      have d2 : decide (y < x) = false := by simpa using h2
      rw [hr]
      go_enter Try.func88, Try.ntmps88
      go_wp2_with (go_at_call 103; refine (isNaN_calls _ _).mono ?_; rintro e w' ⟨rfl, rfl⟩)
      go_ret
      exact ⟨rfl, rfl⟩
set_option maxHeartbeats 1000000 in
theorem closure33 (x y : S60) (W : World) : Calls Try.prog 87 #[.agg #[.int .i64 x.f0, .int .i64 x.f1], .agg #[.int .i64 y.f0, .int .i64 y.f1]] W fun e w' => e = .returned (.int .i64 (cmp60 x y)) ∧ ∃ q os', w' = grow (W.drewN q) os' := by
  have hcon := fun W' => compare_calls x.f0 y.f0 W'
  unfold cmp60
  generalize Lib.compareInt x.f0 y.f0 = r at hcon ⊢
  go_enter Try.func87, Try.ntmps87
  go_wp2_with (go_at_call 88; refine (hcon _).mono ?_; rintro e w' ⟨rfl, rfl⟩)
  go_ret
  exact ⟨rfl, 0, _, by rw [alloc_eq_grow, alloc_eq_grow, grow_grow]; rfl⟩
/-- The cells of a row, read. -/
theorem C_cells (w : World) (g : Nat) (l : List S60) (hl : l.length ≤ 9223372036854775807)
    (h : ∀ j (hj : j < l.length), w.cell? ⟨g, j * 2, none⟩ = some (.int .i64 l[j].f0) ∧ w.cell? ⟨g, j * 2 + 1, none⟩ = some (.int .i64 l[j].f1)) : Kd.C k60 w (some ⟨g, 0, none⟩) l.length l := by
  refine ⟨rfl, hl, fun _ => ⟨_, rfl, fun j p hj => ?_⟩⟩
  obtain ⟨hj1, rfl⟩ := List.getElem?_eq_some_iff.1 hj
  obtain ⟨h0, h1⟩ := h j hj1
  refine ⟨_, rfl, k60_mk w _, fun i u hu => ?_⟩
  rw [add_plain]
  match i, hu with
  | 0, hu => simp at hu; subst hu; simpa [k60, Kd.iso, Kd.pair, Kd.int, Kd.scalar] using h0
  | 1, hu => simp at hu; subst hu; simpa [k60, Kd.iso, Kd.pair, Kd.int, Kd.scalar] using h1
  | i + 2, hu => simp at hu
theorem below_sorted (base : Nat) (w : World) (blk off n : Nat) (d : Array S60) (os : Array Obj) (hb : base ≤ blk) (hs : base ≤ w.heap.size) : RowKit.Below base w (sortWorldK enc60 2 w blk off n d os) := by
  have hsz : (putRowK enc60 2 (Sort.ahead w n) blk off d).heap.size = w.heap.size := by
    simp [putRowK, putRow, mapBlock, Sort.ahead]
  refine ⟨rfl, rfl, rfl, ?_, fun k hk => ?_⟩
  · show w.heap.size ≤ (_ ++ os).size
    rw [Array.size_append, hsz]; omega
  · show (_ ++ os)[k]? = _
    rw [Array.getElem?_append_left (by rw [hsz]; omega)]
    show ((Sort.ahead w n).heap.modify blk _)[k]? = _
    rw [Array.getElem?_modify, if_neg (by omega)]
    rfl
set_option maxHeartbeats 1000000 in
set_option maxRecDepth 100000 in
theorem sort_calls (base : Nat) (v : Value) (l : List S60) (w : World) (hR : Kd.R k60 60 w base (fun _ => True) v l) (hb : base ≤ w.heap.size) (hl : l.length < 4611686018427387904) :
    Calls Try.prog 86 #[v, .func (.func 87) #[] #[]] w fun e w' => e = .returned (.tuple #[]) ∧ RowKit.Below base w w' ∧ ∃ l' A c, v = .slice A l.length c ∧ l'.Perm l ∧ Asc l' ∧ Kd.C k60 w' A l.length l' := by
  by_cases h0 : l = []
  · subst h0
    obtain ⟨A, c, rfl, _, hC⟩ := Kd.R_reads hR
    refine (AnyF.slices_SortFunc_none sortX A c (.func (.func 87) #[] #[]) w).mono ?_
    rintro e w' ⟨rfl, rfl⟩
    exact ⟨rfl, Below.refl _ _, [], A, c, rfl, List.Perm.refl _, List.Pairwise.nil, hC⟩
  · have hpos : 0 < l.length := List.length_pos_iff.2 h0
    obtain ⟨g, cap, rfl, hg, hlt, cells, hcell⟩ := Kd.R_form hR hpos
    obtain ⟨_, _, hC⟩ := Kd.R_reads' hR
    have eg : ∀ args w, (callFunc 87 args).run Try.prog w = .ok (.enter 87 args) w := enters_of Try.func87 (by kernel_rfl) rfl
    have hH : HoldsK enc60 2 w g 0 l.toArray := by
      intro j hj
      rw [size_flatK] at hj
      simp only [List.size_toArray] at hj
      rw [get_flatK _ _ _ _ (by simpa using hj)]
      have hi : j / 2 < l.length := by omega
      obtain ⟨ad, he, c0, c1⟩ := at_T60 hC ((j / 2 : Nat) : Int) (by omega) (by omega)
      injection he with he
      subst he
      simp only [Int.toNat_natCast] at c0 c1
      rw [add_plain] at c0 c1
      have e1 : (l.toArray[j / 2]!) = rd_T60 l ((j / 2 : Nat) : Int) := by
        rw [getElem!_pos _ _ (by simpa using hi)]
        show l.toArray[j / 2] = l.getD (((j / 2 : Nat) : Int)).toNat z60
        rw [Int.toNat_natCast, List.getD_eq_getElem?_getD, List.getElem?_eq_getElem hi]
        rfl
      rw [e1]
      refine ⟨?_, blk_frozen hcell _⟩
      rcases Nat.mod_two_eq_zero_or_one j with hm | hm
      · rw [hm]
        have e2 : 0 + j = 0 + j / 2 * 2 := by omega
        rw [e2]
        simpa [enc60] using c0
      · rw [hm]
        have e2 : 0 + j = 0 + j / 2 * 2 + 1 := by omega
        rw [e2]
        simpa [enc60] using c1
    have hcon := AnyQ.slices_SortFunc sortX 2 Try.isAgg60 Try.sizeOf60 enc60 (fun _ => rfl) (fun x v hv => by simp [enc60] at hv; rcases hv with rfl | rfl <;> rfl) cmp60 swo60 87 #[] g 0 cap l.toArray w eg (fun _ _ _ _ x y => closure33 x y _) hH hlt (by simpa using hl)
    have hss : l.toArray.size = l.length := by simp
    rw [hss] at hcon
    change Calls Try.prog 86 _ _ _ at hcon
    refine hcon.mono ?_
    rintro e w' ⟨rfl, d', n, os, hp, hs, rfl⟩
    obtain ⟨hp1, _, hp3⟩ := hp
    have hsz : d'.size = l.length := by simpa using hp1
    refine ⟨rfl, below_sorted base w g 0 n d' os hg hb, d'.toList, _, _, rfl, ?_, ?_, ?_⟩
    · have := hp3
      rw [Array.extract_eq_self_of_le (by simpa using Nat.le_of_eq hsz), Array.extract_eq_self_of_le (by simp)] at this
      simpa using this
    · unfold Asc
      rw [List.pairwise_iff_getElem]
      intro i j hi hj hij
      have hi' : i < d'.size := by simpa using hi
      have hj' : j < d'.size := by simpa using hj
      have := hs i j (Nat.zero_le _) hij (by simpa [hsz] using hj')
      rw [lt60, getElem!_pos d' _ hj', getElem!_pos d' _ hi'] at this
      simp at this
      simpa using this
    · have hH2 := holdsK_sortWorldK_c enc60 2 w g 0 l.toArray d' n os hH hlt (by simpa using hsz)
      have hlen : d'.toList.length = l.length := by simpa using hsz
      rw [← hlen]
      refine C_cells _ g d'.toList (by omega) (fun j hj => ?_)
      have hj' : j < d'.size := by simpa using hj
      have k0 := (hH2.cell (i := j) (c := 0) hj' (by decide)).1
      have k1 := (hH2.cell (i := j) (c := 1) hj' (by decide)).1
      rw [getElem!_pos d' _ hj'] at k0 k1
      refine ⟨by simpa [enc60] using k0, by simpa [enc60] using k1⟩
end Go.Proofs.Ytbebihphodafiaa.Iv

namespace Go.Proofs.Ytbebihphodafiaa.Iv
open Go.RowKit Go.Proofs.YtbebihphodafiaaW.PrintWords Go.Proofs.YtbebihphodafiaaW.PrintLast Go.Proofs.YtbebihphodafiaaW.PrintMore Go.Proofs.Ytbebihphodafiaa.PWb
set_option linter.unusedVariables false
set_option linter.unusedSimpArgs false

attribute [local go_sem] max2_int min2_int   -- for this text's walks alone
theorem joinL_succ (l : List S60) (k : Nat) (h : k < l.length) : joinL (l.take (k + 1)) = jstep (joinL (l.take k)) (rd_T60 l (k : Int)) := by
  have e : rd_T60 l (k : Int) = l[k] := by simp [rd_T60, List.getD_eq_getElem?_getD, List.getElem?_eq_getElem h]
  rw [e, List.take_succ_eq_append_getElem h]
  simp only [joinL, List.foldl_append, List.foldl_cons, List.foldl_nil]
theorem jstep_ok (o : List S60) (e : S60) (ho : ∀ x ∈ o, Okx x) (he : Okx e) : ∀ x ∈ jstep o e, Okx x := by
  rcases List.eq_nil_or_concat o with rfl | ⟨o1, t, rfl⟩
  · intro x hx; rw [jstep_nil] at hx; simp at hx; subst hx; exact he
  · rw [List.concat_eq_append] at *
    rw [jstep_snoc]
    have ht := ho t (by simp)
    split
    · intro x hx
      rcases List.mem_append.1 hx with h | h
      · exact ho x (List.mem_append_left _ h)
      · simp at h; subst h; obtain ⟨a, b, c⟩ := ht; obtain ⟨a', b', c'⟩ := he; exact ⟨a, by simp only; omega, by simp only; omega⟩
    · intro x hx
      rcases List.mem_append.1 hx with h | h
      · exact ho x h
      · simp at h; subst h; exact he
theorem joinL_ok (l : List S60) : ∀ o : List S60, (∀ x ∈ o, Okx x) → (∀ x ∈ l, Okx x) → ∀ x ∈ l.foldl jstep o, Okx x := by
  induction l with
  | nil => intro o ho _; exact ho
  | cons e l ih => intro o ho hl; exact ih _ (jstep_ok o e ho (hl e (by simp))) (fun x hx => hl x (by simp [hx]))
theorem R_setlen {W : World} {base g n cap : Nat} {xs : List S60} (h : Kd.R k60 60 W base (fun _ => True) (.slice (some ⟨g, 0, none⟩) n cap) xs) (i : Nat) (hi : i < n) (x : Int) :
    Kd.R k60 60 (W.setCell ⟨g, i * 2 + 1, none⟩ (.int .i64 x)) base (fun _ => True) (.slice (some ⟨g, 0, none⟩) n cap) (xs.set i ⟨(xs.getD i z60).f0, x⟩) := by
  obtain ⟨c, hcl, hM, hcc, _⟩ := Kd.R_elem h z60 (i : Int) (by omega) (by omega)
  have hc := k60_openM hM
  have := (Kd.R_seg h (i : Int) (by omega) (by omega) (c := c) (seg := [.int .i64 x]) (j := 1) (x' := ⟨(xs.getD i z60).f0, x⟩) (okp := fun k => k ≠ g) hcl hcc (Nat.le_refl 2) (by rw [hc]; exact k60_mkM W base _ _) (fun k hk => ⟨trivial, hk⟩)).1
  have hk : k60.sz = 2 := rfl
  simpa [World.setCells, hk] using this
theorem R_last {W : World} {base g n cap : Nat} {o : List S60} {t : S60} (h : Kd.R k60 60 W base (fun _ => True) (.slice (some ⟨g, 0, none⟩) n cap) (o ++ [t])) :
    n = o.length + 1 ∧ W.cell? ⟨g, o.length * 2, none⟩ = some (.int .i64 t.f0) ∧ W.cell? ⟨g, o.length * 2 + 1, none⟩ = some (.int .i64 t.f1) ∧ W.frozen? ⟨g, o.length * 2 + 1, none⟩ = false := by
  obtain ⟨hn, _, _⟩ := Kd.R_reads' h
  have hn' : n = o.length + 1 := by simpa using hn
  obtain ⟨c, hcl, hM, hcc, hf⟩ := Kd.R_elem h z60 (o.length : Int) (by omega) (by omega)
  have hc := k60_openM hM
  have e : (o ++ [t]).getD ((o.length : Int)).toNat z60 = t := by simp [List.getD_eq_getElem?_getD]
  rw [e] at hc
  subst hc
  have c0 := hcc 0 _ rfl
  have c1 := hcc 1 _ rfl
  have f1 := hf 1
  simp only [Int.toNat_natCast] at c0 c1 f1
  exact ⟨hn', c0, c1, f1⟩
theorem C_one (w : World) (q : S60) : Kd.C k60 (w.alloc (.cells #[.int .i64 q.f0, .int .i64 q.f1] 60)) (some ⟨w.heap.size, 0, none⟩) 1 [q] := by
  refine C_cells _ _ [q] (show 1 ≤ 9223372036854775807 by decide) (fun j hj => ?_)
  obtain rfl : j = 0 := by simp at hj; exact hj
  exact ⟨by rw [World.cell?_alloc_at _ _ _ _ rfl]; rfl, by rw [World.cell?_alloc_at _ _ _ _ rfl]; rfl⟩
set_option maxHeartbeats 4000000 in
set_option maxRecDepth 100000 in
theorem joined_calls (A : Option Addr) (c : Nat) (l : List S60) (w : World) (hr : Kd.C k60 w A l.length l) (hl : l.length * 16 ≤ 140737488355328) (hok : ∀ x ∈ l, Okx x) :
    Calls Try.prog 74 #[.slice A l.length c] w fun e w' => ∃ v l', e = .returned v ∧ RowKit.Below w.heap.size w w' ∧ l'.Perm l ∧ Asc l' ∧ Kd.R k60 60 w' w.heap.size (fun _ => True) v (joinL l') := by
  have HR := Lib.hid hr
  have HOK := Lib.hid hok
  clear hr hok
  go_enter Try.func74, Try.ntmps74
  go_wp2
  go_step3
  go_wp2_with (first
    | (go_at_call 66; go_must (refine (clone_calls A c l w HR.out hl).mono ?_; rintro e w1 ⟨v1, rfl, hB1, hR1⟩))
    | (go_at_call 86; go_must (refine (sort_calls w.heap.size v1 l w1 hR1 hB1.size (by omega)).mono ?_; rintro e w2 ⟨rfl, hB2, l', A2, c2, rfl, hP, hA, hC⟩)))
  have hlen : l'.length = l.length := hP.length_eq
  rw [← hlen] at hC hR1 hl ⊢
  have HB := Lib.hid (Below.trans hB1 hB2)
  have HP := Lib.hid hP
  have HA := Lib.hid hA
  have HC := Lib.hid (fun w' (h : RowKit.Below w2.heap.size w2 w') => Kd.C_below hC h)
  have HOK' := Lib.hid (fun x (hx : x ∈ l') => HOK.out x (hP.mem_iff.1 hx))
  clear hB1 hB2 hP hA hC hR1 HR HOK hlen
  go_step3
  go_wp2
  go_loopw [2, 4, 5, 12] (fun v _ _ i ww => ∃ k : Nat, k ≤ l'.length ∧ i = .int .i64 k ∧ Aside0 (RowKit.Below w2.heap.size w2 ww ∧ Kd.R k60 60 ww w2.heap.size (fun _ => True) v (joinL (l'.take k)))) (fun _ _ _ i _ => l'.length - (intOf i).toNat)
  case atStart => exact ⟨0, Nat.zero_le _, rfl, ⟨Below.refl _ _, by simpa [joinL] using Kd.R_nil _ _ _ _ _⟩⟩
  case round =>
    obtain ⟨k, hk, rfl, HO⟩ := hrel
    by_cases hlt : k < l'.length
    · obtain ⟨ad, rfl, c0, c1⟩ := at_T60 (HC.out _ HO.out.1) (k : Int) (by omega) (by omega)
      simp only [Int.toNat_natCast] at c0 c1
      have hjs := joinL_succ l' k hlt
      have hqm : rd_T60 l' (k : Int) ∈ l' := by
        have e : rd_T60 l' (k : Int) = l'[k] := by simp [rd_T60, List.getD_eq_getElem?_getD, List.getElem?_eq_getElem hlt]
        rw [e]; exact List.getElem_mem hlt
      have hqo := HOK'.out _ hqm
      have hol := joinL_len (l'.take k)
      have hoo := joinL_ok (l'.take k) [] (by simp) (fun x hx => HOK'.out x (List.mem_of_mem_take hx))
      change ∀ x ∈ joinL (l'.take k), Okx x at hoo
      obtain ⟨q, hq⟩ : ∃ q, q = rd_T60 l' (k : Int) := ⟨_, rfl⟩
      rw [← hq] at c0 c1 hjs hqo
      obtain ⟨o, ho⟩ : ∃ o, o = joinL (l'.take k) := ⟨_, rfl⟩
      rw [← ho] at hjs hol hoo HO
      have HJ := Lib.hid hjs
      have HL := Lib.hid (show (o.length + 1) * 16 ≤ 140737488355328 by rw [List.length_take] at hol; omega)
      have HQ := Lib.hid hqo
      have HOO := Lib.hid hoo
      have b2 : (k : Int) < (l'.length : Int) := by omega
      clear hqm hjs hol hqo hoo ho hq
      rcases List.eq_nil_or_concat o with rfl | ⟨o1, t, ho⟩
      · obtain ⟨A5, c5, rfl, _, _⟩ := Kd.R_reads HO.out.2
        go_wp2
        obtain ⟨w5, h5⟩ : ∃ x, x = wr.alloc (.cells #[.int .i64 q.f0, .int .i64 q.f1] 60) := ⟨_, rfl⟩
        have HB5 := Lib.hid (show RowKit.Below w2.heap.size w2 w5 by rw [h5]; exact below_alloc HO.out.1 _)
        have HR5 := Lib.hid (show Kd.R k60 60 w5 w2.heap.size (fun _ => True) (.slice A5 ([] : List S60).length c5) [] by rw [h5]; exact Kd.R_alloc HO.out.2 _)
        have E0 : w5.cell? ⟨wr.heap.size, 0, none⟩ = some (.int .i64 q.f0) := by rw [h5, World.cell?_alloc_at _ _ _ _ rfl]; rfl
        have E1 : w5.cell? ⟨wr.heap.size, 1, none⟩ = some (.int .i64 q.f1) := by rw [h5, World.cell?_alloc_at _ _ _ _ rfl]; rfl
        rw [← h5]
        clear h5 HO
        go_quiet (fail)
        go_wp2_with ((with_reducible refine gate_builtin (b := .append) (xs := #[.tmp 58, .tmp 60]) rfl ?_); at_builtin; go_must (refine app_rows (w0 := w2) w2.heap.size rfl (.tmp 58) (.tmp 60) rfl (.slice A5 ([] : List S60).length c5) [] [q] _ 1 1 rfl rfl (Kd.R_alloc (Kd.R_drewN HR5.out _) _) (C_one _ q) (below_alloc (pw_below_drewN HB5.out _) _) ?aS (by simp) ?_; (case aS => have := HB5.out.size; simp; omega); intro v6 w6 hR6 hB6 hg6; have HR6 := Lib.hid hR6; have HB6 := Lib.hid hB6; clear hR6 hB6 hg6))
        go_roundw
        case rel => exact ⟨k + 1, by omega, by go_num, ⟨HB6.out, by rw [HJ.out, jstep_nil]; exact HR6.out⟩⟩
        case measure => simp [intOf]; omega
      · rw [List.concat_eq_append] at ho
        subst ho
        obtain ⟨g, cap, rfl, hg, _, _⟩ := Kd.R_form HO.out.2 (by simp)
        obtain ⟨n, hn⟩ : ∃ n, n = o1.length := ⟨_, rfl⟩
        have hxl : (o1 ++ [t]).length = n + 1 := by simp [hn]
        rw [hxl] at HO HL ⊢
        have HX := Lib.hid hxl
        have hto := HOO.out t (by simp)
        obtain ⟨t0, t1, t2⟩ := hto
        obtain ⟨q0, q1, q2⟩ := HQ.out
        have hl1 : (n : Int) < 8796093022208 := by have := HL.out; omega
        clear hxl
        have ww1 : wrap64 (((n + 1 : Nat) : Int) - 1) = (n : Int) := by unfold wrap64; omega
        have ww1' : wrap64 (((n : Int) + 1) - 1) = (n : Int) := by unfold wrap64; omega
        have ww2 : wrap64 (t.f0 + t.f1) = t.f0 + t.f1 := by unfold wrap64; omega
        have iw2 : IntKind.i64.wrap (t.f0 + t.f1) = t.f0 + t.f1 := by rw [IntKind.wrap_i64]; omega
        have iw3 : IntKind.i64.wrap (q.f0 + q.f1) = q.f0 + q.f1 := by rw [IntKind.wrap_i64]; omega
        have iw4 : IntKind.i64.wrap (q.f0 + q.f1 - t.f0) = q.f0 + q.f1 - t.f0 := by rw [IntKind.wrap_i64]; omega
        have dn : decide ((0 : Int) ≤ (n : Int)) = true := by simp
        have gn2 : (n : Int) < (n : Int) + 1 := by omega
        have gn1 : (n : Int) < ((n + 1 : Nat) : Int) := by omega
        have HN := Lib.hid hn
        clear t0 t1 t2 q0 q1 q2 hn
        go_wp2
        obtain ⟨w5, h5⟩ : ∃ x, x = wr.alloc (.cells #[.int .i64 q.f0, .int .i64 q.f1] 60) := ⟨_, rfl⟩
        have HB5 := Lib.hid (show RowKit.Below w2.heap.size w2 w5 by rw [h5]; exact below_alloc HO.out.1 _)
        have HR5 := Lib.hid (show Kd.R k60 60 w5 w2.heap.size (fun _ => True) (.slice (some ⟨g, 0, none⟩) (n + 1) cap) (o1 ++ [t]) by rw [h5]; exact Kd.R_alloc HO.out.2 _)
        have E0 : w5.cell? ⟨wr.heap.size, 0, none⟩ = some (.int .i64 q.f0) := by rw [h5, World.cell?_alloc_at _ _ _ _ rfl]; rfl
        have E1 : w5.cell? ⟨wr.heap.size, 1, none⟩ = some (.int .i64 q.f1) := by rw [h5, World.cell?_alloc_at _ _ _ _ rfl]; rfl
        obtain ⟨hrl, F0, F1, F2⟩ := R_last HR5.out
        clear hrl
        rw [← HN.out] at F0 F1 F2
        rw [← h5]
        clear h5 HO
        by_cases hc : q.f0 ≤ t.f0 + t.f1
        · have d1 : decide (q.f0 ≤ t.f0 + t.f1) = true := by simpa using hc
          have HJ2 := Lib.hid (show jstep (o1 ++ [t]) q = o1 ++ [⟨t.f0, max t.f1 (q.f0 + q.f1 - t.f0)⟩] by rw [jstep_snoc, if_pos hc])
          go_quiet (fail)
          go_wp2
          have HB6 : Hid (RowKit.Below w2.heap.size w2 (w5.drewN nq)) := Lib.hid (pw_below_drewN HB5.out _)
          have HR6 : Hid (Kd.R k60 60 (w5.drewN nq) w2.heap.size (fun _ => True) (.slice (some ⟨g, 0, none⟩) (n + 1) cap) (o1 ++ [t])) := Lib.hid (Kd.R_drewN HR5.out _)
          have e0 : (w5.drewN nq).cell? ⟨wr.heap.size, 0, none⟩ = some (.int .i64 q.f0) := E0
          have e1 : (w5.drewN nq).cell? ⟨wr.heap.size, 1, none⟩ = some (.int .i64 q.f1) := E1
          have f0 : (w5.drewN nq).cell? ⟨g, n * 2, none⟩ = some (.int .i64 t.f0) := F0
          have f1 : (w5.drewN nq).cell? ⟨g, n * 2 + 1, none⟩ = some (.int .i64 t.f1) := F1
          have f2 : (w5.drewN nq).frozen? ⟨g, n * 2 + 1, none⟩ = false := F2
          clear E0 E1 F0 F1 F2 HB5 HR5
          generalize w5.drewN nq = w6 at *
          go_still_tail 21, (by kernel_rfl)
          change wpList _ _ _ _ _ w6.drew
          have HB7 : Hid (RowKit.Below w2.heap.size w2 w6.drew) := Lib.hid (below_drew1 HB6.out)
          have HR7 : Hid (Kd.R k60 60 w6.drew w2.heap.size (fun _ => True) (.slice (some ⟨g, 0, none⟩) (n + 1) cap) (o1 ++ [t])) := Lib.hid (Kd.R_drew HR6.out)
          have g1 : w6.drew.cell? ⟨g, n * 2 + 1, none⟩ = some (.int .i64 t.f1) := f1
          have g2 : w6.drew.frozen? ⟨g, n * 2 + 1, none⟩ = false := f2
          clear e0 e1 f0 f1 f2 HB6 HR6
          generalize w6.drew = w7 at *
          have HR8 := Lib.hid (show Kd.R k60 60 (w7.setCell ⟨g, n * 2 + 1, none⟩ (.int .i64 (max t.f1 (q.f0 + q.f1 - t.f0)))) w2.heap.size (fun _ => True) (.slice (some ⟨g, 0, none⟩) (n + 1) cap) (o1 ++ [⟨t.f0, max t.f1 (q.f0 + q.f1 - t.f0)⟩]) by
            have h := R_setlen HR7.out n (by omega) (max t.f1 (q.f0 + q.f1 - t.f0))
            rw [HN.out] at h ⊢
            simpa [List.getD_eq_getElem?_getD] using h)
          have HB8 := Lib.hid (show RowKit.Below w2.heap.size w2 (w7.setCell ⟨g, n * 2 + 1, none⟩ (.int .i64 (max t.f1 (q.f0 + q.f1 - t.f0)))) from HB7.out.setCell (p := ⟨g, n * 2 + 1, none⟩) hg _)
          go_wp2
          go_roundw
          case rel => exact ⟨k + 1, by omega, by go_num, ⟨HB8.out, by rw [HJ.out, HJ2.out]; exact HR8.out⟩⟩
          case measure => simp [intOf]; omega
        · have d1 : decide (q.f0 ≤ t.f0 + t.f1) = false := by simpa using hc
          have HJ2 := Lib.hid (show jstep (o1 ++ [t]) q = (o1 ++ [t]) ++ [q] by rw [jstep_snoc, if_neg hc])
          go_quiet (fail)
          go_wp2_with ((with_reducible refine gate_builtin (b := .append) (xs := #[.tmp 58, .tmp 60]) rfl ?_); at_builtin; go_must (refine app_rows (w0 := w2) w2.heap.size rfl (.tmp 58) (.tmp 60) rfl (.slice (some ⟨g, 0, none⟩) (n + 1) cap) (o1 ++ [t]) [q] _ 1 1 rfl rfl (Kd.R_alloc (Kd.R_drewN HR5.out _) _) (C_one _ q) (below_alloc (pw_below_drewN HB5.out _) _) ?aS (by rw [HX.out]; exact HL.out) ?_; (case aS => have := HB5.out.size; simp; omega); intro v6 w6 hR6 hB6 hg6; have HR6 := Lib.hid hR6; have HB6 := Lib.hid hB6; clear hR6 hB6 hg6))
          go_roundw
          case rel => exact ⟨k + 1, by omega, by go_num, ⟨HB6.out, by rw [HJ.out, HJ2.out]; exact HR6.out⟩⟩
          case measure => simp [intOf]; omega
    · obtain rfl : k = l'.length := by omega
      have hF : l'.take l'.length = l' := List.take_length
      rw [hF] at HO
      have b2 : ¬ (l'.length : Int) < (l'.length : Int) := by omega
      clear hF
      go_wp2
      try rw [Exit.noGoto_ret]
      go_ret
      exact ⟨_, l', rfl, Below.trans HB.out (HO.out.1.mono HB.out.size), HP.out, HA.out, Kd.R_lower HO.out.2 HB.out.size⟩
end Go.Proofs.Ytbebihphodafiaa.Iv

namespace Go.Proofs.Ytbebihphodafiaa.Iv
open Go.RowKit Go.Proofs.YtbebihphodafiaaW.PrintWords Go.Proofs.YtbebihphodafiaaW.PrintLast Go.Proofs.YtbebihphodafiaaW.PrintMore Go.Proofs.Ytbebihphodafiaa.PWb
set_option linter.unusedVariables false
set_option linter.unusedSimpArgs false

theorem joined_nrm (A : Option Addr) (c : Nat) (l : List S60) (w : World) (hr : Kd.C k60 w A l.length l) (hl : l.length * 16 ≤ 140737488355328) (hok : ∀ x ∈ l, Okx x) :
    Calls Try.prog 74 #[.slice A l.length c] w fun e w' => ∃ v, e = .returned v ∧ RowKit.Below w.heap.size w w' ∧ Kd.R k60 60 w' w.heap.size (fun _ => True) v (nrm l) :=
  (joined_calls A c l w hr hl hok).mono fun e w' ⟨v, l', he, hb, hp, ha, hR⟩ => ⟨v, he, hb, by rw [← joinL_nrm l l' hp ha (fun x hx => (hok x hx).2.1)]; exact hR⟩
theorem nrm_ok (l : List S60) (h : ∀ x ∈ l, Okx x) : ∀ x ∈ nrm l, Okx x :=
  joinL_ok _ [] (by simp) (fun x hx => h x ((List.mergeSort_perm l _).mem_iff.1 hx))
/-- A set: its bound, its row. fr: where the rows of sets begin. -/
structure IsSet (W : World) (fr b : Nat) (most : Int) (L : List S60) : Prop where
  lt : b < fr
  c0 : W.cell? ⟨b, 0, none⟩ = some (.int .i64 most)
  c1 : ∃ A c, W.cell? ⟨b, 1, none⟩ = some (.slice A L.length c) ∧ L.length ≤ c ∧ Kd.C k60 W A L.length L ∧ (∀ x, A = some x → fr ≤ x.block ∧ ∃ cells, W.heap[x.block]? = some (.cells cells 60 (0, 0)))
  f1 : W.frozen? ⟨b, 1, none⟩ = false
  nf : Nf L
  ok : ∀ x ∈ L, Okx x
/-- What an addition leaves of the world. -/
def Mv (b : Nat) (W w' : World) : Prop := ∃ w1, RowKit.Below W.heap.size W w1 ∧ (w' = w1 ∨ ∃ v, w' = w1.setCell ⟨b, 1, none⟩ v)
def addS (most : Int) (L l : List S60) : Int × List S60 :=
  if l.all mayB = true then (if l = [] then (0, L) else if ((nrm (L ++ l)).length : Int) > most then (7, L) else (0, nrm (L ++ l))) else (1, L)
theorem IsSet.below {W w1 : World} {fr b : Nat} {most : Int} {L : List S60} (h : IsSet W fr b most L) (hb : RowKit.Below W.heap.size W w1) : IsSet w1 fr b most L := by
  obtain ⟨h1, h2, ⟨A, c, h3, h4, h5, h6⟩, h7, h8, h9⟩ := h
  have hlt := World.block_lt_of_cell? _ _ h2
  exact ⟨h1, pw_cell_below hb h2, ⟨A, c, pw_cell_below hb h3, h4, Kd.C_below h5 hb, fun x hx => ⟨(h6 x hx).1, (h6 x hx).2.elim fun cells e => ⟨cells, (hb.block x.block (blk_lt e)).trans e⟩⟩⟩, by rw [hb.frozen (p := ⟨b, 1, none⟩) hlt]; exact h7, h8, h9⟩
theorem C_set1 {W : World} {b j : Nat} {u : Value} {A : Option Addr} {l : List S60} (h : Kd.C k60 W A l.length l) (hA : ∀ x, A = some x → x.block ≠ b) : Kd.C k60 (W.setCell ⟨b, j, none⟩ u) A l.length l := by
  refine ⟨h.1, h.2.1, fun hp => ?_⟩
  obtain ⟨ad, he, hc⟩ := h.2.2 hp
  refine ⟨ad, he, fun j p hj => ?_⟩
  obtain ⟨cs, c1, c2, c3⟩ := hc j p hj
  obtain rfl := k60_open c2
  refine ⟨_, c1, k60_mk _ _, fun i u hu => ?_⟩
  rw [World.cell?_setCell_other]
  · exact c3 i u hu
  · have := hA ad he
    have hb : ∀ m, (ad.add m).block = ad.block := fun m => by unfold Addr.add; split <;> rfl
    intro hh
    have h2 := congrArg Addr.block hh
    rw [hb] at h2
    exact this h2.symm
theorem IsSet.far {W : World} {fr t b : Nat} {most : Int} {L : List S60} (h : IsSet W fr t most L) (hne : t ≠ b) (hb : b < fr) (j : Nat) (v : Value) : IsSet (W.setCell ⟨b, j, none⟩ v) fr t most L := by
  obtain ⟨h1, h2, ⟨A, c, h3, h4, h5, h6⟩, h7, h8, h9⟩ := h
  refine ⟨h1, by rw [World.cell?_setCell_other _ _ _ _ (by simp <;> omega)]; exact h2, ⟨A, c, by rw [World.cell?_setCell_other _ _ _ _ (by simp <;> omega)]; exact h3, h4, C_set1 h5 (fun x hx => by have := (h6 x hx).1; omega), fun x hx => ⟨(h6 x hx).1, (h6 x hx).2.elim fun cells e => ⟨cells, (Below.heap_setCell W ⟨b, j, none⟩ v x.block (by have := (h6 x hx).1; simp only; omega)).trans e⟩⟩⟩, by rw [World.frozen?_setCell]; exact h7, h8, h9⟩
theorem IsSet.mv {W w' : World} {fr t b : Nat} {most : Int} {L : List S60} (h : IsSet W fr t most L) (hm : Mv b W w') (hne : t ≠ b) (hb : b < fr) : IsSet w' fr t most L := by
  obtain ⟨w1, h1, rfl | ⟨v, rfl⟩⟩ := hm
  · exact h.below h1
  · exact (h.below h1).far hne hb 1 v
theorem Mv.below {W w' : World} {n0 b : Nat} {w0 : World} (h : Mv b W w') (hB : RowKit.Below n0 w0 W) (hn : n0 ≤ b) (hb : b < W.heap.size) (hs : n0 ≤ W.heap.size) : RowKit.Below n0 w0 w' := by
  obtain ⟨w1, h1, rfl | ⟨v, rfl⟩⟩ := h
  · exact hB.trans (h1.mono hs)
  · exact (hB.trans (h1.mono hs)).setCell (p := ⟨b, 1, none⟩) hn v
theorem Mv.size {W w' : World} {b : Nat} (h : Mv b W w') : W.heap.size ≤ w'.heap.size := by
  obtain ⟨w1, h1, rfl | ⟨v, rfl⟩⟩ := h
  · exact h1.size
  · simpa using h1.size
theorem Mv.cell {W w' : World} {b : Nat} (h : Mv b W w') {p : Addr} {v : Value} (hp : p.block ≠ b) (hc : W.cell? p = some v) : w'.cell? p = some v := by
  obtain ⟨w1, h1, rfl | ⟨u, rfl⟩⟩ := h
  · exact pw_cell_below h1 hc
  · rw [World.cell?_setCell_other _ _ _ _ (by intro hh; apply hp; rw [← hh])]; exact pw_cell_below h1 hc
theorem Mv.row {W w' : World} {b : Nat} (h : Mv b W w') {A : Option Addr} {l : List S60} (hA : ∀ x, A = some x → x.block ≠ b) (hC : Kd.C k60 W A l.length l) : Kd.C k60 w' A l.length l := by
  obtain ⟨w1, h1, rfl | ⟨u, rfl⟩⟩ := h
  · exact Kd.C_below hC h1
  · exact C_set1 (Kd.C_below hC h1) hA
/-- The set's row is another one. -/
theorem IsSet.put {W w1 : World} {fr b base : Nat} {most : Int} {L L' : List S60} {v : Value} (h : IsSet W fr b most L) (hb : RowKit.Below W.heap.size W w1) (hR : Kd.R k60 60 w1 base (fun _ => True) v L') (hf : fr ≤ base) (hn : Nf L') (ho : ∀ x ∈ L', Okx x) :
    IsSet (w1.setCell ⟨b, 1, none⟩ v) fr b most L' := by
  obtain ⟨h1, h2, ⟨A, c, h3, h4, h5, h6⟩, h7, h8, h9⟩ := h
  have hlt := World.block_lt_of_cell? _ _ h2
  obtain ⟨A', c', rfl, hc', hC'⟩ := Kd.R_reads hR
  have hA' : ∀ x, A' = some x → fr ≤ x.block := fun x hx => by
    subst hx
    obtain ⟨inner, ho⟩ := Kd.R_own hR
    have := own_base ho x.block (by simp [Value.ownBlock])
    omega
  refine ⟨h1, by rw [World.cell?_setCell_other _ _ _ _ (by simp)]; exact pw_cell_below hb h2, ⟨A', c', World.cell?_setCell_same' _ _ _ (by rw [pw_cell_below hb h3]; rfl), hc', C_set1 hC' (fun x hx => by have := hA' x hx; omega), fun x hx => ⟨hA' x hx, by
    subst hx
    obtain ⟨cells, e⟩ := Kd.R_typed hR x.block rfl
    exact ⟨cells, (Below.heap_setCell w1 ⟨b, 1, none⟩ _ x.block (by have := hA' x rfl; simp only; omega)).trans e⟩⟩⟩, by rw [World.frozen?_setCell, hb.frozen (p := ⟨b, 1, none⟩) hlt]; exact h7, hn, ho⟩
theorem C_two (w : World) (A1 A2 : Option Addr) (c1 c2 : Nat) (l1 l2 : List S60) (h1 : l1.length ≤ c1) (h2 : l2.length ≤ c2) (k1 : Kd.C k60 w A1 l1.length l1) (k2 : Kd.C k60 w A2 l2.length l2) :
    Kd.C (Kd.slice 60 k60) (w.alloc (.cells #[.slice A1 l1.length c1, .slice A2 l2.length c2] 83)) (some ⟨w.heap.size, 0, none⟩) 2 [l1, l2] := by
  refine ⟨rfl, by decide, fun _ => ⟨_, rfl, fun j p hj => ?_⟩⟩
  match j, hj with
  | 0, hj =>
    simp at hj; subst hj
    refine ⟨[.slice A1 l1.length c1], rfl, ⟨A1, c1, rfl, h1, Kd.C_alloc k1 _⟩, fun i u hu => ?_⟩
    match i, hu with
    | 0, hu => simp at hu; subst hu; rw [add_plain, World.cell?_alloc_at _ _ _ _ rfl]; rfl
    | i + 1, hu => simp at hu
  | 1, hj =>
    simp at hj; subst hj
    refine ⟨[.slice A2 l2.length c2], rfl, ⟨A2, c2, rfl, h2, Kd.C_alloc k2 _⟩, fun i u hu => ?_⟩
    match i, hu with
    | 0, hu => simp at hu; subst hu; rw [add_plain, World.cell?_alloc_at _ _ _ _ rfl]; rfl
    | i + 1, hu => simp at hu
  | j + 2, hj => simp at hj
theorem new_calls (most : Int) (fr : Nat) (w : World) (hfr : w.heap.size < fr) : Calls Try.prog 62 #[.int .i64 most] w fun e w' => e = .returned (.pointer (some ⟨w.heap.size, 0, none⟩)) ∧ w' = w.alloc (.cells #[.int .i64 most, .slice none 0 0] 137) ∧ IsSet w' fr w.heap.size most [] := by
  have hI : IsSet (w.alloc (.cells #[.int .i64 most, .slice none 0 0] 137)) fr w.heap.size most [] :=
    ⟨hfr, by rw [World.cell?_alloc_at _ _ _ _ rfl]; rfl, ⟨none, 0, by rw [World.cell?_alloc_at _ _ _ _ rfl]; rfl, Nat.le_refl _, Kd.C_nil _ _, by simp⟩, by rw [World.frozen?_alloc_at _ _ _ _ rfl], ⟨List.Pairwise.nil, by simp⟩, by simp⟩
  have HI := Lib.hid hI
  clear hI
  go_enter Try.func62, Try.ntmps62
  go_wp2
  go_ret
  exact ⟨rfl, rfl, HI.out⟩
set_option maxHeartbeats 2000000 in
theorem add_calls (fr b : Nat) (most : Int) (L : List S60) (A : Option Addr) (c : Nat) (l : List S60) (w : World) (hs : IsSet w fr b most L) (hr : Kd.C k60 w A l.length l) (hc : l.length ≤ c) (hl : (L.length + l.length) * 16 ≤ 140737488355328) (hfr : fr ≤ w.heap.size) :
    Calls Try.prog 57 #[.pointer (some ⟨b, 0, none⟩), .slice A l.length c] w fun e w' => e = .returned (.int .i64 (addS most L l).1) ∧ IsSet w' fr b most (addS most L l).2 ∧ Mv b w w' := by
  have HS := Lib.hid hs
  have HR := Lib.hid hr
  have HC := Lib.hid hc
  obtain ⟨_, _, ⟨A0, c0, h1, h2, h3, _⟩, h4, hnf, hok⟩ := hs
  have X1 := Lib.hid (fun w' (h : RowKit.Below w.heap.size w w') => pw_cell_below h h1)
  have X2 := Lib.hid h2
  have X3 := Lib.hid (fun w' (h : RowKit.Below w.heap.size w w') => Kd.C_below h3 h)
  clear hr hc h1 h2 h3 h4
  by_cases hall : l.all mayB = true
  · by_cases he : l = []
    · have ha : addS most L l = (0, L) := by simp [addS, hall, he]
      rw [ha]
      subst he
      clear hall ha hl
      go_enter Try.func57, Try.ntmps57
      go_wp2_with (go_at_call 73; go_must (refine (all_calls A c [] w HR.out (by simp)).mono ?_; rintro e w1 ⟨rfl, hB1⟩))
      go_ret
      exact ⟨rfl, HS.out.below hB1, ⟨_, hB1, .inl rfl⟩⟩
    · have hne : ¬ ((l.length : Int) = 0) := by
        intro h; exact he (List.length_eq_zero_iff.1 (by omega))
      have hne' : ¬ (l.length = 0) := by omega
      have hokl : ∀ x ∈ L ++ l, Okx x := fun x hx => by
        rcases List.mem_append.1 hx with h | h
        · exact hok x h
        · exact Okx.of_may (List.all_eq_true.1 hall x h)
      have hnn := nrm_nf (L ++ l) (fun x hx => (hokl x hx).2.1)
      have hno := nrm_ok (L ++ l) hokl
      obtain ⟨x, hx⟩ : ∃ x, x = nrm (L ++ l) := ⟨_, rfl⟩
      have HX := Lib.hid hx
      rw [← hx] at hnn hno
      have ha : addS most L l = if (x.length : Int) > most then (7, L) else (0, x) := by simp [addS, hall, he, hx]
      have HA := Lib.hid (fun h : (x.length : Int) > most => ha.trans (if_pos h))
      have HA' := Lib.hid (fun h : ¬ (x.length : Int) > most => ha.trans (if_neg h))
      have HN := Lib.hid hnn
      have HNO := Lib.hid hno
      have HOK := Lib.hid hokl
      have HALL := Lib.hid hall
      have X0 := Lib.hid (fun w' (h : RowKit.Below w.heap.size w w') => pw_cell_below h HS.out.c0)
      clear ha hnn hno hokl hok hnf hx he hall
      have hll : l.length ≤ 9223372036854775807 := by omega
      have hbw := World.block_lt_of_cell? _ _ HS.out.c0
      have XF := Lib.hid (fun w' (h : RowKit.Below w.heap.size w w') => (h.frozen (p := ⟨b, 1, none⟩) hbw).trans HS.out.f1)
      clear hbw
      have HL1 := Lib.hid (show tot [L, l] * 16 ≤ 140737488355328 by simpa [tot] using hl)
      have HL2 := Lib.hid (show (L ++ l).length * 16 ≤ 140737488355328 by simpa using hl)
      have HF := Lib.hid (show [L, l].flatten = L ++ l by simp)
      obtain ⟨y, hy⟩ : ∃ y, y = L ++ l := ⟨_, rfl⟩
      rw [← hy] at HX HOK HL2 HF
      clear hy hl
      by_cases hbig : (x.length : Int) > most
      · have d1 : decide (most < (x.length : Int)) = true := by simpa using hbig
        have hbig' : most < (x.length : Int) := hbig
        have HAX := Lib.hid (HA.out hbig)
        clear hbig
        go_enter Try.func57, Try.ntmps57
        go_wp2_with (first
          | (go_at_call 73; go_must (refine (all_calls A c l w HR.out hll).mono ?_; rintro e w1 ⟨rfl, hB1⟩; rw [HALL.out]; have Y1 := X1.out _ hB1; have HB1 := Lib.hid hB1; clear hB1))
          | (go_at_call 75; go_must (refine (concat_calls (some ⟨w1.heap.size, 0, none⟩) 2 [L, l] _ (C_two w1 A0 A c0 c L l X2.out HC.out (X3.out _ HB1.out) (Kd.C_below HR.out HB1.out)) HL1.out (show 2 ≤ 9223372036854775807 by decide)).mono ?_; rintro e w2 ⟨v2, rfl, hB2, hR2⟩; rw [HF.out] at hR2; obtain ⟨A3, c3, hv3, _, hC3⟩ := Kd.R_reads hR2; subst hv3; have HB2 := Lib.hid (below_step HB1.out ((below_alloc (Below.refl w1.heap.size w1) _).trans (hB2.mono (by simp)))); have HC3 := Lib.hid hC3; clear hC3 hR2 hB2))
          | (go_at_call 74; go_must (refine (joined_nrm A3 c3 y w2 HC3.out HL2.out HOK.out).mono ?_; rintro e w3 ⟨v3, rfl, hB3, hR3⟩; rw [← HX.out] at hR3; obtain ⟨A4, c4, hv4⟩ := Kd.R_slice hR3; subst hv4; have HR3 := Lib.hid hR3; have HB3 := Lib.hid (below_step HB2.out hB3); have Z0 := X0.out _ HB3.out; have Z1 := X1.out _ HB3.out; have Zf := XF.out _ HB3.out; clear hR3 hB3)))
        go_ret
        rw [HAX.out]
        exact ⟨rfl, HS.out.below HB3.out, ⟨_, HB3.out, .inl rfl⟩⟩
      · have d1 : decide (most < (x.length : Int)) = false := by simpa using hbig
        have hbig' : ¬ most < (x.length : Int) := hbig
        have HAX := Lib.hid (HA'.out hbig)
        clear hbig
        go_enter Try.func57, Try.ntmps57
        go_wp2_with (first
          | (go_at_call 73; go_must (refine (all_calls A c l w HR.out hll).mono ?_; rintro e w1 ⟨rfl, hB1⟩; rw [HALL.out]; have Y1 := X1.out _ hB1; have HB1 := Lib.hid hB1; clear hB1))
          | (go_at_call 75; go_must (refine (concat_calls (some ⟨w1.heap.size, 0, none⟩) 2 [L, l] _ (C_two w1 A0 A c0 c L l X2.out HC.out (X3.out _ HB1.out) (Kd.C_below HR.out HB1.out)) HL1.out (show 2 ≤ 9223372036854775807 by decide)).mono ?_; rintro e w2 ⟨v2, rfl, hB2, hR2⟩; rw [HF.out] at hR2; obtain ⟨A3, c3, hv3, _, hC3⟩ := Kd.R_reads hR2; subst hv3; have HB2 := Lib.hid (below_step HB1.out ((below_alloc (Below.refl w1.heap.size w1) _).trans (hB2.mono (by simp)))); have HC3 := Lib.hid hC3; clear hC3 hR2 hB2))
          | (go_at_call 74; go_must (refine (joined_nrm A3 c3 y w2 HC3.out HL2.out HOK.out).mono ?_; rintro e w3 ⟨v3, rfl, hB3, hR3⟩; rw [← HX.out] at hR3; obtain ⟨A4, c4, hv4⟩ := Kd.R_slice hR3; subst hv4; have HR3 := Lib.hid hR3; have HB3 := Lib.hid (below_step HB2.out hB3); have Z0 := X0.out _ HB3.out; have Z1 := X1.out _ HB3.out; have Zf := XF.out _ HB3.out; clear hR3 hB3)))
        go_ret
        rw [HAX.out]
        exact ⟨rfl, HS.out.put HB3.out HR3.out (Nat.le_trans hfr HB2.out.size) HN.out.1 HNO.out, ⟨_, HB3.out, .inr ⟨_, rfl⟩⟩⟩
  · have hall' : l.all mayB = false := by simpa using hall
    have ha : addS most L l = (1, L) := by unfold addS; rw [if_neg hall]
    rw [ha]
    have HALL := Lib.hid hall'
    have hll : l.length ≤ 9223372036854775807 := by omega
    clear hall hall' ha
    go_enter Try.func57, Try.ntmps57
    go_wp2_with (go_at_call 73; go_must (refine (all_calls A c l w HR.out hll).mono ?_; rintro e w1 ⟨rfl, hB1⟩; rw [HALL.out]))
    go_ret
    exact ⟨rfl, HS.out.below hB1, ⟨_, hB1, .inl rfl⟩⟩
end Go.Proofs.Ytbebihphodafiaa.Iv

namespace Go.Proofs.Ytbebihphodafiaa.Iv
open Go.RowKit Go.Proofs.YtbebihphodafiaaW.PrintWords Go.Proofs.YtbebihphodafiaaW.PrintLast Go.Proofs.YtbebihphodafiaaW.PrintMore Go.Proofs.Ytbebihphodafiaa.PWb
set_option linter.unusedVariables false
set_option linter.unusedSimpArgs false

set_option maxHeartbeats 1000000 in
theorem extents_calls (fr b : Nat) (most : Int) (L : List S60) (w : World) (hs : IsSet w fr b most L) (hl : L.length * 16 ≤ 140737488355328) :
    Calls Try.prog 40 #[.pointer (some ⟨b, 0, none⟩)] w fun e w' => ∃ v, e = .returned v ∧ RowKit.Below w.heap.size w w' ∧ Kd.R k60 60 w' w.heap.size (fun _ => True) v L := by
  obtain ⟨_, _, ⟨A0, c0, h1, h2, h3, _⟩, _, _, _⟩ := hs
  have HC := Lib.hid h3
  clear h3
  go_enter Try.func40, Try.ntmps40
  go_wp2_with (go_at_call 66; go_must (refine (clone_calls A0 c0 L w HC.out hl).mono ?_; rintro e w1 ⟨v1, rfl, hB1, hR1⟩))
  go_ret
  exact ⟨_, rfl, hB1, hR1⟩
theorem extentsNil_calls (w : World) : Calls Try.prog 40 #[.pointer none] w fun e w' => e = .returned (.slice none 0 0) ∧ w' = w := by
  go_enter Try.func40, Try.ntmps40
  go_wp2
  go_ret
  exact ⟨rfl, rfl⟩
def sumS (l : List S60) : Int := (l.map (·.f1)).sum
theorem sumS_bounds : ∀ (l : List S60), (∀ x ∈ l, Okx x) → 0 ≤ sumS l ∧ sumS l ≤ l.length * 1048577 := by
  intro l
  induction l with
  | nil => intro _; simp [sumS]
  | cons e l ih =>
    intro h
    have h1 := ih (fun x hx => h x (by simp [hx]))
    obtain ⟨a, b, c⟩ := h e (by simp)
    simp only [sumS, List.map_cons, List.sum_cons, List.length_cons] at h1 ⊢
    omega
theorem sumS_succ (l : List S60) (k : Nat) (h : k < l.length) : sumS (l.take (k + 1)) = sumS (l.take k) + (rd_T60 l (k : Int)).f1 := by
  have e : rd_T60 l (k : Int) = l[k] := by simp [rd_T60, List.getD_eq_getElem?_getD, List.getElem?_eq_getElem h]
  rw [e, List.take_succ_eq_append_getElem h]
  simp only [sumS, List.map_append, List.sum_append, List.map_cons, List.map_nil, List.sum_cons, List.sum_nil, Int.add_zero]
set_option maxHeartbeats 2000000 in
theorem count_calls (fr b : Nat) (most : Int) (L : List S60) (w : World) (hs : IsSet w fr b most L) (hl : L.length ≤ 1000000) :
    Calls Try.prog 35 #[.pointer (some ⟨b, 0, none⟩)] w fun e w' => e = .returned (.int .i64 (sumS L)) ∧ RowKit.Below w.heap.size w w' := by
  have HS := Lib.hid hs
  have hOK := Lib.hid hs.ok
  clear hs
  go_enter Try.func35, Try.ntmps35
  go_wp2_with (go_at_call 40; go_must (refine (extents_calls fr b most L w HS.out (by omega)).mono ?_; rintro e w1 ⟨v1, rfl, hB1, hR1⟩; obtain ⟨A1, c1, hv1, _, hC1⟩ := Kd.R_reads hR1; subst hv1; have HB1 := Lib.hid hB1; have HC1 := Lib.hid (fun w' (h : RowKit.Below w1.heap.size w1 w') => Kd.C_below hC1 h); clear hB1 hR1 hC1))
  go_loopw [2, 4, 8] (fun n _ i wr => ∃ k : Nat, k ≤ L.length ∧ i = .int .i64 k ∧ n = .int .i64 (sumS (L.take k)) ∧ Aside0 (RowKit.Below w1.heap.size w1 wr)) (fun _ _ i _ => L.length - (intOf i).toNat)
  case atStart => exact ⟨0, Nat.zero_le _, rfl, by simp [sumS], ⟨Below.refl _ _⟩⟩
  case round =>
    obtain ⟨k, hk, rfl, rfl, HB⟩ := hrel
    by_cases hlt : k < L.length
    · obtain ⟨ad, rfl, c0, c1⟩ := at_T60 (HC1.out _ HB.out) (k : Int) (by omega) (by omega)
      simp only [Int.toNat_natCast] at c0 c1
      have hss := sumS_succ L k hlt
      have hb1 := sumS_bounds (L.take k) (fun x hx => hOK.out x (List.mem_of_mem_take hx))
      have hq := hOK.out (rd_T60 L (k : Int)) (by
        have e : rd_T60 L (k : Int) = L[k] := by simp [rd_T60, List.getD_eq_getElem?_getD, List.getElem?_eq_getElem hlt]
        rw [e]; exact List.getElem_mem hlt)
      obtain ⟨q, hqe⟩ : ∃ q, q = rd_T60 L (k : Int) := ⟨_, rfl⟩
      rw [← hqe] at c0 c1 hss hq
      obtain ⟨n, hn⟩ : ∃ n, n = sumS (L.take k) := ⟨_, rfl⟩
      rw [← hn] at hss hb1 ⊢
      obtain ⟨_, q1, q2⟩ := hq
      have hlen : (L.take k).length ≤ L.length := by rw [List.length_take]; omega
      have w2 : wrap64 (n + q.f1) = n + q.f1 := by unfold wrap64; omega
      have HSS := Lib.hid hss
      have HW := Lib.hid w2
      have b2 : (k : Int) < (L.length : Int) := by omega
      clear hss hn hqe hb1 q1 q2 hlen
      go_wp2
      go_roundw
      case rel => exact ⟨k + 1, by omega, by go_num, by rw [HSS.out, HW.out], ⟨below_alloc HB.out _⟩⟩
      case measure => simp [intOf]; omega
    · obtain rfl : k = L.length := by omega
      have hF : L.take L.length = L := List.take_length
      rw [hF]
      have b2 : ¬ (L.length : Int) < (L.length : Int) := by omega
      clear hF
      go_wp2
      try rw [Exit.noGoto_ret]
      go_ret
      exact ⟨rfl, below_step HB1.out HB.out⟩
set_option maxHeartbeats 1000000 in
theorem countNil_calls (w : World) : Calls Try.prog 35 #[.pointer none] w fun e w' => e = .returned (.int .i64 0) ∧ w' = w := by
  go_enter Try.func35, Try.ntmps35
  go_wp2_with (go_at_call 40; go_must (refine (extentsNil_calls _).mono ?_; rintro e w1 ⟨rfl, rfl⟩))
  go_loop [2, 4, 8] (fun n _ i => n = .int .i64 0 ∧ i = .int .i64 0) (fun _ _ i => 0)
  case atStart => exact ⟨rfl, rfl⟩
  case round =>
    obtain ⟨rfl, rfl⟩ := hrel
    go_wp2
    try rw [Exit.noGoto_ret]
    go_ret
    exact ⟨rfl, rfl⟩
end Go.Proofs.Ytbebihphodafiaa.Iv

namespace Go.Proofs.Ytbebihphodafiaa.Iv
open Go.Proofs.Ytbebihphodafiaa.PWb
set_option linter.unusedVariables false
set_option linter.unusedSimpArgs false
/-! ### What the laws ask -/
theorem may_len (l : List S60) (h : l.all mayB = true) : ∀ e ∈ l, 1 ≤ e.f1 := fun e he => ((mayB_iff e).1 (List.all_eq_true.1 h e he)).2.2.1
theorem nf_nrm (L : List S60) (h : Nf L) : nrm L = L := nrm_of L L h.2 h (fun _ => Iff.rfl)
theorem add_ok (most : Int) (L l : List S60) (hL : Nf L) (hl : l.all mayB = true) (hm : (L.length + l.length : Int) ≤ most) : addS most L l = (0, nrm (L ++ l)) := by
  unfold addS
  rw [if_pos hl]
  by_cases he : l = []
  · rw [if_pos he, he, List.append_nil, nf_nrm L hL]
  · rw [if_neg he, if_neg]
    have := nrm_len (L ++ l)
    rw [List.length_append] at this
    omega
theorem add_bad (most : Int) (L l : List S60) (hl : ¬ l.all mayB = true) : addS most L l = (1, L) := by
  unfold addS; rw [if_neg hl]
theorem nrm_absorb (a b c : List S60) (ha : ∀ e ∈ a, 1 ≤ e.f1) (hb : ∀ e ∈ b, 1 ≤ e.f1) (hp : (a ++ b).Perm c) : nrm (nrm a ++ b) = nrm c := by
  have hc : ∀ e ∈ c, 1 ≤ e.f1 := fun e he => by
    rcases List.mem_append.1 (hp.mem_iff.2 he) with h | h
    · exact ha e h
    · exact hb e h
  obtain ⟨n1, n2⟩ := nrm_nf a ha
  obtain ⟨c1, c2⟩ := nrm_nf c hc
  refine nrm_of _ _ (fun e he => ?_) c1 (fun x => ?_)
  · rcases List.mem_append.1 he with h | h
    · exact n1.2 e h
    · exact hb e h
  · rw [c2, cov_append, n2, ← cov_append, cov_perm hp]
/-! ### A set and its room -/
def rowR (m : Nat) : List S60 := (List.range m).map fun (j : Nat) => (⟨2 * (j : Int), 1⟩ : S60)
theorem rowR_succ (m : Nat) : rowR (m + 1) = rowR m ++ [⟨2 * (m : Int), 1⟩] := by
  simp [rowR, List.range_succ]
theorem rowR_len (m : Nat) : (rowR m).length = m := by simp [rowR]
theorem rowR_mem (m : Nat) (e : S60) (h : e ∈ rowR m) : 0 ≤ e.f0 ∧ e.f0 + 2 ≤ 2 * m ∧ e.f1 = 1 := by
  simp only [rowR, List.mem_map, List.mem_range] at h
  obtain ⟨j, hj, rfl⟩ := h
  exact ⟨by simp only; omega, by simp only; omega, rfl⟩
theorem nf_snoc (L : List S60) (x : S60) (h : Nf L) (hx : 1 ≤ x.f1) (hb : ∀ e ∈ L, e.f0 + e.f1 < x.f0) : Nf (L ++ [x]) := by
  refine ⟨?_, fun e he => ?_⟩
  · rw [List.pairwise_append]
    exact ⟨h.1, List.pairwise_singleton _ _, fun a ha b hb' => by simp at hb'; subst hb'; exact hb a ha⟩
  · rcases List.mem_append.1 he with h' | h'
    · exact h.2 e h'
    · simp at h'; subst h'; exact hx
theorem rowR_nf (m : Nat) : Nf (rowR m) := by
  induction m with
  | zero => exact ⟨List.Pairwise.nil, by simp [rowR]⟩
  | succ m ih =>
    rw [rowR_succ]
    exact nf_snoc _ _ ih (Int.le_refl _) (fun e he => by have := rowR_mem m e he; simp only; omega)
theorem rowR_sum (m : Nat) : sumS (rowR m) = m := by
  induction m with
  | zero => rfl
  | succ m ih => rw [rowR_succ]; simp only [sumS, List.map_append, List.sum_append, List.map_cons, List.map_nil, List.sum_cons, List.sum_nil] at ih ⊢; rw [ih]; simp
theorem may_at (i : Nat) (h : i ≤ 60) : [(⟨2 * (i : Int), 1⟩ : S60)].all mayB = true := by
  simp [mayB_iff]; omega
theorem room_in (most : Nat) (i : Nat) (hi : i < most) (h60 : i ≤ 60) : addS most (rowR i) [⟨2 * (i : Int), 1⟩] = (0, rowR (i + 1)) := by
  have hn := rowR_nf (i + 1)
  have hl := rowR_len (i + 1)
  rw [rowR_succ] at hn hl ⊢
  unfold addS
  rw [if_pos (may_at i h60), if_neg (by simp), nf_nrm _ hn, if_neg (by rw [hl]; omega)]
theorem room_out (most : Nat) (i : Nat) (hi : most ≤ i) (h60 : i ≤ 60) : addS most (rowR most) [⟨2 * (i : Int), 1⟩] = (7, rowR most) := by
  have hn : Nf (rowR most ++ [⟨2 * (i : Int), 1⟩]) := nf_snoc _ _ (rowR_nf most) (Int.le_refl _) (fun e he => by have := rowR_mem most e he; simp only; omega)
  unfold addS
  rw [if_pos (may_at i h60), if_neg (by simp), nf_nrm _ hn, if_pos (by rw [List.length_append, rowR_len]; simp; omega)]
theorem room_join (most k : Nat) (hk : 0 < k) (h : k ≤ most) (h60 : k ≤ 60) : addS most (rowR k) [⟨0, 2 * (k : Int)⟩] = (0, [⟨0, 2 * (k : Int)⟩]) := by
  have hm : [(⟨0, 2 * (k : Int)⟩ : S60)].all mayB = true := by simp [mayB_iff]; omega
  have hn : nrm (rowR k ++ [⟨0, 2 * (k : Int)⟩]) = [⟨0, 2 * (k : Int)⟩] := by
    refine nrm_of _ _ (fun e he => ?_) ⟨List.pairwise_singleton _ _, by simp; omega⟩ (fun x => ?_)
    · rcases List.mem_append.1 he with h' | h'
      · have := rowR_mem k e h'; omega
      · simp at h'; subst h'; simp only; omega
    · rw [cov_append, cov_one]
      constructor
      · exact .inr
      · rintro (⟨e, he, hx⟩ | hx)
        · have := rowR_mem k e he
          unfold In at hx ⊢
          simp only
          omega
        · exact hx
  unfold addS
  rw [if_pos hm, if_neg (by simp), hn, if_neg (by simp; omega)]
end Go.Proofs.Ytbebihphodafiaa.Iv

namespace Go.Proofs.Ytbebihphodafiaa.Iv
open Go.RowKit Go.Proofs.YtbebihphodafiaaW.PrintWords Go.Proofs.YtbebihphodafiaaW.PrintLast Go.Proofs.YtbebihphodafiaaW.PrintMore Go.Proofs.Ytbebihphodafiaa.PWb Go.Maps Go.Shelf Go.Sort
set_option linter.unusedVariables false
set_option linter.unusedSimpArgs false

theorem keys_calls (mb : Option Nat) (w : World) : Calls Try.prog 52 #[.map mb] w fun e w' => e = .returned (.func (.func 70) #[] #[.pointer (some ⟨w.heap.size, 0, none⟩)]) ∧ w' = w.alloc (.cells #[.map mb] 99) :=
  (callsIn_wide (n := 5)).1 (AnyZI.keys_in keysX Fence.wide 5 trivial rfl mb w)
theorem sortsF (m : Nat) : AnyZI.SortsIn Try.prog sortedX_ren Fence.wide m :=
  ⟨fun blk off cap ss W hH hblk hsz => callsIn_wide.2 (AnyM.slices_Sort_int sortI blk off cap ss W hH hblk hsz),
   fun p cap W => callsIn_wide.2 (AnyM.slices_Sort_int_none sortI p cap W)⟩
def keysM (M : List S31) : List Int := M.map (·.f0)
theorem keysM_perm {W : World} {fr mb : Nat} {blocks most : Int} {M : List S31} (h : IsBuf W fr mb blocks most M) {D : DataW Value} (hD : W.ownsMap Try.prog 3 Rh mb M.length D) (hn : ∀ x, hasM M x = false → has D (ky x) = false) (hh : ∀ p ∈ M, Held W fr D p) : (keysM M).Perm (intKeys D) := by
  obtain ⟨es, he, hp⟩ := tidy_of hD
  obtain ⟨es', he', hk⟩ := hD.keysOf
  rw [he] at he'
  have e2 : es = es' := by injection he'
  subst e2
  rw [he]
  refine perm_intKeys hp (fun p hp => ?_) (List.Pairwise.map _ (fun a b h => Int.ne_of_lt h) h.srt) (fun x => ?_)
  · obtain ⟨key, hkey⟩ := hk p hp
    obtain ⟨x, _, e, _⟩ := Maps.keyOf_i64 Try.underlying3 hkey
    exact ⟨x, e⟩
  · rw [← he]
    constructor
    · intro hx
      obtain ⟨p, hp, rfl⟩ := List.mem_map.1 hx
      obtain ⟨_, _, e1, _⟩ := hh p hp
      exact e1
    · intro hx
      cases hm : hasM M x with
      | false => rw [hn x hm] at hx; cases hx
      | true => obtain ⟨p, hp, rfl⟩ := (hasM_iff M x).1 hm; exact List.mem_map.2 ⟨p, hp, rfl⟩
theorem keysM_sorted {M : List S31} (h : Rise M) {ss : List Int} (hp : ss.Perm (keysM M)) : ss.mergeSort (fun x y => decide (x ≤ y)) = keysM M := by
  rw [mergeSort_of_perm_i hp]
  refine List.mergeSort_of_pairwise (List.Pairwise.map _ (fun a b h => ?_) h)
  simp; omega
theorem at_int {W : World} {A : Option Addr} {n : Nat} {l : List Int} (h : Kd.C (Kd.int .i64) W A n l) (i : Int) (h0 : 0 ≤ i) (h1 : i < n) : ∃ ad, A = some ad ∧ W.cell? (ad.add i.toNat) = some (.int .i64 (l.getD i.toNat 0)) := by
  obtain ⟨ad, c, e, _, hK, hc0⟩ := Kd.C_get h (0 : Int) i h0 h1
  have hc : ∀ j u, c[j]? = some u → W.cell? (ad.add (i.toNat * 1 + j)) = some u := hc0
  obtain rfl := hK
  exact ⟨ad, e, by have := hc 0 _ rfl; rwa [Nat.mul_one, Nat.add_zero] at this⟩
theorem sorted_calls (fr mb : Nat) (blocks most : Int) (M : List S31) (w : World) (hb : IsBuf w fr mb blocks most M) :
    Calls Try.prog 51 #[.func (.func 70) #[] #[.pointer (some ⟨w.heap.size, 0, none⟩)]] (w.alloc (.cells #[.map (some mb)] 99)) fun e w' => ∃ A c, e = .returned (.slice A M.length c) ∧ RowKit.Below w.heap.size w w' ∧ Kd.C (Kd.int .i64) w' A M.length (keysM M) := by
  obtain ⟨D, d1, d2, d3, d4⟩ := hb.map
  have hseq : SeqGives Fence.wide 2 Try.prog 70 #[.pointer (some ⟨w.heap.size, 0, none⟩)] encZ (fun ss => ss.Perm (intKeys D)) (Maps.size D) (w.alloc (.cells #[.map (some mb)] 99)) :=
    AnyZI.keys_gives (ρ := keysX_ren) { keysX with } Fence.wide _ trivial rfl (by omega) w.heap.size mb M.length D _ (by simp) (World.cell?_alloc_at _ _ _ _ rfl) (d1.alloc _)
  have hl := hb.len
  have cS := AnyZI.sorted_in sortedX Fence.wide 5 trivial trivial trivial trivial rfl (by omega) (sortsF _) (enters_of Try.func69 (by kernel_rfl) rfl) 70 #[.pointer (some ⟨w.heap.size, 0, none⟩)] trivial (enters_of Try.func70 (by kernel_rfl) rfl) _ _ (by rw [d2]; unfold maxLen; omega) (by rw [d2]; omega) _ hseq
  change CallsIn _ _ Try.prog 51 _ _ _ at cS
  refine (callsIn_wide.1 cS).mono ?_
  rintro e w' ⟨v, ss, rfl, hS, hrow, _, hB⟩
  have hp : ss.Perm (keysM M) := hS.trans (keysM_perm hb d1 d3 d4).symm
  have hlen : ss.length = M.length := by rw [hp.length_eq]; simp [keysM]
  rw [keysM_sorted hb.srt hp, hlen] at hrow
  obtain ⟨A, c, rfl, hr⟩ := own_reads (k := .i64) (xs := keysM M) hrow
  exact ⟨A, c, rfl, below_step (below_alloc (Below.refl _ _) _) hB, Kd.C_of_reads (d := (0 : Int)) (h1 := fun _ => rfl) hr⟩
section
variable {P : Program} {ops : Array Oper} {rest : List Oper} {o : Oper} {a : Act} {Q : Exit → Act → World → Prop}
/-- append(v, one write), its bytes the call's own. -/
theorem app_put {w0 W : World} (base : Nat) (hgd : o.guard = none) (s x : Operand)
    (ho : o.op = .call { callee := .builtin .append, args := #[s, x], argTypes := #[27, 27] })
    (v : Value) (xs : List S31) (p : S31) (u : Value) (hs : a.eval s = v) (hx : a.eval x = .slice (some ⟨W.heap.size, 0, none⟩) 1 1)
    (hp : Kd.R kb 5 W base (fun k => True ∧ some k ≠ v.ownBlock) u p.f1) (HO : Kd.R k31 31 W base (fun _ => True) v xs)
    (HB : Below base w0 W) (hbase : base ≤ W.heap.size) (hl : (xs.length + 1) * 32 ≤ 140737488355328)
    (h : ∀ v1 w1, Kd.R k31 31 w1 base (fun _ => True) v1 (xs ++ [p]) → Below base w0 w1 → W.grownBy w1 v.ownBlock → (v1.ownBlock = v.ownBlock ∨ ∃ b, v1.ownBlock = some b ∧ W.heap.size ≤ b) → wpList Try.prog ops Q rest (a.put o.dst v1) w1) :
    wpList Try.prog ops Q (o :: rest) a (W.alloc (.cells #[.int .i64 p.f0, u] 31)) :=
  Kd.R_append k31 (w0 := w0) base hgd s x 27 31 (.agg #[.int .i64 0, .slice none 0 0]) 32 ho Try.underlying27 info31 rfl (by decide) (by decide) v xs p [.int .i64 p.f0, u] (fun _ => True) (fun k => True ∧ some k ≠ v.ownBlock) hs hx (k31_mkM W base _ p hp) (fun _ h => h) (fun _ _ => trivial) HO HB hbase hl h
end
set_option maxHeartbeats 4000000 in
set_option maxRecDepth 100000 in
theorem puts_calls (fr mb : Nat) (blocks most : Int) (M : List S31) (w : World) (hb : IsBuf w fr mb blocks most M) :
    Calls Try.prog 21 #[.pointer (some ⟨mb + 1, 0, none⟩)] w fun e w' => ∃ v, e = .returned v ∧ RowKit.Below w.heap.size w w' ∧ Kd.R k31 31 w' w.heap.size (fun _ => True) v M := by
  have HB := Lib.hid (fun w' (h : RowKit.Below w.heap.size w w') => hb.below h)
  have HS := Lib.hid (sorted_calls fr mb blocks most M w hb)
  have c2 := hb.c2
  have hl := hb.len
  have HM := Lib.hid (And.intro hb.srt (And.intro hb.rng hb.bl))
  clear hb
  go_enter Try.func21, Try.ntmps21
  go_wp2_with (first
    | (go_at_call 52; go_must (refine (keys_calls (some mb) _).mono ?_; rintro _ _ ⟨rfl, rfl⟩))
    | (go_at_call 51; go_must (refine HS.out.mono ?_; rintro _ w1 ⟨A1, c1, rfl, hB1, hC1⟩; have HB1 := Lib.hid hB1; have HC1 := Lib.hid (fun w' (h : RowKit.Below w1.heap.size w1 w') => Kd.C_below hC1 h); clear hB1 hC1)))
  clear HS c2
  go_loopw [2, 4, 14] (fun v _ i wr => ∃ k : Nat, k ≤ M.length ∧ i = .int .i64 k ∧ Aside0 (RowKit.Below w1.heap.size w1 wr ∧ Kd.R k31 31 wr w1.heap.size (fun _ => True) v (M.take k))) (fun _ _ i _ => M.length - (intOf i).toNat)
  case atStart => exact ⟨0, Nat.zero_le _, rfl, ⟨Below.refl _ _, by simpa using Kd.R_nil _ _ _ _ _⟩⟩
  case round =>
    obtain ⟨k, hk, rfl, HO⟩ := hrel
    by_cases hlt : k < M.length
    · obtain ⟨ad, rfl, x0⟩ := at_int (HC1.out _ HO.out.1) (k : Int) (by omega) (by omega)
      simp only [Int.toNat_natCast] at x0
      obtain ⟨q, hq⟩ : ∃ q, q = M[k] := ⟨_, rfl⟩
      have hqe : (keysM M).getD k 0 = q.f0 := by
        unfold keysM
        rw [List.getD_eq_getElem?_getD, List.getElem?_map, List.getElem?_eq_getElem hlt, hq]
        rfl
      rw [hqe] at x0
      have hqm : q ∈ M := by rw [hq]; exact List.getElem_mem hlt
      obtain ⟨r0, r1, r2⟩ := HM.out.2.1 q hqm
      have hbl := HM.out.2.2
      have HT := Lib.hid (show M.take (k + 1) = M.take k ++ [q] by rw [hq]; exact List.take_succ_eq_append_getElem hlt)
      have hbw := HB.out _ (Below.trans HB1.out (HO.out.1.mono HB1.out.size))
      obtain ⟨A5, c5, hlk, hc5, hC5⟩ := hbw.look q.f0 (wf_small q.f0 r0 (by omega)) false
      replace hlk := hlk wr rfl
      rw [if_neg (by decide), lookM_mem HM.out.1 hqm] at hlk
      rw [lookM_mem HM.out.1 hqm] at hC5
      have y2 := hbw.c2
      have HC5 := Lib.hid hC5
      have b2 : (k : Int) < (M.length : Int) := by omega
      have hv := Kd.R_slice HO.out.2
      obtain ⟨A6, c6, hv6⟩ := hv
      subst hv6
      have hol : (M.take k).length = k := by rw [List.length_take]; omega
      have HOL := Lib.hid hol
      rw [hol] at HO ⊢
      have HR := Lib.hid HO.out.2
      have HBB := Lib.hid HO.out.1
      have H40 := Lib.hid r2
      clear hq hqe hqm r2 hbw hc5 hC5 hol HO
      go_wp2_with (first
        | (go_at_call 49; go_must (refine (cloneB_calls A5 c5 q.f1 _ HC5.out (by have := H40.out; omega)).mono ?_; rintro _ w6 ⟨v6, rfl, hB6, hR6⟩; obtain ⟨A7, c7, hv7⟩ := Kd.R_slice hR6; subst hv7; have HB6 := Lib.hid (below_step HBB.out hB6); have HR6 := Lib.hid (Kd.R_lower (Kd.R_new' hR6 (Kd.R_lt HR.out)) HBB.out.size); have HO6 := Lib.hid (Kd.R_below HR.out hB6); clear hB6 hR6))
        | ((with_reducible refine gate_builtin (b := .append) (xs := #[.tmp 18, .tmp 28]) rfl ?_); at_builtin; go_must (refine app_put (w0 := w1) w1.heap.size rfl (.tmp 18) (.tmp 28) rfl (.slice A6 k c6) (M.take k) q (.slice A7 q.f1.length c7) rfl rfl HR6.out HO6.out HB6.out HB6.out.size (by have := HOL.out; omega) ?_; intro v7 w7 hR7 hB7 hg7 _; have HR7 := Lib.hid hR7; have HB7 := Lib.hid hB7; clear hR7 hB7 hg7)))
      go_roundw
      case rel => exact ⟨k + 1, by omega, by go_num, ⟨HB7.out, by rw [HT.out]; exact HR7.out⟩⟩
      case measure => simp [intOf]; omega
    · obtain rfl : k = M.length := by omega
      rw [List.take_length] at HO
      have b2 : ¬ (M.length : Int) < (M.length : Int) := by omega
      go_wp2
      try rw [Exit.noGoto_ret]
      go_ret
      exact ⟨_, rfl, Below.trans HB1.out (HO.out.1.mono HB1.out.size), Kd.R_lower HO.out.2 HB1.out.size⟩
set_option maxHeartbeats 1000000 in
theorem len_calls (fr mb : Nat) (blocks most : Int) (M : List S31) (w : World) (hb : IsBuf w fr mb blocks most M) :
    Calls Try.prog 18 #[.pointer (some ⟨mb + 1, 0, none⟩)] w fun e w' => e = .returned (.int .i64 M.length) ∧ RowKit.Below w.heap.size w w' := by
  have HS := Lib.hid (puts_calls fr mb blocks most M w hb)
  clear hb
  go_enter Try.func18, Try.ntmps18
  go_wp2_with (go_at_call 21; go_must (refine HS.out.mono ?_; rintro _ w1 ⟨v1, rfl, hB1, hR1⟩; obtain ⟨A1, c1, hv1⟩ := Kd.R_slice hR1; subst hv1))
  go_ret
  exact ⟨rfl, hB1⟩
theorem putsNil_calls (w : World) : Calls Try.prog 21 #[.pointer none] w fun e w' => e = .returned (.slice none 0 0) ∧ w' = w := by
  go_enter Try.func21, Try.ntmps21
  go_wp2
  go_ret
  exact ⟨rfl, rfl⟩
theorem lenNil_calls (w : World) : Calls Try.prog 18 #[.pointer none] w fun e w' => e = .returned (.int .i64 0) ∧ w' = w := by
  go_enter Try.func18, Try.ntmps18
  go_wp2_with (go_at_call 21; go_must (refine (putsNil_calls w).mono ?_; rintro _ w1 ⟨rfl, rfl⟩))
  go_ret
  exact ⟨rfl, rfl⟩
end Go.Proofs.Ytbebihphodafiaa.Iv
