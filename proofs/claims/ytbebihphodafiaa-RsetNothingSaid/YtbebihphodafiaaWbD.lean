/- The walk of a buffer's Write. -/
import Derived.Test.YtbebihphodafiaaProg
import Derived.Below
import Derived.Deep.Draws
import Derived.Deep.AppendLies
import Derived.Maps.AppendAt
import Derived.OwnWalk
import Derived.Laws.BytesArg
import Derived.Laws.MakeOwn
import Derived.Laws.OwnMore
import Derived.Deep.OwnRows
import Derived.Tactics
import Derived.Lib.ConvBytes
import Derived.Laws.Slices
import Derived.WalkKit
import Derived.KernelRfl
import Derived.RowKit3
import Derived.Deep.LoopGhost
import Derived.Deep.QuietTactic
import Derived.BigQuiet
import Derived.WideLaws
import Derived.Deep.DeepCutAuto
import Derived.Deep.CutBlock
import Derived.Deep.RegionHeld3
import Derived.Laws.Rows
import Derived.Lib.AppendStr
import Derived.ArgAppend
import Derived.Laws.IdiomCopy
import Derived.OrdersHeld
import Derived.Laws.BitsLemmas
import Derived.RowKit
import Derived.Test.YtbebihphodafiaaWWords
import Derived.Test.YtbebihphodafiaaWLast
import Derived.Test.YtbebihphodafiaaWTab
import Derived.Test.YtbebihphodafiaaWFour
import Derived.Test.YtbebihphodafiaaWQPut
import Derived.Test.YtbebihphodafiaaWApart
import Derived.Test.YtbebihphodafiaaWArr
import Derived.Test.YtbebihphodafiaaWZeros
import Derived.Test.YtbebihphodafiaaWFoot
import Derived.Test.YtbebihphodafiaaWKept
import Derived.Test.YtbebihphodafiaaWShare
import Derived.Test.YtbebihphodafiaaWN
import Derived.Test.YtbebihphodafiaaWFootNe
import Derived.Test.YtbebihphodafiaaWAt
import Derived.Test.YtbebihphodafiaaWEqStruct
import Derived.Test.YtbebihphodafiaaWRepsOne
import Derived.Test.YtbebihphodafiaaWInv
import Derived.Test.YtbebihphodafiaaWInvWords
import Derived.Test.YtbebihphodafiaaWGuard
import Derived.Test.YtbebihphodafiaaWNEv
import Derived.Test.YtbebihphodafiaaWMore
import Derived.Outline
import Derived.Lib.Hide
import Derived.Deep.DeepMust
import Derived.Deep.RegionHeld3
import Derived.RangeFuncOwn
import Derived.IntWalk
import Derived.Test.YtbebihphodafiaaWbC
namespace Go.Proofs.Ytbebihphodafiaa.Iv
open Go.RowKit Go.Proofs.YtbebihphodafiaaW.PrintWords Go.Proofs.YtbebihphodafiaaW.PrintLast Go.Proofs.YtbebihphodafiaaW.PrintMore Go.Proofs.Ytbebihphodafiaa.PWb Go.Maps
set_option linter.unusedVariables false
set_option linter.unusedSimpArgs false

theorem ent46 : Enters Try.prog 46 := enters_of Try.func46 (by kernel_rfl) rfl
theorem ent47 : Enters Try.prog 47 := enters_of Try.func47 (by kernel_rfl) rfl
theorem contains46 (A : Option Addr) (c : Nat) (l : List S31) (g mb : Nat) (blocks : Int) (W : World) (hr : Kd.C k31 W A l.length l) (hl : l.length ≤ 9223372036854775807) (h0 : W.cell? ⟨g, 0, none⟩ = some (.pointer (some ⟨mb + 1, 0, none⟩))) (h1 : W.cell? ⟨mb + 1, 0, none⟩ = some (.int .i64 blocks)) :
    Calls Try.prog 45 #[.slice A l.length c, .func (.func 46) #[] #[.pointer (some ⟨g, 0, none⟩)]] W fun e w' => e = .returned (.bool (l.any (outB blocks))) ∧ RowKit.Below W.heap.size W w' :=
  containsP_calls 46 #[.pointer (some ⟨g, 0, none⟩)] (outB blocks) ent46 A c l W hr hl (fun W' x A' c' _ hb =>
    (closure46 x A' c' g (mb + 1) blocks W' (pw_cell_below hb h0) (pw_cell_below hb h1)).mono fun r w' ⟨hr, hb'⟩ => ⟨hr, below_step hb hb'⟩)
theorem contains47 (A : Option Addr) (c : Nat) (l : List S31) (W : World) (hr : Kd.C k31 W A l.length l) (hl : l.length ≤ 9223372036854775807) :
    Calls Try.prog 45 #[.slice A l.length c, .func (.func 47) #[] #[]] W fun e w' => e = .returned (.bool (l.any lenB)) ∧ RowKit.Below W.heap.size W w' :=
  containsP_calls 47 #[] lenB ent47 A c l W hr hl (fun W' x A' c' _ hb =>
    (closure47 x A' c' W').mono fun r w' ⟨hr, hb'⟩ => ⟨hr, below_step hb hb'⟩)
theorem IsBuf.len99 {W : World} {fr mb : Nat} {blocks most : Int} {M : List S31} (h : IsBuf W fr mb blocks most M) (ty : TypeId) : (Builtin.len_ #[99] ty #[.map (some mb)]).run Try.prog W = .ok (.int .i64 M.length) W := by
  obtain ⟨D, d1, d2, _, _⟩ := h.map
  rw [d1.len Try.underlying99, d2]
theorem IsBuf.isMap {W : World} {fr mb : Nat} {blocks most : Int} {M : List S31} (h : IsBuf W fr mb blocks most M) : ∃ o : Obj, W.heap[mb]? = some o ∧ o.isCells = false := by
  obtain ⟨D, ⟨es, clock, hb, _⟩, _⟩ := h.map
  exact ⟨_, hb, rfl⟩
/-- A row of writes stays where a map is written. -/
theorem Cb_map {W W' : World} {m : Nat} {A : Option Addr} {n : Nat} {l : List Int} (h : Kd.C kb W A n l) (hg : W.grownBy W' (some m)) (hm : ∃ o : Obj, W.heap[m]? = some o ∧ o.isCells = false) : Kd.C kb W' A n l := by
  refine ⟨h.1, h.2.1, fun hp => ?_⟩
  obtain ⟨ad, he, hc⟩ := h.2.2 hp
  refine ⟨ad, he, fun j p hj => ?_⟩
  obtain ⟨cs, c1, c2, c3⟩ := hc j p hj
  exact ⟨cs, c1, c2, fun i u hu => cell_kept (c3 i u hu) hg (fun r hr => by cases hr; exact hm)⟩
theorem C31_map {W W' : World} {m : Nat} {A : Option Addr} {n : Nat} {l : List S31} (h : Kd.C k31 W A n l) (hg : W.grownBy W' (some m)) (hm : ∃ o : Obj, W.heap[m]? = some o ∧ o.isCells = false) : Kd.C k31 W' A n l := by
  refine ⟨h.1, h.2.1, fun hp => ?_⟩
  obtain ⟨ad, he, hc⟩ := h.2.2 hp
  refine ⟨ad, he, fun j p hj => ?_⟩
  obtain ⟨cs, c1, c2, c3⟩ := hc j p hj
  obtain ⟨A1, n1, rfl, l1, g1⟩ := k31_open c2
  exact ⟨_, c1, k31_mk W' p l1 (Cb_map g1 hg hm), fun i u hu => cell_kept (c3 i u hu) hg (fun r hr => by cases hr; exact hm)⟩
def freshN (M l : List S31) : Nat := l.countP (fun x => !hasM M x.f0)
def insL (M l : List S31) : List S31 := l.foldl ins M
/-- What a write answers, and what it leaves. -/
def wrC (blocks most : Int) (M l : List S31) : Int :=
  if l = [] then 1 else if l.any (outB blocks) = true then 2 else if l.any lenB = true then 3 else if dupB l = true then 4 else if most < (M.length : Int) + (freshN M l : Int) then 7 else 0
def wrM (blocks most : Int) (M l : List S31) : List S31 := if wrC blocks most M l = 0 then insL M l else M
theorem fresh_le (M l : List S31) : freshN M l ≤ l.length := List.countP_le_length
theorem fresh_succ (M l : List S31) (k : Nat) (h : k < l.length) : freshN M (l.take (k + 1)) = freshN M (l.take k) + if hasM M l[k].f0 = true then 0 else 1 := by
  rw [List.take_succ_eq_append_getElem h]
  unfold freshN
  rw [List.countP_append, List.countP_singleton]
  cases hasM M l[k].f0 <;> simp
theorem insL_succ (M l : List S31) (k : Nat) (h : k < l.length) : insL M (l.take (k + 1)) = ins (insL M (l.take k)) l[k] := by
  rw [List.take_succ_eq_append_getElem h]
  unfold insL
  rw [List.foldl_append]
  rfl
/-- The store of one write. -/
theorem put_run {W : World} {fr mb base : Nat} {blocks most : Int} {M : List S31} {x : S31} {v : Value} (h : IsBuf W fr mb blocks most M) (hx : 0 ≤ x.f0 ∧ x.f0 < blocks ∧ x.f1.length = 40)
    (hR : Kd.R kb 5 W base (fun _ => True) v x.f1) (hfr : fr ≤ base) :
    ∃ W2, (Instr.mapUpdate 99 (.map (some mb)) (.int .i64 x.f0) v).run Try.prog W = .ok () W2 ∧ W.grownBy W2 (some mb) ∧ IsBuf W2 fr mb blocks most (ins M x) := by
  obtain ⟨D, d1, d2, d3, d4⟩ := h.map
  have hl := h.len
  have hbl := h.bl
  have key : keyOf Try.prog 3 (.int .i64 x.f0) = some (ky x.f0) := keyOf_int_mk Try.underlying3 (wf_small _ hx.1 (by omega))
  obtain ⟨W2, hrun, hown, hg⟩ := d1.update law3 Try.underlying99 (by unfold maxLen; omega) key (show Rh v = some (.held v, []) from rfl)
  obtain ⟨g, cap, rfl, hb, _, _⟩ := Kd.R_form hR (by omega)
  obtain ⟨_, hc, hC⟩ := Kd.R_reads' hR
  exact ⟨W2, hrun, hg, h.put d1 d2 d3 d4 hown hg hx hc hC (Nat.le_trans hfr hb) (Kd.R_typed hR g rfl)⟩
theorem nodup_len : ∀ (l : List S31) (b : Nat), (l.map (·.f0)).Nodup → (∀ p ∈ l, 0 ≤ p.f0 ∧ p.f0 < (b : Int)) → l.length ≤ b := by
  intro l b h1 h2
  have h3 : (l.map fun p => p.f0.toNat).Nodup := by
    have : (l.map fun p => p.f0.toNat) = (l.map (·.f0)).map Int.toNat := by simp
    rw [this]
    exact List.Pairwise.map _ (fun a b hab => hab) (List.pairwise_iff_getElem.2 (fun i j hi hj hij he => by
      have h4 := List.pairwise_iff_getElem.1 h1 i j hi hj hij
      have hi' : i < l.length := by simpa using hi
      have hj' : j < l.length := by simpa using hj
      have h5 := h2 _ (List.getElem_mem hi')
      have h6 := h2 _ (List.getElem_mem hj')
      rw [List.getElem_map] at h4 he
      rw [List.getElem_map] at h4 he
      exact h4 (by omega)))
  have h4 := List.Nodup.length_le_of_subset h3 (l₂ := List.range b) (fun x hx => by
    obtain ⟨p, hp, rfl⟩ := List.mem_map.1 hx
    have := h2 p hp
    simp; omega)
  simpa using h4

set_option maxHeartbeats 8000000 in
set_option maxRecDepth 100000 in
theorem write_calls (fr mb : Nat) (blocks most : Int) (M : List S31) (A : Option Addr) (c : Nat) (l : List S31) (w : World) (hb : IsBuf w fr mb blocks most M) (hr : Kd.C k31 w A l.length l) (hl : l.length ≤ 140737488355328) (hfr : fr ≤ w.heap.size) :
    Calls Try.prog 17 #[.pointer (some ⟨mb + 1, 0, none⟩), .slice A l.length c] w fun e w' => e = .returned (.int .i64 (wrC blocks most M l)) ∧ IsBuf w' fr mb blocks most (wrM blocks most M l) ∧ w.grownBy w' (some mb) := by
  have HR := Lib.hid (fun w' (h : RowKit.Below w.heap.size w w') => Kd.C_below hr h)
  have HB0 := Lib.hid (fun w' (h : RowKit.Below w.heap.size w w') => hb.below h)
  have HBL := Lib.hid hb.bl
  have HML := Lib.hid hb.len
  have hlt := hb.lt
  have HW0 := Lib.hid (And.intro (below_alloc (Below.refl w.heap.size w) (.cells #[.pointer (some ⟨mb + 1, 0, none⟩)] 23)) (show (w.alloc (.cells #[.pointer (some ⟨mb + 1, 0, none⟩)] 23)).cell? ⟨w.heap.size, 0, none⟩ = some (.pointer (some ⟨mb + 1, 0, none⟩)) from World.cell?_alloc_at (w := w) #[.pointer (some ⟨mb + 1, 0, none⟩)] 23 w.heap.size 0 rfl))
  have t1 : True := trivial
  clear hr hb
  by_cases he : l = []
  · subst he
    have e1 : wrC blocks most M [] = 1 := by simp [wrC]
    have e2 : wrM blocks most M [] = M := by simp [wrM, e1]
    rw [e1, e2]
    clear e1 e2
    go_enter Try.func17, Try.ntmps17
    go_wp2
    try rw [Exit.noGoto_ret]
    go_ret
    exact ⟨rfl, (HB0.out _ HW0.out.1), grown_of_below HW0.out.1 _⟩
  have hne : ¬ ((l.length : Int) = 0) := by
    intro h; exact he (List.length_eq_zero_iff.1 (by omega))
  have hne' : ¬ (l.length = 0) := by omega
  cases ho : l.any (outB blocks) with
  | true =>
    have e1 : wrC blocks most M l = 2 := by simp [wrC, he, ho]
    have e2 : wrM blocks most M l = M := by simp [wrM, e1]
    rw [e1, e2]
    have HO := Lib.hid ho
    clear e1 e2 ho
    go_enter Try.func17, Try.ntmps17
    go_wp2_with (first
      | (go_at_call 45; have _t := t1; clear t1; go_must (refine (contains46 A c l w.heap.size mb blocks _ (HR.out _ HW0.out.1) (by omega) HW0.out.2 (HB0.out _ HW0.out.1).c0).mono ?_; rw [HO.out]; rintro _ w1 ⟨rfl, hB1⟩; have HW1 := Lib.hid (And.intro (below_step HW0.out.1 hB1) (pw_cell_below hB1 HW0.out.2)); have p1 := HW1.out.2; have q1 := (HB0.out _ HW1.out.1).c2; have r1 := (HB0.out _ HW1.out.1).c1; clear hB1)))
    try rw [Exit.noGoto_ret]
    go_ret
    exact ⟨rfl, (HB0.out _ HW1.out.1), grown_of_below HW1.out.1 _⟩
  | false =>
    have hrg : ∀ p ∈ l, 0 ≤ p.f0 ∧ p.f0 < blocks := by
      intro p hp
      have := List.any_eq_false.1 ho p hp
      simp [outB] at this
      exact this
    have HO := Lib.hid ho
    cases hle : l.any lenB with
    | true =>
      have e1 : wrC blocks most M l = 3 := by simp [wrC, he, ho, hle]
      have e2 : wrM blocks most M l = M := by simp [wrM, e1]
      rw [e1, e2]
      have HL := Lib.hid hle
      clear e1 e2 ho hle hrg
      go_enter Try.func17, Try.ntmps17
      go_wp2_with (first
        | (go_at_call 45; have _t := t1; clear t1; go_must (refine (contains46 A c l w.heap.size mb blocks _ (HR.out _ HW0.out.1) (by omega) HW0.out.2 (HB0.out _ HW0.out.1).c0).mono ?_; rw [HO.out]; rintro _ w1 ⟨rfl, hB1⟩; have HW1 := Lib.hid (And.intro (below_step HW0.out.1 hB1) (pw_cell_below hB1 HW0.out.2)); have p1 := HW1.out.2; have q1 := (HB0.out _ HW1.out.1).c2; have r1 := (HB0.out _ HW1.out.1).c1; clear hB1))
        | (go_at_call 45; go_must (refine (contains47 A c l _ (HR.out _ HW1.out.1) (by omega)).mono ?_; rw [HL.out]; rintro _ w2 ⟨rfl, hB2⟩; have HW2 := Lib.hid (And.intro (below_step HW1.out.1 hB2) (pw_cell_below hB2 HW1.out.2)); have p2 := HW2.out.2; have q2 := (HB0.out _ HW2.out.1).c2; have r2 := (HB0.out _ HW2.out.1).c1; clear hB2 p1 q1 r1)))
      try rw [Exit.noGoto_ret]
      go_ret
      exact ⟨rfl, (HB0.out _ HW2.out.1), grown_of_below HW2.out.1 _⟩
    | false =>
      have hl40 : ∀ p ∈ l, p.f1.length = 40 := by
        intro p hp
        have := List.any_eq_false.1 hle p hp
        simpa [lenB] using this
      have HL := Lib.hid hle
      have HRG := Lib.hid (show ∀ p ∈ l, 0 ≤ p.f0 ∧ p.f0 < 1048576 from fun p hp => ⟨(hrg p hp).1, by have := (hrg p hp).2; have := HBL.out; omega⟩)
      cases hd : dupB l with
      | true =>
        have e1 : wrC blocks most M l = 4 := by simp [wrC, he, ho, hle, hd]
        have e2 : wrM blocks most M l = M := by simp [wrM, e1]
        rw [e1, e2]
        have HD := Lib.hid hd
        clear e1 e2 ho hle hrg hl40 hd
        go_enter Try.func17, Try.ntmps17
        go_wp2_with (first
          | (go_at_call 45; have _t := t1; clear t1; go_must (refine (contains46 A c l w.heap.size mb blocks _ (HR.out _ HW0.out.1) (by omega) HW0.out.2 (HB0.out _ HW0.out.1).c0).mono ?_; rw [HO.out]; rintro _ w1 ⟨rfl, hB1⟩; have HW1 := Lib.hid (And.intro (below_step HW0.out.1 hB1) (pw_cell_below hB1 HW0.out.2)); have p1 := HW1.out.2; have q1 := (HB0.out _ HW1.out.1).c2; have r1 := (HB0.out _ HW1.out.1).c1; clear hB1))
          | (go_at_call 45; go_must (refine (contains47 A c l _ (HR.out _ HW1.out.1) (by omega)).mono ?_; rw [HL.out]; rintro _ w2 ⟨rfl, hB2⟩; have HW2 := Lib.hid (And.intro (below_step HW1.out.1 hB2) (pw_cell_below hB2 HW1.out.2)); have p2 := HW2.out.2; have q2 := (HB0.out _ HW2.out.1).c2; have r2 := (HB0.out _ HW2.out.1).c1; clear hB2 p1 q1 r1))
          | (go_at_call 48; go_must (refine (twice_calls A c l _ (HR.out _ HW2.out.1) (by omega) HRG.out).mono ?_; rw [HD.out]; rintro _ w3 ⟨rfl, hB3⟩; have HW3 := Lib.hid (And.intro (below_step HW2.out.1 hB3) (pw_cell_below hB3 HW2.out.2)); have p3 := HW3.out.2; have q3 := (HB0.out _ HW3.out.1).c2; have r3 := (HB0.out _ HW3.out.1).c1; have s3 := (HB0.out _ HW3.out.1).len99; clear hB3 p2 q2 r2)))
        try rw [Exit.noGoto_ret]
        go_ret
        exact ⟨rfl, (HB0.out _ HW3.out.1), grown_of_below HW3.out.1 _⟩
      | false =>
        have hnd : (l.map (·.f0)).Nodup := by simpa [dupB] using hd
        have hlen := nodup_len l 1048576 hnd HRG.out
        have HD := Lib.hid hd
        have HG := Lib.hid hrg
        have H40 := Lib.hid hl40
        have hml := HML.out
        have hfl := fresh_le M l
        have he0 := Lib.hid he
        have HC := Lib.hid (show wrC blocks most M l = if most < (M.length : Int) + (freshN M l : Int) then 7 else 0 by simp [wrC, he, ho, hle, hd])
        clear ho hle hd hnd hrg hl40 he
        go_enter Try.func17, Try.ntmps17
        go_wp2_with (first
          | (go_at_call 45; have _t := t1; clear t1; go_must (refine (contains46 A c l w.heap.size mb blocks _ (HR.out _ HW0.out.1) (by omega) HW0.out.2 (HB0.out _ HW0.out.1).c0).mono ?_; rw [HO.out]; rintro _ w1 ⟨rfl, hB1⟩; have HW1 := Lib.hid (And.intro (below_step HW0.out.1 hB1) (pw_cell_below hB1 HW0.out.2)); have p1 := HW1.out.2; have q1 := (HB0.out _ HW1.out.1).c2; have r1 := (HB0.out _ HW1.out.1).c1; clear hB1))
          | (go_at_call 45; go_must (refine (contains47 A c l _ (HR.out _ HW1.out.1) (by omega)).mono ?_; rw [HL.out]; rintro _ w2 ⟨rfl, hB2⟩; have HW2 := Lib.hid (And.intro (below_step HW1.out.1 hB2) (pw_cell_below hB2 HW1.out.2)); have p2 := HW2.out.2; have q2 := (HB0.out _ HW2.out.1).c2; have r2 := (HB0.out _ HW2.out.1).c1; clear hB2 p1 q1 r1))
          | (go_at_call 48; go_must (refine (twice_calls A c l _ (HR.out _ HW2.out.1) (by omega) HRG.out).mono ?_; rw [HD.out]; rintro _ w3 ⟨rfl, hB3⟩; have HW3 := Lib.hid (And.intro (below_step HW2.out.1 hB3) (pw_cell_below hB3 HW2.out.2)); have p3 := HW3.out.2; have q3 := (HB0.out _ HW3.out.1).c2; have r3 := (HB0.out _ HW3.out.1).c1; have s3 := (HB0.out _ HW3.out.1).len99; clear hB3 p2 q2 r2)))
        clear HW0 HW1 HW2 HO HL HD HRG
        go_loopw [5, 7, 8, 9, 37] (fun n _ _ _ i wr => ∃ k : Nat, k ≤ l.length ∧ i = .int .i64 k ∧ n = .int .i64 (((M.length + freshN M (l.take k) : Nat)) : Int) ∧ Aside0 (RowKit.Below w.heap.size w wr ∧ wr.cell? ⟨w.heap.size, 0, none⟩ = some (.pointer (some ⟨mb + 1, 0, none⟩)))) (fun _ _ _ _ i _ => l.length - (intOf i).toNat)
        case atStart => exact ⟨0, Nat.zero_le _, rfl, by simp [freshN], ⟨HW3.out⟩⟩
        case round =>
          clear HW3 p3 q3 r3 s3
          obtain ⟨k, hk, rfl, rfl, HJ⟩ := hrel
          by_cases hkl : k < l.length
          · obtain ⟨ad, A1, c1, rfl, x0, x1, _, _⟩ := at_T31 (HR.out _ HJ.out.1) (k : Int) (by omega) (by omega)
            simp only [Int.toNat_natCast] at x0 x1
            obtain ⟨q, hq⟩ : ∃ q, q = rd_T31 l (k : Int) := ⟨_, rfl⟩
            rw [← hq] at x0 x1
            have hqe : q = l[k] := by rw [hq]; simp [rd_T31, List.getD_eq_getElem?_getD, List.getElem?_eq_getElem hkl]
            obtain ⟨q0, q1⟩ := HG.out q (by rw [hqe]; exact List.getElem_mem hkl)
            have hfs := fresh_succ M l k hkl
            rw [← hqe] at hfs
            have hfk := fresh_le M (l.take k)
            have htk : (l.take k).length ≤ l.length := by rw [List.length_take]; omega
            obtain ⟨f, hf⟩ : ∃ f, f = freshN M (l.take k) := ⟨_, rfl⟩
            rw [← hf] at hfs hfk ⊢
            have hbl := HBL.out
            have HB5 := Lib.hid (below_alloc HJ.out.1 (.cells #[.int .i64 q.f0, .slice A1 q.f1.length c1] 31))
            obtain ⟨A7, c7, hlk, _, _⟩ := (HB0.out _ HB5.out).look q.f0 (wf_small q.f0 q0 (by omega)) true
            have hlk' := fun n => hlk ((wr.alloc (.cells #[.int .i64 q.f0, .slice A1 q.f1.length c1] 31)).drewN n) rfl
            replace hlk := hlk _ rfl
            rw [if_pos rfl] at hlk
            simp only [if_pos] at hlk'
            have y0 := pw_cell_below (below_alloc (Below.refl _ _) (.cells #[.int .i64 q.f0, .slice A1 q.f1.length c1] 31)) HJ.out.2
            have y1 := (HB0.out _ HB5.out).c2
            have HY := Lib.hid HJ.out.2
            have z0 := World.cell?_alloc_at (w := wr) #[.int .i64 q.f0, .slice A1 q.f1.length c1] 31 wr.heap.size 0 rfl
            have b2 : (k : Int) < (l.length : Int) := by omega
            have HF := Lib.hid hfs
            clear hq hqe hfs hf HJ
            cases hm : hasM M q.f0 with
            | true =>
              rw [hm, if_pos rfl] at HF
              rw [hm] at hlk hlk'
              clear hm
              go_wp2
              go_quiet (fail)
              clear hlk hlk' y0 y1 z0
              have HB6 := Lib.hid (pw_below_drewN HB5.out nq)
              have HP6 := Lib.hid (show ((wr.alloc (.cells #[.int .i64 q.f0, .slice A1 q.f1.length c1] 31)).drewN nq).cell? ⟨w.heap.size, 0, none⟩ = some (.pointer (some ⟨mb + 1, 0, none⟩)) from pw_cell_below (pw_below_drewN (below_alloc (Below.refl _ _) _) _) HY.out)
              go_wp2
              go_roundw
              case rel => exact ⟨k + 1, by omega, by go_num, by rw [HF.out]; rfl, ⟨HB6.out, HP6.out⟩⟩
              case measure => simp [intOf]; omega
            | false =>
              rw [hm] at HF
              replace HF : Hid (freshN M (l.take (k + 1)) = f + 1) := Lib.hid (by rw [HF.out]; rfl)
              rw [hm] at hlk hlk'
              clear hm
              go_wp2
              go_quiet (fail)
              clear hlk hlk' y0 y1 z0
              have HB6 := Lib.hid (pw_below_drewN HB5.out nq)
              have HP6 := Lib.hid (show ((wr.alloc (.cells #[.int .i64 q.f0, .slice A1 q.f1.length c1] 31)).drewN nq).cell? ⟨w.heap.size, 0, none⟩ = some (.pointer (some ⟨mb + 1, 0, none⟩)) from pw_cell_below (pw_below_drewN (below_alloc (Below.refl _ _) _) _) HY.out)
              go_wp2
              go_roundw
              case rel => exact ⟨k + 1, by omega, by go_num, by rw [HF.out]; simp; omega, ⟨HB6.out, HP6.out⟩⟩
              case measure => simp [intOf]; omega
          · obtain rfl : k = l.length := by omega
            have hF : l.take l.length = l := List.take_length
            rw [hF]
            have b2 : ¬ (l.length : Int) < (l.length : Int) := by omega
            have HB4 := Lib.hid HJ.out.1
            have p4 := HJ.out.2
            have c1 := (HB0.out _ HB4.out).c1
            obtain ⟨f, hf⟩ : ∃ f, f = freshN M l := ⟨_, rfl⟩
            rw [← hf] at HC hfl ⊢
            clear hF hf HJ
            by_cases hbig : most < (M.length : Int) + (f : Int)
            · have e1 := HC.out
              rw [if_pos hbig] at e1
              have e2 : wrM blocks most M l = M := by simp [wrM, e1]
              have E1 := Lib.hid e1
              have E2 := Lib.hid e2
              have hbig' : most < ((M.length + f : Nat) : Int) := by omega
              clear e1 e2
              go_wp2
              try rw [Exit.noGoto_ret]
              go_ret
              exact ⟨by rw [E1.out]; rfl, by rw [E2.out]; exact HB0.out _ HB4.out, grown_of_below HB4.out _⟩
            · have e1 := HC.out
              rw [if_neg hbig] at e1
              have e2 : wrM blocks most M l = insL M l := by simp [wrM, e1]
              have E1 := Lib.hid e1
              have E2 := Lib.hid e2
              have hbig' : ¬ most < ((M.length + f : Nat) : Int) := by omega
              clear e1 e2
              go_wp2
              obtain ⟨wo, hwo⟩ : ∃ wo : World, wo = wr := ⟨_, rfl⟩
              subst hwo
              have HP4 := Lib.hid p4
              have HFR := Lib.hid (Nat.le_trans hfr HB4.out.size)
              have HCC := Lib.hid (fun w' (h : wo.grownBy w' (some mb)) => C31_map (HR.out _ HB4.out) h (HB0.out _ HB4.out).isMap)
              clear p4 c1
              go_loopw [11, 64] (fun _ i wr => ∃ k : Nat, k ≤ l.length ∧ i = .int .i64 k ∧ Aside0 (wo.grownBy wr (some mb) ∧ wr.cell? ⟨w.heap.size, 0, none⟩ = some (.pointer (some ⟨mb + 1, 0, none⟩)) ∧ IsBuf wr fr mb blocks most (insL M (l.take k)) ∧ wo.heap.size ≤ wr.heap.size)) (fun _ i _ => l.length - (intOf i).toNat)
              case atStart => exact ⟨0, Nat.zero_le _, rfl, ⟨World.grownBy.refl _ _, HP4.out, HB0.out _ HB4.out, Nat.le_refl _⟩⟩
              case round =>
                obtain ⟨k, hk, rfl, HJ⟩ := hrel
                by_cases hkl : k < l.length
                · obtain ⟨ad, A1, c1, rfl, x0, x1, x2, x3⟩ := at_T31 (HCC.out _ HJ.out.1) (k : Int) (by omega) (by omega)
                  simp only [Int.toNat_natCast] at x0 x1
                  obtain ⟨q, hq⟩ : ∃ q, q = rd_T31 l (k : Int) := ⟨_, rfl⟩
                  rw [← hq] at x0 x1 x2 x3
                  have hqe : q = l[k] := by rw [hq]; simp [rd_T31, List.getD_eq_getElem?_getD, List.getElem?_eq_getElem hkl]
                  have hqm : q ∈ l := by rw [hqe]; exact List.getElem_mem hkl
                  have HQ := Lib.hid (show (0 ≤ q.f0 ∧ q.f0 < blocks) ∧ q.f1.length = 40 from ⟨HG.out q hqm, H40.out q hqm⟩)
                  have HIL := Lib.hid (show insL M (l.take (k + 1)) = ins (insL M (l.take k)) q by rw [insL_succ M l k hkl, hqe])
                  have b2 : (k : Int) < (l.length : Int) := by omega
                  obtain ⟨M', hM'⟩ : ∃ M', M' = insL M (l.take k) := ⟨_, rfl⟩
                  rw [← hM'] at HIL HJ
                  have HX3 := Lib.hid x3
                  have HJ5 := Lib.hid HJ.out
                  clear hq hqe hqm hM' x2 x3 HJ
                  go_wp2
                  obtain ⟨w5, h5⟩ : ∃ y, y = wr.alloc (.cells #[.int .i64 q.f0, .slice A1 q.f1.length c1] 31) := ⟨_, rfl⟩
                  have y0 := World.cell?_alloc_at (w := wr) #[.int .i64 q.f0, .slice A1 q.f1.length c1] 31 wr.heap.size 0 rfl
                  have y1 := World.cell?_alloc_at (w := wr) #[.int .i64 q.f0, .slice A1 q.f1.length c1] 31 wr.heap.size 1 rfl
                  have hb5 := below_alloc (Below.refl wr.heap.size wr) (.cells #[.int .i64 q.f0, .slice A1 q.f1.length c1] 31)
                  rw [← h5] at y0 y1 hb5 ⊢
                  clear h5
                  have y2 := pw_cell_below hb5 HJ5.out.2.1
                  have HB5 := Lib.hid (HJ5.out.2.2.1.below (below_drew1 hb5))
                  have y3 : w5.cell? ⟨mb + 1, 2, none⟩ = some (.map (some mb)) := HB5.out.c2
                  have HX5 := Lib.hid (Kd.C_below HX3.out (below_drew1 hb5))
                  have HG5 := Lib.hid (grown_trans HJ5.out.1 (grown_of_below (below_drew1 hb5) _))
                  have HS5 := Lib.hid (Nat.le_trans HJ5.out.2.2.2 hb5.size)
                  have HIM := Lib.hid (fun w' (h : RowKit.Below w5.drew.heap.size w5.drew w') => (HB5.out.below h).isMap)
                  clear hb5 x0 x1 HX3
                  have y0' : w5.cell? ⟨wr.heap.size, 0, none⟩ = some (.int .i64 q.f0) := y0
                  have y1' : w5.cell? ⟨wr.heap.size, 1, none⟩ = some (.slice A1 q.f1.length c1) := y1
                  clear y0 y1
                  go_region_held3 (fun w' => w'.cell? ⟨w.heap.size, 0, none⟩ = some (.pointer (some ⟨mb + 1, 0, none⟩)) ∧ w'.cell? ⟨mb + 1, 2, none⟩ = some (.map (some mb)) ∧ w'.cell? ⟨wr.heap.size, 0, none⟩ = some (.int .i64 q.f0) ∧ w'.cell? ⟨wr.heap.size, 1, none⟩ = some (.slice A1 q.f1.length c1))
                    (first | exact HS7.out | exact HS6.out | exact ⟨y2, y3, y0', y1'⟩)
                    ((go_at_call 49; refine (cloneB_calls A1 c1 q.f1 _ HX5.out (by have := HQ.out.2; omega)).mono ?_; rintro _ w6 ⟨v6, rfl, hB6, hR6⟩; have HS6 := Lib.hid (show w6.cell? ⟨w.heap.size, 0, none⟩ = some (.pointer (some ⟨mb + 1, 0, none⟩)) ∧ w6.cell? ⟨mb + 1, 2, none⟩ = some (.map (some mb)) ∧ w6.cell? ⟨wr.heap.size, 0, none⟩ = some (.int .i64 q.f0) ∧ w6.cell? ⟨wr.heap.size, 1, none⟩ = some (.slice A1 q.f1.length c1) from ⟨pw_cell_below hB6 y2, pw_cell_below hB6 y3, pw_cell_below hB6 y0', pw_cell_below hB6 y1'⟩); have HPK := Lib.hid (put_run (fr := fr) (blocks := blocks) (most := most) (M := M') (x := q) (v := v6) (HB5.out.below hB6) ⟨HQ.out.1.1, HQ.out.1.2, HQ.out.2⟩ hR6 (by have h1 := HS5.out; have h2 : w5.heap.size = w5.drew.heap.size := rfl; have h3 := HFR.out; omega)); obtain ⟨w7, hrun7, hg7, hb7⟩ := HPK.out; have HS7 := Lib.hid (show w7.cell? ⟨w.heap.size, 0, none⟩ = some (.pointer (some ⟨mb + 1, 0, none⟩)) ∧ w7.cell? ⟨mb + 1, 2, none⟩ = some (.map (some mb)) ∧ w7.cell? ⟨wr.heap.size, 0, none⟩ = some (.int .i64 q.f0) ∧ w7.cell? ⟨wr.heap.size, 1, none⟩ = some (.slice A1 q.f1.length c1) from ⟨cell_kept HS6.out.1 hg7 (fun r hr => by cases hr; exact HIM.out _ hB6), cell_kept HS6.out.2.1 hg7 (fun r hr => by cases hr; exact HIM.out _ hB6), cell_kept HS6.out.2.2.1 hg7 (fun r hr => by cases hr; exact HIM.out _ hB6), cell_kept HS6.out.2.2.2 hg7 (fun r hr => by cases hr; exact HIM.out _ hB6)⟩); have HG7 := Lib.hid (grown_trans HG5.out (grown_trans (grown_of_below hB6 _) hg7)); have HB7 := Lib.hid hb7; have HS8 := Lib.hid (Nat.le_trans (Nat.le_trans HS5.out hB6.size) hg7.size); clear hR6 hB6 hg7 hb7 HPK))
                  go_wp2
                  go_roundw
                  case rel => exact ⟨k + 1, by omega, by go_num, ⟨HG7.out, HS7.out.1, by rw [HIL.out]; exact HB7.out, HS8.out⟩⟩
                  case measure => simp [intOf]; omega
                · obtain rfl : k = l.length := by omega
                  have hF : l.take l.length = l := List.take_length
                  rw [hF] at HJ
                  have HJ5 := Lib.hid HJ.out
                  have b2 : ¬ (l.length : Int) < (l.length : Int) := by omega
                  clear hF HJ
                  go_wp2
                  try rw [Exit.noGoto_ret]
                  go_ret
                  exact ⟨by rw [E1.out]; rfl, by rw [E2.out]; exact HJ5.out.2.2.1, grown_trans (grown_of_below HB4.out _) HJ5.out.1⟩
end Go.Proofs.Ytbebihphodafiaa.Iv
