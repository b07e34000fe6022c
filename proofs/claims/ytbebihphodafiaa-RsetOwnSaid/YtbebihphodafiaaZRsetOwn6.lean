/- Merged texts of this session: The walk of WbufLast: what is written is read again, the last one; a vector that is refused changes nothing. A view's Read refused; no view; fresh worlds; awake; the law RsetNothing. A view's Read beyond the map, or of too many extents. A view's Read of too many extents. A world of the laws: what reading it does. A world of the laws: what applying to its map, and writing to its buffer, does. The law RsetSteady. The law RsetSteady. All that a view read. What the law RsetOwn stands on. -/
import Derived.Test.YtbebihphodafiaaProg
import Derived.Below
import Derived.Deep.Draws
import Derived.Deep.AppendLies
import Derived.Maps.AppendAt
import Derived.OwnWalk
import Derived.Laws.BytesArg
import Derived.Laws.MakeOwn
import Derived.Laws.OwnMore
import Derived.Deep.OwnRows
import Derived.Tactics
import Derived.Lib.ConvBytes
import Derived.Laws.Slices
import Derived.WalkKit
import Derived.KernelRfl
import Derived.RowKit3
import Derived.Deep.LoopGhost
import Derived.Deep.QuietTactic
import Derived.BigQuiet
import Derived.WideLaws
import Derived.Deep.DeepCutAuto
import Derived.Deep.CutBlock
import Derived.Deep.RegionHeld3
import Derived.Laws.Rows
import Derived.Lib.AppendStr
import Derived.ArgAppend
import Derived.Laws.IdiomCopy
import Derived.OrdersHeld
import Derived.Laws.BitsLemmas
import Derived.RowKit
import Derived.Test.YtbebihphodafiaaWWords
import Derived.Test.YtbebihphodafiaaWLast
import Derived.Test.YtbebihphodafiaaWTab
import Derived.Test.YtbebihphodafiaaWFour
import Derived.Test.YtbebihphodafiaaWQPut
import Derived.Test.YtbebihphodafiaaWApart
import Derived.Test.YtbebihphodafiaaWArr
import Derived.Test.YtbebihphodafiaaWZeros
import Derived.Test.YtbebihphodafiaaWFoot
import Derived.Test.YtbebihphodafiaaWKept
import Derived.Test.YtbebihphodafiaaWShare
import Derived.Test.YtbebihphodafiaaWN
import Derived.Test.YtbebihphodafiaaWFootNe
import Derived.Test.YtbebihphodafiaaWAt
import Derived.Test.YtbebihphodafiaaWEqStruct
import Derived.Test.YtbebihphodafiaaWRepsOne
import Derived.Test.YtbebihphodafiaaWInv
import Derived.Test.YtbebihphodafiaaWInvWords
import Derived.Test.YtbebihphodafiaaWGuard
import Derived.Test.YtbebihphodafiaaWNEv
import Derived.Test.YtbebihphodafiaaWMore
import Derived.Outline
import Derived.Lib.Hide
import Derived.Deep.DeepMust
import Derived.IntWalk
import Derived.StillTailTactics
import Derived.Test.YtbebihphodafiaaZRsetOwn1
import Derived.Test.YtbebihphodafiaaZRsetOwn2
import Derived.Test.YtbebihphodafiaaZRsetOwn3
import Derived.Test.YtbebihphodafiaaZRsetOwn4
import Derived.Test.YtbebihphodafiaaZRsetOwn5
namespace Go.Proofs.Ytbebihphodafiaa.Iv
open Go.RowKit Go.Proofs.YtbebihphodafiaaW.PrintWords Go.Proofs.YtbebihphodafiaaW.PrintLast Go.Proofs.YtbebihphodafiaaW.PrintMore Go.Proofs.Ytbebihphodafiaa.PWb Go.Maps
set_option linter.unusedVariables false
set_option linter.unusedSimpArgs false

theorem bytes_l0 (l : List Int) (hl : l.length ≤ 1000000) (d : Nat) : ∀ (k i : Nat), i + d = l.length → d + 1 ≤ k → scarpalike_Bytes.l0 k l l (i : Int) = some true := by
  induction d with
  | zero =>
    intro k i hi hk
    obtain ⟨k, rfl⟩ : ∃ m, k = m + 1 := ⟨k - 1, by omega⟩
    simp only [scarpalike_Bytes.l0]
    rw [if_neg (by omega)]
  | succ d ih =>
    intro k i hi hk
    obtain ⟨k, rfl⟩ : ∃ m, k = m + 1 := ⟨k - 1, by omega⟩
    simp only [scarpalike_Bytes.l0]
    have w : wrap64 ((i : Int) + 1) = ((i + 1 : Nat) : Int) := by unfold wrap64; omega
    rw [if_pos (by omega), if_pos (by omega), if_pos (by omega), if_pos trivial, w]
    exact ih k (i + 1) (by omega) (by omega)
theorem bytes_refl (l : List Int) (hl : l.length ≤ 1000000) : scarpalike_Bytes.f (l.length + 1) l l = some true := by
  unfold scarpalike_Bytes.f
  rw [if_pos rfl]
  exact bytes_l0 l hl l.length (l.length + 1) 0 (by omega) (by omega)
theorem lookM_ins (M : List S31) (x : S31) (hM : Rise M) (y : Int) : lookM (ins M x) y = if y = x.f0 then x.f1 else lookM M y := by
  have hr := ins_rise M x hM
  by_cases h : y = x.f0
  · rw [if_pos h, h, lookM_mem hr ((ins_mem M x hM x).2 (.inl rfl))]
  · rw [if_neg h]
    cases hm : hasM M y with
    | true =>
      obtain ⟨p, hp, rfl⟩ := (hasM_iff M y).1 hm
      rw [lookM_mem hM hp, lookM_mem hr ((ins_mem M x hM p).2 (.inr ⟨hp, h⟩))]
    | false =>
      rw [lookM_none M y hm, lookM_none (ins M x) y ((hasM_false _ _).2 (fun p hp e => by
        rcases (ins_mem M x hM p).1 hp with rfl | hp
        · exact h e.symm
        · exact (hasM_false M y).1 hm p hp.1 e))]
theorem count_keys (M : List S31) (hM : Rise M) (n : Nat) (hr : ∀ p ∈ M, 0 ≤ p.f0 ∧ p.f0 < (n : Int)) : (List.range n).countP (fun j : Nat => hasM M (j : Int)) = M.length := by
  have h1 : ((List.range n).filter (fun j : Nat => hasM M (j : Int))).Nodup := List.nodup_range.filter _
  have h2 : (M.map fun p => p.f0.toNat).Nodup := List.Pairwise.map _ (fun a b h => h) (List.pairwise_iff_getElem.2 (fun i j hi hj hij e => by
    have h3 := List.pairwise_iff_getElem.1 hM i j hi hj hij
    have h4 := hr _ (List.getElem_mem hi)
    have h5 := hr _ (List.getElem_mem hj)
    omega))
  have hp : ((List.range n).filter (fun j : Nat => hasM M (j : Int))).Perm (M.map fun p => p.f0.toNat) := (List.perm_ext_iff_of_nodup h1 h2).2 (fun j => by
    rw [List.mem_filter, List.mem_map, List.mem_range, hasM_iff]
    constructor
    · rintro ⟨_, p, hp, e⟩
      exact ⟨p, hp, by omega⟩
    · rintro ⟨p, hp, e⟩
      have := hr p hp
      exact ⟨by omega, p, hp, by omega⟩)
  rw [List.countP_eq_length_filter, hp.length_eq, List.length_map]
/-- What each block is to be. -/
def Wants (w W : World) (gw : Nat) (M : List S31) : Prop := ∀ j : Nat, j < 20 → W.frozen? ⟨gw, j, none⟩ = false ∧ ∃ A c, W.cell? ⟨gw, j, none⟩ = some (.slice A (lookM M (j : Int)).length c) ∧ (lookM M (j : Int)).length ≤ c ∧ Kd.C kb w A (lookM M (j : Int)).length (lookM M (j : Int))
section
variable {w W W' : World} {gw : Nat} {M : List S31}
theorem Wants.below (h : Wants w W gw M) (hb : RowKit.Below W.heap.size W W') : Wants w W' gw M := fun j hj => by
  obtain ⟨h1, A, c, h2, h3, h4⟩ := h j hj
  exact ⟨by rw [hb.frozen (p := ⟨gw, j, none⟩) (World.block_lt_of_cell? _ _ h2)]; exact h1, A, c, pw_cell_below hb h2, h3, h4⟩
theorem Wants.wr (h : Wants w W gw M) {m : Nat} (hg : W.grownBy W' (some m)) (hm : ∃ o : Obj, W.heap[m]? = some o ∧ o.isCells = false) : Wants w W' gw M := fun j hj => by
  obtain ⟨h1, A, c, h2, h3, h4⟩ := h j hj
  exact ⟨by rw [frozen_kept h2 hg (fun r hr => by cases hr; exact hm)]; exact h1, A, c, cell_kept h2 hg (fun r hr => by cases hr; exact hm), h3, h4⟩
theorem Wants.put (h : Wants w W gw M) (hM : Rise M) (x : Nat) (hx : x < 20) (d : List Int) (A : Option Addr) (c : Nat) (hc : d.length ≤ c) (hC : Kd.C kb w A d.length d) :
    Wants w (W.setCell ⟨gw, x, none⟩ (.slice A d.length c)) gw (ins M ⟨(x : Int), d⟩) := fun j hj => by
  obtain ⟨h1, A1, c1, h2, h3, h4⟩ := h j hj
  refine ⟨by rw [World.frozen?_setCell]; exact h1, ?_⟩
  rw [lookM_ins M _ hM]
  by_cases he : j = x
  · subst he
    rw [if_pos rfl]
    exact ⟨A, c, World.cell?_setCell_same _ _ _ h2, hc, hC⟩
  · rw [if_neg (fun e => he (Int.ofNat_inj.1 e))]
    refine ⟨A1, c1, ?_, h3, h4⟩
    rw [World.cell?_setCell_other]
    · exact h2
    · intro e; injection e with _ e; exact he e.symm
end
theorem IsBuf.raise {W : World} {fr mb : Nat} {blocks most : Int} (h : IsBuf W fr mb blocks most []) (fr' : Nat) (hf : mb + 1 < fr') : IsBuf W fr' mb blocks most [] := by
  obtain ⟨D, d1, d2, d3, d4⟩ := h.map
  exact ⟨hf, h.c0, h.c1, h.c2, ⟨D, d1, d2, d3, fun p hp => by simp at hp⟩, h.srt, h.rng, h.bl⟩
theorem info28 : (Try.prog.info? 28).map (fun i => (i.zero, i.size, i.bytes)) = some (some (.slice none 0 0), 1, 24) := by kernel_rfl
theorem lookM_nil (y : Int) : lookM [] y = [] := rfl
end Go.Proofs.Ytbebihphodafiaa.Iv

namespace Go.Proofs.Ytbebihphodafiaa.Iv
open Go.RowKit Go.Proofs.YtbebihphodafiaaW.PrintWords Go.Proofs.YtbebihphodafiaaW.PrintLast Go.Proofs.YtbebihphodafiaaW.PrintMore Go.Proofs.Ytbebihphodafiaa.PWb Go.Maps
set_option linter.unusedVariables false
set_option linter.unusedSimpArgs false

set_option maxHeartbeats 4000000 in
theorem readLen_calls (p : Option Addr) (f0 n : Int) (w : World) (hn : n < 1 ∨ 16 < n) :
    Calls Try.prog 28 #[.pointer p, .agg #[.int .i64 f0, .int .i64 n]] w fun r w' => r = .returned (.tuple #[.slice none 0 0, .int .i64 3]) ∧ RowKit.Below w.heap.size w w' := by
  have HB5 := Lib.hid (below_alloc (Below.refl w.heap.size w) (.cells #[.int .i64 f0, .int .i64 n] 60))
  by_cases h1 : n < 1
  · have d1 : decide (n < 1) = true := by simpa using h1
    go_enter Try.func28, Try.ntmps28
    go_wp2
    go_step3
    go_wp2
    try rw [Exit.noGoto_ret]
    go_ret2
    exact ⟨rfl, HB5.out⟩
  · have d1 : decide (n < 1) = false := by simpa using h1
    have h2 : (16 : Int) < n := by omega
    have d2 : decide ((16 : Int) < n) = true := by simpa using h2
    go_enter Try.func28, Try.ntmps28
    go_wp2
    go_step3
    go_wp2
    try rw [Exit.noGoto_ret]
    go_ret2
    exact ⟨rfl, HB5.out⟩
set_option maxHeartbeats 4000000 in
theorem readNil_calls (f0 n : Int) (w : World) (hn : 1 ≤ n ∧ n ≤ 16) :
    Calls Try.prog 28 #[.pointer none, .agg #[.int .i64 f0, .int .i64 n]] w fun r w' => r = .returned (.tuple #[.slice none 0 0, .int .i64 2]) ∧ RowKit.Below w.heap.size w w' := by
  have HB5 := Lib.hid (below_alloc (Below.refl w.heap.size w) (.cells #[.int .i64 f0, .int .i64 n] 60))
  have h1 : ¬ n < 1 := by omega
  have h2 : ¬ (16 : Int) < n := by omega
  have d1 : decide (n < 1) = false := by simpa using h1
  have d2 : decide ((16 : Int) < n) = false := by simpa using h2
  go_enter Try.func28, Try.ntmps28
  go_wp2
  go_step3
  go_wp2
  try rw [Exit.noGoto_ret]
  go_ret2
  exact ⟨rfl, HB5.out⟩
theorem newNil_calls (a : Int) (w : World) : Calls Try.prog 32 #[.pointer none, .pointer none, .int .i64 a] w fun r w' => r = .returned (.pointer none) ∧ w' = w := by
  go_enter Try.func32, Try.ntmps32
  go_wp2
  go_ret
  exact ⟨rfl, rfl⟩
theorem newV_calls (fr em mb : Nat) (a : Int) (w : World) (hfr : w.heap.size + 1 < fr) : Calls Try.prog 32 #[.pointer (some ⟨em + 1, 0, none⟩), .pointer (some ⟨mb + 1, 0, none⟩), .int .i64 a] w fun r w' => r = .returned (.pointer (some ⟨w.heap.size + 1, 0, none⟩)) ∧ RowKit.Below w.heap.size w w' ∧ IsSet w' fr w.heap.size 64 [] ∧ IsView w' fr (w.heap.size + 1) em mb w.heap.size a (fun _ => True) [] ∧ w'.heap.size = w.heap.size + 2 := by
  go_enter Try.func32, Try.ntmps32
  go_wp2_with (go_at_call 62; go_must (refine (new_calls 64 fr w (by omega)).mono ?_; rintro _ w1 ⟨rfl, rfl, hI1⟩; have HI1 := Lib.hid hI1; clear hI1))
  go_ret
  have hb := below_alloc (Below.refl w.heap.size w) (.cells #[.int .i64 64, .slice none 0 0] 137)
  have hs : (w.alloc (.cells #[.int .i64 64, .slice none 0 0] 137)).heap.size = w.heap.size + 1 := by simp
  refine ⟨by first | rfl | simp, below_alloc hb _, HI1.out.below (below_alloc (Below.refl _ _) _), ⟨hfr, ?_, ?_, ?_, ?_, ⟨none, 0, ?_, Kd.R_nil _ _ _ _ _⟩, ?_⟩, by simp⟩
  · rw [World.cell?_alloc_at _ _ _ _ hs.symm]; rfl
  · rw [World.cell?_alloc_at _ _ _ _ hs.symm]; rfl
  · rw [World.cell?_alloc_at _ _ _ _ hs.symm]; rfl
  · rw [World.cell?_alloc_at _ _ _ _ hs.symm]; rfl
  · rw [World.cell?_alloc_at _ _ _ _ hs.symm]; rfl
  · rw [World.frozen?_alloc_at _ _ _ _ hs.symm]
end Go.Proofs.Ytbebihphodafiaa.Iv

namespace Go.Proofs.Ytbebihphodafiaa.Iv
open Go.RowKit Go.Proofs.YtbebihphodafiaaW.PrintWords Go.Proofs.YtbebihphodafiaaW.PrintLast Go.Proofs.YtbebihphodafiaaW.PrintMore Go.Proofs.Ytbebihphodafiaa.PWb Go.Maps
set_option linter.unusedVariables false
set_option linter.unusedSimpArgs false

theorem refMap_calls (blocks : Int) (w : World) (hb : 1 ≤ blocks ∧ blocks ≤ 1048576) : Calls Try.prog 54 #[.int .i64 blocks] w fun r w' => r = .returned (.tuple #[.pointer (some ⟨w.heap.size, 0, none⟩), .int .i64 0]) ∧ RowKit.Below w.heap.size w w' ∧ w'.heap.size = w.heap.size + 1 := by
  obtain ⟨h0, h1⟩ := hb
  have e0 : ¬ blocks < 1 := by omega
  have e1 : ¬ (1048576 : Int) < blocks := by omega
  have d0 : decide (blocks < 1) = false := by simpa using e0
  have d1 : decide ((1048576 : Int) < blocks) = false := by simpa using e1
  go_enter Try.func54, Try.ntmps54
  go_wp2
  go_ret2
  exact ⟨rfl, below_alloc (Below.refl _ _) _, by simp⟩
theorem refBuf_calls (blocks most : Int) (w : World) (hb : 1 ≤ blocks ∧ blocks ≤ 1048576) (hm : 0 ≤ most) : Calls Try.prog 41 #[.int .i64 blocks, .int .i64 most] w fun r w' => r = .returned (.tuple #[.pointer (some ⟨w.heap.size, 0, none⟩), .int .i64 0]) ∧ RowKit.Below w.heap.size w w' ∧ w'.heap.size = w.heap.size + 1 := by
  obtain ⟨h0, h1⟩ := hb
  have e0 : ¬ blocks < 1 := by omega
  have e1 : ¬ (1048576 : Int) < blocks := by omega
  have e2 : ¬ most < 0 := by omega
  have d0 : decide (blocks < 1) = false := by simpa using e0
  have d1 : decide ((1048576 : Int) < blocks) = false := by simpa using e1
  have d2 : decide (most < 0) = false := by simpa using e2
  go_enter Try.func41, Try.ntmps41
  go_wp2
  go_ret2
  exact ⟨rfl, below_alloc (Below.refl _ _) _, by simp⟩
theorem refView_calls (p q : Option Addr) (a : Int) (w : World) : Calls Try.prog 55 #[.pointer p, .pointer q, .int .i64 a] w fun r w' => r = .returned (.pointer (some ⟨w.heap.size, 0, none⟩)) ∧ RowKit.Below w.heap.size w w' ∧ w'.heap.size = w.heap.size + 1 := by
  go_enter Try.func55, Try.ntmps55
  go_wp2
  go_ret
  exact ⟨rfl, below_alloc (Below.refl _ _) _, by simp⟩
theorem setNilV_calls (w : World) : Calls Try.prog 31 #[.pointer none] w fun r w' => r = .returned (.pointer (some ⟨w.heap.size, 0, none⟩)) ∧ RowKit.Below w.heap.size w w' ∧ IsSet w' (w.heap.size + 1) w.heap.size 64 [] := by
  go_enter Try.func31, Try.ntmps31
  go_wp2_with (go_at_call 62; go_must (refine (new_calls 64 (w.heap.size + 1) w (by omega)).mono ?_; rintro _ w1 ⟨rfl, rfl, hI1⟩; have HI1 := Lib.hid hI1; clear hI1))
  go_ret
  exact ⟨rfl, below_alloc (Below.refl _ _) _, HI1.out⟩
theorem readsNil_calls (w : World) : Calls Try.prog 33 #[.pointer none] w fun r w' => r = .returned (.slice none 0 0) ∧ w' = w := by
  go_enter Try.func33, Try.ntmps33
  go_wp2
  try rw [Exit.noGoto_ret]
  go_ret
  exact ⟨rfl, rfl⟩
theorem atNil_calls (w : World) : Calls Try.prog 34 #[.pointer none] w fun r w' => r = .returned (.int .i64 0) ∧ w' = w := by
  go_enter Try.func34, Try.ntmps34
  go_wp2
  try rw [Exit.noGoto_ret]
  go_ret
  exact ⟨rfl, rfl⟩
/-- The world's struct, and what it leads to. -/
structure Fresh (w w' : World) (blocks at_ : Int) : Prop where
  b : RowKit.Below w.heap.size w w'
  v : IsW w' (w.heap.size + 10) w.heap.size (w.heap.size + 2) (w.heap.size + 6) (w.heap.size + 7) blocks 16 0 at_ (fun _ => []) [] [] [] (fun _ => True)
  c0 : w'.cell? ⟨w.heap.size + 9, 0, none⟩ = some (.pointer (some ⟨w.heap.size + 1, 0, none⟩))
  c1 : w'.cell? ⟨w.heap.size + 9, 1, none⟩ = some (.pointer (some ⟨w.heap.size + 3, 0, none⟩))
  c2 : w'.cell? ⟨w.heap.size + 9, 2, none⟩ = some (.pointer (some ⟨w.heap.size + 7, 0, none⟩))
theorem Fresh.step {w w' w2 : World} {blocks at_ : Int} (h : Fresh w w' blocks at_) (hb : RowKit.Below w'.heap.size w' w2) : Fresh w w2 blocks at_ :=
  ⟨below_step h.b hb, h.v.below hb, pw_cell_below hb h.c0, pw_cell_below hb h.c1, pw_cell_below hb h.c2⟩
set_option maxHeartbeats 4000000 in
theorem fresh_calls (blocks at_ : Int) (w : World) (hb : 1 ≤ blocks ∧ blocks ≤ 1048576) : Calls Try.prog 27 #[.int .i64 blocks, .int .i64 at_] w fun r w' => r = .returned (.tuple #[.pointer (some ⟨w.heap.size + 9, 0, none⟩), .bool true]) ∧ Fresh w w' blocks at_ := by
  have HB := Lib.hid hb
  clear hb
  go_enter Try.func27, Try.ntmps27
  go_wp2_with (first
    | (go_at_call 53; go_must (refine (newE_calls blocks (w.heap.size + 10) w.heap.size w HB.out rfl (by omega)).mono ?_; rintro _ w1 ⟨rfl, hB1, hI1, hS1⟩; have HB1 := Lib.hid hB1; have HI1 := Lib.hid hI1; have HS1 := Lib.hid hS1; clear hB1 hI1 hS1))
    | (go_at_call 14; go_must (refine (newB_calls blocks 16 (w.heap.size + 10) (w.heap.size + 2) w1 ⟨HB.out.1, HB.out.2, by decide⟩ HS1.out (by omega)).mono ?_; rintro _ w2 ⟨rfl, hB2, hI2, hS2⟩; have HB2 := Lib.hid (below_step HB1.out hB2); have HE2 := Lib.hid (HI1.out.below hB2); have HI2 := Lib.hid hI2; have HS2 := Lib.hid (show w.heap.size + 4 = w2.heap.size from hS2); clear hB2 hI2 hS2))
    | (go_at_call 54; go_must (refine (refMap_calls blocks w2 HB.out).mono ?_; rintro _ w3 ⟨rfl, hB3, hS3⟩; rw [← HS2.out] at hS3 ⊢; have HB3 := Lib.hid (below_step HB2.out hB3); have HE3 := Lib.hid (HE2.out.below hB3); have HI3 := Lib.hid (HI2.out.below hB3); have HS3 := Lib.hid (show w.heap.size + 5 = w3.heap.size from hS3.symm); clear hB3 hS3))
    | (go_at_call 41; go_must (refine (refBuf_calls blocks 16 w3 HB.out (by decide)).mono ?_; rintro _ w4 ⟨rfl, hB4, hS4⟩; rw [← HS3.out] at hS4 ⊢; have HB4 := Lib.hid (below_step HB3.out hB4); have HE4 := Lib.hid (HE3.out.below hB4); have HI4 := Lib.hid (HI3.out.below hB4); have HS4 := Lib.hid (show w.heap.size + 6 = w4.heap.size from hS4.symm); clear hB4 hS4))
    | (go_at_call 32; go_must (refine (newV_calls (w.heap.size + 10) w.heap.size (w.heap.size + 2) at_ w4 (by have := HS4.out; omega)).mono ?_; rintro _ w5 ⟨rfl, hB5, hI5, hV5, hS5⟩; rw [← HS4.out] at hI5 hV5 hS5 ⊢; have HB5 := Lib.hid (below_step HB4.out hB5); have HE5 := Lib.hid (HE4.out.below hB5); have HM5 := Lib.hid (HI4.out.below hB5); have HI5 := Lib.hid hI5; have HV5 := Lib.hid hV5; have HS5 := Lib.hid (show w.heap.size + 8 = w5.heap.size from hS5.symm); clear hB5 hI5 hV5 hS5))
    | (go_at_call 55; go_must (refine (refView_calls _ _ at_ w5).mono ?_; rintro _ w6 ⟨rfl, hB6, hS6⟩; rw [← HS5.out] at hS6 ⊢; have HB6 := Lib.hid (below_step HB5.out hB6); have HE6 := Lib.hid (HE5.out.below hB6); have HM6 := Lib.hid (HM5.out.below hB6); have HI6 := Lib.hid (HI5.out.below hB6); have HV6 := Lib.hid (HV5.out.step (grown_of_below hB6 none) (by simp) (fun v hv => Kd.R_below hv hB6)); have HS6 := Lib.hid (show w.heap.size + 9 = w6.heap.size from hS6.symm); clear hB6 hS6)))
  obtain ⟨w7, h7⟩ : ∃ y, y = w6.alloc (.cells #[.pointer (some ⟨w.heap.size + 1, 0, none⟩), .pointer (some ⟨w.heap.size + 2 + 1, 0, none⟩), .pointer (some ⟨w.heap.size + 6 + 1, 0, none⟩), .pointer (some ⟨w.heap.size + 4, 0, none⟩), .pointer (some ⟨w.heap.size + 5, 0, none⟩), .pointer (some ⟨w.heap.size + 8, 0, none⟩)] 57) := ⟨_, rfl⟩
  have y0 := World.cell?_alloc_at (w := w6) #[.pointer (some ⟨w.heap.size + 1, 0, none⟩), .pointer (some ⟨w.heap.size + 2 + 1, 0, none⟩), .pointer (some ⟨w.heap.size + 6 + 1, 0, none⟩), .pointer (some ⟨w.heap.size + 4, 0, none⟩), .pointer (some ⟨w.heap.size + 5, 0, none⟩), .pointer (some ⟨w.heap.size + 8, 0, none⟩)] 57 w6.heap.size 0 rfl
  have y1 := World.cell?_alloc_at (w := w6) #[.pointer (some ⟨w.heap.size + 1, 0, none⟩), .pointer (some ⟨w.heap.size + 2 + 1, 0, none⟩), .pointer (some ⟨w.heap.size + 6 + 1, 0, none⟩), .pointer (some ⟨w.heap.size + 4, 0, none⟩), .pointer (some ⟨w.heap.size + 5, 0, none⟩), .pointer (some ⟨w.heap.size + 8, 0, none⟩)] 57 w6.heap.size 1 rfl
  have y2 := World.cell?_alloc_at (w := w6) #[.pointer (some ⟨w.heap.size + 1, 0, none⟩), .pointer (some ⟨w.heap.size + 2 + 1, 0, none⟩), .pointer (some ⟨w.heap.size + 6 + 1, 0, none⟩), .pointer (some ⟨w.heap.size + 4, 0, none⟩), .pointer (some ⟨w.heap.size + 5, 0, none⟩), .pointer (some ⟨w.heap.size + 8, 0, none⟩)] 57 w6.heap.size 2 rfl
  have hb7 := below_alloc (Below.refl w6.heap.size w6) (.cells #[.pointer (some ⟨w.heap.size + 1, 0, none⟩), .pointer (some ⟨w.heap.size + 2 + 1, 0, none⟩), .pointer (some ⟨w.heap.size + 6 + 1, 0, none⟩), .pointer (some ⟨w.heap.size + 4, 0, none⟩), .pointer (some ⟨w.heap.size + 5, 0, none⟩), .pointer (some ⟨w.heap.size + 8, 0, none⟩)] 57)
  have hs7 : (w6.alloc (.cells #[.pointer (some ⟨w.heap.size + 1, 0, none⟩), .pointer (some ⟨w.heap.size + 2 + 1, 0, none⟩), .pointer (some ⟨w.heap.size + 6 + 1, 0, none⟩), .pointer (some ⟨w.heap.size + 4, 0, none⟩), .pointer (some ⟨w.heap.size + 5, 0, none⟩), .pointer (some ⟨w.heap.size + 8, 0, none⟩)] 57)).heap.size = w6.heap.size + 1 := by simp
  rw [← h7] at y0 y1 y2 hb7 hs7 ⊢
  clear h7
  rw [← HS6.out] at y0 y1 y2 hs7 ⊢
  have y2' : w7.cell? ⟨w.heap.size + 9, 2, none⟩ = some (.pointer (some ⟨w.heap.size + 6 + 1, 0, none⟩)) := y2
  have HF := Lib.hid (show Fresh w w7 blocks at_ from ⟨below_step HB6.out hb7, ⟨HE6.out.below hb7, HM6.out.below hb7, HI6.out.below hb7, HV6.out.step (grown_of_below hb7 none) (by simp) (fun v hv => Kd.R_below hv hb7), ⟨by omega, by omega, by omega⟩, by omega⟩, y0, y1, y2⟩)
  clear y0 y1 y2 hb7 hs7
  go_quiet (fail)
  go_wp2
  go_ret2
  exact ⟨rfl, HF.out.step (pw_below_drewN (Below.refl _ _) _)⟩
end Go.Proofs.Ytbebihphodafiaa.Iv

namespace Go.Proofs.Ytbebihphodafiaa.Iv
open Go.RowKit Go.Proofs.YtbebihphodafiaaW.PrintWords Go.Proofs.YtbebihphodafiaaW.PrintLast Go.Proofs.YtbebihphodafiaaW.PrintMore Go.Proofs.Ytbebihphodafiaa.PWb Go.Maps
set_option linter.unusedVariables false
set_option linter.unusedSimpArgs false

theorem IsW.wr {W W' : World} {fr em mb sb vb : Nat} {blocks most last at_ : Int} {V : Int → List S31} {M M' : List S31} {L : List S60} {R : List S77} {ok : Nat → Prop} (h : IsW W fr em mb sb vb blocks most last at_ V M L R ok) (hg : W.grownBy W' (some mb)) (hb : IsBuf W' fr mb blocks most M') : IsW W' fr em mb sb vb blocks most last at_ V M' L R ok := by
  have ho := h.ord
  have hv := h.view.lt
  have hoff : ∀ ts, Off W fr ts (some mb) := fun ts j hj => by cases hj; exact .inl (by omega)
  exact ⟨h.ext.grown2 hg (fun j hj => by cases hj; omega) (hoff _), hb, h.set.grown2 hg (fun j hj => by cases hj; omega) (hoff _), h.view.step hg (fun e => by injection e with e; omega) (fun v hv => R_off hv hg (hoff _)), h.ord, Nat.le_trans h.fits hg.size⟩
theorem wr_one5 (d : List Int) (hd : d.length = 40) : wrC 5 16 [] [⟨2, d⟩] = 0 := by simp [wrC, outB, lenB, dupB, hd, freshN, hasM]
/-- What awake reads. -/
theorem awake_read (d : List Int) : rdK (fun _ => []) [⟨2, d⟩] 1 0 2 = List.replicate 40 0 ++ d := by
  simp [rdK, List.range_succ, rdB, hasM, lookM, getE, verAt]
theorem awake_add : addS 64 [] [⟨1, ((2 : Nat) : Int)⟩] = (0, nrm [⟨1, 2⟩]) := by
  have h1 : (([] : List S60) ++ [⟨1, 2⟩]) = [⟨1, 2⟩] := rfl
  have h2 : (nrm [(⟨1, 2⟩ : S60)]).length ≤ 1 := by
    have := nrm_len [(⟨1, 2⟩ : S60)]
    simpa using this
  unfold addS
  rw [if_pos (by decide), if_neg (by simp)]
  show (if ((nrm ([] ++ [(⟨1, 2⟩ : S60)])).length : Int) > 64 then _ else _) = _
  rw [h1, if_neg (by omega)]
  rfl
theorem cut_b40 (g cap : Nat) (hc : 80 ≤ cap) : ∀ W : World, (Instr.slice 28 (.slice (some ⟨g, 0, none⟩) 80 cap) (some (.int .i64 40)) none none).run Try.prog W = .ok (.slice (some ⟨g, 40, none⟩) 40 (cap - 40)) W := by
  intro W
  obtain ⟨i, hi1, hi2⟩ := Option.map_eq_some_iff.1 info5
  simp only [Prod.mk.injEq] at hi2
  have := cut_from (P := Try.prog) 28 5 .i64 Try.underlying28 hi1 1 hi2.2.1 (some ⟨g, 0, none⟩) 80 cap 40 (by decide) (by decide) W
  rw [this]
  have hne : ¬ cap = 40 := by omega
  simp [hne, add_plain]
set_option maxHeartbeats 8000000 in
set_option maxRecDepth 100000 in
theorem awakeV_calls (w : World) : Calls Try.prog 26 #[] w fun e w' => e = .returned (.bool true) ∧ RowKit.Below w.heap.size w w' := by
  have HE0 := Lib.hid (wr_one5 (dat 7) (dat_len 7))
  have HM0 := Lib.hid (show wrM 5 16 [] [⟨2, dat 7⟩] = [⟨2, dat 7⟩] by unfold wrM; rw [wr_one5 _ (dat_len 7)]; rfl)
  have HDL := Lib.hid (dat_len 7)
  go_enter Try.func26, Try.ntmps26
  go_wp2_with (go_at_call 27; go_must (refine (fresh_calls 5 0 w ⟨by decide, by decide⟩).mono ?_; rintro _ w1 ⟨rfl, hF1⟩; have HF1 := Lib.hid hF1; clear hF1))
  have HC1 := Lib.hid (show w1.cell? ⟨w.heap.size + 9, 1, none⟩ = some (.pointer (some ⟨w.heap.size + 3, 0, none⟩)) from HF1.out.c1)
  go_region_held3 (fun w' => w'.cell? ⟨w.heap.size + 9, 1, none⟩ = some (.pointer (some ⟨w.heap.size + 3, 0, none⟩)))
    (first | exact HC3.out | exact HC2a.out | exact HC2.out | exact HC1.out)
    (first
      | (go_at_call 15; refine (data_calls 7 _).mono ?_; rintro _ w2 ⟨v2, rfl, hR2, hB2⟩; obtain ⟨A2, c2, hv2, hc2, hC2⟩ := Kd.R_reads hR2; rw [HDL.out] at hv2 hc2 hC2; subst hv2; have HF2 := Lib.hid ((HF1.out.step (below_drew1 (Below.refl _ _))).step hB2); have HC2 := Lib.hid (show w2.cell? ⟨w.heap.size + 9, 1, none⟩ = some (.pointer (some ⟨w.heap.size + 3, 0, none⟩)) from HF2.out.c1); have D2 := Lib.hid hC2; have L2 := Lib.hid hc2; have HC2a := Lib.hid (show (w2.alloc (.cells #[.int .i64 2, .slice A2 40 c2] 31)).cell? ⟨w.heap.size + 9, 1, none⟩ = some (.pointer (some ⟨w.heap.size + 3, 0, none⟩)) from pw_cell_below (below_alloc (Below.refl w2.heap.size w2) _) HF2.out.c1); clear hR2 hB2 hC2 hc2)
      | (go_at_call 17; refine (write_calls (w.heap.size + 10) (w.heap.size + 2) 5 16 [] (some ⟨w2.heap.size, 0, none⟩) 1 [⟨2, dat 7⟩] _ (HF2.out.v.buf.below (below_alloc (Below.refl _ _) _)) (by have h := C31_one w2 w2.heap.size 2 0 A2 c2 (dat 7) rfl (by rw [HDL.out]; exact L2.out) (by rw [HDL.out]; exact D2.out); rw [HDL.out] at h; exact h) (by decide) (Nat.le_trans HF2.out.v.fits (below_alloc (Below.refl _ _) _).size)).mono ?_; rintro _ w3 ⟨rfl, hI3, hg3⟩; rw [HE0.out]; rw [HM0.out] at hI3; have HW3 := Lib.hid ((HF2.out.v.below (below_alloc (Below.refl _ _) _)).wr hg3 hI3); have HC3 := Lib.hid (show w3.cell? ⟨w.heap.size + 9, 1, none⟩ = some (.pointer (some ⟨w.heap.size + 3, 0, none⟩)) from hg3.cell HC2a.out (by simp)); have Y3 := Lib.hid (hg3.cell (pw_cell_below (below_alloc (Below.refl w2.heap.size w2) (.cells #[.int .i64 2, .slice A2 40 c2] 31)) HF2.out.c2) (by simp)); have HB3 := Lib.hid (Below.grown (below_step HF2.out.b (below_alloc (Below.refl w2.heap.size w2) (.cells #[.int .i64 2, .slice A2 40 c2] 31))) hg3 (Nat.le_trans HF2.out.b.size (below_alloc (Below.refl w2.heap.size w2) _).size) (fun k hk => by cases hk; omega)); clear hI3 hg3))
  have y3 := Y3.out
  go_wp2_with (go_at_call 28; go_must (refine (readOk_calls (w.heap.size + 10) w.heap.size (w.heap.size + 2) (w.heap.size + 6) (w.heap.size + 7) 5 16 0 0 (fun _ => []) [⟨2, dat 7⟩] [] _ [] 1 2 w3 HW3.out ⟨by decide, by decide⟩ (by decide) awake_add (by decide) (by decide)).mono ?_; rintro _ w4 ⟨v4, rfl, _, hK4, hS4, hR4⟩; rw [awake_read] at hR4; have HR4 := Lib.hid hR4; have HB4 := Lib.hid (show RowKit.Below w.heap.size w w4 from ⟨hS4.1.trans HB3.out.os, hS4.2.1.trans HB3.out.tape, hS4.2.2.trans HB3.out.output, Nat.le_trans HB3.out.size hK4.1, fun k hk => (hK4.2 k (Nat.lt_of_lt_of_le hk HB3.out.size) (Sv_not_map (by omega) (by omega) (by omega))).trans (HB3.out.block k hk)⟩); clear hR4 hK4 hS4))
  have hlen : (List.replicate 40 (0 : Int) ++ dat 7).length = 80 := by simp [dat_len]
  obtain ⟨g, cap, hv4, hg1, hg2, _⟩ := Kd.R_form HR4.out (by rw [hlen]; decide)
  rw [hlen] at hv4
  subst hv4
  obtain ⟨hq1, hq2, hq3⟩ := Kd.R_reads' HR4.out
  have hC := hq3
  have HCAP := Lib.hid hq2
  have hcut := cut_b40 g cap hq2
  have hc1 := Kd.C_drop (m := 40) (c := cap) hq3 (by rw [hlen]; decide) (by rw [hlen]; exact hq2)
  have hdr : (List.replicate 40 (0 : Int) ++ dat 7).drop 40 = dat 7 := by rw [List.drop_append_of_le_length (by simp)]; simp
  have hne : ¬ cap = 40 := by omega
  rw [hdr, if_neg hne] at hc1
  have HCD := Lib.hid (show Kd.C kb w4 (some ⟨g, 40, none⟩) (dat 7).length (dat 7) by simpa [add_plain, kb, show (Kd.int IntKind.u8).sz = 1 from rfl] using hc1)
  obtain ⟨ad, had, hcell⟩ := (Kd.reads_of_C (d := (0 : Int)) hq3).2.2 (by rw [hlen]; decide)
  have hz := hcell 0 (by rw [hlen]; decide)
  have x0 : w4.cell? ⟨g, 0, none⟩ = some (.int .u8 0) := by
    cases had
    simpa [add_plain, List.getD_eq_getElem?_getD] using hz
  have HX0 := Lib.hid x0
  have HBY := Lib.hid (bytes_refl (dat 7) (by rw [HDL.out]; decide))
  clear hq1 hq2 hq3 hC hc1 hdr hne had hcell hz hlen hg1 hg2 y3
  have HCDd := Lib.hid (Kd.C_below HCD.out (below_drew1 (Below.refl w4.heap.size w4)))
  have HX0d := Lib.hid (show w4.drew.cell? ⟨g, 0, none⟩ = some (.int .u8 0) from HX0.out)
  go_region_held3 (fun w' => w'.cell? ⟨g, 0, none⟩ = some (.int .u8 0))
    (first | exact HX5.out | exact HX6.out | exact HX0.out)
    (first
      | (go_at_call 15; refine (data_calls 7 _).mono ?_; rintro _ w5 ⟨v5, rfl, hR5, hB5⟩; obtain ⟨A5, c5, hv5, hc5, hC5⟩ := Kd.R_reads hR5; rw [HDL.out] at hv5; subst hv5; have HX5 := Lib.hid (show w5.cell? ⟨g, 0, none⟩ = some (.int .u8 0) from pw_cell_below hB5 HX0d.out); have HCD5 := Lib.hid (Kd.C_below HCDd.out hB5); have HC5 := Lib.hid hC5; have HL5 := Lib.hid hc5; have HB5 := Lib.hid (below_step (below_drew1 HB4.out) hB5); clear hR5 hB5 hC5 hc5)
      | (go_at_call 25; refine ((fun h => by rw [HDL.out] at h; exact h) (scarpalike_Bytes.calls ((dat 7).length + 1) (some ⟨g, 40, none⟩) (cap - 40) (dat 7) A5 c5 (dat 7) true _ HCD5.out (by have := HCAP.out; have := HDL.out; omega) HC5.out HL5.out HBY.out) : Calls Try.prog 25 #[.slice (some ⟨g, 40, none⟩) 40 (cap - 40), .slice A5 40 c5] _ _).mono ?_; rintro _ w6 ⟨rfl, hD6⟩; have HX6 := Lib.hid (show w6.cell? ⟨g, 0, none⟩ = some (.int .u8 0) from by obtain ⟨⟨n8, rfl⟩⟩ := hD6; exact HX5.out); have HB6 := Lib.hid (show RowKit.Below w.heap.size w w6 from by obtain ⟨⟨n8, rfl⟩⟩ := hD6; exact pw_below_drewN HB5.out _); clear hD6))
  go_wp2
  go_ret
  exact ⟨rfl, HB6.out⟩
end Go.Proofs.Ytbebihphodafiaa.Iv

namespace Go.Proofs.Ytbebihphodafiaa.Iv
open Go.RowKit Go.Proofs.YtbebihphodafiaaW.PrintWords Go.Proofs.YtbebihphodafiaaW.PrintLast Go.Proofs.YtbebihphodafiaaW.PrintMore Go.Proofs.Ytbebihphodafiaa.PWb Go.Maps
set_option linter.unusedVariables false
set_option linter.unusedSimpArgs false

set_option maxHeartbeats 4000000 in
set_option maxRecDepth 100000 in
theorem rsetNothing_calls (f0 n : Int) (w : World) : Calls Try.prog 8 #[.agg #[.int .i64 f0, .int .i64 n]] w fun r w' => r = .returned (.bool true) ∧ RowKit.Below w.heap.size w w' := by
  have HB0 := Lib.hid (below_alloc (Below.refl w.heap.size w) (.cells #[.int .i64 f0, .int .i64 n] 60))
  have k1 : (w.alloc (.cells #[.int .i64 f0, .int .i64 n] 60)).cell? ⟨w.heap.size, 1, none⟩ = some (.int .i64 n) := World.cell?_alloc_at (w := w) #[.int .i64 f0, .int .i64 n] 60 w.heap.size 1 rfl
  by_cases h1 : n < 1
  · have d1 : decide (n < 1) = true := by simpa using h1
    go_enter Try.func8, Try.ntmps8
    go_wp2_with (first
      | (go_at_call 28; go_must (refine (readLen_calls none f0 n _ (.inl h1)).mono ?_; rintro _ w1 ⟨rfl, hB1⟩; have HB1 := Lib.hid (below_step HB0.out hB1); have q0 := pw_cell_below hB1 k1; clear hB1))
      | (go_at_call 31; go_must (refine (setNilV_calls _).mono ?_; rintro _ w2 ⟨rfl, hB2, hI2⟩; have HI2 := Lib.hid hI2; have HB2 := Lib.hid (below_step HB1.out hB2); clear hB2 hI2))
      | (go_at_call 32; go_must (refine (newNil_calls 0 _).mono ?_; rintro _ w3 ⟨rfl, rfl⟩))
      | (go_at_call 33; go_must (refine (readsNil_calls _).mono ?_; rintro _ w4 ⟨rfl, rfl⟩))
      | (go_at_call 34; go_must (refine (atNil_calls _).mono ?_; rintro _ w5 ⟨rfl, rfl⟩))
      | (go_at_call 35; go_must (refine (count_calls _ _ 64 [] _ HI2.out (by decide)).mono ?_; rintro _ w6 ⟨rfl, hB6⟩; have HB6 := Lib.hid (below_step HB2.out hB6); clear hB6))
      | (go_at_call 26; go_must (refine (awakeV_calls _).mono ?_; rintro _ w7 ⟨rfl, hB7⟩; have HB7 := Lib.hid (below_step HB6.out hB7); clear hB7)))
    go_ret
    exact ⟨rfl, HB7.out⟩

  · have d1 : decide (n < 1) = false := by simpa using h1
    by_cases h2 : (16 : Int) < n
    · have d2 : decide ((16 : Int) < n) = true := by simpa using h2
      go_enter Try.func8, Try.ntmps8
      go_wp2_with (first
        | (go_at_call 28; go_must (refine (readLen_calls none f0 n _ (.inr h2)).mono ?_; rintro _ w1 ⟨rfl, hB1⟩; have HB1 := Lib.hid (below_step HB0.out hB1); have q0 := pw_cell_below hB1 k1; clear hB1))
        | (go_at_call 31; go_must (refine (setNilV_calls _).mono ?_; rintro _ w2 ⟨rfl, hB2, hI2⟩; have HI2 := Lib.hid hI2; have HB2 := Lib.hid (below_step HB1.out hB2); clear hB2 hI2))
        | (go_at_call 32; go_must (refine (newNil_calls 0 _).mono ?_; rintro _ w3 ⟨rfl, rfl⟩))
        | (go_at_call 33; go_must (refine (readsNil_calls _).mono ?_; rintro _ w4 ⟨rfl, rfl⟩))
        | (go_at_call 34; go_must (refine (atNil_calls _).mono ?_; rintro _ w5 ⟨rfl, rfl⟩))
        | (go_at_call 35; go_must (refine (count_calls _ _ 64 [] _ HI2.out (by decide)).mono ?_; rintro _ w6 ⟨rfl, hB6⟩; have HB6 := Lib.hid (below_step HB2.out hB6); clear hB6))
        | (go_at_call 26; go_must (refine (awakeV_calls _).mono ?_; rintro _ w7 ⟨rfl, hB7⟩; have HB7 := Lib.hid (below_step HB6.out hB7); clear hB7)))
      go_ret
      exact ⟨rfl, HB7.out⟩

    · have d2 : decide ((16 : Int) < n) = false := by simpa using h2
      go_enter Try.func8, Try.ntmps8
      go_wp2_with (first
        | (go_at_call 28; go_must (refine (readNil_calls f0 n _ ⟨by omega, by omega⟩).mono ?_; rintro _ w1 ⟨rfl, hB1⟩; have HB1 := Lib.hid (below_step HB0.out hB1); have q0 := pw_cell_below hB1 k1; clear hB1))
        | (go_at_call 31; go_must (refine (setNilV_calls _).mono ?_; rintro _ w2 ⟨rfl, hB2, hI2⟩; have HI2 := Lib.hid hI2; have HB2 := Lib.hid (below_step HB1.out hB2); clear hB2 hI2))
        | (go_at_call 32; go_must (refine (newNil_calls 0 _).mono ?_; rintro _ w3 ⟨rfl, rfl⟩))
        | (go_at_call 33; go_must (refine (readsNil_calls _).mono ?_; rintro _ w4 ⟨rfl, rfl⟩))
        | (go_at_call 34; go_must (refine (atNil_calls _).mono ?_; rintro _ w5 ⟨rfl, rfl⟩))
        | (go_at_call 35; go_must (refine (count_calls _ _ 64 [] _ HI2.out (by decide)).mono ?_; rintro _ w6 ⟨rfl, hB6⟩; have HB6 := Lib.hid (below_step HB2.out hB6); clear hB6))
        | (go_at_call 26; go_must (refine (awakeV_calls _).mono ?_; rintro _ w7 ⟨rfl, hB7⟩; have HB7 := Lib.hid (below_step HB6.out hB7); clear hB7)))
      go_ret
      exact ⟨rfl, HB7.out⟩

end Go.Proofs.Ytbebihphodafiaa.Iv

namespace Go.Proofs.Ytbebihphodafiaa.Iv
open Go.RowKit Go.Proofs.YtbebihphodafiaaW.PrintWords Go.Proofs.YtbebihphodafiaaW.PrintLast Go.Proofs.YtbebihphodafiaaW.PrintMore Go.Proofs.Ytbebihphodafiaa.PWb Go.Maps
set_option linter.unusedVariables false
set_option linter.unusedSimpArgs false

set_option maxHeartbeats 8000000 in
theorem readRange_calls (fr em mb sb vb : Nat) (blocks most last at_ : Int) (V : Int → List S31) (M : List S31) (L : List S60) (R : List S77) (f0 n : Int) (w : World)
    (h : IsW w fr em mb sb vb blocks most last at_ V M L R (fun _ => True)) (hn : 1 ≤ n ∧ n ≤ 16) (hi : inE blocks ⟨f0, n⟩ = false) :
    Calls Try.prog 28 #[.pointer (some ⟨vb, 0, none⟩), .agg #[.int .i64 f0, .int .i64 n]] w fun r w' => r = .returned (.tuple #[.slice none 0 0, .int .i64 2]) ∧ RowKit.Below w.heap.size w w' := by
  obtain ⟨n1, n16⟩ := hn
  have HW := Lib.hid h
  have HI := Lib.hid hi
  have hb5 := below_alloc (Below.refl w.heap.size w) (.cells #[.int .i64 f0, .int .i64 n] 60)
  have v0 := pw_cell_below hb5 h.view.c0
  have v2 := pw_cell_below hb5 h.view.c2
  have k0' : (w.alloc (.cells #[.int .i64 f0, .int .i64 n] 60)).cell? ⟨w.heap.size, 0, none⟩ = some (.int .i64 f0) := World.cell?_alloc_at (w := w) #[.int .i64 f0, .int .i64 n] 60 w.heap.size 0 rfl
  have k1' : (w.alloc (.cells #[.int .i64 f0, .int .i64 n] 60)).cell? ⟨w.heap.size, 1, none⟩ = some (.int .i64 n) := World.cell?_alloc_at (w := w) #[.int .i64 f0, .int .i64 n] 60 w.heap.size 1 rfl
  have HB5 := Lib.hid hb5
  have e1 : ¬ n < 1 := by omega
  have e2 : ¬ (16 : Int) < n := by omega
  have d1 : decide (n < 1) = false := by simpa using e1
  have d2 : decide ((16 : Int) < n) = false := by simpa using e2
  clear h hi hb5
  go_enter Try.func28, Try.ntmps28
  go_wp2
  go_step3
  go_wp2
  obtain ⟨w5, h5⟩ : ∃ y, y = w.alloc (.cells #[.int .i64 f0, .int .i64 n] 60) := ⟨_, rfl⟩
  rw [← h5] at v0 v2 k0' k1' HB5 ⊢
  clear h5
  have HB5 := Lib.hid (below_drew1 HB5.out)
  obtain ⟨bx, hbx⟩ : ∃ bx, bx = w.heap.size := ⟨_, rfl⟩
  rw [← hbx] at k0' k1' ⊢
  clear hbx
  have HC5 := Lib.hid (show w5.cell? ⟨vb, 0, none⟩ = some (.pointer (some ⟨em + 1, 0, none⟩)) ∧ w5.cell? ⟨vb, 2, none⟩ = some (.int .i64 at_) ∧ w5.cell? ⟨bx, 0, none⟩ = some (.int .i64 f0) ∧ w5.cell? ⟨bx, 1, none⟩ = some (.int .i64 n) from ⟨v0, v2, k0', k1'⟩)
  go_region_held3 (fun w' => w'.cell? ⟨vb, 0, none⟩ = some (.pointer (some ⟨em + 1, 0, none⟩)) ∧ w'.cell? ⟨vb, 2, none⟩ = some (.int .i64 at_) ∧ w'.cell? ⟨bx, 0, none⟩ = some (.int .i64 f0) ∧ w'.cell? ⟨bx, 1, none⟩ = some (.int .i64 n))
    (first | exact HC6.out | exact HC5.out)
    ((go_at_call 56; refine (rangeBad_calls fr em blocks last V ⟨f0, n⟩ at_ _ (HW.out.ext.below HB5.out) HI.out).mono ?_; rintro _ w6 ⟨rfl, hB6⟩; have HC6 := Lib.hid (show w6.cell? ⟨vb, 0, none⟩ = some (.pointer (some ⟨em + 1, 0, none⟩)) ∧ w6.cell? ⟨vb, 2, none⟩ = some (.int .i64 at_) ∧ w6.cell? ⟨bx, 0, none⟩ = some (.int .i64 f0) ∧ w6.cell? ⟨bx, 1, none⟩ = some (.int .i64 n) from ⟨pw_cell_below hB6 HC5.out.1, pw_cell_below hB6 HC5.out.2.1, pw_cell_below hB6 HC5.out.2.2.1, pw_cell_below hB6 HC5.out.2.2.2⟩); have HB6 := Lib.hid (below_step HB5.out hB6); clear hB6))
  go_wp2
  try rw [Exit.noGoto_ret]
  go_ret2
  exact ⟨rfl, HB6.out⟩
end Go.Proofs.Ytbebihphodafiaa.Iv

namespace Go.Proofs.Ytbebihphodafiaa.Iv
open Go.RowKit Go.Proofs.YtbebihphodafiaaW.PrintWords Go.Proofs.YtbebihphodafiaaW.PrintLast Go.Proofs.YtbebihphodafiaaW.PrintMore Go.Proofs.Ytbebihphodafiaa.PWb Go.Maps
set_option linter.unusedVariables false
set_option linter.unusedSimpArgs false

set_option maxHeartbeats 8000000 in
set_option maxRecDepth 100000 in
theorem readBig_calls (fr em mb sb vb : Nat) (blocks most last at_ : Int) (V : Int → List S31) (M : List S31) (L L' : List S60) (R : List S77) (f0 : Int) (n : Nat) (w : World)
    (h : IsW w fr em mb sb vb blocks most last at_ V M L R (fun _ => True)) (hn : 1 ≤ n ∧ n ≤ 16) (hi : inE blocks ⟨f0, n⟩ = true) (ha : addS 64 L [⟨f0, n⟩] = (7, L')) (hR : (R.length + 16) * 40 ≤ 140737488355328) (hL : L.length ≤ 1000000) :
    Calls Try.prog 28 #[.pointer (some ⟨vb, 0, none⟩), .agg #[.int .i64 f0, .int .i64 n]] w fun r w' => r = .returned (.tuple #[.slice none 0 0, .int .i64 7]) ∧ IsW w' fr em mb sb vb blocks most last at_ V M L' R (fun _ => True) ∧ Kept w w' (Sv w fr sb vb) ∧ Same w w' := by
  obtain ⟨n1, n16⟩ := hn
  obtain ⟨i0, i1, i2, i3⟩ := (inE_iff blocks _).1 hi
  simp only at i0 i1 i2 i3
  have hbl := h.ext.bl
  have HF := Lib.hid (show Forty V M from ⟨h.ext.dat, h.buf.srt, fun p hp => (h.buf.rng p hp).2.2⟩)
  have HW := Lib.hid h
  have HI := Lib.hid hi
  have HA := Lib.hid ha
  have HRL := Lib.hid hR
  have HLL := Lib.hid hL
  have hb5 := below_alloc (Below.refl w.heap.size w) (.cells #[.int .i64 f0, .int .i64 n] 60)
  have v0 := pw_cell_below hb5 h.view.c0
  have v2 := pw_cell_below hb5 h.view.c2
  have k0 := World.cell?_alloc_at (w := w) #[.int .i64 f0, .int .i64 n] 60 w.heap.size 0 rfl
  have k1 := World.cell?_alloc_at (w := w) #[.int .i64 f0, .int .i64 n] 60 w.heap.size 1 rfl
  have k0' : (w.alloc (.cells #[.int .i64 f0, .int .i64 n] 60)).cell? ⟨w.heap.size, 0, none⟩ = some (.int .i64 f0) := k0
  have k1' : (w.alloc (.cells #[.int .i64 f0, .int .i64 n] 60)).cell? ⟨w.heap.size, 1, none⟩ = some (.int .i64 n) := k1
  have HB5 := Lib.hid hb5
  have HBX5 := Lib.hid (show Bx (w.alloc (.cells #[.int .i64 f0, .int .i64 n] 60)) w.heap.size f0 n by unfold Bx World.alloc; simp)
  have d1 : decide ((n : Int) < 1) = false := by simp; omega
  have d2 : decide ((16 : Int) < (n : Int)) = false := by simp; omega
  have e1 : ¬ (n : Int) < 1 := by omega
  have e2 : ¬ (16 : Int) < (n : Int) := by omega
  have HX := Lib.hid (show vb < w.heap.size ∧ sb < vb ∧ fr ≤ w.heap.size ∧ vb < fr from ⟨World.block_lt_of_cell? _ _ h.view.c0, h.ord.2.2, h.fits, h.view.lt⟩)
  have HBL := Lib.hid hbl
  clear h hi ha hR hL hb5 k0 k1
  go_enter Try.func28, Try.ntmps28
  go_wp2
  go_step3
  go_wp2
  obtain ⟨w5, h5⟩ : ∃ y, y = w.alloc (.cells #[.int .i64 f0, .int .i64 n] 60) := ⟨_, rfl⟩
  rw [← h5] at v0 v2 k0' k1' HB5 HBX5 ⊢
  clear h5
  have HB5 := Lib.hid (below_drew1 HB5.out)
  have HBX5 := Lib.hid HBX5.out
  obtain ⟨bx, hbx⟩ : ∃ bx, bx = w.heap.size := ⟨_, rfl⟩
  have HBX := Lib.hid hbx
  rw [← hbx] at k0' k1' HBX5 ⊢
  clear hbx
  have HC5 := Lib.hid (show w5.cell? ⟨vb, 0, none⟩ = some (.pointer (some ⟨em + 1, 0, none⟩)) ∧ w5.cell? ⟨vb, 2, none⟩ = some (.int .i64 at_) ∧ w5.cell? ⟨bx, 0, none⟩ = some (.int .i64 f0) ∧ w5.cell? ⟨bx, 1, none⟩ = some (.int .i64 n) from ⟨v0, v2, k0', k1'⟩)
  go_region_held3 (fun w' => w'.cell? ⟨vb, 0, none⟩ = some (.pointer (some ⟨em + 1, 0, none⟩)) ∧ w'.cell? ⟨vb, 2, none⟩ = some (.int .i64 at_) ∧ w'.cell? ⟨bx, 0, none⟩ = some (.int .i64 f0) ∧ w'.cell? ⟨bx, 1, none⟩ = some (.int .i64 n))
    (first | exact HC6.out | exact HC5.out)
    ((go_at_call 56; refine (range_calls fr em blocks last V ⟨f0, n⟩ at_ _ (HW.out.ext.below HB5.out) HI.out).mono ?_; rintro _ w6 ⟨v6, rfl, hB6, hR6⟩; have HC6 := Lib.hid (show w6.cell? ⟨vb, 0, none⟩ = some (.pointer (some ⟨em + 1, 0, none⟩)) ∧ w6.cell? ⟨vb, 2, none⟩ = some (.int .i64 at_) ∧ w6.cell? ⟨bx, 0, none⟩ = some (.int .i64 f0) ∧ w6.cell? ⟨bx, 1, none⟩ = some (.int .i64 n) from ⟨pw_cell_below hB6 HC5.out.1, pw_cell_below hB6 HC5.out.2.1, pw_cell_below hB6 HC5.out.2.2.1, pw_cell_below hB6 HC5.out.2.2.2⟩); have HBX6 := Lib.hid ((HBX5.out.below (below_drew1 (Below.refl _ _))).below hB6); have HB6 := Lib.hid (below_step HB5.out hB6); have HR6 := Lib.hid (Kd.R_lower hR6 HB5.out.size); clear hB6 hR6))
  have hz := rangeK_len HF.out.1 f0 at_ n
  obtain ⟨ob, cap, hv6, hob, hob2, _⟩ := Kd.R_form HR6.out (by simp only [Int.toNat_natCast]; omega)
  simp only [Int.toNat_natCast] at hv6
  have hr0 : rangeK V f0 at_ n = mixK V M f0 at_ 0 n := by simp [mixK, rdK]
  have HR6m := Lib.hid (show Kd.R kb 5 w6 w.heap.size (fun _ => True) (.slice (some ⟨ob, 0, none⟩) (mixK V M f0 at_ 0 n).length cap) (mixK V M f0 at_ 0 n) by rw [← hr0, ← hv6]; simpa using HR6.out)
  obtain ⟨N, hN⟩ : ∃ N, N = (rangeK V f0 at_ n).length := ⟨_, rfl⟩
  have HZ := Lib.hid (fun (k : Nat) (hk : k ≤ n) => show (mixK V M f0 at_ k n).length = N by rw [HF.out.mix_len f0 at_ k n hk, hN, hz])
  have HN := Lib.hid (show 40 * n ≤ N ∧ N ≤ 40 * n by omega)
  have hcap : N ≤ cap := by
    have := (Kd.R_reads' HR6m.out).2.1
    rw [HZ.out 0 (Nat.zero_le _)] at this
    exact this
  have HCAP := Lib.hid hcap
  have HOB := Lib.hid (And.intro hob hob2)
  rw [← hN] at hv6
  subst hv6
  clear hN hz hr0 hcap hob hob2
  go_wp2
  have y3 := pw_cell_below HB6.out HW.out.view.c3
  have z0 := HC6.out.2.2.1
  have z1 := HC6.out.2.2.2
  have HB7 := Lib.hid (below_drew1 HB6.out)
  have HR7 := Lib.hid (Kd.R_below HR6m.out (below_drew1 (Below.refl _ _)))
  have HBX7 := Lib.hid (HBX6.out.below (below_drew1 (Below.refl _ _)))
  have HOB7 := Lib.hid (show w.heap.size ≤ ob ∧ ob < w6.drew.heap.size from HOB.out)
  have HLT7 := Lib.hid (show w.heap.size ≤ w6.drew.heap.size from HB7.out.size)
  have HC7 := Lib.hid (show w6.cell? ⟨vb, 3, none⟩ = some (.pointer (some ⟨sb, 0, none⟩)) ∧ w6.cell? ⟨bx, 0, none⟩ = some (.int .i64 f0) ∧ w6.cell? ⟨bx, 1, none⟩ = some (.int .i64 n) from ⟨y3, z0, z1⟩)
  have HC7a := Lib.hid (show (w6.drew.alloc (.cells #[.int .i64 f0, .int .i64 n] 60)).cell? ⟨vb, 3, none⟩ = some (.pointer (some ⟨sb, 0, none⟩)) ∧ (w6.drew.alloc (.cells #[.int .i64 f0, .int .i64 n] 60)).cell? ⟨bx, 0, none⟩ = some (.int .i64 f0) ∧ (w6.drew.alloc (.cells #[.int .i64 f0, .int .i64 n] 60)).cell? ⟨bx, 1, none⟩ = some (.int .i64 n) from ⟨pw_cell_below (below_drew1 HB6.out |> fun h => below_alloc (Below.refl w6.drew.heap.size w6.drew) _) y3, pw_cell_below (below_alloc (Below.refl w6.drew.heap.size w6.drew) _) z0, pw_cell_below (below_alloc (Below.refl w6.drew.heap.size w6.drew) _) z1⟩)
  go_region_held3 (fun w' => w'.cell? ⟨vb, 3, none⟩ = some (.pointer (some ⟨sb, 0, none⟩)) ∧ w'.cell? ⟨bx, 0, none⟩ = some (.int .i64 f0) ∧ w'.cell? ⟨bx, 1, none⟩ = some (.int .i64 n))
    (first | exact HC8.out | exact HC7.out | exact HC7a.out)
    ((go_at_call 57; refine (add_calls fr sb 64 L (some ⟨w6.drew.heap.size, 0, none⟩) 1 [⟨f0, n⟩] _ (HW.out.set.below (below_step HB7.out (below_alloc (Below.refl _ _) _))) (C60_one _ _ _ _ rfl) (Nat.le_refl 1) (by have := HLL.out; simp; omega) (by have h1 := HX.out; have h2 := HLT7.out; simp at h2 ⊢; omega)).mono ?_; rintro _ w8 ⟨rfl, hI8, hM8⟩; rw [HA.out] at hI8 ⊢; have HS8 := Lib.hid (RdS.start HW.out (below_step HB7.out (below_alloc (Below.refl _ _) _)) hM8 hI8 HOB7.out.1 (Kd.R_below HR7.out (below_alloc (Below.refl _ _) _)) (by have := HOB7.out; simp at this ⊢; omega)); have HBX8 := Lib.hid ((HBX7.out.below (below_alloc (Below.refl _ _) _)).mv hM8 (by have h1 := HX.out; have h2 := HBX.out; omega)); have HC8 := Lib.hid (show w8.cell? ⟨vb, 3, none⟩ = some (.pointer (some ⟨sb, 0, none⟩)) ∧ w8.cell? ⟨bx, 0, none⟩ = some (.int .i64 f0) ∧ w8.cell? ⟨bx, 1, none⟩ = some (.int .i64 n) from ⟨HS8.out.view.c3, HBX8.out.c0, HBX8.out.c1⟩); clear hI8 hM8))
  go_wp2
  have z1 := HBX8.out.c1
  try rw [Exit.noGoto_ret]
  go_ret2
  exact ⟨rfl, RdS.isW HW.out HS8.out, HS8.out.kept, HS8.out.sm⟩
end Go.Proofs.Ytbebihphodafiaa.Iv

namespace Go.Proofs.Ytbebihphodafiaa.Iv
open Go.RowKit Go.Proofs.YtbebihphodafiaaW.PrintWords Go.Proofs.YtbebihphodafiaaW.PrintLast Go.Proofs.YtbebihphodafiaaW.PrintMore Go.Proofs.Ytbebihphodafiaa.PWb Go.Maps
set_option linter.unusedVariables false
set_option linter.unusedSimpArgs false

/-- The struct of the laws' world, at B + 9, and what it leads to. -/
structure Live (w W : World) (B : Nat) (blocks last at_ : Int) (V : Int → List S31) (M : List S31) (L : List S60) (R : List S77) : Prop where
  b : RowKit.Below w.heap.size w W
  ge : w.heap.size ≤ B
  v : IsW W (B + 10) B (B + 2) (B + 6) (B + 7) blocks 16 last at_ V M L R (fun _ => True)
  c0 : W.cell? ⟨B + 9, 0, none⟩ = some (.pointer (some ⟨B + 1, 0, none⟩))
  c1 : W.cell? ⟨B + 9, 1, none⟩ = some (.pointer (some ⟨B + 3, 0, none⟩))
  c2 : W.cell? ⟨B + 9, 2, none⟩ = some (.pointer (some ⟨B + 7, 0, none⟩))
section
variable {w W W' : World} {B : Nat} {blocks last at_ : Int} {V : Int → List S31} {M M' : List S31} {L L' : List S60} {R R' : List S77}
theorem Fresh.live (h : Fresh W W' blocks at_) (hb : RowKit.Below w.heap.size w W) : Live w W' W.heap.size blocks 0 at_ (fun _ => []) [] [] [] :=
  ⟨below_step hb h.b, hb.size, h.v, h.c0, h.c1, h.c2⟩
theorem Live.step (h : Live w W B blocks last at_ V M L R) (hb : RowKit.Below W.heap.size W W') : Live w W' B blocks last at_ V M L R :=
  ⟨below_step h.b hb, h.ge, h.v.below hb, pw_cell_below hb h.c0, pw_cell_below hb h.c1, pw_cell_below hb h.c2⟩
theorem Live.kept {V' : Int → List S31} {last' : Int} {S : Nat → Prop} (h : Live w W B blocks last at_ V M L R) (hk : Kept W W' S) (hs : Same W W') (hS : ∀ k, k < W.heap.size → S k → B ≤ k ∧ k ≠ B + 9) (hv : IsW W' (B + 10) B (B + 2) (B + 6) (B + 7) blocks 16 last' at_ V' M' L' R' (fun _ => True)) : Live w W' B blocks last' at_ V' M' L' R' := by
  have hge := h.ge
  have hlt := World.block_lt_of_cell? _ _ h.c0
  have h9 := hk.2 (B + 9) hlt (fun hh => (hS _ hlt hh).2 rfl)
  refine ⟨⟨hs.1.trans h.b.os, hs.2.1.trans h.b.tape, hs.2.2.trans h.b.output, Nat.le_trans h.b.size hk.1, fun k hk' => (hk.2 k (Nat.lt_of_lt_of_le hk' h.b.size) (fun hh => ?_)).trans (h.b.block k hk')⟩, hge, hv, cell_at h.c0 h9, cell_at h.c1 h9, cell_at h.c2 h9⟩
  have := (hS k (Nat.lt_of_lt_of_le hk' h.b.size) hh).1
  omega
theorem Live.sv (h : Live w W B blocks last at_ V M L R) : ∀ k, k < W.heap.size → Sv W (B + 10) (B + 6) (B + 7) k → B ≤ k ∧ k ≠ B + 9 := by
  rintro k _ (rfl | rfl | ⟨hk, _⟩)
  · exact ⟨by omega, by omega⟩
  · exact ⟨by omega, by omega⟩
  · exact ⟨by omega, by omega⟩
theorem Live.read (h : Live w W B blocks last at_ V M L R) (f0 : Int) (n : Nat) (hn : 1 ≤ n ∧ n ≤ 16) (hi : inE blocks ⟨f0, n⟩ = true) (ha : addS 64 L [⟨f0, n⟩] = (0, L')) (hR : (R.length + 16) * 40 ≤ 140737488355328) (hL : L.length ≤ 1000000) :
    Calls Try.prog 28 #[.pointer (some ⟨B + 7, 0, none⟩), .agg #[.int .i64 f0, .int .i64 n]] W fun r w' => ∃ v, r = .returned (.tuple #[v, .int .i64 0]) ∧ Live w w' B blocks last at_ V M L' (R ++ newR V M f0 at_ n) ∧ Kd.R kb 5 w' W.heap.size (fun _ => True) v (rdK V M f0 at_ n) ∧ Kept W w' (Sv W (B + 10) (B + 6) (B + 7)) ∧ Same W w' :=
  (readOk_calls (B + 10) B (B + 2) (B + 6) (B + 7) blocks 16 last at_ V M L L' R f0 n W h.v hn hi ha hR hL).mono fun r w' ⟨v, h1, h2, h3, h4, h5⟩ =>
    ⟨v, h1, h.kept h3 h4 h.sv h2, h5, h3, h4⟩
theorem Live.readBig (h : Live w W B blocks last at_ V M L R) (f0 : Int) (n : Nat) (hn : 1 ≤ n ∧ n ≤ 16) (hi : inE blocks ⟨f0, n⟩ = true) (ha : addS 64 L [⟨f0, n⟩] = (7, L)) (hR : (R.length + 16) * 40 ≤ 140737488355328) (hL : L.length ≤ 1000000) :
    Calls Try.prog 28 #[.pointer (some ⟨B + 7, 0, none⟩), .agg #[.int .i64 f0, .int .i64 n]] W fun r w' => r = .returned (.tuple #[.slice none 0 0, .int .i64 7]) ∧ Live w w' B blocks last at_ V M L R :=
  (readBig_calls (B + 10) B (B + 2) (B + 6) (B + 7) blocks 16 last at_ V M L L R f0 n W h.v hn hi ha hR hL).mono fun r w' ⟨h1, h2, h3, h4⟩ =>
    ⟨h1, h.kept h3 h4 h.sv h2⟩
theorem Live.readRange (h : Live w W B blocks last at_ V M L R) (f0 n : Int) (hn : 1 ≤ n ∧ n ≤ 16) (hi : inE blocks ⟨f0, n⟩ = false) :
    Calls Try.prog 28 #[.pointer (some ⟨B + 7, 0, none⟩), .agg #[.int .i64 f0, .int .i64 n]] W fun r w' => r = .returned (.tuple #[.slice none 0 0, .int .i64 2]) ∧ Live w w' B blocks last at_ V M L R :=
  (readRange_calls (B + 10) B (B + 2) (B + 6) (B + 7) blocks 16 last at_ V M L R f0 n W h.v hn hi).mono fun r w' ⟨h1, h2⟩ => ⟨h1, h.step h2⟩
theorem Live.readLen (h : Live w W B blocks last at_ V M L R) (f0 n : Int) (hn : n < 1 ∨ 16 < n) :
    Calls Try.prog 28 #[.pointer (some ⟨B + 7, 0, none⟩), .agg #[.int .i64 f0, .int .i64 n]] W fun r w' => r = .returned (.tuple #[.slice none 0 0, .int .i64 3]) ∧ Live w w' B blocks last at_ V M L R :=
  (readLen_calls _ f0 n W hn).mono fun r w' ⟨h1, h2⟩ => ⟨h1, h.step h2⟩
end
end Go.Proofs.Ytbebihphodafiaa.Iv

namespace Go.Proofs.Ytbebihphodafiaa.Iv
open Go.RowKit Go.Proofs.YtbebihphodafiaaW.PrintWords Go.Proofs.YtbebihphodafiaaW.PrintLast Go.Proofs.YtbebihphodafiaaW.PrintMore Go.Proofs.Ytbebihphodafiaa.PWb Go.Maps
set_option linter.unusedVariables false
set_option linter.unusedSimpArgs false

theorem Sm_not {w : World} {fr em k : Nat} (h : k ≠ em ∧ k ≠ em + 1) (hk : k < fr) : ¬ Sm w fr em k := by
  rintro (e | e | ⟨e, _⟩)
  · exact h.1 e
  · exact h.2 e
  · omega
theorem Sm_clear {w : World} {fr em : Nat} (he : em + 1 < fr) {ts : List Nat} (ht : 126 ∉ ts) : Clear w fr (Sm w fr em) ts := by
  rintro k hk q hq cells hc (e | e | ⟨_, cs, h⟩)
  · omega
  · omega
  · rw [hc] at h
    injection h with h
    injection h with _ h
    exact ht (by rw [← h]; exact hq)
theorem IsW.ap {w W : World} {fr em mb sb vb : Nat} {blocks most last last' at_ : Int} {V V' : Int → List S31} {M : List S31} {L : List S60} {R : List S77} {ok : Nat → Prop} (h : IsW w fr em mb sb vb blocks most last at_ V M L R ok) (hk : Kept w W (Sm w fr em)) (he : IsExt W fr em blocks last' V') : IsW W fr em mb sb vb blocks most last' at_ V' M L R ok := by
  have ho := h.ord
  have hv := h.view.lt
  exact ⟨he, h.buf.keepS hk (Sm_not (by omega) (by omega)) (Sm_not (by omega) (by omega)) (Sm_clear (by omega) (by decide)), h.set.keepS hk (Sm_not (by omega) (by omega)) (Sm_clear (by omega) (by decide)),
    h.view.keepS hk (Sm_not (by omega) (by omega)) (Sm_clear (by omega) (by decide)), h.ord, Nat.le_trans h.fits hk.1⟩
section
variable {w W W' : World} {B : Nat} {blocks last at_ : Int} {V : Int → List S31} {M M' : List S31} {L L' : List S60} {R R' : List S77}
theorem Live.apply (h : Live w W B blocks last at_ V M L R) (t : Int) (A : Option Addr) (c : Nat) (l : List S31) (hr : ∀ W', Kept W W' (Sm W (B + 10) B) → Same W W' → Kd.C k31 W' A l.length l) (hc : l.length ≤ c) (hl : l.length ≤ 1099511627776) (hV : ∀ x, (V x).length ≤ 1099511627776) :
    Calls Try.prog 30 #[.pointer (some ⟨B + 1, 0, none⟩), .agg #[.int .i64 t, .slice A l.length c]] W fun r w' => r = .returned (.int .i64 (apC blocks last t l)) ∧ Live w w' B blocks (apL blocks last t l) at_ (apW blocks last t V l) M L R ∧ Kept W w' (Sm W (B + 10) B) ∧ Same W w' :=
  (apply_calls (B + 10) B blocks last V t A c l W h.v.ext hr hc hl hV h.v.fits).mono fun r w' ⟨h1, h2, h3, h4⟩ =>
    ⟨h1, h.kept h3 h4 (by
      rintro k _ (e | e | ⟨e, _⟩)
      · exact ⟨by omega, by omega⟩
      · exact ⟨by omega, by omega⟩
      · exact ⟨by omega, by omega⟩) (h.v.ap h3 h2), h3, h4⟩
/-- What stood ahead of the world stands. -/
theorem Live.olds (h : Live w W B blocks last at_ V M L R) {W' : World} (hk : Kept W W' (Sm W (B + 10) B)) (hs : Same W W') : RowKit.Below w.heap.size w W' :=
  ⟨hs.1.trans h.b.os, hs.2.1.trans h.b.tape, hs.2.2.trans h.b.output, Nat.le_trans h.b.size hk.1, fun k hk' => (hk.2 k (Nat.lt_of_lt_of_le hk' h.b.size) (by
    have := h.ge
    rintro (e | e | ⟨e, _⟩) <;> omega)).trans (h.b.block k hk')⟩
theorem Live.write (h : Live w W B blocks last at_ V M L R) (A : Option Addr) (c : Nat) (l : List S31) (hr : Kd.C k31 W A l.length l) (hl : l.length ≤ 140737488355328) :
    Calls Try.prog 17 #[.pointer (some ⟨B + 3, 0, none⟩), .slice A l.length c] W fun e w' => e = .returned (.int .i64 (wrC blocks 16 M l)) ∧ Live w w' B blocks last at_ V (wrM blocks 16 M l) L R ∧ W.grownBy w' (some (B + 2)) :=
  (write_calls (B + 10) (B + 2) blocks 16 M A c l W h.v.buf hr hl h.v.fits).mono fun e w' ⟨h1, h2, h3⟩ =>
    ⟨h1, h.kept (S := fun k => k = B + 2) (Kept.of_grown h3 (Kept.refl _ _) (fun k hk => by cases hk; exact .inl rfl)) ((Same.refl W).grown h3) (fun k _ e => ⟨by omega, by omega⟩) (h.v.wr h3 h2), h3⟩
end
end Go.Proofs.Ytbebihphodafiaa.Iv

namespace Go.Proofs.Ytbebihphodafiaa.Iv
open Go.RowKit Go.Proofs.YtbebihphodafiaaW.PrintWords Go.Proofs.YtbebihphodafiaaW.PrintLast Go.Proofs.YtbebihphodafiaaW.PrintMore Go.Proofs.Ytbebihphodafiaa.PWb Go.Maps
set_option linter.unusedVariables false
set_option linter.unusedSimpArgs false

theorem small5_l0 (l : List S65) (hl : l.length ≤ 9223372036854775807) (B : Nat) (hB : ∀ x ∈ l, x.f2.length ≤ B) (hB2 : B ≤ 9223372036854775807) (d : Nat) : ∀ (k i : Nat) (n : Int), i + d = l.length → d + B + 5 ≤ k → 0 ≤ n → n ≤ 1099511627776 →
    ∃ r, scarplaw15_small.l0 k l n (i : Int) = some r ∧ (r = true → l.length ≤ 120 ∧ ∀ j, i ≤ j → (hj : j < l.length) → (l[j]).f2.length ≤ 20000) := by
  induction d with
  | zero =>
    intro k i n hi hk h0 h1
    obtain ⟨k, rfl⟩ : ∃ m, k = m + 1 := ⟨k - 1, by omega⟩
    simp only [scarplaw15_small.l0]
    rw [if_neg (by omega)]
    exact ⟨_, rfl, fun h => ⟨by simp at h; omega, fun j hj hj2 => by omega⟩⟩
  | succ d ih =>
    intro k i n hi hk h0 h1
    obtain ⟨k, rfl⟩ : ∃ m, k = m + 1 := ⟨k - 1, by omega⟩
    simp only [scarplaw15_small.l0]
    have hil : i < l.length := by omega
    have hrd : rd_T65 l (i : Int) = l[i] := by simp [rd_T65, List.getD_eq_getElem?_getD, List.getElem?_eq_getElem hil]
    have hbl := hB l[i] (List.getElem_mem hil)
    obtain ⟨p, p1, p2, p3⟩ := puts_ex l[i].f2 20000 k (by omega) (by omega)
    rw [if_pos (by omega), if_pos (by omega), hrd, p1, Option.bind_some, sum_two n p 3 k h0 h1 (by omega) (by decide) (by omega), Option.bind_some]
    by_cases hb : min 1099511627776 (n + p + 3) > 20000
    · rw [if_pos hb]
      exact ⟨false, rfl, fun h => by cases h⟩
    · rw [if_neg hb]
      have w : wrap64 ((i : Int) + 1) = ((i + 1 : Nat) : Int) := by unfold wrap64; omega
      rw [w]
      obtain ⟨r, e1, e2⟩ := ih k (i + 1) (min 1099511627776 (n + p + 3)) (by omega) (by omega) (by omega) (by omega)
      refine ⟨r, e1, fun h => ⟨(e2 h).1, fun j hj hj2 => ?_⟩⟩
      rcases Nat.eq_or_lt_of_le hj with h3 | h3
      · subst h3; omega
      · exact (e2 h).2 j h3 hj2
theorem small5_ex (l : List S65) (hl : l.length ≤ 9223372036854775807) (hB : ∀ x ∈ l, x.f2.length ≤ 9223372036854775807) : ∃ k r, scarplaw15_small.f k l = some r ∧ (r = true → l.length ≤ 120 ∧ ∀ x ∈ l, x.f2.length ≤ 20000) := by
  obtain ⟨r, e1, e2⟩ := small5_l0 l hl 9223372036854775807 hB (Nat.le_refl _) l.length (l.length + 9223372036854775807 + 5) 0 0 (by omega) (Nat.le_refl _) (by decide) (by decide)
  refine ⟨_, r, e1, fun h => ⟨(e2 h).1, fun x hx => ?_⟩⟩
  obtain ⟨j, hj, rfl⟩ := List.getElem_of_mem hx
  exact (e2 h).2 j (Nat.zero_le _) hj
/-- A transaction above the time does not change what is read at it. -/
theorem getE_apV (V : Int → List S31) (t a : Int) (h : a < t) (l : List S31) (x : Int) : getE (apV V t l) x a = getE V x a := by
  unfold apV
  induction l generalizing V with
  | nil => rfl
  | cons q l ih =>
    rw [List.foldl_cons, ih]
    unfold getE updV
    split
    · rw [verAt_snoc, if_neg (by simp only; omega)]
    · rfl
theorem getE_apW (blocks last t a : Int) (V : Int → List S31) (h : a < t) (l : List S31) (x : Int) : getE (apW blocks last t V l) x a = getE V x a := by
  unfold apW
  split
  · exact getE_apV V t a h l x
  · rfl
theorem apV_len' (V : Int → List S31) (t : Int) (l : List S31) (x : Int) : (apV V t l x).length ≤ (V x).length + l.length := by
  have := apV_len V t l x l.length (Nat.le_refl _)
  rwa [List.take_length] at this
theorem apW_len (blocks last t : Int) (V : Int → List S31) (l : List S31) (x : Int) : (apW blocks last t V l x).length ≤ (V x).length + l.length := by
  unfold apW
  split
  · exact apV_len' V t l x
  · omega
theorem add_same (x : Int) (h0 : 0 ≤ x) (h1 : x < 20) : addS 64 [⟨x, 1⟩] [⟨x, 1⟩] = (0, [⟨x, 1⟩]) := by
  have h4 : mayB ⟨x, 1⟩ = true := by simp [mayB]; omega
  have h5 : nrm ([⟨x, 1⟩] ++ [⟨x, 1⟩]) = [(⟨x, 1⟩ : S60)] := nrm_of _ _ (by simp) ⟨List.pairwise_singleton _ _, by simp⟩ (fun y => by rw [cov_append]; simp)
  unfold addS
  rw [if_pos (by simpa using h4), if_neg (by simp), h5]
  rfl
theorem add_first (x : Int) (h0 : 0 ≤ x) (h1 : x < 20) : addS 64 [] [⟨x, 1⟩] = (0, [⟨x, 1⟩]) := by
  have h4 : mayB ⟨x, 1⟩ = true := by simp [mayB]; omega
  have h5 : nrm ([] ++ [⟨x, 1⟩]) = [(⟨x, 1⟩ : S60)] := nrm_of _ _ (by simp) ⟨List.pairwise_singleton _ _, by simp⟩ (fun y => Iff.rfl)
  unfold addS
  rw [if_pos (by simpa using h4), if_neg (by simp), h5]
  rfl
theorem rdK_one (V : Int → List S31) (x a : Int) : rdK V [] x a 1 = getE V x a := by
  simp [rdK, List.range_succ, rdB, hasM]
end Go.Proofs.Ytbebihphodafiaa.Iv

namespace Go.Proofs.Ytbebihphodafiaa.Iv
open Go.RowKit Go.Proofs.YtbebihphodafiaaW.PrintWords Go.Proofs.YtbebihphodafiaaW.PrintLast Go.Proofs.YtbebihphodafiaaW.PrintMore Go.Proofs.Ytbebihphodafiaa.PWb Go.Maps
set_option linter.unusedVariables false
set_option linter.unusedSimpArgs false

theorem round_in (a n : Int) (h0 : 0 < n) (h1 : n < 4611686018427387904) : ∃ r, scarpalike_Round.f a n = some r ∧ 0 ≤ r ∧ r < n := by
  unfold scarpalike_Round.f
  rw [if_neg (by omega)]
  have h2 : -n < Int.tmod a n ∧ Int.tmod a n < n := by
    rcases Int.lt_or_le a 0 with h | h
    · have e : Int.tmod a n = -Int.tmod (-a) n := by rw [Int.neg_tmod]; omega
      have := Int.tmod_lt_of_pos (-a) h0
      have := Int.tmod_nonneg n (show 0 ≤ -a by omega)
      omega
    · have := Int.tmod_lt_of_pos a h0
      have := Int.tmod_nonneg n h
      omega
  generalize Int.tmod a n = t at *
  by_cases h : t < 0
  · rw [if_pos h]; exact ⟨_, rfl, by unfold wrap64; omega, by unfold wrap64; omega⟩
  · rw [if_neg h]; exact ⟨_, rfl, by omega, h2.2⟩
theorem R5_kept {w W : World} {fr : Nat} {S : Nat → Prop} {v : Value} {xs : List Int} {ok : Nat → Prop} (h : Kd.R kb 5 w fr ok v xs) (hk : Kept w W S) (hc : Clear w fr S [5]) : Kd.R kb 5 W fr ok v xs :=
  R_keep h (fun k k1 k2 ⟨q, k3, cells, k4⟩ => hk.2 k k2 (hc k k1 q k3 cells k4))
def StA (w W : World) (B j : Nat) : Prop := ∃ last V, Live w W B 20 last 5 V [] [] [] ∧ ∀ z, (V z).length ≤ j * 20000
def StI (w W : World) (B : Nat) (y : Int) (G : List Int) (A8 : Option Addr) (c8 j : Nat) : Prop :=
  ∃ last V R, Live w W B 20 last 5 V [] [⟨y, 1⟩] R ∧ R.length ≤ 1 + j ∧ (∀ z, (V z).length ≤ (120 + j) * 20000) ∧ getE V y 5 = G ∧ Kd.R kb 5 W (B + 10) (fun _ => True) (.slice A8 40 c8) G
theorem rd65_at (l : List S65) (j : Nat) (h : j < l.length) : rd_T65 l (j : Int) = l[j] := by
  simp [rd_T65, List.getD_eq_getElem?_getD, List.getElem?_eq_getElem h]
/-- A step's cells, in a world that keeps what was. -/
theorem step65 {w W : World} {A : Option Addr} {l : List S65} (hr : Kd.C k65 w A l.length l) (j : Nat) (h : j < l.length) (hb : RowKit.Below w.heap.size w W) :
    ∃ (s : S65) (ad : Addr) (A3 : Option Addr) (c3 : Nat), s ∈ l ∧ A = some ad ∧ W.cell? (ad.add (j * 5)) = some (.int .i64 s.f0) ∧ W.cell? ⟨(ad.add (j * 5)).block, (ad.add (j * 5)).off + 3, none⟩ = some (.slice A3 s.f2.length c3) ∧ W.cell? ⟨(ad.add (j * 5)).block, (ad.add (j * 5)).off + 4, none⟩ = some (.int .i64 s.f3) ∧ s.f2.length ≤ c3 ∧ Kd.C k31 w A3 s.f2.length s.f2 := by
  obtain ⟨ad, A3, c3, h1, h2, _, _, h5, h6, h7, h8⟩ := at_T65 hr (j : Int) (by omega) (by omega)
  simp only [Int.toNat_natCast] at h2 h5 h6
  exact ⟨rd_T65 l (j : Int), ad, A3, c3, by rw [rd65_at l j h]; exact List.getElem_mem h, h1, pw_cell_below hb h2, pw_cell_below hb h5, pw_cell_below hb h6, h7, h8⟩

set_option maxHeartbeats 16000000 in
set_option maxRecDepth 100000 in
theorem steady_calls (A0 : Option Addr) (c0 : Nat) (l : List S65) (x : Int) (w : World) (hr : Kd.C k65 w A0 l.length l) (hc : l.length ≤ c0) (hl : l.length ≤ 9223372036854775807) (hll : ∀ s ∈ l, s.f2.length ≤ 9223372036854775807) :
    Calls Try.prog 7 #[.slice A0 l.length c0, .int .i64 x] w fun e w' => e = .returned (.bool true) ∧ RowKit.Below w.heap.size w w' := by
  have HR := Lib.hid hr
  have HC := Lib.hid hc
  obtain ⟨kk, r, hsm, hsr⟩ := small5_ex l hl hll
  have HSM := Lib.hid hsm
  have HSR := Lib.hid hsr
  clear hr hc hsm hsr hll
  cases r with
  | false =>
    go_enter Try.func7, Try.ntmps7
    go_wp2_with (first
      | (go_at_call 29; go_must (refine (scarplaw15_small.calls kk A0 c0 l false _ HR.out HC.out HSM.out).mono ?_; rintro _ w1 ⟨rfl, hB1⟩))
      | (go_at_call 26; go_must (refine (awakeV_calls _).mono ?_; rintro _ w2 ⟨rfl, hB2⟩)))
    try rw [Exit.noGoto_ret]
    go_ret
    exact ⟨rfl, below_step hB1 hB2⟩
  | true =>
    have HLL := Lib.hid (HSR.out rfl).2
    have hl120 := (HSR.out rfl).1
    obtain ⟨y, hy, hy0, hy1⟩ := round_in x 20 (by decide) (by decide)
    have HY := Lib.hid hy
    have HA1 := Lib.hid (add_first y hy0 hy1)
    have HA2 := Lib.hid (add_same y hy0 hy1)
    have HIY := Lib.hid (show inE 20 ⟨y, ((1 : Nat) : Int)⟩ = true by rw [inE_iff]; simp only; omega)
    clear hy hl
    go_enter Try.func7, Try.ntmps7
    go_wp2_with (first
      | (go_at_call 29; go_must (refine (scarplaw15_small.calls kk A0 c0 l true _ HR.out HC.out HSM.out).mono ?_; rintro _ w1 ⟨rfl, hB1⟩; have HB1 := Lib.hid hB1; clear hB1))
      | (go_at_call 27; go_must (refine (fresh_calls 20 5 w1 ⟨by decide, by decide⟩).mono ?_; rintro _ w2 ⟨rfl, hF2⟩; have H2 := Lib.hid (Fresh.live hF2 HB1.out); clear hF2))
      | (go_at_call 20; go_must (refine (scarpalike_Round.calls x 20 y _ HY.out).mono ?_; rintro _ _ ⟨rfl, ⟨⟨nq, rfl⟩⟩⟩; have H3 := Lib.hid (show StA w (w2.drewN nq) w1.heap.size 0 from ⟨_, _, H2.out.step (pw_below_drewN (Below.refl _ _) _), fun z => Nat.zero_le _⟩))))
    obtain ⟨B, hB⟩ : ∃ B, B = w1.heap.size := ⟨_, rfl⟩
    rw [← hB] at H3 ⊢
    clear hB
    go_loopw [7] (fun i wr => ∃ j : Nat, j ≤ l.length ∧ i = .int .i64 j ∧ Aside0 (StA w wr B j)) (fun i _ => l.length - (intOf i).toNat)
    case atStart => exact ⟨0, Nat.zero_le _, rfl, ⟨H3.out⟩⟩
    case round =>
      clear H3
      obtain ⟨k, hk, rfl, HO⟩ := hrel
      obtain ⟨last, V, hL, hV⟩ := HO.out
      have HL := Lib.hid hL
      have HVL := Lib.hid (fun z => show (V z).length ≤ 120 * 20000 from Nat.le_trans (hV z) (by omega))
      have HVK := Lib.hid hV
      clear HO hL hV
      by_cases hkl : k < l.length
      · obtain ⟨s, ad, A3, c3, hsl, e2, x0, x3, x4, x5, x6⟩ := step65 HR.out k hkl HL.out.b
        have HSL := Lib.hid (HLL.out s hsl)
        have HC3 := Lib.hid x6
        have HC5 := Lib.hid x5
        have HJ := Lib.hid hkl
        subst e2
        clear hsl x5 x6
        have b1 : (0 : Int) ≤ (k : Int) := by omega
        have b2 : (k : Int) < (l.length : Int) := by omega
        by_cases k3 : s.f0 = 3
        · have d3 : decide (s.f0 = 3) = true := by simpa using k3
          by_cases k5 : s.f3 ≤ 5
          · have d5 : decide (s.f3 ≤ 5) = true := by simpa using k5
            have z0 := HL.out.c0
            go_wp2
            go_still_tail 15, (by kernel_rfl)
            change wpList _ _ _ _ _ wr.drew
            have HLd := Lib.hid (HL.out.step (below_drew1 (Below.refl _ _)))
            clear HL z0 x0 x3 x4
            generalize wr.drew = w5 at *
            go_wp2_with (go_at_call 30; go_must (refine (HLd.out.apply s.f3 A3 c3 s.f2 (fun W' hk hs => Kd.C_below HC3.out (HLd.out.olds hk hs)) HC5.out (by have := HSL.out; omega) (fun z => by have := HVL.out z; omega)).mono ?_; rintro _ w6 ⟨rfl, hL6, hk6, hs6⟩; have HL6 := Lib.hid hL6; clear hL6 hk6 hs6))
            go_roundw
            case rel => exact ⟨k + 1, HJ.out, by go_num, ⟨⟨_, _, HL6.out, fun z => Nat.le_trans (apW_len _ _ _ _ _ z) (by have h1 := HVK.out z; have h2 := HSL.out; omega)⟩⟩⟩
            case measure => simp [intOf]; omega
          · have d5 : decide (s.f3 ≤ 5) = false := by simpa using k5
            clear HC3 HC5 HSL HJ HVK
            have HG40 := Lib.hid (getE_len HL.out.v.ext.dat y 5)
            obtain ⟨G, hG⟩ : ∃ G, G = getE V y 5 := ⟨_, rfl⟩
            rw [← hG] at HG40
            have HG := Lib.hid hG
            clear hG
            have c4 := HL.out.c2
            go_wp2_with (go_at_call 28; go_must (clear c4; refine (HL.out.read y 1 ⟨by decide, by decide⟩ HIY.out HA1.out (by decide) (by decide)).mono ?_; rintro _ w3 ⟨v3, rfl, hL3, hR3, _, _⟩; rw [rdK_one, ← HG.out] at hR3; obtain ⟨A8, c8, hv8⟩ := Kd.R_slice hR3; rw [HG40.out] at hv8; subst hv8; have H3 := Lib.hid (show StI w w3 B y G A8 c8 0 from ⟨_, V, _, hL3, by simp [newR], fun z => Nat.le_trans (HVL.out z) (by decide), HG.out.symm, Kd.R_lower hR3 HL.out.v.fits⟩); clear hL3 hR3))
            clear x0 x3 x4 d3 d5
            go_loopw [10, 11, 12] (fun i _ _ wr => ∃ j : Nat, j ≤ l.length ∧ i = .int .i64 j ∧ Aside0 (StI w wr B y G A8 c8 j)) (fun i _ _ _ => l.length - (intOf i).toNat)
            case atStart => exact ⟨0, Nat.zero_le _, rfl, ⟨H3.out⟩⟩
            case round =>
              clear H3 HL HG HVL
              obtain ⟨j, hj, rfl, HO⟩ := hrel
              obtain ⟨last2, V2, R, hL, hR, hV, hG, hRW⟩ := HO.out
              have HL := Lib.hid hL
              have HRN := Lib.hid hR
              have HVL := Lib.hid hV
              have HG := Lib.hid hG
              have HRW := Lib.hid hRW
              clear HO hL hR hV hG hRW
              by_cases hlt : j < l.length
              · obtain ⟨s, ad2, A3, c3, hsl, e2, x0, x3, x4, x5, x6⟩ := step65 HR.out j hlt HL.out.b
                have HSL := Lib.hid (HLL.out s hsl)
                have HC3 := Lib.hid x6
                have HC5 := Lib.hid x5
                have HJ := Lib.hid hlt
                first | subst e2 | (injection e2 with e2; subst e2)
                clear hsl x5 x6
                have b1 : (0 : Int) ≤ (j : Int) := by omega
                have b2 : (j : Int) < (l.length : Int) := by omega
                have hj120 : j < 120 := by omega
                by_cases k3 : s.f0 = 3
                · have d3 : decide (s.f0 = 3) = true := by simpa using k3
                  by_cases k5 : 5 < s.f3
                  · have d5 : decide (5 < s.f3) = true := by simpa using k5
                    have HK5 := Lib.hid k5
                    have z0 := HL.out.c0
                    go_wp2
                    go_still_tail 15, (by kernel_rfl)
                    change wpList _ _ _ _ _ wr.drew
                    have HLd := Lib.hid (HL.out.step (below_drew1 (Below.refl _ _)))
                    have HRWd := Lib.hid (Kd.R_below HRW.out (below_drew1 (Below.refl _ _)))
                    clear HL HRW z0 x0 x3 x4
                    generalize wr.drew = w5 at *
                    go_wp2_with (first
                      | (go_at_call 30; go_must (refine (HLd.out.apply s.f3 A3 c3 s.f2 (fun W' hk hs => Kd.C_below HC3.out (HLd.out.olds hk hs)) HC5.out (by have := HSL.out; omega) (fun z => by have := HVL.out z; omega)).mono ?_; rintro _ w6 ⟨rfl, hL6, hk6, hs6⟩; have HL6 := Lib.hid hL6; have HRW6 := Lib.hid (R5_kept HRWd.out hk6 (Sm_clear (by omega) (by decide))); have c6 := hL6.c2; clear hL6 hk6 hs6))
                      | (go_at_call 28; go_must (clear c6; refine (HL6.out.read y 1 ⟨by decide, by decide⟩ HIY.out HA2.out (by have := HRN.out; omega) (by simp)).mono ?_; rintro _ w7 ⟨v7, rfl, hL7, hR7, hk7, hs7⟩; rw [rdK_one, getE_apW _ _ _ _ _ HK5.out, HG.out] at hR7; obtain ⟨A7, c7, hv7⟩ := Kd.R_slice hR7; rw [HG40.out] at hv7; subst hv7; have HR7 := Lib.hid (Kd.R_reads' hR7); have HRW7 := Lib.hid (R5_kept HRW6.out hk7 (Sv_clear (by omega) (by omega) (by decide))); have HL7 := Lib.hid hL7; clear hL7 hR7 hk7 hs7))
                      | (go_at_call 25; go_must (refine ((fun h => by rw [HG40.out] at h; exact h) (scarpalike_Bytes.calls (G.length + 1) A7 c7 G A8 c8 G true _ HR7.out.2.2 (by have := HR7.out.2.1; have := HG40.out; omega) (Kd.R_reads' HRW7.out).2.2 (by have := (Kd.R_reads' HRW7.out).2.1; have := HG40.out; omega) (bytes_refl G (by rw [HG40.out]; decide))) : Calls Try.prog 25 #[.slice A7 40 c7, .slice A8 40 c8] _ _).mono ?_; rintro _ w8 ⟨rfl, hD8⟩; have HB8 := Lib.hid (show RowKit.Below w7.heap.size w7 w8 from by obtain ⟨⟨n8, rfl⟩⟩ := hD8; exact pw_below_drewN (Below.refl _ _) _); clear hD8)))
                    go_roundw
                    case rel => exact ⟨j + 1, HJ.out, by go_num, ⟨⟨_, _, _, HL7.out.step HB8.out, by rw [List.length_append]; have := HRN.out; simp [newR]; omega, fun z => Nat.le_trans (apW_len _ _ _ _ _ z) (by have h1 := HVL.out z; have h2 := HSL.out; omega), by rw [getE_apW _ _ _ _ _ HK5.out]; exact HG.out, Kd.R_below HRW7.out HB8.out⟩⟩⟩
                    case measure => simp [intOf]; omega
                  · have d5 : decide (5 < s.f3) = false := by simpa using k5
                    have c6 := HL.out.c2
                    go_wp2_with (first
                      | (go_at_call 28; go_must (clear c6; refine (HL.out.read y 1 ⟨by decide, by decide⟩ HIY.out HA2.out (by have := HRN.out; omega) (by simp)).mono ?_; rintro _ w7 ⟨v7, rfl, hL7, hR7, hk7, hs7⟩; rw [rdK_one, HG.out] at hR7; obtain ⟨A7, c7, hv7⟩ := Kd.R_slice hR7; rw [HG40.out] at hv7; subst hv7; have HR7 := Lib.hid (Kd.R_reads' hR7); have HRW7 := Lib.hid (R5_kept HRW.out hk7 (Sv_clear (by omega) (by omega) (by decide))); have HL7 := Lib.hid hL7; clear hL7 hR7 hk7 hs7))
                      | (go_at_call 25; go_must (refine ((fun h => by rw [HG40.out] at h; exact h) (scarpalike_Bytes.calls (G.length + 1) A7 c7 G A8 c8 G true _ HR7.out.2.2 (by have := HR7.out.2.1; have := HG40.out; omega) (Kd.R_reads' HRW7.out).2.2 (by have := (Kd.R_reads' HRW7.out).2.1; have := HG40.out; omega) (bytes_refl G (by rw [HG40.out]; decide))) : Calls Try.prog 25 #[.slice A7 40 c7, .slice A8 40 c8] _ _).mono ?_; rintro _ w8 ⟨rfl, hD8⟩; have HB8 := Lib.hid (show RowKit.Below w7.heap.size w7 w8 from by obtain ⟨⟨n8, rfl⟩⟩ := hD8; exact pw_below_drewN (Below.refl _ _) _); clear hD8)))
                    go_roundw
                    case rel => exact ⟨j + 1, HJ.out, by go_num, ⟨⟨_, _, _, HL7.out.step HB8.out, by rw [List.length_append]; have := HRN.out; simp [newR]; omega, fun z => Nat.le_trans (HVL.out z) (by omega), HG.out, Kd.R_below HRW7.out HB8.out⟩⟩⟩
                    case measure => simp [intOf]; omega
                · have d3 : decide (s.f0 = 3) = false := by simpa using k3
                  have c6 := HL.out.c2
                  go_wp2_with (first
                    | (go_at_call 28; go_must (clear c6; refine (HL.out.read y 1 ⟨by decide, by decide⟩ HIY.out HA2.out (by have := HRN.out; omega) (by simp)).mono ?_; rintro _ w7 ⟨v7, rfl, hL7, hR7, hk7, hs7⟩; rw [rdK_one, HG.out] at hR7; obtain ⟨A7, c7, hv7⟩ := Kd.R_slice hR7; rw [HG40.out] at hv7; subst hv7; have HR7 := Lib.hid (Kd.R_reads' hR7); have HRW7 := Lib.hid (R5_kept HRW.out hk7 (Sv_clear (by omega) (by omega) (by decide))); have HL7 := Lib.hid hL7; clear hL7 hR7 hk7 hs7))
                    | (go_at_call 25; go_must (refine ((fun h => by rw [HG40.out] at h; exact h) (scarpalike_Bytes.calls (G.length + 1) A7 c7 G A8 c8 G true _ HR7.out.2.2 (by have := HR7.out.2.1; have := HG40.out; omega) (Kd.R_reads' HRW7.out).2.2 (by have := (Kd.R_reads' HRW7.out).2.1; have := HG40.out; omega) (bytes_refl G (by rw [HG40.out]; decide))) : Calls Try.prog 25 #[.slice A7 40 c7, .slice A8 40 c8] _ _).mono ?_; rintro _ w8 ⟨rfl, hD8⟩; have HB8 := Lib.hid (show RowKit.Below w7.heap.size w7 w8 from by obtain ⟨⟨n8, rfl⟩⟩ := hD8; exact pw_below_drewN (Below.refl _ _) _); clear hD8)))
                  go_roundw
                  case rel => exact ⟨j + 1, HJ.out, by go_num, ⟨⟨_, _, _, HL7.out.step HB8.out, by rw [List.length_append]; have := HRN.out; simp [newR]; omega, fun z => Nat.le_trans (HVL.out z) (by omega), HG.out, Kd.R_below HRW7.out HB8.out⟩⟩⟩
                  case measure => simp [intOf]; omega
              · obtain rfl : j = l.length := by omega
                have b2 : ¬ ((l.length : Nat) : Int) < (l.length : Int) := by omega
                go_wp2_with (go_at_call 26; go_must (refine (awakeV_calls _).mono ?_; rintro _ w9 ⟨rfl, hB9⟩; have HB9 := Lib.hid (below_step HL.out.b hB9); clear hB9))
                try rw [Exit.noGoto_ret]
                go_ret
                exact ⟨rfl, HB9.out⟩

        · have d3 : decide (s.f0 = 3) = false := by simpa using k3
          clear HC3 HC5 HSL HJ HVK
          have HG40 := Lib.hid (getE_len HL.out.v.ext.dat y 5)
          obtain ⟨G, hG⟩ : ∃ G, G = getE V y 5 := ⟨_, rfl⟩
          rw [← hG] at HG40
          have HG := Lib.hid hG
          clear hG
          have c4 := HL.out.c2
          go_wp2_with (go_at_call 28; go_must (clear c4; refine (HL.out.read y 1 ⟨by decide, by decide⟩ HIY.out HA1.out (by decide) (by decide)).mono ?_; rintro _ w3 ⟨v3, rfl, hL3, hR3, _, _⟩; rw [rdK_one, ← HG.out] at hR3; obtain ⟨A8, c8, hv8⟩ := Kd.R_slice hR3; rw [HG40.out] at hv8; subst hv8; have H3 := Lib.hid (show StI w w3 B y G A8 c8 0 from ⟨_, V, _, hL3, by simp [newR], fun z => Nat.le_trans (HVL.out z) (by decide), HG.out.symm, Kd.R_lower hR3 HL.out.v.fits⟩); clear hL3 hR3))
          clear x0 x3 x4 d3
          go_loopw [10, 11, 12] (fun i _ _ wr => ∃ j : Nat, j ≤ l.length ∧ i = .int .i64 j ∧ Aside0 (StI w wr B y G A8 c8 j)) (fun i _ _ _ => l.length - (intOf i).toNat)
          case atStart => exact ⟨0, Nat.zero_le _, rfl, ⟨H3.out⟩⟩
          case round =>
            clear H3 HL HG HVL
            obtain ⟨j, hj, rfl, HO⟩ := hrel
            obtain ⟨last2, V2, R, hL, hR, hV, hG, hRW⟩ := HO.out
            have HL := Lib.hid hL
            have HRN := Lib.hid hR
            have HVL := Lib.hid hV
            have HG := Lib.hid hG
            have HRW := Lib.hid hRW
            clear HO hL hR hV hG hRW
            by_cases hlt : j < l.length
            · obtain ⟨s, ad2, A3, c3, hsl, e2, x0, x3, x4, x5, x6⟩ := step65 HR.out j hlt HL.out.b
              have HSL := Lib.hid (HLL.out s hsl)
              have HC3 := Lib.hid x6
              have HC5 := Lib.hid x5
              have HJ := Lib.hid hlt
              first | subst e2 | (injection e2 with e2; subst e2)
              clear hsl x5 x6
              have b1 : (0 : Int) ≤ (j : Int) := by omega
              have b2 : (j : Int) < (l.length : Int) := by omega
              have hj120 : j < 120 := by omega
              by_cases k3 : s.f0 = 3
              · have d3 : decide (s.f0 = 3) = true := by simpa using k3
                by_cases k5 : 5 < s.f3
                · have d5 : decide (5 < s.f3) = true := by simpa using k5
                  have HK5 := Lib.hid k5
                  have z0 := HL.out.c0
                  go_wp2
                  go_still_tail 15, (by kernel_rfl)
                  change wpList _ _ _ _ _ wr.drew
                  have HLd := Lib.hid (HL.out.step (below_drew1 (Below.refl _ _)))
                  have HRWd := Lib.hid (Kd.R_below HRW.out (below_drew1 (Below.refl _ _)))
                  clear HL HRW z0 x0 x3 x4
                  generalize wr.drew = w5 at *
                  go_wp2_with (first
                    | (go_at_call 30; go_must (refine (HLd.out.apply s.f3 A3 c3 s.f2 (fun W' hk hs => Kd.C_below HC3.out (HLd.out.olds hk hs)) HC5.out (by have := HSL.out; omega) (fun z => by have := HVL.out z; omega)).mono ?_; rintro _ w6 ⟨rfl, hL6, hk6, hs6⟩; have HL6 := Lib.hid hL6; have HRW6 := Lib.hid (R5_kept HRWd.out hk6 (Sm_clear (by omega) (by decide))); have c6 := hL6.c2; clear hL6 hk6 hs6))
                    | (go_at_call 28; go_must (clear c6; refine (HL6.out.read y 1 ⟨by decide, by decide⟩ HIY.out HA2.out (by have := HRN.out; omega) (by simp)).mono ?_; rintro _ w7 ⟨v7, rfl, hL7, hR7, hk7, hs7⟩; rw [rdK_one, getE_apW _ _ _ _ _ HK5.out, HG.out] at hR7; obtain ⟨A7, c7, hv7⟩ := Kd.R_slice hR7; rw [HG40.out] at hv7; subst hv7; have HR7 := Lib.hid (Kd.R_reads' hR7); have HRW7 := Lib.hid (R5_kept HRW6.out hk7 (Sv_clear (by omega) (by omega) (by decide))); have HL7 := Lib.hid hL7; clear hL7 hR7 hk7 hs7))
                    | (go_at_call 25; go_must (refine ((fun h => by rw [HG40.out] at h; exact h) (scarpalike_Bytes.calls (G.length + 1) A7 c7 G A8 c8 G true _ HR7.out.2.2 (by have := HR7.out.2.1; have := HG40.out; omega) (Kd.R_reads' HRW7.out).2.2 (by have := (Kd.R_reads' HRW7.out).2.1; have := HG40.out; omega) (bytes_refl G (by rw [HG40.out]; decide))) : Calls Try.prog 25 #[.slice A7 40 c7, .slice A8 40 c8] _ _).mono ?_; rintro _ w8 ⟨rfl, hD8⟩; have HB8 := Lib.hid (show RowKit.Below w7.heap.size w7 w8 from by obtain ⟨⟨n8, rfl⟩⟩ := hD8; exact pw_below_drewN (Below.refl _ _) _); clear hD8)))
                  go_roundw
                  case rel => exact ⟨j + 1, HJ.out, by go_num, ⟨⟨_, _, _, HL7.out.step HB8.out, by rw [List.length_append]; have := HRN.out; simp [newR]; omega, fun z => Nat.le_trans (apW_len _ _ _ _ _ z) (by have h1 := HVL.out z; have h2 := HSL.out; omega), by rw [getE_apW _ _ _ _ _ HK5.out]; exact HG.out, Kd.R_below HRW7.out HB8.out⟩⟩⟩
                  case measure => simp [intOf]; omega
                · have d5 : decide (5 < s.f3) = false := by simpa using k5
                  have c6 := HL.out.c2
                  go_wp2_with (first
                    | (go_at_call 28; go_must (clear c6; refine (HL.out.read y 1 ⟨by decide, by decide⟩ HIY.out HA2.out (by have := HRN.out; omega) (by simp)).mono ?_; rintro _ w7 ⟨v7, rfl, hL7, hR7, hk7, hs7⟩; rw [rdK_one, HG.out] at hR7; obtain ⟨A7, c7, hv7⟩ := Kd.R_slice hR7; rw [HG40.out] at hv7; subst hv7; have HR7 := Lib.hid (Kd.R_reads' hR7); have HRW7 := Lib.hid (R5_kept HRW.out hk7 (Sv_clear (by omega) (by omega) (by decide))); have HL7 := Lib.hid hL7; clear hL7 hR7 hk7 hs7))
                    | (go_at_call 25; go_must (refine ((fun h => by rw [HG40.out] at h; exact h) (scarpalike_Bytes.calls (G.length + 1) A7 c7 G A8 c8 G true _ HR7.out.2.2 (by have := HR7.out.2.1; have := HG40.out; omega) (Kd.R_reads' HRW7.out).2.2 (by have := (Kd.R_reads' HRW7.out).2.1; have := HG40.out; omega) (bytes_refl G (by rw [HG40.out]; decide))) : Calls Try.prog 25 #[.slice A7 40 c7, .slice A8 40 c8] _ _).mono ?_; rintro _ w8 ⟨rfl, hD8⟩; have HB8 := Lib.hid (show RowKit.Below w7.heap.size w7 w8 from by obtain ⟨⟨n8, rfl⟩⟩ := hD8; exact pw_below_drewN (Below.refl _ _) _); clear hD8)))
                  go_roundw
                  case rel => exact ⟨j + 1, HJ.out, by go_num, ⟨⟨_, _, _, HL7.out.step HB8.out, by rw [List.length_append]; have := HRN.out; simp [newR]; omega, fun z => Nat.le_trans (HVL.out z) (by omega), HG.out, Kd.R_below HRW7.out HB8.out⟩⟩⟩
                  case measure => simp [intOf]; omega
              · have d3 : decide (s.f0 = 3) = false := by simpa using k3
                have c6 := HL.out.c2
                go_wp2_with (first
                  | (go_at_call 28; go_must (clear c6; refine (HL.out.read y 1 ⟨by decide, by decide⟩ HIY.out HA2.out (by have := HRN.out; omega) (by simp)).mono ?_; rintro _ w7 ⟨v7, rfl, hL7, hR7, hk7, hs7⟩; rw [rdK_one, HG.out] at hR7; obtain ⟨A7, c7, hv7⟩ := Kd.R_slice hR7; rw [HG40.out] at hv7; subst hv7; have HR7 := Lib.hid (Kd.R_reads' hR7); have HRW7 := Lib.hid (R5_kept HRW.out hk7 (Sv_clear (by omega) (by omega) (by decide))); have HL7 := Lib.hid hL7; clear hL7 hR7 hk7 hs7))
                  | (go_at_call 25; go_must (refine ((fun h => by rw [HG40.out] at h; exact h) (scarpalike_Bytes.calls (G.length + 1) A7 c7 G A8 c8 G true _ HR7.out.2.2 (by have := HR7.out.2.1; have := HG40.out; omega) (Kd.R_reads' HRW7.out).2.2 (by have := (Kd.R_reads' HRW7.out).2.1; have := HG40.out; omega) (bytes_refl G (by rw [HG40.out]; decide))) : Calls Try.prog 25 #[.slice A7 40 c7, .slice A8 40 c8] _ _).mono ?_; rintro _ w8 ⟨rfl, hD8⟩; have HB8 := Lib.hid (show RowKit.Below w7.heap.size w7 w8 from by obtain ⟨⟨n8, rfl⟩⟩ := hD8; exact pw_below_drewN (Below.refl _ _) _); clear hD8)))
                go_roundw
                case rel => exact ⟨j + 1, HJ.out, by go_num, ⟨⟨_, _, _, HL7.out.step HB8.out, by rw [List.length_append]; have := HRN.out; simp [newR]; omega, fun z => Nat.le_trans (HVL.out z) (by omega), HG.out, Kd.R_below HRW7.out HB8.out⟩⟩⟩
                case measure => simp [intOf]; omega
            · obtain rfl : j = l.length := by omega
              have b2 : ¬ ((l.length : Nat) : Int) < (l.length : Int) := by omega
              go_wp2_with (go_at_call 26; go_must (refine (awakeV_calls _).mono ?_; rintro _ w9 ⟨rfl, hB9⟩; have HB9 := Lib.hid (below_step HL.out.b hB9); clear hB9))
              try rw [Exit.noGoto_ret]
              go_ret
              exact ⟨rfl, HB9.out⟩

      · obtain rfl : k = l.length := by omega
        have b2 : ¬ ((l.length : Nat) : Int) < (l.length : Int) := by omega
        clear HVK
        have HG40 := Lib.hid (getE_len HL.out.v.ext.dat y 5)
        obtain ⟨G, hG⟩ : ∃ G, G = getE V y 5 := ⟨_, rfl⟩
        rw [← hG] at HG40
        have HG := Lib.hid hG
        clear hG
        have c4 := HL.out.c2
        go_wp2_with (go_at_call 28; go_must (clear c4; refine (HL.out.read y 1 ⟨by decide, by decide⟩ HIY.out HA1.out (by decide) (by decide)).mono ?_; rintro _ w3 ⟨v3, rfl, hL3, hR3, _, _⟩; rw [rdK_one, ← HG.out] at hR3; obtain ⟨A8, c8, hv8⟩ := Kd.R_slice hR3; rw [HG40.out] at hv8; subst hv8; have H3 := Lib.hid (show StI w w3 B y G A8 c8 0 from ⟨_, V, _, hL3, by simp [newR], fun z => Nat.le_trans (HVL.out z) (by decide), HG.out.symm, Kd.R_lower hR3 HL.out.v.fits⟩); clear hL3 hR3))
        go_loopw [10, 11, 12] (fun i _ _ wr => ∃ j : Nat, j ≤ l.length ∧ i = .int .i64 j ∧ Aside0 (StI w wr B y G A8 c8 j)) (fun i _ _ _ => l.length - (intOf i).toNat)
        case atStart => exact ⟨0, Nat.zero_le _, rfl, ⟨H3.out⟩⟩
        case round =>
          clear H3 HL HG HVL
          obtain ⟨j, hj, rfl, HO⟩ := hrel
          obtain ⟨last2, V2, R, hL, hR, hV, hG, hRW⟩ := HO.out
          have HL := Lib.hid hL
          have HRN := Lib.hid hR
          have HVL := Lib.hid hV
          have HG := Lib.hid hG
          have HRW := Lib.hid hRW
          clear HO hL hR hV hG hRW
          by_cases hlt : j < l.length
          · obtain ⟨s, ad2, A3, c3, hsl, e2, x0, x3, x4, x5, x6⟩ := step65 HR.out j hlt HL.out.b
            have HSL := Lib.hid (HLL.out s hsl)
            have HC3 := Lib.hid x6
            have HC5 := Lib.hid x5
            have HJ := Lib.hid hlt
            first | subst e2 | (injection e2 with e2; subst e2)
            clear hsl x5 x6
            have b1 : (0 : Int) ≤ (j : Int) := by omega
            have b2 : (j : Int) < (l.length : Int) := by omega
            have hj120 : j < 120 := by omega
            by_cases k3 : s.f0 = 3
            · have d3 : decide (s.f0 = 3) = true := by simpa using k3
              by_cases k5 : 5 < s.f3
              · have d5 : decide (5 < s.f3) = true := by simpa using k5
                have HK5 := Lib.hid k5
                have z0 := HL.out.c0
                go_wp2
                go_still_tail 15, (by kernel_rfl)
                change wpList _ _ _ _ _ wr.drew
                have HLd := Lib.hid (HL.out.step (below_drew1 (Below.refl _ _)))
                have HRWd := Lib.hid (Kd.R_below HRW.out (below_drew1 (Below.refl _ _)))
                clear HL HRW z0 x0 x3 x4
                generalize wr.drew = w5 at *
                go_wp2_with (first
                  | (go_at_call 30; go_must (refine (HLd.out.apply s.f3 A3 c3 s.f2 (fun W' hk hs => Kd.C_below HC3.out (HLd.out.olds hk hs)) HC5.out (by have := HSL.out; omega) (fun z => by have := HVL.out z; omega)).mono ?_; rintro _ w6 ⟨rfl, hL6, hk6, hs6⟩; have HL6 := Lib.hid hL6; have HRW6 := Lib.hid (R5_kept HRWd.out hk6 (Sm_clear (by omega) (by decide))); have c6 := hL6.c2; clear hL6 hk6 hs6))
                  | (go_at_call 28; go_must (clear c6; refine (HL6.out.read y 1 ⟨by decide, by decide⟩ HIY.out HA2.out (by have := HRN.out; omega) (by simp)).mono ?_; rintro _ w7 ⟨v7, rfl, hL7, hR7, hk7, hs7⟩; rw [rdK_one, getE_apW _ _ _ _ _ HK5.out, HG.out] at hR7; obtain ⟨A7, c7, hv7⟩ := Kd.R_slice hR7; rw [HG40.out] at hv7; subst hv7; have HR7 := Lib.hid (Kd.R_reads' hR7); have HRW7 := Lib.hid (R5_kept HRW6.out hk7 (Sv_clear (by omega) (by omega) (by decide))); have HL7 := Lib.hid hL7; clear hL7 hR7 hk7 hs7))
                  | (go_at_call 25; go_must (refine ((fun h => by rw [HG40.out] at h; exact h) (scarpalike_Bytes.calls (G.length + 1) A7 c7 G A8 c8 G true _ HR7.out.2.2 (by have := HR7.out.2.1; have := HG40.out; omega) (Kd.R_reads' HRW7.out).2.2 (by have := (Kd.R_reads' HRW7.out).2.1; have := HG40.out; omega) (bytes_refl G (by rw [HG40.out]; decide))) : Calls Try.prog 25 #[.slice A7 40 c7, .slice A8 40 c8] _ _).mono ?_; rintro _ w8 ⟨rfl, hD8⟩; have HB8 := Lib.hid (show RowKit.Below w7.heap.size w7 w8 from by obtain ⟨⟨n8, rfl⟩⟩ := hD8; exact pw_below_drewN (Below.refl _ _) _); clear hD8)))
                go_roundw
                case rel => exact ⟨j + 1, HJ.out, by go_num, ⟨⟨_, _, _, HL7.out.step HB8.out, by rw [List.length_append]; have := HRN.out; simp [newR]; omega, fun z => Nat.le_trans (apW_len _ _ _ _ _ z) (by have h1 := HVL.out z; have h2 := HSL.out; omega), by rw [getE_apW _ _ _ _ _ HK5.out]; exact HG.out, Kd.R_below HRW7.out HB8.out⟩⟩⟩
                case measure => simp [intOf]; omega
              · have d5 : decide (5 < s.f3) = false := by simpa using k5
                have c6 := HL.out.c2
                go_wp2_with (first
                  | (go_at_call 28; go_must (clear c6; refine (HL.out.read y 1 ⟨by decide, by decide⟩ HIY.out HA2.out (by have := HRN.out; omega) (by simp)).mono ?_; rintro _ w7 ⟨v7, rfl, hL7, hR7, hk7, hs7⟩; rw [rdK_one, HG.out] at hR7; obtain ⟨A7, c7, hv7⟩ := Kd.R_slice hR7; rw [HG40.out] at hv7; subst hv7; have HR7 := Lib.hid (Kd.R_reads' hR7); have HRW7 := Lib.hid (R5_kept HRW.out hk7 (Sv_clear (by omega) (by omega) (by decide))); have HL7 := Lib.hid hL7; clear hL7 hR7 hk7 hs7))
                  | (go_at_call 25; go_must (refine ((fun h => by rw [HG40.out] at h; exact h) (scarpalike_Bytes.calls (G.length + 1) A7 c7 G A8 c8 G true _ HR7.out.2.2 (by have := HR7.out.2.1; have := HG40.out; omega) (Kd.R_reads' HRW7.out).2.2 (by have := (Kd.R_reads' HRW7.out).2.1; have := HG40.out; omega) (bytes_refl G (by rw [HG40.out]; decide))) : Calls Try.prog 25 #[.slice A7 40 c7, .slice A8 40 c8] _ _).mono ?_; rintro _ w8 ⟨rfl, hD8⟩; have HB8 := Lib.hid (show RowKit.Below w7.heap.size w7 w8 from by obtain ⟨⟨n8, rfl⟩⟩ := hD8; exact pw_below_drewN (Below.refl _ _) _); clear hD8)))
                go_roundw
                case rel => exact ⟨j + 1, HJ.out, by go_num, ⟨⟨_, _, _, HL7.out.step HB8.out, by rw [List.length_append]; have := HRN.out; simp [newR]; omega, fun z => Nat.le_trans (HVL.out z) (by omega), HG.out, Kd.R_below HRW7.out HB8.out⟩⟩⟩
                case measure => simp [intOf]; omega
            · have d3 : decide (s.f0 = 3) = false := by simpa using k3
              have c6 := HL.out.c2
              go_wp2_with (first
                | (go_at_call 28; go_must (clear c6; refine (HL.out.read y 1 ⟨by decide, by decide⟩ HIY.out HA2.out (by have := HRN.out; omega) (by simp)).mono ?_; rintro _ w7 ⟨v7, rfl, hL7, hR7, hk7, hs7⟩; rw [rdK_one, HG.out] at hR7; obtain ⟨A7, c7, hv7⟩ := Kd.R_slice hR7; rw [HG40.out] at hv7; subst hv7; have HR7 := Lib.hid (Kd.R_reads' hR7); have HRW7 := Lib.hid (R5_kept HRW.out hk7 (Sv_clear (by omega) (by omega) (by decide))); have HL7 := Lib.hid hL7; clear hL7 hR7 hk7 hs7))
                | (go_at_call 25; go_must (refine ((fun h => by rw [HG40.out] at h; exact h) (scarpalike_Bytes.calls (G.length + 1) A7 c7 G A8 c8 G true _ HR7.out.2.2 (by have := HR7.out.2.1; have := HG40.out; omega) (Kd.R_reads' HRW7.out).2.2 (by have := (Kd.R_reads' HRW7.out).2.1; have := HG40.out; omega) (bytes_refl G (by rw [HG40.out]; decide))) : Calls Try.prog 25 #[.slice A7 40 c7, .slice A8 40 c8] _ _).mono ?_; rintro _ w8 ⟨rfl, hD8⟩; have HB8 := Lib.hid (show RowKit.Below w7.heap.size w7 w8 from by obtain ⟨⟨n8, rfl⟩⟩ := hD8; exact pw_below_drewN (Below.refl _ _) _); clear hD8)))
              go_roundw
              case rel => exact ⟨j + 1, HJ.out, by go_num, ⟨⟨_, _, _, HL7.out.step HB8.out, by rw [List.length_append]; have := HRN.out; simp [newR]; omega, fun z => Nat.le_trans (HVL.out z) (by omega), HG.out, Kd.R_below HRW7.out HB8.out⟩⟩⟩
              case measure => simp [intOf]; omega
          · obtain rfl : j = l.length := by omega
            have b2 : ¬ ((l.length : Nat) : Int) < (l.length : Int) := by omega
            go_wp2_with (go_at_call 26; go_must (refine (awakeV_calls _).mono ?_; rintro _ w9 ⟨rfl, hB9⟩; have HB9 := Lib.hid (below_step HL.out.b hB9); clear hB9))
            try rw [Exit.noGoto_ret]
            go_ret
            exact ⟨rfl, HB9.out⟩

end Go.Proofs.Ytbebihphodafiaa.Iv

namespace Go.Proofs.Ytbebihphodafiaa.Iv
open Go.RowKit Go.Proofs.YtbebihphodafiaaW.PrintWords Go.Proofs.YtbebihphodafiaaW.PrintLast Go.Proofs.YtbebihphodafiaaW.PrintMore Go.Proofs.Ytbebihphodafiaa.PWb Go.Maps
set_option linter.unusedVariables false
set_option linter.unusedSimpArgs false

theorem rd77_at (l : List S77) (j : Nat) (h : j < l.length) : rd_T77 l (j : Int) = l[j] := by
  simp [rd_T77, List.getD_eq_getElem?_getD, List.getElem?_eq_getElem h]
set_option maxHeartbeats 8000000 in
set_option maxRecDepth 100000 in
theorem readsV_calls (fr vb em mb sb : Nat) (at_ : Int) (R : List S77) (w : World) (h : IsView w fr vb em mb sb at_ (fun _ => True) R) (hR : R.length ≤ 100000000) (hd : ∀ p ∈ R, p.f1.length = 40) :
    Calls Try.prog 33 #[.pointer (some ⟨vb, 0, none⟩)] w fun e w' => ∃ v, e = .returned v ∧ RowKit.Below w.heap.size w w' ∧ Kd.R k77 77 w' w.heap.size (fun _ => True) v R := by
  obtain ⟨A, c, y4, hR4⟩ := h.c4
  obtain ⟨hc4, hC4⟩ := (Kd.R_reads' hR4).2
  have HC := Lib.hid (fun w' (hb : RowKit.Below w.heap.size w w') => Kd.C_below hC4 hb)
  have HD := Lib.hid hd
  have hRl := hR
  clear h hR4 hC4 hd
  go_enter Try.func33, Try.ntmps33
  go_wp2
  clear y4
  go_loopw [2, 4, 12] (fun v _ i wr => ∃ k : Nat, k ≤ R.length ∧ i = .int .i64 k ∧ Aside0 (RowKit.Below w.heap.size w wr ∧ Kd.R k77 77 wr w.heap.size (fun _ => True) v (R.take k))) (fun _ _ i _ => R.length - (intOf i).toNat)
  case atStart => exact ⟨0, Nat.zero_le _, rfl, ⟨Below.refl _ _, Kd.R_nil _ _ _ _ _⟩⟩
  case round =>
    obtain ⟨k, hk, rfl, HO⟩ := hrel
    obtain ⟨A2, c2, hv2⟩ := Kd.R_slice HO.out.2
    subst hv2
    have HR := Lib.hid HO.out.2
    have HB := Lib.hid HO.out.1
    clear HO
    by_cases hkl : k < R.length
    · obtain ⟨ad, A1, c1, e1, x0, x1, x2, x3, x4⟩ := at_T77 (HC.out _ HB.out) (k : Int) (by omega) (by omega)
      rw [rd77_at R k hkl] at x0 x1 x2 x3 x4
      simp only [Int.toNat_natCast] at x0 x1 x2
      have HT := Lib.hid (List.take_succ_eq_append_getElem hkl)
      have H40 := Lib.hid (HD.out R[k] (List.getElem_mem hkl))
      have HTL := Lib.hid (show (R.take k).length + 1 ≤ 100000001 by rw [List.length_take]; omega)
      obtain ⟨q, hq⟩ : ∃ q, q = R[k] := ⟨_, rfl⟩
      rw [← hq] at x0 x1 x2 x3 x4 HT H40
      obtain ⟨X, hX⟩ : ∃ X, X = R.take k := ⟨_, rfl⟩
      rw [← hX] at HT HTL HR ⊢
      subst e1
      have HX4 := Lib.hid x4
      have HKL := Lib.hid hkl
      clear hq hX x3 x4
      have b1 : (0 : Int) ≤ (k : Int) := by omega
      have b2 : (k : Int) < (R.length : Int) := by omega
      have hb5 := below_alloc (Below.refl wr.heap.size wr) (.cells #[.int .i64 q.f0, .slice A1 q.f1.length c1, .bool q.f2] 77)
      have z0 : (wr.alloc (.cells #[.int .i64 q.f0, .slice A1 q.f1.length c1, .bool q.f2] 77)).cell? ⟨wr.heap.size, 0, none⟩ = some (.int .i64 q.f0) := World.cell?_alloc_at _ _ _ _ rfl
      have z1 : (wr.alloc (.cells #[.int .i64 q.f0, .slice A1 q.f1.length c1, .bool q.f2] 77)).cell? ⟨wr.heap.size, 1, none⟩ = some (.slice A1 q.f1.length c1) := World.cell?_alloc_at _ _ _ _ rfl
      have z2 : (wr.alloc (.cells #[.int .i64 q.f0, .slice A1 q.f1.length c1, .bool q.f2] 77)).cell? ⟨wr.heap.size, 2, none⟩ = some (.bool q.f2) := World.cell?_alloc_at _ _ _ _ rfl
      have z3 : (wr.alloc (.cells #[.int .i64 q.f0, .slice A1 q.f1.length c1, .bool q.f2] 77)).frozen? ⟨wr.heap.size, 1, none⟩ = false := World.frozen?_alloc_at _ _ _ _ rfl
      have HX5 := Lib.hid (Kd.C_below HX4.out hb5)
      have HB5 := Lib.hid (below_step HB.out hb5)
      have HR5 := Lib.hid (Kd.R_below (Kd.R_bound HR.out) hb5)
      have HB5r := Lib.hid hb5
      have HLT5 := Lib.hid (show wr.heap.size < (wr.alloc (.cells #[.int .i64 q.f0, .slice A1 q.f1.length c1, .bool q.f2] 77)).heap.size by simp)
      clear hb5
      go_wp2_with (first
        | (go_at_call 49; go_must (refine (cloneB_calls A1 c1 q.f1 _ HX5.out (by have := H40.out; omega)).mono ?_; rintro _ w6 ⟨v6, rfl, hB6, hR6⟩; have s0 := pw_cell_below hB6 z0; have s1 := pw_cell_below hB6 z1; have s2 := pw_cell_below hB6 z2; have s3 := (hB6.frozen (p := ⟨wr.heap.size, 1, none⟩) HLT5.out).trans z3; have HB6 := Lib.hid (below_step HB5.out hB6); have hR6' := Kd.R_mono (Kd.R_bound hR6) (ok' := fun k => (True ∧ some k ≠ (Value.slice A2 X.length c2).ownBlock) ∧ k ≠ wr.heap.size) (fun j hj => ⟨⟨trivial, fun e => by have h1 := Kd.R_lt HR.out j e.symm; have h2 := hj.2.1; have h3 := HLT5.out; omega⟩, by have h2 := hj.2.1; have h3 := HLT5.out; omega⟩); have HR6 := Lib.hid (Kd.R_below HR5.out hB6); have HGE := Lib.hid (show w.heap.size ≤ wr.heap.size from HB.out.size); obtain ⟨A6, c6, hv6⟩ := Kd.R_slice hR6; subst hv6; have HO7 := Lib.hid (Kd.R_lower (Kd.R_mono (Kd.R_grown hR6' (grown_set (W := w6) (g := wr.heap.size) (j := 1) (u := .slice A6 q.f1.length c6)) (fun k hk e => by injection e with e; exact hk.2 e)) (fun _ hk => hk.1)) (Nat.le_trans HGE.out (Nat.le_of_lt HLT5.out))); have HR7 := Lib.hid (Kd.R_mono (ok' := fun _ => True) (Kd.R_grown HR6.out (grown_set (W := w6) (g := wr.heap.size) (j := 1) (u := .slice A6 q.f1.length c6)) (fun k hk e => by injection e with e; have h1 := hk.2.2.1; omega)) (fun _ _ => trivial)); have HB7 := Lib.hid (HB6.out.setCell (p := ⟨wr.heap.size, 1, none⟩) HGE.out (.slice A6 q.f1.length c6)); clear hB6 hR6 hR6' z0 z1 z2 z3 x0 x1 x2))
        | ((with_reducible refine gate_builtin (b := .append) (xs := #[.tmp 20, .tmp 22]) rfl ?_); at_builtin; go_must (refine app_read (W := w6.setCell ⟨wr.heap.size, 1, none⟩ (.slice A6 q.f1.length c6)) w.heap.size (fun _ => True) rfl (.tmp 20) (.tmp 22) rfl (.slice A2 X.length c2) X q (.slice A6 q.f1.length c6) rfl (by rw [show (w6.setCell ⟨wr.heap.size, 1, none⟩ (.slice A6 q.f1.length c6)).heap.size = w6.heap.size by simp]; rfl) HO7.out HR7.out HB7.out.size (fun _ _ => trivial) (by have := HTL.out; omega) ?_; intro v8 w8 hR8 hg8; have HB8 := Lib.hid (Below.grown HB7.out hg8 HB7.out.size (fun k hk => Kd.R_base HR7.out k hk)); have HR8 := Lib.hid hR8; clear hR8 hg8)))
      go_roundw
      case rel => exact ⟨k + 1, HKL.out, by go_num, ⟨HB8.out, by rw [HT.out]; exact HR8.out⟩⟩
      case measure => simp [intOf]; omega
    · obtain rfl : k = R.length := by omega
      have b2 : ¬ ((R.length : Nat) : Int) < (R.length : Int) := by omega
      have HF := Lib.hid (show R.take R.length = R from List.take_length)
      rw [HF.out] at HR
      go_wp2
      try rw [Exit.noGoto_ret]
      go_ret
      exact ⟨_, rfl, HB.out, HR.out⟩
end Go.Proofs.Ytbebihphodafiaa.Iv

namespace Go.Proofs.Ytbebihphodafiaa.Iv
open Go.RowKit Go.Proofs.YtbebihphodafiaaW.PrintWords Go.Proofs.YtbebihphodafiaaW.PrintLast Go.Proofs.YtbebihphodafiaaW.PrintMore Go.Proofs.Ytbebihphodafiaa.PWb Go.Maps
set_option linter.unusedVariables false
set_option linter.unusedSimpArgs false

noncomputable def V1 (y : Int) : Int → List S31 := apV (fun _ => []) 3 [⟨y, dat 50⟩, ⟨y + 1, dat 51⟩]
theorem V1_at0 (y : Int) : getE (V1 y) y 5 = dat 50 := by
  have h : ¬ y = y + 1 := by omega
  simp [V1, apV, updV, getE, verAt, h]
theorem V1_at1 (y : Int) : getE (V1 y) (y + 1) 5 = dat 51 := by
  have h : ¬ y + 1 = y := by omega
  simp [V1, apV, updV, getE, verAt, h]
theorem V1_ap (y : Int) (h0 : 0 ≤ y) (h1 : y < 19) : apC 20 0 3 [⟨y, dat 50⟩, ⟨y + 1, dat 51⟩] = 0 := by
  have hr : riseB [(⟨y, dat 50⟩ : S31), ⟨y + 1, dat 51⟩] = true := by
    have : Rise [(⟨y, dat 50⟩ : S31), ⟨y + 1, dat 51⟩] := List.pairwise_cons.2 ⟨fun p hp => by simp at hp; subst hp; simp only; omega, List.pairwise_singleton _ _⟩
    simp [riseB, this]
  have ho : [(⟨y, dat 50⟩ : S31), ⟨y + 1, dat 51⟩].any (outB 20) = false := by
    simp [outB]; omega
  have hl : [(⟨y, dat 50⟩ : S31), ⟨y + 1, dat 51⟩].any lenB = false := by
    simp [lenB, dat_len]
  unfold apC
  rw [if_neg (by omega), if_neg (by rw [hr]; decide), if_neg (by rw [ho]; decide), if_neg (by rw [hl]; decide)]
theorem own_wr (y : Int) (d : List Int) (h0 : 0 ≤ y) (h1 : y < 19) (hd : d.length = 40) (M : List S31) (hM : M = [] ∨ ∃ d0, M = [⟨y, d0⟩]) : wrC 20 16 M [⟨y, d⟩] = 0 ∧ wrM 20 16 M [⟨y, d⟩] = [⟨y, d⟩] := by
  have e1 : ¬ y < 0 := by omega
  have e2 : ¬ (20 : Int) ≤ y := by omega
  have hc : wrC 20 16 M [⟨y, d⟩] = 0 := by
    rcases hM with rfl | ⟨d0, rfl⟩ <;> simp [wrC, outB, lenB, dupB, hd, freshN, hasM, e1, e2]
  refine ⟨hc, ?_⟩
  unfold wrM
  rw [hc, if_pos rfl]
  rcases hM with rfl | ⟨d0, rfl⟩ <;> simp [insL, ins]
theorem own_rd (y : Int) (d : List Int) : rdK (V1 y) [⟨y, d⟩] y 5 2 = d ++ dat 51 := by
  have h : ¬ y = y + 1 := by omega
  have h1 := V1_at1 y
  simp [rdK, List.range_succ, rdB, hasM, lookM, h, h1]
theorem own_rd0 (y : Int) : rdK (V1 y) [] y 5 2 = dat 50 ++ dat 51 := by
  have h0 := V1_at0 y
  have h1 := V1_at1 y
  simp [rdK, List.range_succ, rdB, hasM, h0, h1]
theorem own_new (y : Int) (d : List Int) : newR (V1 y) [⟨y, d⟩] y 5 2 = [⟨y, d, true⟩, ⟨y + 1, dat 51, false⟩] := by
  have h : ¬ y = y + 1 := by omega
  have h1 := V1_at1 y
  simp [newR, List.range_succ, rdB, hasM, lookM, h, h1]
theorem own_new0 (y : Int) : newR (V1 y) [] y 5 2 = [⟨y, dat 50, false⟩, ⟨y + 1, dat 51, false⟩] := by
  have h0 := V1_at0 y
  have h1 := V1_at1 y
  simp [newR, List.range_succ, rdB, hasM, h0, h1]
theorem own_add (y : Int) (h0 : 0 ≤ y) (h1 : y < 19) (L : List S60) (hL : L = [] ∨ L = [⟨y, 2⟩]) : addS 64 L [⟨y, ((2 : Nat) : Int)⟩] = (0, [⟨y, 2⟩]) := by
  have h4 : mayB ⟨y, ((2 : Nat) : Int)⟩ = true := by simp [mayB]; omega
  have h5 : nrm (L ++ [⟨y, ((2 : Nat) : Int)⟩]) = [(⟨y, 2⟩ : S60)] := by
    refine nrm_of _ _ ?_ ⟨List.pairwise_singleton _ _, by simp⟩ (fun z => ?_)
    · rcases hL with rfl | rfl <;> simp
    · rcases hL with rfl | rfl
      · exact Iff.rfl
      · rw [cov_append]; exact ⟨.inl, fun h => h.elim id id⟩
  unfold addS
  rw [if_pos (by simpa using h4), if_neg (by simp), h5]
  rfl
theorem data40 (x : Int) (W : World) : Calls Try.prog 15 #[.int .i64 x] W fun e w' => ∃ A c, e = .returned (.slice A 40 c) ∧ 40 ≤ c ∧ Kd.C kb w' A (dat x).length (dat x) ∧ RowKit.Below W.heap.size W w' ∧ Kd.R kb 5 w' W.heap.size (fun _ => True) (.slice A 40 c) (dat x) := by
  refine (data_calls x W).mono ?_
  rintro _ w' ⟨v, rfl, hR, hB⟩
  obtain ⟨A, c, hv⟩ := Kd.R_slice hR
  rw [dat_len] at hv
  subst hv
  obtain ⟨_, h2, h3⟩ := Kd.R_reads' hR
  exact ⟨A, c, rfl, h2, h3, hB, hR⟩
theorem bytes_same (A A' : Option Addr) (c c' : Nat) (d : List Int) (hd : d.length = 40) (W : World) (h1 : Kd.C kb W A d.length d) (l1 : 40 ≤ c) (h2 : Kd.C kb W A' d.length d) (l2 : 40 ≤ c') :
    Calls Try.prog 25 #[.slice A 40 c, .slice A' 40 c'] W fun e w' => e = .returned (.bool true) ∧ RowKit.Below W.heap.size W w' := by
  have h := scarpalike_Bytes.calls (d.length + 1) A c d A' c' d true W h1 (by omega) h2 (by omega) (bytes_refl d (by rw [hd]; decide))
  rw [hd] at h
  exact h.mono fun e w' ⟨h1, h2⟩ => ⟨h1, by obtain ⟨⟨n, rfl⟩⟩ := h2; exact pw_below_drewN (Below.refl _ _) _⟩
theorem halves {W : World} {base : Nat} {v : Value} {X Y : List Int} (h : Kd.R kb 5 W base (fun _ => True) v (X ++ Y)) (hx : X.length = 40) (hy : Y.length = 40) :
    ∃ g cap, v = .slice (some ⟨g, 0, none⟩) 80 cap ∧ 80 ≤ cap ∧ (∀ W' : World, (Instr.slice 28 (.slice (some ⟨g, 0, none⟩) 80 cap) none (some (.int .i64 40)) none).run Try.prog W' = .ok (.slice (some ⟨g, 0, none⟩) 40 cap) W') ∧
      (∀ W' : World, (Instr.slice 28 (.slice (some ⟨g, 0, none⟩) 80 cap) (some (.int .i64 40)) none none).run Try.prog W' = .ok (.slice (some ⟨g, 40, none⟩) 40 (cap - 40)) W') ∧ Kd.C kb W (some ⟨g, 0, none⟩) X.length X ∧ Kd.C kb W (some ⟨g, 40, none⟩) Y.length Y := by
  have hlen : (X ++ Y).length = 80 := by rw [List.length_append, hx, hy]
  obtain ⟨g, cap, hv, _, _, _⟩ := Kd.R_form h (by rw [hlen]; decide)
  rw [hlen] at hv
  subst hv
  obtain ⟨_, q2, q3⟩ := Kd.R_reads' h
  obtain ⟨i, hi1, hi2⟩ := Option.map_eq_some_iff.1 info5
  have hc0 := Kd.C_take (m := 40) q3 (by rw [hlen]; decide)
  rw [show (X ++ Y).take 40 = X by rw [List.take_append_of_le_length (by omega), List.take_of_length_le (by omega)]] at hc0
  have hc1 := Kd.C_drop (m := 40) (c := cap) q3 (by rw [hlen]; decide) (by rw [hlen]; exact q2)
  have hdr : (X ++ Y).drop 40 = Y := by rw [List.drop_append_of_le_length (by omega), List.drop_of_length_le (by omega), List.nil_append]
  have hne : ¬ cap = 40 := by omega
  rw [hdr, if_neg hne] at hc1
  refine ⟨g, cap, rfl, q2, cut_to (P := Try.prog) 28 5 .i64 Try.underlying28 hi1 (some ⟨g, 0, none⟩) 80 cap 40 (by decide) (by decide) q2, cut_b40 g cap q2, hc0, by simpa [add_plain, kb, show (Kd.int IntKind.u8).sz = 1 from rfl] using hc1⟩
/-- Two rows of bytes, made in either order, and the world. -/
structure DP (w W : World) (B : Nat) (a b : Option Value) : Prop where
  l : Live w W B 20 0 5 (fun _ => []) [] [] []
  a : ∀ v, a = some v → Kd.R kb 5 W (B + 10) (fun _ => True) v (dat 50)
  b : ∀ v, b = some v → Kd.R kb 5 W (B + 10) (fun _ => True) v (dat 51)
theorem DP.step {w W W' : World} {B : Nat} {a b : Option Value} (h : DP w W B a b) (hb : RowKit.Below W.heap.size W W') : DP w W' B a b :=
  ⟨h.l.step hb, fun v hv => Kd.R_below (h.a v hv) hb, fun v hv => Kd.R_below (h.b v hv) hb⟩
theorem DP.s50 {w W W' : World} {B : Nat} {a b : Option Value} {v : Value} (h : DP w W B a b) (hb : RowKit.Below W.heap.size W W') (hR : Kd.R kb 5 W' W.heap.size (fun _ => True) v (dat 50)) : DP w W' B (some v) b :=
  ⟨h.l.step hb, fun u hu => by injection hu with hu; subst hu; exact Kd.R_lower hR h.l.v.fits, fun v hv => Kd.R_below (h.b v hv) hb⟩
theorem DP.s51 {w W W' : World} {B : Nat} {a b : Option Value} {v : Value} (h : DP w W B a b) (hb : RowKit.Below W.heap.size W W') (hR : Kd.R kb 5 W' W.heap.size (fun _ => True) v (dat 51)) : DP w W' B a (some v) :=
  ⟨h.l.step hb, fun v hv => Kd.R_below (h.a v hv) hb, fun u hu => by injection hu with hu; subst hu; exact Kd.R_lower hR h.l.v.fits⟩
theorem DP.apply2 {w W : World} {B : Nat} {A5 A6 : Option Addr} {c5 c6 : Nat} (h : DP w W B (some (.slice A5 40 c5)) (some (.slice A6 40 c6))) (y : Int) (h0 : 0 ≤ y) (h1 : y < 19) :
    Calls Try.prog 30 #[.pointer (some ⟨B + 1, 0, none⟩), .agg #[.int .i64 3, .slice (some ⟨W.heap.size, 0, none⟩) 2 2]] (W.alloc (.cells #[.int .i64 y, .slice A5 40 c5, .int .i64 (y + 1), .slice A6 40 c6] 31)) fun r w' => r = .returned (.int .i64 0) ∧ Live w w' B 20 3 5 (V1 y) [] [] [] := by
  obtain ⟨W1, hW1⟩ : ∃ W1, W1 = W.alloc (.cells #[.int .i64 y, .slice A5 40 c5, .int .i64 (y + 1), .slice A6 40 c6] 31) := ⟨_, rfl⟩
  have hb : RowKit.Below W.heap.size W W1 := by rw [hW1]; exact below_alloc (Below.refl _ _) _
  have hg : W1.heap[W.heap.size]? = some (.cells #[.int .i64 y, .slice A5 40 c5, .int .i64 (y + 1), .slice A6 40 c6] 31 (0, 0)) := by rw [hW1]; unfold World.alloc; simp
  rw [← hW1]
  have hd := h.step hb
  have hf := h.l.v.fits
  have hz := V1_ap y h0 h1
  refine (hd.l.apply 3 (some ⟨W.heap.size, 0, none⟩) 2 [⟨y, dat 50⟩, ⟨y + 1, dat 51⟩] (fun W' hk hs => ?_) (Nat.le_refl 2) (by simp) (fun z => by simp)).mono ?_
  · have hgW : W'.heap[W.heap.size]? = some (.cells #[.int .i64 y, .slice A5 40 c5, .int .i64 (y + 1), .slice A6 40 c6] 31 (0, 0)) := (hk.2 _ (lt_of_some hg) (by
      rintro (e | e | ⟨_, cs, hc⟩)
      · omega
      · omega
      · rw [hg] at hc; injection hc with hc; injection hc with _ hc; exact absurd hc (by decide))).trans hg
    have hcell : ∀ j, W'.cell? ⟨W.heap.size, j, none⟩ = (#[.int .i64 y, .slice A5 40 c5, .int .i64 (y + 1), .slice A6 40 c6] : Array Value)[j]? := fun j => cell_of_row W' W.heap.size j _ 31 (0, 0) hgW
    have r5 := Kd.R_reads' (R5_kept (hd.a _ rfl) hk (Sm_clear (by omega) (by decide)))
    have r6 := Kd.R_reads' (R5_kept (hd.b _ rfl) hk (Sm_clear (by omega) (by decide)))
    refine C31_cells W' W.heap.size [⟨y, dat 50⟩, ⟨y + 1, dat 51⟩] (by simp) (fun j hj => ?_)
    match j, hj with
    | 0, _ => exact ⟨A5, c5, by rw [hcell]; rfl, by rw [hcell]; simp [dat_len], by simp only [List.getElem_cons_zero, dat_len]; exact r5.2.1, r5.2.2⟩
    | 1, _ => exact ⟨A6, c6, by rw [hcell]; rfl, by rw [hcell]; simp [dat_len], by simp only [List.getElem_cons_succ, List.getElem_cons_zero, dat_len]; exact r6.2.1, r6.2.2⟩
  · rintro _ w' ⟨rfl, hL, _, _⟩
    rw [hz]
    refine ⟨rfl, ?_⟩
    unfold apL apW at hL
    rw [if_pos hz, if_pos hz] at hL
    exact hL
end Go.Proofs.Ytbebihphodafiaa.Iv
