/- The walk of the sort of extents by their first block. -/
import Derived.Test.YtpoiicfpldbgeaaProg
import Derived.Below
import Derived.Deep.Draws
import Derived.Deep.AppendLies
import Derived.Maps.AppendAt
import Derived.OwnWalk
import Derived.Laws.BytesArg
import Derived.Laws.MakeOwn
import Derived.Laws.OwnMore
import Derived.Deep.OwnRows
import Derived.Tactics
import Derived.Lib.ConvBytes
import Derived.Laws.Slices
import Derived.WalkKit
import Derived.KernelRfl
import Derived.RowKit3
import Derived.Deep.LoopGhost
import Derived.Deep.QuietTactic
import Derived.BigQuiet
import Derived.WideLaws
import Derived.Deep.DeepCutAuto
import Derived.Deep.CutBlock
import Derived.Deep.RegionHeld3
import Derived.Laws.Rows
import Derived.Lib.AppendStr
import Derived.ArgAppend
import Derived.Laws.IdiomCopy
import Derived.OrdersHeld
import Derived.Laws.BitsLemmas
import Derived.RowKit
import Derived.Test.YtpoiicfpldbgeaaWWords
import Derived.Test.YtpoiicfpldbgeaaWLast
import Derived.Test.YtpoiicfpldbgeaaWTab
import Derived.Test.YtpoiicfpldbgeaaWFour
import Derived.Test.YtpoiicfpldbgeaaWQPut
import Derived.Test.YtpoiicfpldbgeaaWApart
import Derived.Test.YtpoiicfpldbgeaaWArr
import Derived.Test.YtpoiicfpldbgeaaWZeros
import Derived.Test.YtpoiicfpldbgeaaWFoot
import Derived.Test.YtpoiicfpldbgeaaWKept
import Derived.Test.YtpoiicfpldbgeaaWShare
import Derived.Test.YtpoiicfpldbgeaaWN
import Derived.Test.YtpoiicfpldbgeaaWFootNe
import Derived.Test.YtpoiicfpldbgeaaWAt
import Derived.Test.YtpoiicfpldbgeaaWEqStruct
import Derived.Test.YtpoiicfpldbgeaaWRepsOne
import Derived.Test.YtpoiicfpldbgeaaWInv
import Derived.Test.YtpoiicfpldbgeaaWInvWords
import Derived.Test.YtpoiicfpldbgeaaWGuard
import Derived.Test.YtpoiicfpldbgeaaWNEv
import Derived.Test.YtpoiicfpldbgeaaWMore
import Derived.Outline
import Derived.Lib.Hide
import Derived.Deep.DeepMust
import Derived.Test.YtpoiicfpldbgeaaIvC
import Derived.Test.YtpoiicfpldbgeaaIvS
import Derived.Test.YtpoiicfpldbgeaaIvP
namespace Go.Proofs.Ytpoiicfpldbgeaa.Iv
open Go.RowKit Go.Proofs.YtpoiicfpldbgeaaW.PrintWords Go.Proofs.YtpoiicfpldbgeaaW.PrintLast Go.Proofs.YtpoiicfpldbgeaaW.PrintMore Go.Proofs.Ytpoiicfpldbgeaa.PIv Go.Shelf Go.Lib Go.Sort
set_option linter.unusedVariables false
set_option linter.unusedSimpArgs false

instance inh28 : Inhabited S28 := ⟨z28⟩
def enc28 (x : S28) : List Value := [.int .i64 x.f0, .int .i64 x.f1]
def cmp28 (x y : S28) : Int := Lib.compareInt x.f0 y.f0
theorem lt28 (x y : S28) : ltOf cmp28 x y = decide (x.f0 < y.f0) := by
  unfold ltOf cmp28 Lib.compareInt
  by_cases h1 : x.f0 < y.f0
  · simp [h1]
  · by_cases h2 : y.f0 < x.f0 <;> simp [h1, h2]
theorem swo28 : SWO (ltOf cmp28) where
  irrefl x := by rw [lt28]; simp
  trans x y z h1 h2 := by rw [lt28] at *; simp at *; omega
  ntrans x y z h1 h2 := by rw [lt28] at *; simp at *; omega
theorem isNaN_calls (x : Int) (w : World) : Calls Try.prog 39 #[.int .i64 x] w fun e w' => e = .returned (.bool false) ∧ w' = w := by
  go_enter Try.func39, Try.ntmps39
  go_wp2
  go_ret
  exact ⟨by simp, rfl⟩
set_option maxHeartbeats 1000000 in
theorem compare_calls (x y : Int) (w : World) : Calls Try.prog 34 #[.int .i64 x, .int .i64 y] w fun e w' => e = .returned (.int .i64 (Lib.compareInt x y)) ∧ w' = w := by
  by_cases h1 : x < y
  · have hr : Lib.compareInt x y = -1 := by simp [Lib.compareInt, h1]
    have d1 : decide (x < y) = true := by simpa using h1
    rw [hr]
    go_enter Try.func34, Try.ntmps34
    go_wp2_with (go_at_call 39; refine (isNaN_calls _ _).mono ?_; rintro e w' ⟨rfl, rfl⟩)
    go_ret
    exact ⟨rfl, rfl⟩
  · by_cases h2 : y < x
    · have hr : Lib.compareInt x y = 1 := by simp [Lib.compareInt, h1, h2]
      have d1 : decide (x < y) = false := by simpa using h1
      have d2 : decide (y < x) = true := by simpa using h2
      rw [hr]
      go_enter Try.func34, Try.ntmps34
      go_wp2_with (go_at_call 39; refine (isNaN_calls _ _).mono ?_; rintro e w' ⟨rfl, rfl⟩)
      go_ret
      exact ⟨rfl, rfl⟩
    · have hr : Lib.compareInt x y = 0 := by simp [Lib.compareInt, h1, h2]
      have d1 : decide (x < y) = false := by simpa using h1
      have d2 : decide (y < x) = false := by simpa using h2
      rw [hr]
      go_enter Try.func34, Try.ntmps34
      go_wp2_with (go_at_call 39; refine (isNaN_calls _ _).mono ?_; rintro e w' ⟨rfl, rfl⟩)
      go_ret
      exact ⟨rfl, rfl⟩
set_option maxHeartbeats 1000000 in
theorem closure33 (x y : S28) (W : World) : Calls Try.prog 33 #[.agg #[.int .i64 x.f0, .int .i64 x.f1], .agg #[.int .i64 y.f0, .int .i64 y.f1]] W fun e w' => e = .returned (.int .i64 (cmp28 x y)) ∧ ∃ q os', w' = grow (W.drewN q) os' := by
  have hcon := fun W' => compare_calls x.f0 y.f0 W'
  unfold cmp28
  generalize Lib.compareInt x.f0 y.f0 = r at hcon ⊢
  go_enter Try.func33, Try.ntmps33
  go_wp2_with (go_at_call 34; refine (hcon _).mono ?_; rintro e w' ⟨rfl, rfl⟩)
  go_ret
  exact ⟨rfl, 0, _, by rw [alloc_eq_grow, alloc_eq_grow, grow_grow]; rfl⟩
/-- The cells of a row, read. -/
theorem C_cells (w : World) (g : Nat) (l : List S28) (hl : l.length ≤ 9223372036854775807)
    (h : ∀ j (hj : j < l.length), w.cell? ⟨g, j * 2, none⟩ = some (.int .i64 l[j].f0) ∧ w.cell? ⟨g, j * 2 + 1, none⟩ = some (.int .i64 l[j].f1)) : Kd.C k28 w (some ⟨g, 0, none⟩) l.length l := by
  refine ⟨rfl, hl, fun _ => ⟨_, rfl, fun j p hj => ?_⟩⟩
  obtain ⟨hj1, rfl⟩ := List.getElem?_eq_some_iff.1 hj
  obtain ⟨h0, h1⟩ := h j hj1
  refine ⟨_, rfl, k28_mk w _, fun i u hu => ?_⟩
  rw [add_plain]
  match i, hu with
  | 0, hu => simp at hu; subst hu; simpa [k28, Kd.iso, Kd.pair, Kd.int, Kd.scalar] using h0
  | 1, hu => simp at hu; subst hu; simpa [k28, Kd.iso, Kd.pair, Kd.int, Kd.scalar] using h1
  | i + 2, hu => simp at hu
theorem below_sorted (base : Nat) (w : World) (blk off n : Nat) (d : Array S28) (os : Array Obj) (hb : base ≤ blk) (hs : base ≤ w.heap.size) : RowKit.Below base w (sortWorldK enc28 2 w blk off n d os) := by
  have hsz : (putRowK enc28 2 (Sort.ahead w n) blk off d).heap.size = w.heap.size := by
    simp [putRowK, putRow, mapBlock, Sort.ahead]
  refine ⟨rfl, rfl, rfl, ?_, fun k hk => ?_⟩
  · show w.heap.size ≤ (_ ++ os).size
    rw [Array.size_append, hsz]; omega
  · show (_ ++ os)[k]? = _
    rw [Array.getElem?_append_left (by rw [hsz]; omega)]
    show ((Sort.ahead w n).heap.modify blk _)[k]? = _
    rw [Array.getElem?_modify, if_neg (by omega)]
    rfl
set_option maxHeartbeats 1000000 in
theorem sort_calls (base : Nat) (v : Value) (l : List S28) (w : World) (hR : Kd.R k28 28 w base (fun _ => True) v l) (hb : base ≤ w.heap.size) (hl : l.length < 4611686018427387904) :
    Calls Try.prog 32 #[v, .func (.func 33) #[] #[]] w fun e w' => e = .returned (.tuple #[]) ∧ RowKit.Below base w w' ∧ ∃ l' A c, v = .slice A l.length c ∧ l'.Perm l ∧ Asc l' ∧ Kd.C k28 w' A l.length l' := by
  by_cases h0 : l = []
  · subst h0
    obtain ⟨A, c, rfl, _, hC⟩ := Kd.R_reads hR
    refine (AnyF.slices_SortFunc_none sortX A c (.func (.func 33) #[] #[]) w).mono ?_
    rintro e w' ⟨rfl, rfl⟩
    exact ⟨rfl, Below.refl _ _, [], A, c, rfl, List.Perm.refl _, List.Pairwise.nil, hC⟩
  · have hpos : 0 < l.length := List.length_pos_iff.2 h0
    obtain ⟨g, cap, rfl, hg, hlt, cells, hcell⟩ := Kd.R_form hR hpos
    obtain ⟨_, _, hC⟩ := Kd.R_reads' hR
    have eg : ∀ args w, (callFunc 33 args).run Try.prog w = .ok (.enter 33 args) w := enters_of Try.func33 (by kernel_rfl) rfl
    have hH : HoldsK enc28 2 w g 0 l.toArray := by
      intro j hj
      rw [size_flatK] at hj
      simp only [List.size_toArray] at hj
      rw [get_flatK _ _ _ _ (by simpa using hj)]
      have hi : j / 2 < l.length := by omega
      obtain ⟨ad, he, c0, c1⟩ := at_T28 hC ((j / 2 : Nat) : Int) (by omega) (by omega)
      injection he with he
      subst he
      simp only [Int.toNat_natCast] at c0 c1
      rw [add_plain] at c0 c1
      have e1 : (l.toArray[j / 2]!) = rd_T28 l ((j / 2 : Nat) : Int) := by
        rw [getElem!_pos _ _ (by simpa using hi)]
        show l.toArray[j / 2] = l.getD (((j / 2 : Nat) : Int)).toNat z28
        rw [Int.toNat_natCast, List.getD_eq_getElem?_getD, List.getElem?_eq_getElem hi]
        rfl
      rw [e1]
      refine ⟨?_, blk_frozen hcell _⟩
      rcases Nat.mod_two_eq_zero_or_one j with hm | hm
      · rw [hm]
        have e2 : 0 + j = 0 + j / 2 * 2 := by omega
        rw [e2]
        simpa [enc28] using c0
      · rw [hm]
        have e2 : 0 + j = 0 + j / 2 * 2 + 1 := by omega
        rw [e2]
        simpa [enc28] using c1
    have hcon := AnyQ.slices_SortFunc sortX 2 Try.isAgg28 Try.sizeOf28 enc28 (fun _ => rfl) (fun x v hv => by simp [enc28] at hv; rcases hv with rfl | rfl <;> rfl) cmp28 swo28 33 #[] g 0 cap l.toArray w eg (fun _ _ _ _ x y => closure33 x y _) hH hlt (by simpa using hl)
    have hss : l.toArray.size = l.length := by simp
    rw [hss] at hcon
    change Calls Try.prog 32 _ _ _ at hcon
    refine hcon.mono ?_
    rintro e w' ⟨rfl, d', n, os, hp, hs, rfl⟩
    obtain ⟨hp1, _, hp3⟩ := hp
    have hsz : d'.size = l.length := by simpa using hp1
    refine ⟨rfl, below_sorted base w g 0 n d' os hg hb, d'.toList, _, _, rfl, ?_, ?_, ?_⟩
    · have := hp3
      rw [Array.extract_eq_self_of_le (by simpa using Nat.le_of_eq hsz), Array.extract_eq_self_of_le (by simp)] at this
      simpa using this
    · unfold Asc
      rw [List.pairwise_iff_getElem]
      intro i j hi hj hij
      have hi' : i < d'.size := by simpa using hi
      have hj' : j < d'.size := by simpa using hj
      have := hs i j (Nat.zero_le _) hij (by simpa [hsz] using hj')
      rw [lt28, getElem!_pos d' _ hj', getElem!_pos d' _ hi'] at this
      simp at this
      simpa using this
    · have hH2 := holdsK_sortWorldK_c enc28 2 w g 0 l.toArray d' n os hH hlt (by simpa using hsz)
      have hlen : d'.toList.length = l.length := by simpa using hsz
      rw [← hlen]
      refine C_cells _ g d'.toList (by omega) (fun j hj => ?_)
      have hj' : j < d'.size := by simpa using hj
      have k0 := (hH2.cell (i := j) (c := 0) hj' (by decide)).1
      have k1 := (hH2.cell (i := j) (c := 1) hj' (by decide)).1
      rw [getElem!_pos d' _ hj'] at k0 k1
      refine ⟨by simpa [enc28] using k0, by simpa [enc28] using k1⟩
end Go.Proofs.Ytpoiicfpldbgeaa.Iv
