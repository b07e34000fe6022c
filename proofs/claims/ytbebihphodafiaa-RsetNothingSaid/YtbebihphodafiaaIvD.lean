/- The walk of the sort of extents by their first block. -/
import Derived.Test.YtbebihphodafiaaProg
import Derived.Below
import Derived.Deep.Draws
import Derived.Deep.AppendLies
import Derived.Maps.AppendAt
import Derived.OwnWalk
import Derived.Laws.BytesArg
import Derived.Laws.MakeOwn
import Derived.Laws.OwnMore
import Derived.Deep.OwnRows
import Derived.Tactics
import Derived.Lib.ConvBytes
import Derived.Laws.Slices
import Derived.WalkKit
import Derived.KernelRfl
import Derived.RowKit3
import Derived.Deep.LoopGhost
import Derived.Deep.QuietTactic
import Derived.BigQuiet
import Derived.WideLaws
import Derived.Deep.DeepCutAuto
import Derived.Deep.CutBlock
import Derived.Deep.RegionHeld3
import Derived.Laws.Rows
import Derived.Lib.AppendStr
import Derived.ArgAppend
import Derived.Laws.IdiomCopy
import Derived.OrdersHeld
import Derived.Laws.BitsLemmas
import Derived.RowKit
import Derived.Test.YtbebihphodafiaaWWords
import Derived.Test.YtbebihphodafiaaWLast
import Derived.Test.YtbebihphodafiaaWTab
import Derived.Test.YtbebihphodafiaaWFour
import Derived.Test.YtbebihphodafiaaWQPut
import Derived.Test.YtbebihphodafiaaWApart
import Derived.Test.YtbebihphodafiaaWArr
import Derived.Test.YtbebihphodafiaaWZeros
import Derived.Test.YtbebihphodafiaaWFoot
import Derived.Test.YtbebihphodafiaaWKept
import Derived.Test.YtbebihphodafiaaWShare
import Derived.Test.YtbebihphodafiaaWN
import Derived.Test.YtbebihphodafiaaWFootNe
import Derived.Test.YtbebihphodafiaaWAt
import Derived.Test.YtbebihphodafiaaWEqStruct
import Derived.Test.YtbebihphodafiaaWRepsOne
import Derived.Test.YtbebihphodafiaaWInv
import Derived.Test.YtbebihphodafiaaWInvWords
import Derived.Test.YtbebihphodafiaaWGuard
import Derived.Test.YtbebihphodafiaaWNEv
import Derived.Test.YtbebihphodafiaaWMore
import Derived.Outline
import Derived.Lib.Hide
import Derived.Deep.DeepMust
import Derived.Test.YtbebihphodafiaaIvC
import Derived.Test.YtbebihphodafiaaIvS
import Derived.Test.YtbebihphodafiaaIvP
namespace Go.Proofs.Ytbebihphodafiaa.Iv
open Go.RowKit Go.Proofs.YtbebihphodafiaaW.PrintWords Go.Proofs.YtbebihphodafiaaW.PrintLast Go.Proofs.YtbebihphodafiaaW.PrintMore Go.Proofs.Ytbebihphodafiaa.PWb Go.Shelf Go.Lib Go.Sort
set_option linter.unusedVariables false
set_option linter.unusedSimpArgs false

instance inh60 : Inhabited S60 := ⟨z60⟩
def enc60 (x : S60) : List Value := [.int .i64 x.f0, .int .i64 x.f1]
def cmp60 (x y : S60) : Int := Lib.compareInt x.f0 y.f0
theorem lt60 (x y : S60) : ltOf cmp60 x y = decide (x.f0 < y.f0) := by
  unfold ltOf cmp60 Lib.compareInt
  by_cases h1 : x.f0 < y.f0
  · simp [h1]
  · by_cases h2 : y.f0 < x.f0 <;> simp [h1, h2]
theorem swo60 : SWO (ltOf cmp60) where
  irrefl x := by rw [lt60]; simp
  trans x y z h1 h2 := by rw [lt60] at *; simp at *; omega
  ntrans x y z h1 h2 := by rw [lt60] at *; simp at *; omega
theorem isNaN_calls (x : Int) (w : World) : Calls Try.prog 103 #[.int .i64 x] w fun e w' => e = .returned (.bool false) ∧ w' = w := by
  go_enter Try.func103, Try.ntmps103
  go_wp2
  go_ret
  exact ⟨by simp, rfl⟩
set_option maxHeartbeats 1000000 in
theorem compare_calls (x y : Int) (w : World) : Calls Try.prog 88 #[.int .i64 x, .int .i64 y] w fun e w' => e = .returned (.int .i64 (Lib.compareInt x y)) ∧ w' = w := by
  by_cases h1 : x < y
  · have hr : Lib.compareInt x y = -1 := by simp [Lib.compareInt, h1]
    have d1 : decide (x < y) = true := by simpa using h1
    rw [hr]
    go_enter Try.func88, Try.ntmps88
    go_wp2_with (go_at_call 103; refine (isNaN_calls _ _).mono ?_; rintro e w' ⟨rfl, rfl⟩)
    go_ret
    exact ⟨rfl, rfl⟩
  · by_cases h2 : y < x
    · have hr : Lib.compareInt x y = 1 := by simp [Lib.compareInt, h1, h2]
      have d1 : decide (x < y) = false := by simpa using h1
      have d2 : decide (y < x) = true := by simpa using h2
      rw [hr]
      go_enter Try.func88, Try.ntmps88
      go_wp2_with (go_at_call 103; refine (isNaN_calls _ _).mono ?_; rintro e w' ⟨rfl, rfl⟩)
      go_ret
      exact ⟨rfl, rfl⟩
    · have hr : Lib.compareInt x y = 0 := by simp [Lib.compareInt, h1, h2]
      have d1 : decide (x < y) = false := by simpa using h1
      have d2 : decide (y < x) = false := by simpa using h2
      rw [hr]
      go_enter Try.func88, Try.ntmps88
      go_wp2_with (go_at_call 103; refine (isNaN_calls _ _).mono ?_; rintro e w' ⟨rfl, rfl⟩)
      go_ret
      exact ⟨rfl, rfl⟩
set_option maxHeartbeats 1000000 in
theorem closure33 (x y : S60) (W : World) : Calls Try.prog 87 #[.agg #[.int .i64 x.f0, .int .i64 x.f1], .agg #[.int .i64 y.f0, .int .i64 y.f1]] W fun e w' => e = .returned (.int .i64 (cmp60 x y)) ∧ ∃ q os', w' = grow (W.drewN q) os' := by
  have hcon := fun W' => compare_calls x.f0 y.f0 W'
  unfold cmp60
  generalize Lib.compareInt x.f0 y.f0 = r at hcon ⊢
  go_enter Try.func87, Try.ntmps87
  go_wp2_with (go_at_call 88; refine (hcon _).mono ?_; rintro e w' ⟨rfl, rfl⟩)
  go_ret
  exact ⟨rfl, 0, _, by rw [alloc_eq_grow, alloc_eq_grow, grow_grow]; rfl⟩
/-- The cells of a row, read. -/
theorem C_cells (w : World) (g : Nat) (l : List S60) (hl : l.length ≤ 9223372036854775807)
    (h : ∀ j (hj : j < l.length), w.cell? ⟨g, j * 2, none⟩ = some (.int .i64 l[j].f0) ∧ w.cell? ⟨g, j * 2 + 1, none⟩ = some (.int .i64 l[j].f1)) : Kd.C k60 w (some ⟨g, 0, none⟩) l.length l := by
  refine ⟨rfl, hl, fun _ => ⟨_, rfl, fun j p hj => ?_⟩⟩
  obtain ⟨hj1, rfl⟩ := List.getElem?_eq_some_iff.1 hj
  obtain ⟨h0, h1⟩ := h j hj1
  refine ⟨_, rfl, k60_mk w _, fun i u hu => ?_⟩
  rw [add_plain]
  match i, hu with
  | 0, hu => simp at hu; subst hu; simpa [k60, Kd.iso, Kd.pair, Kd.int, Kd.scalar] using h0
  | 1, hu => simp at hu; subst hu; simpa [k60, Kd.iso, Kd.pair, Kd.int, Kd.scalar] using h1
  | i + 2, hu => simp at hu
theorem below_sorted (base : Nat) (w : World) (blk off n : Nat) (d : Array S60) (os : Array Obj) (hb : base ≤ blk) (hs : base ≤ w.heap.size) : RowKit.Below base w (sortWorldK enc60 2 w blk off n d os) := by
  have hsz : (putRowK enc60 2 (Sort.ahead w n) blk off d).heap.size = w.heap.size := by
    simp [putRowK, putRow, mapBlock, Sort.ahead]
  refine ⟨rfl, rfl, rfl, ?_, fun k hk => ?_⟩
  · show w.heap.size ≤ (_ ++ os).size
    rw [Array.size_append, hsz]; omega
  · show (_ ++ os)[k]? = _
    rw [Array.getElem?_append_left (by rw [hsz]; omega)]
    show ((Sort.ahead w n).heap.modify blk _)[k]? = _
    rw [Array.getElem?_modify, if_neg (by omega)]
    rfl
set_option maxHeartbeats 1000000 in
set_option maxRecDepth 100000 in
theorem sort_calls (base : Nat) (v : Value) (l : List S60) (w : World) (hR : Kd.R k60 60 w base (fun _ => True) v l) (hb : base ≤ w.heap.size) (hl : l.length < 4611686018427387904) :
    Calls Try.prog 86 #[v, .func (.func 87) #[] #[]] w fun e w' => e = .returned (.tuple #[]) ∧ RowKit.Below base w w' ∧ ∃ l' A c, v = .slice A l.length c ∧ l'.Perm l ∧ Asc l' ∧ Kd.C k60 w' A l.length l' := by
  by_cases h0 : l = []
  · subst h0
    obtain ⟨A, c, rfl, _, hC⟩ := Kd.R_reads hR
    refine (AnyF.slices_SortFunc_none sortX A c (.func (.func 87) #[] #[]) w).mono ?_
    rintro e w' ⟨rfl, rfl⟩
    exact ⟨rfl, Below.refl _ _, [], A, c, rfl, List.Perm.refl _, List.Pairwise.nil, hC⟩
  · have hpos : 0 < l.length := List.length_pos_iff.2 h0
    obtain ⟨g, cap, rfl, hg, hlt, cells, hcell⟩ := Kd.R_form hR hpos
    obtain ⟨_, _, hC⟩ := Kd.R_reads' hR
    have eg : ∀ args w, (callFunc 87 args).run Try.prog w = .ok (.enter 87 args) w := enters_of Try.func87 (by kernel_rfl) rfl
    have hH : HoldsK enc60 2 w g 0 l.toArray := by
      intro j hj
      rw [size_flatK] at hj
      simp only [List.size_toArray] at hj
      rw [get_flatK _ _ _ _ (by simpa using hj)]
      have hi : j / 2 < l.length := by omega
      obtain ⟨ad, he, c0, c1⟩ := at_T60 hC ((j / 2 : Nat) : Int) (by omega) (by omega)
      injection he with he
      subst he
      simp only [Int.toNat_natCast] at c0 c1
      rw [add_plain] at c0 c1
      have e1 : (l.toArray[j / 2]!) = rd_T60 l ((j / 2 : Nat) : Int) := by
        rw [getElem!_pos _ _ (by simpa using hi)]
        show l.toArray[j / 2] = l.getD (((j / 2 : Nat) : Int)).toNat z60
        rw [Int.toNat_natCast, List.getD_eq_getElem?_getD, List.getElem?_eq_getElem hi]
        rfl
      rw [e1]
      refine ⟨?_, blk_frozen hcell _⟩
      rcases Nat.mod_two_eq_zero_or_one j with hm | hm
      · rw [hm]
        have e2 : 0 + j = 0 + j / 2 * 2 := by omega
        rw [e2]
        simpa [enc60] using c0
      · rw [hm]
        have e2 : 0 + j = 0 + j / 2 * 2 + 1 := by omega
        rw [e2]
        simpa [enc60] using c1
    have hcon := AnyQ.slices_SortFunc sortX 2 Try.isAgg60 Try.sizeOf60 enc60 (fun _ => rfl) (fun x v hv => by simp [enc60] at hv; rcases hv with rfl | rfl <;> rfl) cmp60 swo60 87 #[] g 0 cap l.toArray w eg (fun _ _ _ _ x y => closure33 x y _) hH hlt (by simpa using hl)
    have hss : l.toArray.size = l.length := by simp
    rw [hss] at hcon
    change Calls Try.prog 86 _ _ _ at hcon
    refine hcon.mono ?_
    rintro e w' ⟨rfl, d', n, os, hp, hs, rfl⟩
    obtain ⟨hp1, _, hp3⟩ := hp
    have hsz : d'.size = l.length := by simpa using hp1
    refine ⟨rfl, below_sorted base w g 0 n d' os hg hb, d'.toList, _, _, rfl, ?_, ?_, ?_⟩
    · have := hp3
      rw [Array.extract_eq_self_of_le (by simpa using Nat.le_of_eq hsz), Array.extract_eq_self_of_le (by simp)] at this
      simpa using this
    · unfold Asc
      rw [List.pairwise_iff_getElem]
      intro i j hi hj hij
      have hi' : i < d'.size := by simpa using hi
      have hj' : j < d'.size := by simpa using hj
      have := hs i j (Nat.zero_le _) hij (by simpa [hsz] using hj')
      rw [lt60, getElem!_pos d' _ hj', getElem!_pos d' _ hi'] at this
      simp at this
      simpa using this
    · have hH2 := holdsK_sortWorldK_c enc60 2 w g 0 l.toArray d' n os hH hlt (by simpa using hsz)
      have hlen : d'.toList.length = l.length := by simpa using hsz
      rw [← hlen]
      refine C_cells _ g d'.toList (by omega) (fun j hj => ?_)
      have hj' : j < d'.size := by simpa using hj
      have k0 := (hH2.cell (i := j) (c := 0) hj' (by decide)).1
      have k1 := (hH2.cell (i := j) (c := 1) hj' (by decide)).1
      rw [getElem!_pos d' _ hj'] at k0 k1
      refine ⟨by simpa [enc60] using k0, by simpa [enc60] using k1⟩
end Go.Proofs.Ytbebihphodafiaa.Iv
