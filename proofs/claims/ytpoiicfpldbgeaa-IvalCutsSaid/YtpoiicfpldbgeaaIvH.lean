/- Walks of the set of extents: whether it meets one, whether two have a block in common; what the document fixes. -/
import Derived.Test.YtpoiicfpldbgeaaProg
import Derived.Below
import Derived.Deep.Draws
import Derived.Deep.AppendLies
import Derived.Maps.AppendAt
import Derived.OwnWalk
import Derived.Laws.BytesArg
import Derived.Laws.MakeOwn
import Derived.Laws.OwnMore
import Derived.Deep.OwnRows
import Derived.Tactics
import Derived.Lib.ConvBytes
import Derived.Laws.Slices
import Derived.WalkKit
import Derived.KernelRfl
import Derived.RowKit3
import Derived.Deep.LoopGhost
import Derived.Deep.QuietTactic
import Derived.BigQuiet
import Derived.WideLaws
import Derived.Deep.DeepCutAuto
import Derived.Deep.CutBlock
import Derived.Deep.RegionHeld3
import Derived.Laws.Rows
import Derived.Lib.AppendStr
import Derived.ArgAppend
import Derived.Laws.IdiomCopy
import Derived.OrdersHeld
import Derived.Laws.BitsLemmas
import Derived.RowKit
import Derived.Test.YtpoiicfpldbgeaaWWords
import Derived.Test.YtpoiicfpldbgeaaWLast
import Derived.Test.YtpoiicfpldbgeaaWTab
import Derived.Test.YtpoiicfpldbgeaaWFour
import Derived.Test.YtpoiicfpldbgeaaWQPut
import Derived.Test.YtpoiicfpldbgeaaWApart
import Derived.Test.YtpoiicfpldbgeaaWArr
import Derived.Test.YtpoiicfpldbgeaaWZeros
import Derived.Test.YtpoiicfpldbgeaaWFoot
import Derived.Test.YtpoiicfpldbgeaaWKept
import Derived.Test.YtpoiicfpldbgeaaWShare
import Derived.Test.YtpoiicfpldbgeaaWN
import Derived.Test.YtpoiicfpldbgeaaWFootNe
import Derived.Test.YtpoiicfpldbgeaaWAt
import Derived.Test.YtpoiicfpldbgeaaWEqStruct
import Derived.Test.YtpoiicfpldbgeaaWRepsOne
import Derived.Test.YtpoiicfpldbgeaaWInv
import Derived.Test.YtpoiicfpldbgeaaWInvWords
import Derived.Test.YtpoiicfpldbgeaaWGuard
import Derived.Test.YtpoiicfpldbgeaaWNEv
import Derived.Test.YtpoiicfpldbgeaaWMore
import Derived.Outline
import Derived.Lib.Hide
import Derived.Deep.DeepMust
import Derived.Test.YtpoiicfpldbgeaaIvG
namespace Go.Proofs.Ytpoiicfpldbgeaa.Iv
open Go.RowKit Go.Proofs.YtpoiicfpldbgeaaW.PrintWords Go.Proofs.YtpoiicfpldbgeaaW.PrintLast Go.Proofs.YtpoiicfpldbgeaaW.PrintMore Go.Proofs.Ytpoiicfpldbgeaa.PIv
set_option linter.unusedVariables false
set_option linter.unusedSimpArgs false

theorem eg (g : Nat) (h : Enters Try.prog g) : ∀ args w, (callFunc g args).run Try.prog w = .ok (.enter g args) w := h
theorem ent30 : Enters Try.prog 30 := enters_of Try.func30 (by kernel_rfl) rfl
theorem ent26 : Enters Try.prog 26 := enters_of Try.func26 (by kernel_rfl) rfl
theorem ent27 : Enters Try.prog 27 := enters_of Try.func27 (by kernel_rfl) rfl
theorem has30 (A : Option Addr) (c : Nat) (L : List S28) (e : S28) (g : Nat) (W : World) (hC : Kd.C k28 W A L.length L) (hl : L.length ≤ 9223372036854775807) (hL : ∀ x ∈ L, Okx x) (he : Okx e) (h0 : W.cell? ⟨g, 0, none⟩ = some (.int .i64 e.f0)) (h1 : W.cell? ⟨g, 1, none⟩ = some (.int .i64 e.f1)) :
    Calls Try.prog 25 #[.slice A L.length c, .func (.func 30) #[] #[.pointer (some ⟨g, 0, none⟩)]] W fun r w' => r = .returned (.bool (L.any fun x => meetB x e)) ∧ RowKit.Below W.heap.size W w' :=
  contains_calls 30 #[.pointer (some ⟨g, 0, none⟩)] (fun x => meetB x e) ent30 A c L W hC hl (fun W' x hx hb =>
    (closure30 x e g (hL x hx) he W' (pw_cell_below hb h0) (pw_cell_below hb h1)).mono fun r w' ⟨hr, hb'⟩ => ⟨hr, below_step hb hb'⟩)
theorem has27 (A : Option Addr) (c : Nat) (L : List S28) (e : S28) (g : Nat) (W : World) (hC : Kd.C k28 W A L.length L) (hl : L.length ≤ 9223372036854775807) (hL : ∀ x ∈ L, Okx x) (he : Okx e) (h0 : W.cell? ⟨g, 0, none⟩ = some (.int .i64 e.f0)) (h1 : W.cell? ⟨g, 1, none⟩ = some (.int .i64 e.f1)) :
    Calls Try.prog 25 #[.slice A L.length c, .func (.func 27) #[] #[.pointer (some ⟨g, 0, none⟩)]] W fun r w' => r = .returned (.bool (L.any fun y => meetB e y)) ∧ RowKit.Below W.heap.size W w' :=
  contains_calls 27 #[.pointer (some ⟨g, 0, none⟩)] (fun y => meetB e y) ent27 A c L W hC hl (fun W' y hy hb =>
    (closure27 e y g he (hL y hy) W' (pw_cell_below hb h0) (pw_cell_below hb h1)).mono fun r w' ⟨hr, hb'⟩ => ⟨hr, below_step hb hb'⟩)
set_option maxHeartbeats 1000000 in
theorem meets_calls (fr b : Nat) (most : Int) (L : List S28) (e : S28) (w : World) (hs : IsSet w fr b most L) (hl : L.length ≤ 1000000) :
    Calls Try.prog 18 #[.pointer (some ⟨b, 0, none⟩), ag e] w fun r w' => r = .returned (.bool (mayB e && L.any fun x => meetB x e)) ∧ RowKit.Below w.heap.size w w' := by
  show Calls Try.prog 18 #[.pointer (some ⟨b, 0, none⟩), .agg #[.int .i64 e.f0, .int .i64 e.f1]] w _
  have HS := Lib.hid hs
  obtain ⟨_, _, ⟨A0, c0, h1, h2, h3, _⟩, _, _, hok⟩ := hs
  have HC := Lib.hid (fun w' (h : RowKit.Below w.heap.size w w') => Kd.C_below h3 h)
  have HX := Lib.hid (fun w' (h : RowKit.Below w.heap.size w w') => pw_cell_below h h1)
  have HOK := Lib.hid hok
  have hm := fun W => may_calls e W
  unfold ag at hm
  clear h1 h2 h3 hok
  cases hmay : mayB e with
  | false =>
    rw [hmay] at hm
    rw [Bool.false_and]
    clear hmay
    go_enter Try.func18, Try.ntmps18
    go_wp2_with (go_at_call 29; go_must (refine (hm _).mono ?_; rintro e w1 ⟨rfl, hB1⟩))
    go_ret
    exact ⟨rfl, below_step (below_alloc (Below.refl _ _) _) hB1⟩
  | true =>
    have he := Lib.hid (Okx.of_may hmay)
    rw [hmay] at hm
    rw [Bool.true_and]
    clear hmay
    obtain ⟨p, hp⟩ : ∃ p, p = L.any fun x => meetB x e := ⟨_, rfl⟩
    rw [← hp]
    have HP := Lib.hid hp
    clear hp
    go_enter Try.func18, Try.ntmps18
    go_wp2_with (first
      | (go_at_call 29; go_must (refine (hm _).mono ?_; rintro _ w1 ⟨rfl, hB1⟩; have HB1 := Lib.hid (below_step (below_alloc (Below.refl _ _) _) hB1); have k0 := pw_cell_below hB1 (World.cell?_alloc_at (w := w) #[.int .i64 e.f0, .int .i64 e.f1] 28 w.heap.size 0 rfl); have k1 := pw_cell_below hB1 (World.cell?_alloc_at (w := w) #[.int .i64 e.f0, .int .i64 e.f1] 28 w.heap.size 1 rfl); have K0 := Lib.hid k0; have K1 := Lib.hid k1; clear k0 k1 hB1; have x1 := HX.out _ HB1.out))
      | (go_at_call 25; go_must (refine (has30 A0 c0 L e w.heap.size w1 (HC.out _ HB1.out) (by omega) HOK.out he.out K0.out K1.out).mono ?_; rw [← HP.out]; rintro _ w2 ⟨rfl, hB2⟩)))
    go_ret
    exact ⟨rfl, below_step HB1.out hB2⟩
theorem meetsNil_calls (e : S28) (w : World) : Calls Try.prog 18 #[.pointer none, ag e] w fun r w' => r = .returned (.bool false) ∧ RowKit.Below w.heap.size w w' := by
  show Calls Try.prog 18 #[.pointer none, .agg #[.int .i64 e.f0, .int .i64 e.f1]] w _
  go_enter Try.func18, Try.ntmps18
  go_wp2
  go_ret
  exact ⟨rfl, below_alloc (Below.refl _ _) _⟩
def hasB (L : List S28) (i : Int) : Bool := mayB ⟨i, 1⟩ && L.any fun x => meetB x ⟨i, 1⟩
theorem has_calls (fr b : Nat) (most : Int) (L : List S28) (i : Int) (w : World) (hs : IsSet w fr b most L) (hl : L.length ≤ 1000000) :
    Calls Try.prog 15 #[.pointer (some ⟨b, 0, none⟩), .int .i64 i] w fun r w' => r = .returned (.bool (hasB L i)) ∧ RowKit.Below w.heap.size w w' := by
  have hm := meets_calls fr b most L ⟨i, 1⟩ w hs hl
  change Calls Try.prog 18 #[.pointer (some ⟨b, 0, none⟩), .agg #[.int .i64 i, .int .i64 1]] w fun r w' => r = .returned (.bool (hasB L i)) ∧ RowKit.Below w.heap.size w w' at hm
  clear hs
  generalize hasB L i = q at hm ⊢
  go_enter Try.func15, Try.ntmps15
  go_wp2_with (go_at_call 18; go_must (refine hm.mono ?_; rintro _ w1 ⟨rfl, hB1⟩))
  go_ret
  exact ⟨rfl, hB1⟩
theorem hasNil_calls (i : Int) (w : World) : Calls Try.prog 15 #[.pointer none, .int .i64 i] w fun r w' => r = .returned (.bool false) ∧ RowKit.Below w.heap.size w w' := by
  have hm := meetsNil_calls ⟨i, 1⟩ w
  change Calls Try.prog 18 #[.pointer none, .agg #[.int .i64 i, .int .i64 1]] w _ at hm
  go_enter Try.func15, Try.ntmps15
  go_wp2_with (go_at_call 18; go_must (refine hm.mono ?_; rintro _ w1 ⟨rfl, hB1⟩))
  go_ret
  exact ⟨rfl, hB1⟩
set_option maxHeartbeats 1000000 in
theorem closure26 (x : S28) (g fr b : Nat) (most : Int) (L : List S28) (hx : Okx x) (w : World) (hs : IsSet w fr b most L) (hl : L.length ≤ 1000000) (h0 : w.cell? ⟨g, 0, none⟩ = some (.pointer (some ⟨b, 0, none⟩))) :
    Calls Try.prog 26 #[ag x, .pointer (some ⟨g, 0, none⟩)] w fun e w' => e = .returned (.bool (L.any fun y => meetB x y)) ∧ RowKit.Below w.heap.size w w' := by
  show Calls Try.prog 26 #[.agg #[.int .i64 x.f0, .int .i64 x.f1], .pointer (some ⟨g, 0, none⟩)] w _
  have hgl := World.block_lt_of_cell? _ _ h0
  simp only at hgl
  have hg : g ≠ w.heap.size := by omega
  have HS := Lib.hid hs
  have HX := Lib.hid hx
  obtain ⟨p, hp⟩ : ∃ p, p = L.any fun y => meetB x y := ⟨_, rfl⟩
  rw [← hp]
  have HP := Lib.hid hp
  clear hp hs hx
  go_enter Try.func26, Try.ntmps26
  go_wp2_with (first
    | (go_at_call 11; go_must (refine (extents_calls fr b most L _ (HS.out.below (below_alloc (Below.refl _ _) _)) (by omega)).mono ?_; rintro _ w1 ⟨v1, rfl, hB1, hR1⟩; obtain ⟨A1, c1, hv1, _, hC1⟩ := Kd.R_reads hR1; subst hv1; have HB1 := Lib.hid (below_step (below_alloc (Below.refl _ _) _) hB1); have HC1 := Lib.hid hC1; have K0 := Lib.hid (pw_cell_below hB1 (World.cell?_alloc_at (w := w) #[.int .i64 x.f0, .int .i64 x.f1] 28 w.heap.size 0 rfl)); have K1 := Lib.hid (pw_cell_below hB1 (World.cell?_alloc_at (w := w) #[.int .i64 x.f0, .int .i64 x.f1] 28 w.heap.size 1 rfl)); clear hB1 hR1 hC1))
    | (go_at_call 25; go_must (refine (has27 A1 c1 L x w.heap.size w1 HC1.out (by omega) HS.out.ok HX.out K0.out K1.out).mono ?_; rw [← HP.out]; rintro _ w2 ⟨rfl, hB2⟩)))
  go_ret
  exact ⟨rfl, below_step HB1.out hB2⟩
def crossB (L1 L2 : List S28) : Bool := L1.any fun x => L2.any fun y => meetB x y
set_option maxHeartbeats 1000000 in
theorem crosses_calls (fr b1 b2 : Nat) (m1 m2 : Int) (L1 L2 : List S28) (w : World) (h1 : IsSet w fr b1 m1 L1) (h2 : IsSet w fr b2 m2 L2) (hl1 : L1.length ≤ 1000000) (hl2 : L2.length ≤ 1000000) :
    Calls Try.prog 16 #[.pointer (some ⟨b1, 0, none⟩), .pointer (some ⟨b2, 0, none⟩)] w fun e w' => e = .returned (.bool (crossB L1 L2)) ∧ RowKit.Below w.heap.size w w' := by
  have HS := Lib.hid h1
  have HT := Lib.hid (fun w' (h : RowKit.Below w.heap.size w w') => h2.below h)
  obtain ⟨p, hp⟩ : ∃ p, p = crossB L1 L2 := ⟨_, rfl⟩
  rw [← hp]
  have HP := Lib.hid hp
  clear hp h1 h2
  go_enter Try.func16, Try.ntmps16
  go_wp2_with (first
    | (go_at_call 11; go_must (refine (extents_calls fr b1 m1 L1 _ (HS.out.below (below_alloc (Below.refl _ _) _)) (by omega)).mono ?_; rintro _ w1 ⟨v1, rfl, hB1, hR1⟩; obtain ⟨A1, c1, hv1, _, hC1⟩ := Kd.R_reads hR1; subst hv1; have HB1 := Lib.hid (below_step (below_alloc (Below.refl _ _) _) hB1); have HC1 := Lib.hid hC1; have K0 := Lib.hid (pw_cell_below hB1 (World.cell?_alloc_at (w := w) #[.pointer (some ⟨b2, 0, none⟩)] 23 w.heap.size 0 rfl)); clear hB1 hR1 hC1))
    | (go_at_call 25; go_must (refine (contains_calls 26 #[.pointer (some ⟨w.heap.size, 0, none⟩)] (fun x => L2.any fun y => meetB x y) ent26 A1 c1 L1 w1 HC1.out (by omega) (fun W' x hx hb => (closure26 x w.heap.size fr b2 m2 L2 (HS.out.ok x hx) W' (HT.out _ (below_step HB1.out hb)) hl2 (pw_cell_below hb K0.out)).mono fun r w' ⟨hr, hb'⟩ => ⟨hr, below_step hb hb'⟩)).mono ?_; rw [show (L1.any fun x => L2.any fun y => meetB x y) = p from HP.out.symm]; rintro _ w2 ⟨rfl, hB2⟩)))
  go_ret
  exact ⟨rfl, below_step HB1.out hB2⟩
set_option maxHeartbeats 1000000 in
theorem crossesNil_calls (b2 : Nat) (w : World) :
    Calls Try.prog 16 #[.pointer none, .pointer (some ⟨b2, 0, none⟩)] w fun e w' => e = .returned (.bool false) ∧ RowKit.Below w.heap.size w w' := by
  go_enter Try.func16, Try.ntmps16
  go_wp2_with (first
    | (go_at_call 11; go_must (refine (extentsNil_calls _).mono ?_; rintro _ w1 ⟨rfl, rfl⟩))
    | (go_at_call 25; go_must (refine (contains_calls 26 #[.pointer (some ⟨w.heap.size, 0, none⟩)] (fun x => false) ent26 none 0 [] _ (Kd.C_nil _ _) (by decide) (fun W' x hx hb => by simp at hx)).mono ?_; rintro _ w2 ⟨rfl, hB2⟩)))
  go_ret
  exact ⟨rfl, below_step (below_alloc (Below.refl _ _) _) hB2⟩
theorem addNil_calls (A : Option Addr) (c : Nat) (l : List S28) (w : World) (hr : Kd.C k28 w A l.length l) (hl : l.length ≤ 9223372036854775807) :
    Calls Try.prog 10 #[.pointer none, .slice A l.length c] w fun e w' => e = .returned (.int .i64 (if l.all mayB = true then (if l = [] then 0 else 7) else 1)) ∧ RowKit.Below w.heap.size w w' := by
  have HR := Lib.hid hr
  clear hr
  cases hall : l.all mayB with
  | false =>
    have HALL := Lib.hid hall
    clear hall
    simp only [Bool.false_eq_true, if_false]
    go_enter Try.func10, Try.ntmps10
    go_wp2_with (go_at_call 21; go_must (refine (all_calls A c l w HR.out hl).mono ?_; rintro e w1 ⟨rfl, hB1⟩; rw [HALL.out]))
    go_ret
    exact ⟨rfl, hB1⟩
  | true =>
    have HALL := Lib.hid hall
    clear hall
    by_cases he : l = []
    · subst he
      simp only [if_true]
      go_enter Try.func10, Try.ntmps10
      go_wp2_with (go_at_call 21; go_must (refine (all_calls A c [] w HR.out hl).mono ?_; rintro e w1 ⟨rfl, hB1⟩))
      go_ret
      exact ⟨rfl, hB1⟩
    · have hne : ¬ ((l.length : Int) = 0) := by
        intro h; exact he (List.length_eq_zero_iff.1 (by omega))
      have hne' : ¬ (l.length = 0) := by omega
      rw [if_neg he]
      simp only [if_true]
      go_enter Try.func10, Try.ntmps10
      go_wp2_with (go_at_call 21; go_must (refine (all_calls A c l w HR.out hl).mono ?_; rintro e w1 ⟨rfl, hB1⟩; rw [HALL.out]))
      go_ret
      exact ⟨rfl, hB1⟩
end Go.Proofs.Ytpoiicfpldbgeaa.Iv
