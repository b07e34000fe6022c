/- Merged texts of this session: Walks of the set of extents: made, added to. Walks of the set of extents: asked. What the laws of sets of extents ask, of rows alone. Plain law. Walks of what is read of a buffer whole: the sorted blocks, the writes, how many, the set of the blocks; and of no buffer. Walks of the statements' own bytes, and of what the document fixes of a buffer. Walks of a buffer's Set, and of WbufNothing: nothing is no buffer. What a map of versions is in memory, and walks of what is read of it. Walks of what is read of a map of versions: a block, an extent. A view: its reads, and what it stands on. -/
import Derived.Test.YtbebihphodafiaaProg
import Derived.Below
import Derived.Deep.Draws
import Derived.Deep.AppendLies
import Derived.Maps.AppendAt
import Derived.OwnWalk
import Derived.Laws.BytesArg
import Derived.Laws.MakeOwn
import Derived.Laws.OwnMore
import Derived.Deep.OwnRows
import Derived.Tactics
import Derived.Lib.ConvBytes
import Derived.Laws.Slices
import Derived.WalkKit
import Derived.KernelRfl
import Derived.RowKit3
import Derived.Deep.LoopGhost
import Derived.Deep.QuietTactic
import Derived.BigQuiet
import Derived.WideLaws
import Derived.Deep.DeepCutAuto
import Derived.Deep.CutBlock
import Derived.Deep.RegionHeld3
import Derived.Laws.Rows
import Derived.Lib.AppendStr
import Derived.ArgAppend
import Derived.Laws.IdiomCopy
import Derived.OrdersHeld
import Derived.Laws.BitsLemmas
import Derived.RowKit
import Derived.Test.YtbebihphodafiaaWWords
import Derived.Test.YtbebihphodafiaaWLast
import Derived.Test.YtbebihphodafiaaWTab
import Derived.Test.YtbebihphodafiaaWFour
import Derived.Test.YtbebihphodafiaaWQPut
import Derived.Test.YtbebihphodafiaaWApart
import Derived.Test.YtbebihphodafiaaWArr
import Derived.Test.YtbebihphodafiaaWZeros
import Derived.Test.YtbebihphodafiaaWFoot
import Derived.Test.YtbebihphodafiaaWKept
import Derived.Test.YtbebihphodafiaaWShare
import Derived.Test.YtbebihphodafiaaWN
import Derived.Test.YtbebihphodafiaaWFootNe
import Derived.Test.YtbebihphodafiaaWAt
import Derived.Test.YtbebihphodafiaaWEqStruct
import Derived.Test.YtbebihphodafiaaWRepsOne
import Derived.Test.YtbebihphodafiaaWInv
import Derived.Test.YtbebihphodafiaaWInvWords
import Derived.Test.YtbebihphodafiaaWGuard
import Derived.Test.YtbebihphodafiaaWNEv
import Derived.Test.YtbebihphodafiaaWMore
import Derived.Outline
import Derived.Lib.Hide
import Derived.Deep.DeepMust
import Derived.IntWalk
import Derived.Test.YtbebihphodafiaaZRsetOwn1
import Derived.Test.YtbebihphodafiaaZRsetOwn2
import Derived.Test.YtbebihphodafiaaZRsetOwn3
namespace Go.Proofs.Ytbebihphodafiaa.Iv
open Go.RowKit Go.Proofs.YtbebihphodafiaaW.PrintWords Go.Proofs.YtbebihphodafiaaW.PrintLast Go.Proofs.YtbebihphodafiaaW.PrintMore Go.Proofs.Ytbebihphodafiaa.PWb
set_option linter.unusedVariables false
set_option linter.unusedSimpArgs false

theorem joined_nrm (A : Option Addr) (c : Nat) (l : List S60) (w : World) (hr : Kd.C k60 w A l.length l) (hl : l.length * 16 ≤ 140737488355328) (hok : ∀ x ∈ l, Okx x) :
    Calls Try.prog 74 #[.slice A l.length c] w fun e w' => ∃ v, e = .returned v ∧ RowKit.Below w.heap.size w w' ∧ Kd.R k60 60 w' w.heap.size (fun _ => True) v (nrm l) :=
  (joined_calls A c l w hr hl hok).mono fun e w' ⟨v, l', he, hb, hp, ha, hR⟩ => ⟨v, he, hb, by rw [← joinL_nrm l l' hp ha (fun x hx => (hok x hx).2.1)]; exact hR⟩
theorem nrm_ok (l : List S60) (h : ∀ x ∈ l, Okx x) : ∀ x ∈ nrm l, Okx x :=
  joinL_ok _ [] (by simp) (fun x hx => h x ((List.mergeSort_perm l _).mem_iff.1 hx))
/-- A set: its bound, its row. fr: where the rows of sets begin. -/
structure IsSet (W : World) (fr b : Nat) (most : Int) (L : List S60) : Prop where
  lt : b < fr
  c0 : W.cell? ⟨b, 0, none⟩ = some (.int .i64 most)
  c1 : ∃ A c, W.cell? ⟨b, 1, none⟩ = some (.slice A L.length c) ∧ L.length ≤ c ∧ Kd.C k60 W A L.length L ∧ (∀ x, A = some x → fr ≤ x.block ∧ ∃ cells, W.heap[x.block]? = some (.cells cells 60 (0, 0)))
  f1 : W.frozen? ⟨b, 1, none⟩ = false
  nf : Nf L
  ok : ∀ x ∈ L, Okx x
/-- What an addition leaves of the world. -/
def Mv (b : Nat) (W w' : World) : Prop := ∃ w1, RowKit.Below W.heap.size W w1 ∧ (w' = w1 ∨ ∃ v, w' = w1.setCell ⟨b, 1, none⟩ v)
def addS (most : Int) (L l : List S60) : Int × List S60 :=
  if l.all mayB = true then (if l = [] then (0, L) else if ((nrm (L ++ l)).length : Int) > most then (7, L) else (0, nrm (L ++ l))) else (1, L)
theorem IsSet.below {W w1 : World} {fr b : Nat} {most : Int} {L : List S60} (h : IsSet W fr b most L) (hb : RowKit.Below W.heap.size W w1) : IsSet w1 fr b most L := by
  obtain ⟨h1, h2, ⟨A, c, h3, h4, h5, h6⟩, h7, h8, h9⟩ := h
  have hlt := World.block_lt_of_cell? _ _ h2
  exact ⟨h1, pw_cell_below hb h2, ⟨A, c, pw_cell_below hb h3, h4, Kd.C_below h5 hb, fun x hx => ⟨(h6 x hx).1, (h6 x hx).2.elim fun cells e => ⟨cells, (hb.block x.block (blk_lt e)).trans e⟩⟩⟩, by rw [hb.frozen (p := ⟨b, 1, none⟩) hlt]; exact h7, h8, h9⟩
theorem C_set1 {W : World} {b j : Nat} {u : Value} {A : Option Addr} {l : List S60} (h : Kd.C k60 W A l.length l) (hA : ∀ x, A = some x → x.block ≠ b) : Kd.C k60 (W.setCell ⟨b, j, none⟩ u) A l.length l := by
  refine ⟨h.1, h.2.1, fun hp => ?_⟩
  obtain ⟨ad, he, hc⟩ := h.2.2 hp
  refine ⟨ad, he, fun j p hj => ?_⟩
  obtain ⟨cs, c1, c2, c3⟩ := hc j p hj
  obtain rfl := k60_open c2
  refine ⟨_, c1, k60_mk _ _, fun i u hu => ?_⟩
  rw [World.cell?_setCell_other]
  · exact c3 i u hu
  · have := hA ad he
    have hb : ∀ m, (ad.add m).block = ad.block := fun m => by unfold Addr.add; split <;> rfl
    intro hh
    have h2 := congrArg Addr.block hh
    rw [hb] at h2
    exact this h2.symm
theorem IsSet.far {W : World} {fr t b : Nat} {most : Int} {L : List S60} (h : IsSet W fr t most L) (hne : t ≠ b) (hb : b < fr) (j : Nat) (v : Value) : IsSet (W.setCell ⟨b, j, none⟩ v) fr t most L := by
  obtain ⟨h1, h2, ⟨A, c, h3, h4, h5, h6⟩, h7, h8, h9⟩ := h
  refine ⟨h1, by rw [World.cell?_setCell_other _ _ _ _ (by simp <;> omega)]; exact h2, ⟨A, c, by rw [World.cell?_setCell_other _ _ _ _ (by simp <;> omega)]; exact h3, h4, C_set1 h5 (fun x hx => by have := (h6 x hx).1; omega), fun x hx => ⟨(h6 x hx).1, (h6 x hx).2.elim fun cells e => ⟨cells, (Below.heap_setCell W ⟨b, j, none⟩ v x.block (by have := (h6 x hx).1; simp only; omega)).trans e⟩⟩⟩, by rw [World.frozen?_setCell]; exact h7, h8, h9⟩
theorem IsSet.mv {W w' : World} {fr t b : Nat} {most : Int} {L : List S60} (h : IsSet W fr t most L) (hm : Mv b W w') (hne : t ≠ b) (hb : b < fr) : IsSet w' fr t most L := by
  obtain ⟨w1, h1, rfl | ⟨v, rfl⟩⟩ := hm
  · exact h.below h1
  · exact (h.below h1).far hne hb 1 v
theorem Mv.below {W w' : World} {n0 b : Nat} {w0 : World} (h : Mv b W w') (hB : RowKit.Below n0 w0 W) (hn : n0 ≤ b) (hb : b < W.heap.size) (hs : n0 ≤ W.heap.size) : RowKit.Below n0 w0 w' := by
  obtain ⟨w1, h1, rfl | ⟨v, rfl⟩⟩ := h
  · exact hB.trans (h1.mono hs)
  · exact (hB.trans (h1.mono hs)).setCell (p := ⟨b, 1, none⟩) hn v
theorem Mv.size {W w' : World} {b : Nat} (h : Mv b W w') : W.heap.size ≤ w'.heap.size := by
  obtain ⟨w1, h1, rfl | ⟨v, rfl⟩⟩ := h
  · exact h1.size
  · simpa using h1.size
theorem Mv.cell {W w' : World} {b : Nat} (h : Mv b W w') {p : Addr} {v : Value} (hp : p.block ≠ b) (hc : W.cell? p = some v) : w'.cell? p = some v := by
  obtain ⟨w1, h1, rfl | ⟨u, rfl⟩⟩ := h
  · exact pw_cell_below h1 hc
  · rw [World.cell?_setCell_other _ _ _ _ (by intro hh; apply hp; rw [← hh])]; exact pw_cell_below h1 hc
theorem Mv.row {W w' : World} {b : Nat} (h : Mv b W w') {A : Option Addr} {l : List S60} (hA : ∀ x, A = some x → x.block ≠ b) (hC : Kd.C k60 W A l.length l) : Kd.C k60 w' A l.length l := by
  obtain ⟨w1, h1, rfl | ⟨u, rfl⟩⟩ := h
  · exact Kd.C_below hC h1
  · exact C_set1 (Kd.C_below hC h1) hA
/-- The set's row is another one. -/
theorem IsSet.put {W w1 : World} {fr b base : Nat} {most : Int} {L L' : List S60} {v : Value} (h : IsSet W fr b most L) (hb : RowKit.Below W.heap.size W w1) (hR : Kd.R k60 60 w1 base (fun _ => True) v L') (hf : fr ≤ base) (hn : Nf L') (ho : ∀ x ∈ L', Okx x) :
    IsSet (w1.setCell ⟨b, 1, none⟩ v) fr b most L' := by
  obtain ⟨h1, h2, ⟨A, c, h3, h4, h5, h6⟩, h7, h8, h9⟩ := h
  have hlt := World.block_lt_of_cell? _ _ h2
  obtain ⟨A', c', rfl, hc', hC'⟩ := Kd.R_reads hR
  have hA' : ∀ x, A' = some x → fr ≤ x.block := fun x hx => by
    subst hx
    obtain ⟨inner, ho⟩ := Kd.R_own hR
    have := own_base ho x.block (by simp [Value.ownBlock])
    omega
  refine ⟨h1, by rw [World.cell?_setCell_other _ _ _ _ (by simp)]; exact pw_cell_below hb h2, ⟨A', c', World.cell?_setCell_same' _ _ _ (by rw [pw_cell_below hb h3]; rfl), hc', C_set1 hC' (fun x hx => by have := hA' x hx; omega), fun x hx => ⟨hA' x hx, by
    subst hx
    obtain ⟨cells, e⟩ := Kd.R_typed hR x.block rfl
    exact ⟨cells, (Below.heap_setCell w1 ⟨b, 1, none⟩ _ x.block (by have := hA' x rfl; simp only; omega)).trans e⟩⟩⟩, by rw [World.frozen?_setCell, hb.frozen (p := ⟨b, 1, none⟩) hlt]; exact h7, hn, ho⟩
theorem C_two (w : World) (A1 A2 : Option Addr) (c1 c2 : Nat) (l1 l2 : List S60) (h1 : l1.length ≤ c1) (h2 : l2.length ≤ c2) (k1 : Kd.C k60 w A1 l1.length l1) (k2 : Kd.C k60 w A2 l2.length l2) :
    Kd.C (Kd.slice 60 k60) (w.alloc (.cells #[.slice A1 l1.length c1, .slice A2 l2.length c2] 83)) (some ⟨w.heap.size, 0, none⟩) 2 [l1, l2] := by
  refine ⟨rfl, by decide, fun _ => ⟨_, rfl, fun j p hj => ?_⟩⟩
  match j, hj with
  | 0, hj =>
    simp at hj; subst hj
    refine ⟨[.slice A1 l1.length c1], rfl, ⟨A1, c1, rfl, h1, Kd.C_alloc k1 _⟩, fun i u hu => ?_⟩
    match i, hu with
    | 0, hu => simp at hu; subst hu; rw [add_plain, World.cell?_alloc_at _ _ _ _ rfl]; rfl
    | i + 1, hu => simp at hu
  | 1, hj =>
    simp at hj; subst hj
    refine ⟨[.slice A2 l2.length c2], rfl, ⟨A2, c2, rfl, h2, Kd.C_alloc k2 _⟩, fun i u hu => ?_⟩
    match i, hu with
    | 0, hu => simp at hu; subst hu; rw [add_plain, World.cell?_alloc_at _ _ _ _ rfl]; rfl
    | i + 1, hu => simp at hu
  | j + 2, hj => simp at hj
theorem new_calls (most : Int) (fr : Nat) (w : World) (hfr : w.heap.size < fr) : Calls Try.prog 62 #[.int .i64 most] w fun e w' => e = .returned (.pointer (some ⟨w.heap.size, 0, none⟩)) ∧ w' = w.alloc (.cells #[.int .i64 most, .slice none 0 0] 137) ∧ IsSet w' fr w.heap.size most [] := by
  have hI : IsSet (w.alloc (.cells #[.int .i64 most, .slice none 0 0] 137)) fr w.heap.size most [] :=
    ⟨hfr, by rw [World.cell?_alloc_at _ _ _ _ rfl]; rfl, ⟨none, 0, by rw [World.cell?_alloc_at _ _ _ _ rfl]; rfl, Nat.le_refl _, Kd.C_nil _ _, by simp⟩, by rw [World.frozen?_alloc_at _ _ _ _ rfl], ⟨List.Pairwise.nil, by simp⟩, by simp⟩
  have HI := Lib.hid hI
  clear hI
  go_enter Try.func62, Try.ntmps62
  go_wp2
  go_ret
  exact ⟨rfl, rfl, HI.out⟩
set_option maxHeartbeats 2000000 in
theorem add_calls (fr b : Nat) (most : Int) (L : List S60) (A : Option Addr) (c : Nat) (l : List S60) (w : World) (hs : IsSet w fr b most L) (hr : Kd.C k60 w A l.length l) (hc : l.length ≤ c) (hl : (L.length + l.length) * 16 ≤ 140737488355328) (hfr : fr ≤ w.heap.size) :
    Calls Try.prog 57 #[.pointer (some ⟨b, 0, none⟩), .slice A l.length c] w fun e w' => e = .returned (.int .i64 (addS most L l).1) ∧ IsSet w' fr b most (addS most L l).2 ∧ Mv b w w' := by
  have HS := Lib.hid hs
  have HR := Lib.hid hr
  have HC := Lib.hid hc
  obtain ⟨_, _, ⟨A0, c0, h1, h2, h3, _⟩, h4, hnf, hok⟩ := hs
  have X1 := Lib.hid (fun w' (h : RowKit.Below w.heap.size w w') => pw_cell_below h h1)
  have X2 := Lib.hid h2
  have X3 := Lib.hid (fun w' (h : RowKit.Below w.heap.size w w') => Kd.C_below h3 h)
  clear hr hc h1 h2 h3 h4
  by_cases hall : l.all mayB = true
  · by_cases he : l = []
    · have ha : addS most L l = (0, L) := by simp [addS, hall, he]
      rw [ha]
      subst he
      clear hall ha hl
      go_enter Try.func57, Try.ntmps57
      go_wp2_with (go_at_call 73; go_must (refine (all_calls A c [] w HR.out (by simp)).mono ?_; rintro e w1 ⟨rfl, hB1⟩))
      go_ret
      exact ⟨rfl, HS.out.below hB1, ⟨_, hB1, .inl rfl⟩⟩
    · have hne : ¬ ((l.length : Int) = 0) := by
        intro h; exact he (List.length_eq_zero_iff.1 (by omega))
      have hne' : ¬ (l.length = 0) := by omega
      have hokl : ∀ x ∈ L ++ l, Okx x := fun x hx => by
        rcases List.mem_append.1 hx with h | h
        · exact hok x h
        · exact Okx.of_may (List.all_eq_true.1 hall x h)
      have hnn := nrm_nf (L ++ l) (fun x hx => (hokl x hx).2.1)
      have hno := nrm_ok (L ++ l) hokl
      obtain ⟨x, hx⟩ : ∃ x, x = nrm (L ++ l) := ⟨_, rfl⟩
      have HX := Lib.hid hx
      rw [← hx] at hnn hno
      have ha : addS most L l = if (x.length : Int) > most then (7, L) else (0, x) := by simp [addS, hall, he, hx]
      have HA := Lib.hid (fun h : (x.length : Int) > most => ha.trans (if_pos h))
      have HA' := Lib.hid (fun h : ¬ (x.length : Int) > most => ha.trans (if_neg h))
      have HN := Lib.hid hnn
      have HNO := Lib.hid hno
      have HOK := Lib.hid hokl
      have HALL := Lib.hid hall
      have X0 := Lib.hid (fun w' (h : RowKit.Below w.heap.size w w') => pw_cell_below h HS.out.c0)
      clear ha hnn hno hokl hok hnf hx he hall
      have hll : l.length ≤ 9223372036854775807 := by omega
      have hbw := World.block_lt_of_cell? _ _ HS.out.c0
      have XF := Lib.hid (fun w' (h : RowKit.Below w.heap.size w w') => (h.frozen (p := ⟨b, 1, none⟩) hbw).trans HS.out.f1)
      clear hbw
      have HL1 := Lib.hid (show tot [L, l] * 16 ≤ 140737488355328 by simpa [tot] using hl)
      have HL2 := Lib.hid (show (L ++ l).length * 16 ≤ 140737488355328 by simpa using hl)
      have HF := Lib.hid (show [L, l].flatten = L ++ l by simp)
      obtain ⟨y, hy⟩ : ∃ y, y = L ++ l := ⟨_, rfl⟩
      rw [← hy] at HX HOK HL2 HF
      clear hy hl
      by_cases hbig : (x.length : Int) > most
      · have d1 : decide (most < (x.length : Int)) = true := by simpa using hbig
        have hbig' : most < (x.length : Int) := hbig
        have HAX := Lib.hid (HA.out hbig)
        clear hbig
        go_enter Try.func57, Try.ntmps57
        go_wp2_with (first
          | (go_at_call 73; go_must (refine (all_calls A c l w HR.out hll).mono ?_; rintro e w1 ⟨rfl, hB1⟩; rw [HALL.out]; have Y1 := X1.out _ hB1; have HB1 := Lib.hid hB1; clear hB1))
          | (go_at_call 75; go_must (refine (concat_calls (some ⟨w1.heap.size, 0, none⟩) 2 [L, l] _ (C_two w1 A0 A c0 c L l X2.out HC.out (X3.out _ HB1.out) (Kd.C_below HR.out HB1.out)) HL1.out (show 2 ≤ 9223372036854775807 by decide)).mono ?_; rintro e w2 ⟨v2, rfl, hB2, hR2⟩; rw [HF.out] at hR2; obtain ⟨A3, c3, hv3, _, hC3⟩ := Kd.R_reads hR2; subst hv3; have HB2 := Lib.hid (below_step HB1.out ((below_alloc (Below.refl w1.heap.size w1) _).trans (hB2.mono (by simp)))); have HC3 := Lib.hid hC3; clear hC3 hR2 hB2))
          | (go_at_call 74; go_must (refine (joined_nrm A3 c3 y w2 HC3.out HL2.out HOK.out).mono ?_; rintro e w3 ⟨v3, rfl, hB3, hR3⟩; rw [← HX.out] at hR3; obtain ⟨A4, c4, hv4⟩ := Kd.R_slice hR3; subst hv4; have HR3 := Lib.hid hR3; have HB3 := Lib.hid (below_step HB2.out hB3); have Z0 := X0.out _ HB3.out; have Z1 := X1.out _ HB3.out; have Zf := XF.out _ HB3.out; clear hR3 hB3)))
        go_ret
        rw [HAX.out]
        exact ⟨rfl, HS.out.below HB3.out, ⟨_, HB3.out, .inl rfl⟩⟩
      · have d1 : decide (most < (x.length : Int)) = false := by simpa using hbig
        have hbig' : ¬ most < (x.length : Int) := hbig
        have HAX := Lib.hid (HA'.out hbig)
        clear hbig
        go_enter Try.func57, Try.ntmps57
        go_wp2_with (first
          | (go_at_call 73; go_must (refine (all_calls A c l w HR.out hll).mono ?_; rintro e w1 ⟨rfl, hB1⟩; rw [HALL.out]; have Y1 := X1.out _ hB1; have HB1 := Lib.hid hB1; clear hB1))
          | (go_at_call 75; go_must (refine (concat_calls (some ⟨w1.heap.size, 0, none⟩) 2 [L, l] _ (C_two w1 A0 A c0 c L l X2.out HC.out (X3.out _ HB1.out) (Kd.C_below HR.out HB1.out)) HL1.out (show 2 ≤ 9223372036854775807 by decide)).mono ?_; rintro e w2 ⟨v2, rfl, hB2, hR2⟩; rw [HF.out] at hR2; obtain ⟨A3, c3, hv3, _, hC3⟩ := Kd.R_reads hR2; subst hv3; have HB2 := Lib.hid (below_step HB1.out ((below_alloc (Below.refl w1.heap.size w1) _).trans (hB2.mono (by simp)))); have HC3 := Lib.hid hC3; clear hC3 hR2 hB2))
          | (go_at_call 74; go_must (refine (joined_nrm A3 c3 y w2 HC3.out HL2.out HOK.out).mono ?_; rintro e w3 ⟨v3, rfl, hB3, hR3⟩; rw [← HX.out] at hR3; obtain ⟨A4, c4, hv4⟩ := Kd.R_slice hR3; subst hv4; have HR3 := Lib.hid hR3; have HB3 := Lib.hid (below_step HB2.out hB3); have Z0 := X0.out _ HB3.out; have Z1 := X1.out _ HB3.out; have Zf := XF.out _ HB3.out; clear hR3 hB3)))
        go_ret
        rw [HAX.out]
        exact ⟨rfl, HS.out.put HB3.out HR3.out (Nat.le_trans hfr HB2.out.size) HN.out.1 HNO.out, ⟨_, HB3.out, .inr ⟨_, rfl⟩⟩⟩
  · have hall' : l.all mayB = false := by simpa using hall
    have ha : addS most L l = (1, L) := by unfold addS; rw [if_neg hall]
    rw [ha]
    have HALL := Lib.hid hall'
    have hll : l.length ≤ 9223372036854775807 := by omega
    clear hall hall' ha
    go_enter Try.func57, Try.ntmps57
    go_wp2_with (go_at_call 73; go_must (refine (all_calls A c l w HR.out hll).mono ?_; rintro e w1 ⟨rfl, hB1⟩; rw [HALL.out]))
    go_ret
    exact ⟨rfl, HS.out.below hB1, ⟨_, hB1, .inl rfl⟩⟩
end Go.Proofs.Ytbebihphodafiaa.Iv

namespace Go.Proofs.Ytbebihphodafiaa.Iv
open Go.RowKit Go.Proofs.YtbebihphodafiaaW.PrintWords Go.Proofs.YtbebihphodafiaaW.PrintLast Go.Proofs.YtbebihphodafiaaW.PrintMore Go.Proofs.Ytbebihphodafiaa.PWb
set_option linter.unusedVariables false
set_option linter.unusedSimpArgs false

set_option maxHeartbeats 1000000 in
theorem extents_calls (fr b : Nat) (most : Int) (L : List S60) (w : World) (hs : IsSet w fr b most L) (hl : L.length * 16 ≤ 140737488355328) :
    Calls Try.prog 40 #[.pointer (some ⟨b, 0, none⟩)] w fun e w' => ∃ v, e = .returned v ∧ RowKit.Below w.heap.size w w' ∧ Kd.R k60 60 w' w.heap.size (fun _ => True) v L := by
  obtain ⟨_, _, ⟨A0, c0, h1, h2, h3, _⟩, _, _, _⟩ := hs
  have HC := Lib.hid h3
  clear h3
  go_enter Try.func40, Try.ntmps40
  go_wp2_with (go_at_call 66; go_must (refine (clone_calls A0 c0 L w HC.out hl).mono ?_; rintro e w1 ⟨v1, rfl, hB1, hR1⟩))
  go_ret
  exact ⟨_, rfl, hB1, hR1⟩
theorem extentsNil_calls (w : World) : Calls Try.prog 40 #[.pointer none] w fun e w' => e = .returned (.slice none 0 0) ∧ w' = w := by
  go_enter Try.func40, Try.ntmps40
  go_wp2
  go_ret
  exact ⟨rfl, rfl⟩
def sumS (l : List S60) : Int := (l.map (·.f1)).sum
theorem sumS_bounds : ∀ (l : List S60), (∀ x ∈ l, Okx x) → 0 ≤ sumS l ∧ sumS l ≤ l.length * 1048577 := by
  intro l
  induction l with
  | nil => intro _; simp [sumS]
  | cons e l ih =>
    intro h
    have h1 := ih (fun x hx => h x (by simp [hx]))
    obtain ⟨a, b, c⟩ := h e (by simp)
    simp only [sumS, List.map_cons, List.sum_cons, List.length_cons] at h1 ⊢
    omega
theorem sumS_succ (l : List S60) (k : Nat) (h : k < l.length) : sumS (l.take (k + 1)) = sumS (l.take k) + (rd_T60 l (k : Int)).f1 := by
  have e : rd_T60 l (k : Int) = l[k] := by simp [rd_T60, List.getD_eq_getElem?_getD, List.getElem?_eq_getElem h]
  rw [e, List.take_succ_eq_append_getElem h]
  simp only [sumS, List.map_append, List.sum_append, List.map_cons, List.map_nil, List.sum_cons, List.sum_nil, Int.add_zero]
set_option maxHeartbeats 2000000 in
theorem count_calls (fr b : Nat) (most : Int) (L : List S60) (w : World) (hs : IsSet w fr b most L) (hl : L.length ≤ 1000000) :
    Calls Try.prog 35 #[.pointer (some ⟨b, 0, none⟩)] w fun e w' => e = .returned (.int .i64 (sumS L)) ∧ RowKit.Below w.heap.size w w' := by
  have HS := Lib.hid hs
  have hOK := Lib.hid hs.ok
  clear hs
  go_enter Try.func35, Try.ntmps35
  go_wp2_with (go_at_call 40; go_must (refine (extents_calls fr b most L w HS.out (by omega)).mono ?_; rintro e w1 ⟨v1, rfl, hB1, hR1⟩; obtain ⟨A1, c1, hv1, _, hC1⟩ := Kd.R_reads hR1; subst hv1; have HB1 := Lib.hid hB1; have HC1 := Lib.hid (fun w' (h : RowKit.Below w1.heap.size w1 w') => Kd.C_below hC1 h); clear hB1 hR1 hC1))
  go_loopw [2, 4, 8] (fun n _ i wr => ∃ k : Nat, k ≤ L.length ∧ i = .int .i64 k ∧ n = .int .i64 (sumS (L.take k)) ∧ Aside0 (RowKit.Below w1.heap.size w1 wr)) (fun _ _ i _ => L.length - (intOf i).toNat)
  case atStart => exact ⟨0, Nat.zero_le _, rfl, by simp [sumS], ⟨Below.refl _ _⟩⟩
  case round =>
    obtain ⟨k, hk, rfl, rfl, HB⟩ := hrel
    by_cases hlt : k < L.length
    · obtain ⟨ad, rfl, c0, c1⟩ := at_T60 (HC1.out _ HB.out) (k : Int) (by omega) (by omega)
      simp only [Int.toNat_natCast] at c0 c1
      have hss := sumS_succ L k hlt
      have hb1 := sumS_bounds (L.take k) (fun x hx => hOK.out x (List.mem_of_mem_take hx))
      have hq := hOK.out (rd_T60 L (k : Int)) (by
        have e : rd_T60 L (k : Int) = L[k] := by simp [rd_T60, List.getD_eq_getElem?_getD, List.getElem?_eq_getElem hlt]
        rw [e]; exact List.getElem_mem hlt)
      obtain ⟨q, hqe⟩ : ∃ q, q = rd_T60 L (k : Int) := ⟨_, rfl⟩
      rw [← hqe] at c0 c1 hss hq
      obtain ⟨n, hn⟩ : ∃ n, n = sumS (L.take k) := ⟨_, rfl⟩
      rw [← hn] at hss hb1 ⊢
      obtain ⟨_, q1, q2⟩ := hq
      have hlen : (L.take k).length ≤ L.length := by rw [List.length_take]; omega
      have w2 : wrap64 (n + q.f1) = n + q.f1 := by unfold wrap64; omega
      have HSS := Lib.hid hss
      have HW := Lib.hid w2
      have b2 : (k : Int) < (L.length : Int) := by omega
      clear hss hn hqe hb1 q1 q2 hlen
      go_wp2
      go_roundw
      case rel => exact ⟨k + 1, by omega, by go_num, by rw [HSS.out, HW.out], ⟨below_alloc HB.out _⟩⟩
      case measure => simp [intOf]; omega
    · obtain rfl : k = L.length := by omega
      have hF : L.take L.length = L := List.take_length
      rw [hF]
      have b2 : ¬ (L.length : Int) < (L.length : Int) := by omega
      clear hF
      go_wp2
      try rw [Exit.noGoto_ret]
      go_ret
      exact ⟨rfl, below_step HB1.out HB.out⟩
set_option maxHeartbeats 1000000 in
theorem countNil_calls (w : World) : Calls Try.prog 35 #[.pointer none] w fun e w' => e = .returned (.int .i64 0) ∧ w' = w := by
  go_enter Try.func35, Try.ntmps35
  go_wp2_with (go_at_call 40; go_must (refine (extentsNil_calls _).mono ?_; rintro e w1 ⟨rfl, rfl⟩))
  go_loop [2, 4, 8] (fun n _ i => n = .int .i64 0 ∧ i = .int .i64 0) (fun _ _ i => 0)
  case atStart => exact ⟨rfl, rfl⟩
  case round =>
    obtain ⟨rfl, rfl⟩ := hrel
    go_wp2
    try rw [Exit.noGoto_ret]
    go_ret
    exact ⟨rfl, rfl⟩
end Go.Proofs.Ytbebihphodafiaa.Iv

namespace Go.Proofs.Ytbebihphodafiaa.Iv
open Go.Proofs.Ytbebihphodafiaa.PWb
set_option linter.unusedVariables false
set_option linter.unusedSimpArgs false
/-! ### What the laws ask -/
theorem may_len (l : List S60) (h : l.all mayB = true) : ∀ e ∈ l, 1 ≤ e.f1 := fun e he => ((mayB_iff e).1 (List.all_eq_true.1 h e he)).2.2.1
theorem nf_nrm (L : List S60) (h : Nf L) : nrm L = L := nrm_of L L h.2 h (fun _ => Iff.rfl)
theorem add_ok (most : Int) (L l : List S60) (hL : Nf L) (hl : l.all mayB = true) (hm : (L.length + l.length : Int) ≤ most) : addS most L l = (0, nrm (L ++ l)) := by
  unfold addS
  rw [if_pos hl]
  by_cases he : l = []
  · rw [if_pos he, he, List.append_nil, nf_nrm L hL]
  · rw [if_neg he, if_neg]
    have := nrm_len (L ++ l)
    rw [List.length_append] at this
    omega
theorem add_bad (most : Int) (L l : List S60) (hl : ¬ l.all mayB = true) : addS most L l = (1, L) := by
  unfold addS; rw [if_neg hl]
theorem nrm_absorb (a b c : List S60) (ha : ∀ e ∈ a, 1 ≤ e.f1) (hb : ∀ e ∈ b, 1 ≤ e.f1) (hp : (a ++ b).Perm c) : nrm (nrm a ++ b) = nrm c := by
  have hc : ∀ e ∈ c, 1 ≤ e.f1 := fun e he => by
    rcases List.mem_append.1 (hp.mem_iff.2 he) with h | h
    · exact ha e h
    · exact hb e h
  obtain ⟨n1, n2⟩ := nrm_nf a ha
  obtain ⟨c1, c2⟩ := nrm_nf c hc
  refine nrm_of _ _ (fun e he => ?_) c1 (fun x => ?_)
  · rcases List.mem_append.1 he with h | h
    · exact n1.2 e h
    · exact hb e h
  · rw [c2, cov_append, n2, ← cov_append, cov_perm hp]
/-! ### A set and its room -/
def rowR (m : Nat) : List S60 := (List.range m).map fun (j : Nat) => (⟨2 * (j : Int), 1⟩ : S60)
theorem rowR_succ (m : Nat) : rowR (m + 1) = rowR m ++ [⟨2 * (m : Int), 1⟩] := by
  simp [rowR, List.range_succ]
theorem rowR_len (m : Nat) : (rowR m).length = m := by simp [rowR]
theorem rowR_mem (m : Nat) (e : S60) (h : e ∈ rowR m) : 0 ≤ e.f0 ∧ e.f0 + 2 ≤ 2 * m ∧ e.f1 = 1 := by
  simp only [rowR, List.mem_map, List.mem_range] at h
  obtain ⟨j, hj, rfl⟩ := h
  exact ⟨by simp only; omega, by simp only; omega, rfl⟩
theorem nf_snoc (L : List S60) (x : S60) (h : Nf L) (hx : 1 ≤ x.f1) (hb : ∀ e ∈ L, e.f0 + e.f1 < x.f0) : Nf (L ++ [x]) := by
  refine ⟨?_, fun e he => ?_⟩
  · rw [List.pairwise_append]
    exact ⟨h.1, List.pairwise_singleton _ _, fun a ha b hb' => by simp at hb'; subst hb'; exact hb a ha⟩
  · rcases List.mem_append.1 he with h' | h'
    · exact h.2 e h'
    · simp at h'; subst h'; exact hx
theorem rowR_nf (m : Nat) : Nf (rowR m) := by
  induction m with
  | zero => exact ⟨List.Pairwise.nil, by simp [rowR]⟩
  | succ m ih =>
    rw [rowR_succ]
    exact nf_snoc _ _ ih (Int.le_refl _) (fun e he => by have := rowR_mem m e he; simp only; omega)
theorem rowR_sum (m : Nat) : sumS (rowR m) = m := by
  induction m with
  | zero => rfl
  | succ m ih => rw [rowR_succ]; simp only [sumS, List.map_append, List.sum_append, List.map_cons, List.map_nil, List.sum_cons, List.sum_nil] at ih ⊢; rw [ih]; simp
theorem may_at (i : Nat) (h : i ≤ 60) : [(⟨2 * (i : Int), 1⟩ : S60)].all mayB = true := by
  simp [mayB_iff]; omega
theorem room_in (most : Nat) (i : Nat) (hi : i < most) (h60 : i ≤ 60) : addS most (rowR i) [⟨2 * (i : Int), 1⟩] = (0, rowR (i + 1)) := by
  have hn := rowR_nf (i + 1)
  have hl := rowR_len (i + 1)
  rw [rowR_succ] at hn hl ⊢
  unfold addS
  rw [if_pos (may_at i h60), if_neg (by simp), nf_nrm _ hn, if_neg (by rw [hl]; omega)]
theorem room_out (most : Nat) (i : Nat) (hi : most ≤ i) (h60 : i ≤ 60) : addS most (rowR most) [⟨2 * (i : Int), 1⟩] = (7, rowR most) := by
  have hn : Nf (rowR most ++ [⟨2 * (i : Int), 1⟩]) := nf_snoc _ _ (rowR_nf most) (Int.le_refl _) (fun e he => by have := rowR_mem most e he; simp only; omega)
  unfold addS
  rw [if_pos (may_at i h60), if_neg (by simp), nf_nrm _ hn, if_pos (by rw [List.length_append, rowR_len]; simp; omega)]
theorem room_join (most k : Nat) (hk : 0 < k) (h : k ≤ most) (h60 : k ≤ 60) : addS most (rowR k) [⟨0, 2 * (k : Int)⟩] = (0, [⟨0, 2 * (k : Int)⟩]) := by
  have hm : [(⟨0, 2 * (k : Int)⟩ : S60)].all mayB = true := by simp [mayB_iff]; omega
  have hn : nrm (rowR k ++ [⟨0, 2 * (k : Int)⟩]) = [⟨0, 2 * (k : Int)⟩] := by
    refine nrm_of _ _ (fun e he => ?_) ⟨List.pairwise_singleton _ _, by simp; omega⟩ (fun x => ?_)
    · rcases List.mem_append.1 he with h' | h'
      · have := rowR_mem k e h'; omega
      · simp at h'; subst h'; simp only; omega
    · rw [cov_append, cov_one]
      constructor
      · exact .inr
      · rintro (⟨e, he, hx⟩ | hx)
        · have := rowR_mem k e he
          unfold In at hx ⊢
          simp only
          omega
        · exact hx
  unfold addS
  rw [if_pos hm, if_neg (by simp), hn, if_neg (by simp; omega)]
end Go.Proofs.Ytbebihphodafiaa.Iv

namespace Go.Proofs.Ytbebihphodafiaa.Iv
open Go.RowKit Go.Proofs.YtbebihphodafiaaW.PrintWords Go.Proofs.YtbebihphodafiaaW.PrintLast Go.Proofs.YtbebihphodafiaaW.PrintMore Go.Proofs.Ytbebihphodafiaa.PWb Go.Maps Go.Shelf Go.Sort
set_option linter.unusedVariables false
set_option linter.unusedSimpArgs false

theorem keys_calls (mb : Option Nat) (w : World) : Calls Try.prog 52 #[.map mb] w fun e w' => e = .returned (.func (.func 70) #[] #[.pointer (some ⟨w.heap.size, 0, none⟩)]) ∧ w' = w.alloc (.cells #[.map mb] 99) :=
  (callsIn_wide (n := 5)).1 (AnyZI.keys_in keysX Fence.wide 5 trivial rfl mb w)
theorem sortsF (m : Nat) : AnyZI.SortsIn Try.prog sortedX_ren Fence.wide m :=
  ⟨fun blk off cap ss W hH hblk hsz => callsIn_wide.2 (AnyM.slices_Sort_int sortI blk off cap ss W hH hblk hsz),
   fun p cap W => callsIn_wide.2 (AnyM.slices_Sort_int_none sortI p cap W)⟩
def keysM (M : List S31) : List Int := M.map (·.f0)
theorem keysM_perm {W : World} {fr mb : Nat} {blocks most : Int} {M : List S31} (h : IsBuf W fr mb blocks most M) {D : DataW Value} (hD : W.ownsMap Try.prog 3 Rh mb M.length D) (hn : ∀ x, hasM M x = false → has D (ky x) = false) (hh : ∀ p ∈ M, Held W fr D p) : (keysM M).Perm (intKeys D) := by
  obtain ⟨es, he, hp⟩ := tidy_of hD
  obtain ⟨es', he', hk⟩ := hD.keysOf
  rw [he] at he'
  have e2 : es = es' := by injection he'
  subst e2
  rw [he]
  refine perm_intKeys hp (fun p hp => ?_) (List.Pairwise.map _ (fun a b h => Int.ne_of_lt h) h.srt) (fun x => ?_)
  · obtain ⟨key, hkey⟩ := hk p hp
    obtain ⟨x, _, e, _⟩ := Maps.keyOf_i64 Try.underlying3 hkey
    exact ⟨x, e⟩
  · rw [← he]
    constructor
    · intro hx
      obtain ⟨p, hp, rfl⟩ := List.mem_map.1 hx
      obtain ⟨_, _, e1, _⟩ := hh p hp
      exact e1
    · intro hx
      cases hm : hasM M x with
      | false => rw [hn x hm] at hx; cases hx
      | true => obtain ⟨p, hp, rfl⟩ := (hasM_iff M x).1 hm; exact List.mem_map.2 ⟨p, hp, rfl⟩
theorem keysM_sorted {M : List S31} (h : Rise M) {ss : List Int} (hp : ss.Perm (keysM M)) : ss.mergeSort (fun x y => decide (x ≤ y)) = keysM M := by
  rw [mergeSort_of_perm_i hp]
  refine List.mergeSort_of_pairwise (List.Pairwise.map _ (fun a b h => ?_) h)
  simp; omega
theorem at_int {W : World} {A : Option Addr} {n : Nat} {l : List Int} (h : Kd.C (Kd.int .i64) W A n l) (i : Int) (h0 : 0 ≤ i) (h1 : i < n) : ∃ ad, A = some ad ∧ W.cell? (ad.add i.toNat) = some (.int .i64 (l.getD i.toNat 0)) := by
  obtain ⟨ad, c, e, _, hK, hc0⟩ := Kd.C_get h (0 : Int) i h0 h1
  have hc : ∀ j u, c[j]? = some u → W.cell? (ad.add (i.toNat * 1 + j)) = some u := hc0
  obtain rfl := hK
  exact ⟨ad, e, by have := hc 0 _ rfl; rwa [Nat.mul_one, Nat.add_zero] at this⟩
theorem sorted_calls (fr mb : Nat) (blocks most : Int) (M : List S31) (w : World) (hb : IsBuf w fr mb blocks most M) :
    Calls Try.prog 51 #[.func (.func 70) #[] #[.pointer (some ⟨w.heap.size, 0, none⟩)]] (w.alloc (.cells #[.map (some mb)] 99)) fun e w' => ∃ A c, e = .returned (.slice A M.length c) ∧ RowKit.Below w.heap.size w w' ∧ Kd.C (Kd.int .i64) w' A M.length (keysM M) := by
  obtain ⟨D, d1, d2, d3, d4⟩ := hb.map
  have hseq : SeqGives Fence.wide 2 Try.prog 70 #[.pointer (some ⟨w.heap.size, 0, none⟩)] encZ (fun ss => ss.Perm (intKeys D)) (Maps.size D) (w.alloc (.cells #[.map (some mb)] 99)) :=
    AnyZI.keys_gives (ρ := keysX_ren) { keysX with } Fence.wide _ trivial rfl (by omega) w.heap.size mb M.length D _ (by simp) (World.cell?_alloc_at _ _ _ _ rfl) (d1.alloc _)
  have hl := hb.len
  have cS := AnyZI.sorted_in sortedX Fence.wide 5 trivial trivial trivial trivial rfl (by omega) (sortsF _) (enters_of Try.func69 (by kernel_rfl) rfl) 70 #[.pointer (some ⟨w.heap.size, 0, none⟩)] trivial (enters_of Try.func70 (by kernel_rfl) rfl) _ _ (by rw [d2]; unfold maxLen; omega) (by rw [d2]; omega) _ hseq
  change CallsIn _ _ Try.prog 51 _ _ _ at cS
  refine (callsIn_wide.1 cS).mono ?_
  rintro e w' ⟨v, ss, rfl, hS, hrow, _, hB⟩
  have hp : ss.Perm (keysM M) := hS.trans (keysM_perm hb d1 d3 d4).symm
  have hlen : ss.length = M.length := by rw [hp.length_eq]; simp [keysM]
  rw [keysM_sorted hb.srt hp, hlen] at hrow
  obtain ⟨A, c, rfl, hr⟩ := own_reads (k := .i64) (xs := keysM M) hrow
  exact ⟨A, c, rfl, below_step (below_alloc (Below.refl _ _) _) hB, Kd.C_of_reads (d := (0 : Int)) (h1 := fun _ => rfl) hr⟩
section
variable {P : Program} {ops : Array Oper} {rest : List Oper} {o : Oper} {a : Act} {Q : Exit → Act → World → Prop}
/-- append(v, one write), its bytes the call's own. -/
theorem app_put {w0 W : World} (base : Nat) (hgd : o.guard = none) (s x : Operand)
    (ho : o.op = .call { callee := .builtin .append, args := #[s, x], argTypes := #[27, 27] })
    (v : Value) (xs : List S31) (p : S31) (u : Value) (hs : a.eval s = v) (hx : a.eval x = .slice (some ⟨W.heap.size, 0, none⟩) 1 1)
    (hp : Kd.R kb 5 W base (fun k => True ∧ some k ≠ v.ownBlock) u p.f1) (HO : Kd.R k31 31 W base (fun _ => True) v xs)
    (HB : Below base w0 W) (hbase : base ≤ W.heap.size) (hl : (xs.length + 1) * 32 ≤ 140737488355328)
    (h : ∀ v1 w1, Kd.R k31 31 w1 base (fun _ => True) v1 (xs ++ [p]) → Below base w0 w1 → W.grownBy w1 v.ownBlock → (v1.ownBlock = v.ownBlock ∨ ∃ b, v1.ownBlock = some b ∧ W.heap.size ≤ b) → wpList Try.prog ops Q rest (a.put o.dst v1) w1) :
    wpList Try.prog ops Q (o :: rest) a (W.alloc (.cells #[.int .i64 p.f0, u] 31)) :=
  Kd.R_append k31 (w0 := w0) base hgd s x 27 31 (.agg #[.int .i64 0, .slice none 0 0]) 32 ho Try.underlying27 info31 rfl (by decide) (by decide) v xs p [.int .i64 p.f0, u] (fun _ => True) (fun k => True ∧ some k ≠ v.ownBlock) hs hx (k31_mkM W base _ p hp) (fun _ h => h) (fun _ _ => trivial) HO HB hbase hl h
end
set_option maxHeartbeats 4000000 in
set_option maxRecDepth 100000 in
theorem puts_calls (fr mb : Nat) (blocks most : Int) (M : List S31) (w : World) (hb : IsBuf w fr mb blocks most M) :
    Calls Try.prog 21 #[.pointer (some ⟨mb + 1, 0, none⟩)] w fun e w' => ∃ v, e = .returned v ∧ RowKit.Below w.heap.size w w' ∧ Kd.R k31 31 w' w.heap.size (fun _ => True) v M := by
  have HB := Lib.hid (fun w' (h : RowKit.Below w.heap.size w w') => hb.below h)
  have HS := Lib.hid (sorted_calls fr mb blocks most M w hb)
  have c2 := hb.c2
  have hl := hb.len
  have HM := Lib.hid (And.intro hb.srt (And.intro hb.rng hb.bl))
  clear hb
  go_enter Try.func21, Try.ntmps21
  go_wp2_with (first
    | (go_at_call 52; go_must (refine (keys_calls (some mb) _).mono ?_; rintro _ _ ⟨rfl, rfl⟩))
    | (go_at_call 51; go_must (refine HS.out.mono ?_; rintro _ w1 ⟨A1, c1, rfl, hB1, hC1⟩; have HB1 := Lib.hid hB1; have HC1 := Lib.hid (fun w' (h : RowKit.Below w1.heap.size w1 w') => Kd.C_below hC1 h); clear hB1 hC1)))
  clear HS c2
  go_loopw [2, 4, 14] (fun v _ i wr => ∃ k : Nat, k ≤ M.length ∧ i = .int .i64 k ∧ Aside0 (RowKit.Below w1.heap.size w1 wr ∧ Kd.R k31 31 wr w1.heap.size (fun _ => True) v (M.take k))) (fun _ _ i _ => M.length - (intOf i).toNat)
  case atStart => exact ⟨0, Nat.zero_le _, rfl, ⟨Below.refl _ _, by simpa using Kd.R_nil _ _ _ _ _⟩⟩
  case round =>
    obtain ⟨k, hk, rfl, HO⟩ := hrel
    by_cases hlt : k < M.length
    · obtain ⟨ad, rfl, x0⟩ := at_int (HC1.out _ HO.out.1) (k : Int) (by omega) (by omega)
      simp only [Int.toNat_natCast] at x0
      obtain ⟨q, hq⟩ : ∃ q, q = M[k] := ⟨_, rfl⟩
      have hqe : (keysM M).getD k 0 = q.f0 := by
        unfold keysM
        rw [List.getD_eq_getElem?_getD, List.getElem?_map, List.getElem?_eq_getElem hlt, hq]
        rfl
      rw [hqe] at x0
      have hqm : q ∈ M := by rw [hq]; exact List.getElem_mem hlt
      obtain ⟨r0, r1, r2⟩ := HM.out.2.1 q hqm
      have hbl := HM.out.2.2
      have HT := Lib.hid (show M.take (k + 1) = M.take k ++ [q] by rw [hq]; exact List.take_succ_eq_append_getElem hlt)
      have hbw := HB.out _ (Below.trans HB1.out (HO.out.1.mono HB1.out.size))
      obtain ⟨A5, c5, hlk, hc5, hC5⟩ := hbw.look q.f0 (wf_small q.f0 r0 (by omega)) false
      replace hlk := hlk wr rfl
      rw [if_neg (by decide), lookM_mem HM.out.1 hqm] at hlk
      rw [lookM_mem HM.out.1 hqm] at hC5
      have y2 := hbw.c2
      have HC5 := Lib.hid hC5
      have b2 : (k : Int) < (M.length : Int) := by omega
      have hv := Kd.R_slice HO.out.2
      obtain ⟨A6, c6, hv6⟩ := hv
      subst hv6
      have hol : (M.take k).length = k := by rw [List.length_take]; omega
      have HOL := Lib.hid hol
      rw [hol] at HO ⊢
      have HR := Lib.hid HO.out.2
      have HBB := Lib.hid HO.out.1
      have H40 := Lib.hid r2
      clear hq hqe hqm r2 hbw hc5 hC5 hol HO
      go_wp2_with (first
        | (go_at_call 49; go_must (refine (cloneB_calls A5 c5 q.f1 _ HC5.out (by have := H40.out; omega)).mono ?_; rintro _ w6 ⟨v6, rfl, hB6, hR6⟩; obtain ⟨A7, c7, hv7⟩ := Kd.R_slice hR6; subst hv7; have HB6 := Lib.hid (below_step HBB.out hB6); have HR6 := Lib.hid (Kd.R_lower (Kd.R_new' hR6 (Kd.R_lt HR.out)) HBB.out.size); have HO6 := Lib.hid (Kd.R_below HR.out hB6); clear hB6 hR6))
        | ((with_reducible refine gate_builtin (b := .append) (xs := #[.tmp 18, .tmp 28]) rfl ?_); at_builtin; go_must (refine app_put (w0 := w1) w1.heap.size rfl (.tmp 18) (.tmp 28) rfl (.slice A6 k c6) (M.take k) q (.slice A7 q.f1.length c7) rfl rfl HR6.out HO6.out HB6.out HB6.out.size (by have := HOL.out; omega) ?_; intro v7 w7 hR7 hB7 hg7 _; have HR7 := Lib.hid hR7; have HB7 := Lib.hid hB7; clear hR7 hB7 hg7)))
      go_roundw
      case rel => exact ⟨k + 1, by omega, by go_num, ⟨HB7.out, by rw [HT.out]; exact HR7.out⟩⟩
      case measure => simp [intOf]; omega
    · obtain rfl : k = M.length := by omega
      rw [List.take_length] at HO
      have b2 : ¬ (M.length : Int) < (M.length : Int) := by omega
      go_wp2
      try rw [Exit.noGoto_ret]
      go_ret
      exact ⟨_, rfl, Below.trans HB1.out (HO.out.1.mono HB1.out.size), Kd.R_lower HO.out.2 HB1.out.size⟩
set_option maxHeartbeats 1000000 in
theorem len_calls (fr mb : Nat) (blocks most : Int) (M : List S31) (w : World) (hb : IsBuf w fr mb blocks most M) :
    Calls Try.prog 18 #[.pointer (some ⟨mb + 1, 0, none⟩)] w fun e w' => e = .returned (.int .i64 M.length) ∧ RowKit.Below w.heap.size w w' := by
  have HS := Lib.hid (puts_calls fr mb blocks most M w hb)
  clear hb
  go_enter Try.func18, Try.ntmps18
  go_wp2_with (go_at_call 21; go_must (refine HS.out.mono ?_; rintro _ w1 ⟨v1, rfl, hB1, hR1⟩; obtain ⟨A1, c1, hv1⟩ := Kd.R_slice hR1; subst hv1))
  go_ret
  exact ⟨rfl, hB1⟩
theorem putsNil_calls (w : World) : Calls Try.prog 21 #[.pointer none] w fun e w' => e = .returned (.slice none 0 0) ∧ w' = w := by
  go_enter Try.func21, Try.ntmps21
  go_wp2
  go_ret
  exact ⟨rfl, rfl⟩
theorem lenNil_calls (w : World) : Calls Try.prog 18 #[.pointer none] w fun e w' => e = .returned (.int .i64 0) ∧ w' = w := by
  go_enter Try.func18, Try.ntmps18
  go_wp2_with (go_at_call 21; go_must (refine (putsNil_calls w).mono ?_; rintro _ w1 ⟨rfl, rfl⟩))
  go_ret
  exact ⟨rfl, rfl⟩
end Go.Proofs.Ytbebihphodafiaa.Iv

namespace Go.Proofs.Ytbebihphodafiaa.PWb
open Go.RowKit Go.Proofs.YtbebihphodafiaaW.PrintWords Go.Proofs.YtbebihphodafiaaW.PrintLast Go.Proofs.YtbebihphodafiaaW.PrintMore
attribute [local go_sem] max2_int min2_int max_two min_two max_three min_three max_four min_four   -- for this text's walks alone
set_option linter.unusedVariables false
set_option linter.unusedSimpArgs false

-- NOT PRINTED: function 14 (wbuf_New)

/-! ### scarpalike_Round: function 20 -/
def scarpalike_Round.f (a0 : Int) (a1 : Int) : Option (Int) := if a1 = 0 then (none) else (if (Int.tmod a0 a1) < 0 then (some (wrap64 ((Int.tmod a0 a1) + a1))) else (some (Int.tmod a0 a1)))
set_option maxHeartbeats 8000000 in
set_option maxRecDepth 100000 in
theorem scarpalike_Round.calls (a0 : Int) (a1 : Int) (r : Int) (w : World) (h : scarpalike_Round.f a0 a1 = some r) :
    Calls Try.prog 20 #[.int .i64 a0, .int .i64 a1] w fun e w' => e = .returned (.int .i64 r) ∧ Drawn0 w w' := by
  have H : (if a1 = 0 then (none) else (if (Int.tmod a0 a1) < 0 then (some (wrap64 ((Int.tmod a0 a1) + a1))) else (some (Int.tmod a0 a1)))) = some r := h
  clear h
  by_cases c3 : a1 = 0
  · rw [if_pos c3] at H
    exact absurd H (by simp)
  · rw [if_neg c3] at H
    have c3b0 : (a1 == 0) = false := beq_eq_false_iff_ne.mpr c3
    have c3b1 : (a1 != 0) = true := bne_iff_ne.mpr c3
    by_cases c4 : (Int.tmod a0 a1) < 0
    · rw [if_pos c4] at H
      have c4b0 : decide ((Int.tmod a0 a1) < 0) = true := decide_eq_true c4
      clear c4
      obtain rfl := Option.some.inj H
      go_enter Try.func20, Try.ntmps20
      go_wp2
      go_ret
      exact ⟨by first | rfl | (simp; done) | (simp [*]; done), by repeat (first | exact Drawn0.refl _ | apply Drawn0.step)⟩
    · rw [if_neg c4] at H
      have c4b0 : decide ((Int.tmod a0 a1) < 0) = false := decide_eq_false c4
      clear c4
      obtain rfl := Option.some.inj H
      go_enter Try.func20, Try.ntmps20
      go_wp2
      go_ret
      exact ⟨by first | rfl | (simp; done) | (simp [*]; done), by repeat (first | exact Drawn0.refl _ | apply Drawn0.step)⟩

/-! ### scarpalike_Block: function 16 -/
def scarpalike_Block.l0 : Nat → Int → List Int → Int → Option (List Int)
  | 0, _, _, _ => none
  | k + 1, x1, x5, x6 => if x6 < (x5.length : Int) then ((scarpalike_Round.f (wrap64 ((wrap64 ((wrap64 (x6 * x6)) + (wrap64 (x1 * 7)))) + 1)) 251).bind fun t104 => (if 0 ≤ x6 then (scarpalike_Block.l0 k x1 (x5.set (x6 : Int).toNat ((t104) % 256)) (wrap64 (x6 + 1))) else (none))) else (some x5)
def scarpalike_Block.f (k : Nat) (a0 : Int) (a1 : Int) : Option (List Int) := if 0 ≤ (mx a0 0) then (if (mx a0 0 : Int).toNat ≤ 281474976710656 then (scarpalike_Block.l0 k a1 (List.replicate (mx a0 0 : Int).toNat 0) 0) else (none)) else (none)
theorem scarpalike_Block.mono_l : ∀ k, (∀ y0 y1 y2, LeO (scarpalike_Block.l0 k y0 y1 y2) (scarpalike_Block.l0 (k + 1) y0 y1 y2))
  | 0 => fun _ _ _ r h => by simp [scarpalike_Block.l0] at h
  | k + 1 => by
    have ih0 := scarpalike_Block.mono_l k
    · intro y0 y1 y2
      unfold scarpalike_Block.l0
      repeat' first
      | (with_reducible exact ih0 _ _ _)
      | (with_reducible exact LeO.refl _)
      | (with_reducible exact LeO.none _)
      | (with_reducible refine LeO.ite ?_ ?_)
      | (with_reducible refine LeO.bind ?_ (fun _ => ?_))
      | exact ih0 _ _ _
      | exact LeO.none _
      | refine LeO.ite ?_ ?_
      | refine LeO.bind ?_ (fun _ => ?_)
theorem scarpalike_Block.mono : ∀ a0 a1 k, LeO (scarpalike_Block.f k a0 a1) (scarpalike_Block.f (k + 1) a0 a1) := by
  intro a0 a1 k
  have ih0 := scarpalike_Block.mono_l k
  unfold scarpalike_Block.f
  repeat' first
      | (with_reducible exact ih0 _ _ _)
      | (with_reducible exact LeO.refl _)
      | (with_reducible exact LeO.none _)
      | (with_reducible refine LeO.ite ?_ ?_)
      | (with_reducible refine LeO.bind ?_ (fun _ => ?_))
      | exact ih0 _ _ _
      | exact LeO.none _
      | refine LeO.ite ?_ ?_
      | refine LeO.bind ?_ (fun _ => ?_)
set_option maxHeartbeats 8000000 in
set_option maxRecDepth 100000 in
theorem scarpalike_Block.calls (k : Nat) (a0 : Int) (a1 : Int) (r : List Int) (w : World) (h : scarpalike_Block.f k a0 a1 = some r) :
    Calls Try.prog 16 #[.int .i64 a0, .int .i64 a1] w fun e w' => ∃ v0_ : Value, e = .returned (v0_) ∧ Kd.R (Kd.int .u8) 5 w' w.heap.size (fun _ => True) v0_ r ∧ Below w.heap.size w w' := by
  have HB := Aside0.mk (Below.refl w.heap.size w)
  have H : (if 0 ≤ (mx a0 0) then (if (mx a0 0 : Int).toNat ≤ 281474976710656 then (scarpalike_Block.l0 k a1 (List.replicate (mx a0 0 : Int).toNat 0) 0) else (none)) else (none)) = some r := h
  clear h
  obtain ⟨ji3, hji3⟩ : ∃ j_ : Int, (mx a0 0) = j_ := ⟨_, rfl⟩
  replace H : (if 0 ≤ (ji3) then (if (ji3 : Int).toNat ≤ 281474976710656 then (scarpalike_Block.l0 k a1 (List.replicate (ji3 : Int).toNat 0) 0) else (none)) else (none)) = some r := by first | (rw [hji3] at H; exact H) | (simp only [hji3] at H ⊢; exact H)
  (try (have hji3l : 0 ≤ ji3 := by (rw [← hji3]; unfold mx; (repeat' split) <;> omega)))
  (try (have hji3m : 0 ≤ ji3 := by omega))
  have hji3_ : (if a0 < 0 then 0 else a0) = ji3 := hji3
  by_cases c4 : 0 ≤ (ji3)
  · rw [if_pos c4] at H
    have c4b0 := eq_true c4
    have c4b1 : decide (0 ≤ (ji3)) = true := decide_eq_true c4
    clear c4
    by_cases c5 : (ji3 : Int).toNat ≤ 281474976710656
    · rw [if_pos c5] at H
      have c5b0 := eq_true c5
      have c5b1 : decide ((ji3 : Int).toNat ≤ 281474976710656) = true := decide_eq_true c5
      clear c5
      obtain ⟨y101, hy101⟩ : ∃ y_ : List Int, y_ = (List.replicate (ji3 : Int).toNat 0) := ⟨_, rfl⟩
      replace H : (scarpalike_Block.l0 k a1 y101 0) = some r := by first | (rw [hy101]; with_reducible exact H) | (have H2_ := (Option.bind_some _ _).symm.trans H; rw [hy101]; with_reducible exact H2_) | (have H2_ := (Option.bind_some _ _).symm.trans H; with_reducible exact H2_) | with_reducible exact H | (rw [hy101]; exact H) | exact H
      have Ny101 := Aside0.mk hy101
      clear hy101
      have H' := Aside0.mk H
      clear H
      go_enter Try.func16, Try.ntmps16
      go_wp2_with (first | ((with_reducible refine gate_dst (N := 9) rfl ?_); refine Kd.R_make (Kd.int .u8) _ 5 rfl (N := 9) rfl 28 _ _ rfl ji3 rfl rfl Try.underlying28 (.int .u8 0) 1 info5 rfl (by decide) (by omega) 0 (ok := fun _ => True) (okp := fun _ => True) rfl (fun _ hk => hk) trivial (of_decide_eq_true (by first | (with_reducible assumption) | assumption)) (Nat.le_trans (Nat.mul_le_mul_right _ (of_decide_eq_true (by first | (with_reducible assumption) | assumption) : ji3.toNat ≤ 281474976710656)) (by omega)) (Below.refl _ _) (Nat.le_refl _) ?_; intro v102 w6 ho7 hb hg_ hnew_; clear hg_ hnew_; (first | rw [← Ny101.out] at ho7 | (simp only [Int.reduceToNat] at ho7; rw [← Ny101.out] at ho7)); have n0_ := Aside0.mk (Kd.R_lower ho7 (below_size (by repeat (first | (with_reducible first | exact HB.out | apply below_alloc | apply pw_below_drewN | apply below_drew1) | exact HB.out)))); have n1_ := Aside0.mk (below_step (by repeat (first | (with_reducible first | exact HB.out | apply below_alloc | apply pw_below_drewN | apply below_drew1) | exact HB.out)) hb); clear HB; have HO103 := n0_; have HB := n1_; clear n0_ n1_; clear hb ho7))
      go_loopg [6] k (fun kq v6 w' => ∃ (x5_1 : List Int) (x6_1 : Int), v6 = .int .i64 x6_1 ∧ Aside0 (scarpalike_Block.l0 kq a1 x5_1 x6_1 = some r) ∧ Aside0 (kq ≤ k) ∧ Aside0 (Kd.R (Kd.int .u8) 5 w' w.heap.size (fun _ => True) v102 x5_1) ∧ Aside0 (Below w.heap.size w w'))
      case atStart => exact ⟨(y101), (0), (by first | rfl | (simp; done) | (simp [*]; done)), H', ⟨Nat.le_refl _⟩, ⟨by (with_reducible repeat (first | apply Kd.R_alloc | apply Kd.R_drewN | apply Kd.R_drew)); exact HO103.out⟩, ⟨by repeat (first | (with_reducible first | exact HB.out | apply below_alloc | apply pw_below_drewN | apply below_drew1) | exact HB.out)⟩⟩
      case round =>
        clear H'
        try clear c1
        try clear p2
        try clear c4
        try clear c4b0
        try clear c4b1
        try clear c5
        try clear c5b0
        try clear c5b1
        obtain ⟨x5_1, x6_1, rfl, HA, HK1, HO_5, HB⟩ := hrel
        cases gk with
        | zero => exact absurd HA.out (by simp [scarpalike_Block.l0])
        | succ k1 =>
          have H := HA.out
          clear HA
          simp only [scarpalike_Block.l0] at H
          by_cases c8 : x6_1 < (x5_1.length : Int)
          · rw [if_pos c8] at H
            have c8b0 : decide (x6_1 < (x5_1.length : Int)) = true := decide_eq_true c8
            clear c8
            replace H := Option.bind_eq_some_iff.mp H
            obtain ⟨t104, A90, H⟩ := H
            replace H : (if 0 ≤ x6_1 then (scarpalike_Block.l0 k1 a1 (x5_1.set (x6_1 : Int).toNat ((t104) % 256)) (wrap64 (x6_1 + 1))) else (none)) = some r := H
            have A9 := Aside0.mk A90
            clear A90
            by_cases c10 : 0 ≤ x6_1
            · rw [if_pos c10] at H
              have c10b0 : decide (0 ≤ x6_1) = true := decide_eq_true c10
              clear c10
              obtain ⟨y105, hy105⟩ : ∃ y_ : List Int, y_ = (x5_1.set (x6_1 : Int).toNat ((t104) % 256)) := ⟨_, rfl⟩
              replace H : (scarpalike_Block.l0 k1 a1 y105 (wrap64 (x6_1 + 1))) = some r := by first | (rw [hy105]; with_reducible exact H) | (have H2_ := (Option.bind_some _ _).symm.trans H; rw [hy105]; with_reducible exact H2_) | (have H2_ := (Option.bind_some _ _).symm.trans H; with_reducible exact H2_) | with_reducible exact H | (rw [hy105]; exact H) | exact H
              have Ny105 := Aside0.mk hy105
              clear hy105
              have H' := Aside0.mk H
              clear H
              obtain ⟨Ao12, co12, eo12⟩ := Kd.R_slice HO_5.out
              subst eo12
              go_wp2_with (first | ((with_reducible refine gate_callee (f := 20) rfl ?_); refine goesL_ (some 25) rfl rfl Try.func20 (by kernel_rfl) rfl #[.int .i64 (wrap64 ((wrap64 ((wrap64 (x6_1 * x6_1)) + (wrap64 (a1 * 7)))) + 1)), .int .i64 251] rfl (by (try simp only [List.map_toArray, List.map_cons, List.map_nil]); first | done | rfl | (simp only [List.length_drop, List.length_take]; rfl)) ?_; (with_reducible refine (scarpalike_Round.calls (wrap64 ((wrap64 ((wrap64 (x6_1 * x6_1)) + (wrap64 (a1 * 7)))) + 1)) 251 t104 _ A9.out).mono ?_); rintro e w' ⟨rfl, ⟨nd, rfl⟩⟩; refine ⟨_, rfl, ?_⟩; (try (rw [drewN_self wr]; generalize hq_ : World.drewN wr _ = wr; have n0_ : Aside0 (Kd.R (Kd.int .u8) 5 wr w.heap.size (fun _ => True) (.slice Ao12 x5_1.length co12) x5_1) := ⟨by rw [← hq_]; exact (by (with_reducible repeat (first | apply Kd.R_alloc | apply Kd.R_drewN | apply Kd.R_drew)); exact HO_5.out)⟩; have n1_ : Aside0 (Below w.heap.size w wr) := ⟨by rw [← hq_]; exact (by repeat (first | (with_reducible first | exact HB.out | apply below_alloc | apply pw_below_drewN | apply below_drew1) | exact HB.out))⟩; clear HO_5 HB hq_; have HO_5 := n0_; have HB := n1_; clear n0_ n1_)); have p11 : 0 ≤ (x6_1 : Int) := of_decide_eq_true (by first | (with_reducible assumption) | assumption); have q11 : (x6_1 : Int) < ((x5_1.length : Int) : Int) := of_decide_eq_true (by first | (with_reducible assumption) | assumption); obtain ⟨go11, co11, eo11, gb11, gl11, cl11, HG11⟩ := Kd.R_form HO_5.out (by omega); (first | cases eo11 | (injection eo11 with ea_ en_ ec_; (first | subst ea_ | (injection ea_ with ea_; subst ea_)); subst ec_; clear en_)); have GB11 := Aside0.mk gb11; have GG11 := Aside0.mk HG11; clear gb11 gl11 HG11; obtain ⟨hx11_0, hf11_0⟩ := Kd.R_celln 0 HO_5.out (x6_1 : Int) p11 q11; replace p11 := eq_true p11; replace q11 := eq_true q11; obtain ⟨hy13_, hz13_⟩ := Kd.R_celln 0 HO_5.out (x6_1 : Int) (of_decide_eq_true (by first | (with_reducible assumption) | assumption)) (of_decide_eq_true (by first | (with_reducible assumption) | assumption)); have HP13 := Kd.R_putg HO_5.out (x6_1 : Int) ((t104) % 256)) | ((with_reducible refine gate_store (t := 5) (p := 27) rfl ?_); refine store_event (t := 5) (p := 27) (v := ?vo_w14) (w1 := (wr.setCell ⟨go11, (x6_1 : Int).toNat, none⟩ (.int .u8 ((t104) % 256)))) ?hg ?ho ?hn ?hr ?_; (case ho => rfl); (case hg => rfl); (case hn => rfl); (case hr => first | (go_simp; done) | (go_simp; rfl)); intro w14 hw; have hg : wr.grownBy w14 (some go11) := (by rw [hw]; exact HP13.2); have hp_ : Kd.R (Kd.int .u8) 5 w14 w.heap.size (fun _ => True) (.slice (some ⟨go11, 0, none⟩) x5_1.length co12) y105 := (by rw [hw, Ny105.out]; exact HP13.1); clear HP13; have n0_ := Aside0.mk (hp_); have n1_ := Aside0.mk ((by rw [hw]; exact below_set (HB.out) GB11.out : Below w.heap.size w w14)); clear HO_5; clear HB; have HO_5 := n0_; have HB := n1_; clear n0_ n1_; clear hg hw hp_))
              go_roundg k1
              case measure => have := HK1.out; omega
              case rel => exact ⟨(y105), (wrap64 (x6_1 + 1)), (by first | rfl | (simp; done) | (simp [*]; done)), H', ⟨by have := HK1.out; omega⟩, ⟨by (with_reducible repeat (first | apply Kd.R_alloc | apply Kd.R_drewN | apply Kd.R_drew)); exact HO_5.out⟩, ⟨by repeat (first | (with_reducible first | exact HB.out | apply below_alloc | apply pw_below_drewN | apply below_drew1) | exact HB.out)⟩⟩
            · rw [if_neg c10] at H
              exact absurd H (by simp)
          · rw [if_neg c8] at H
            have c8b0 : decide (x6_1 < (x5_1.length : Int)) = false := decide_eq_false c8
            clear c8
            obtain rfl := Option.some.inj H
            obtain ⟨Ao15, co15, eo15⟩ := Kd.R_slice HO_5.out
            subst eo15
            go_wp2
            go_ret
            exact ⟨_, by first | rfl | (simp [errW_none, errW_some] <;> rfl) | (simp only [← hji3]; first | rfl | (simp [errW_none, errW_some] <;> rfl)) | (simp [*, errW_none, errW_some] <;> rfl), by (with_reducible repeat (first | apply Kd.R_alloc | apply Kd.R_drewN | apply Kd.R_drew)); exact HO_5.out, by repeat (first | (with_reducible first | exact HB.out | apply below_alloc | apply pw_below_drewN | apply below_drew1) | exact HB.out)⟩
    · rw [if_neg c5] at H
      exact absurd H (by simp)
  · rw [if_neg c4] at H
    exact absurd H (by simp)

/-! ### scarpalike_Data: function 15 -/
def scarpalike_Data.f (k : Nat) (a0 : Int) : Option (List Int) := (scarpalike_Block.f k 40 a0).bind fun t106 => (some t106)
theorem scarpalike_Data.mono : ∀ a0 k, LeO (scarpalike_Data.f k a0) (scarpalike_Data.f (k + 1) a0) := by
  intro a0 k
  unfold scarpalike_Data.f
  repeat' first
      | (with_reducible exact scarpalike_Block.mono _ _ _)
      | (with_reducible exact LeO.refl _)
      | (with_reducible exact LeO.none _)
      | (with_reducible refine LeO.ite ?_ ?_)
      | (with_reducible refine LeO.bind ?_ (fun _ => ?_))
      | exact scarpalike_Block.mono _ _ _
      | exact LeO.none _
      | refine LeO.ite ?_ ?_
      | refine LeO.bind ?_ (fun _ => ?_)
set_option maxHeartbeats 8000000 in
set_option maxRecDepth 100000 in
theorem scarpalike_Data.calls (k : Nat) (a0 : Int) (r : List Int) (w : World) (h : scarpalike_Data.f k a0 = some r) :
    Calls Try.prog 15 #[.int .i64 a0] w fun e w' => ∃ v0_ : Value, e = .returned (v0_) ∧ Kd.R (Kd.int .u8) 5 w' w.heap.size (fun _ => True) v0_ r ∧ Below w.heap.size w w' := by
  have HB := Aside0.mk (Below.refl w.heap.size w)
  have H : ((scarpalike_Block.f k 40 a0).bind fun t106 => (some t106)) = some r := h
  clear h
  replace H := Option.bind_eq_some_iff.mp H
  obtain ⟨t106, A20, H⟩ := H
  replace H : (some t106) = some r := H
  have A2 := Aside0.mk A20
  clear A20
  obtain rfl := Option.some.inj H
  go_enter Try.func15, Try.ntmps15
  go_wp2_with (first | ((with_reducible refine gate_callee (f := 16) rfl ?_); refine goesL_ (some 4) rfl rfl Try.func16 (by kernel_rfl) rfl #[.int .i64 40, .int .i64 a0] rfl (by (try simp only [List.map_toArray, List.map_cons, List.map_nil]); first | done | rfl | (simp only [List.length_drop, List.length_take]; rfl)) ?_; (with_reducible refine (scarpalike_Block.calls k 40 a0 t106 _ A2.out).mono ?_); rintro e w3 ⟨v107, rfl, ho0, hb⟩; refine ⟨_, rfl, ?_⟩; have n0_ := Aside0.mk (Kd.R_lower ho0 (below_size (by repeat (first | (with_reducible first | exact HB.out | apply below_alloc | apply pw_below_drewN | apply below_drew1) | exact HB.out)))); have n1_ := Aside0.mk (below_step (by repeat (first | (with_reducible first | exact HB.out | apply below_alloc | apply pw_below_drewN | apply below_drew1) | exact HB.out)) hb); clear HB; have HO108 := n0_; have HB := n1_; clear n0_ n1_; (try clear hb); (try clear hb2); (try clear hk); (try clear hi); (try clear ho0)))
  go_ret
  exact ⟨_, by first | rfl | (simp [errW_none, errW_some] <;> rfl) | (simp [*, errW_none, errW_some] <;> rfl), by (with_reducible repeat (first | apply Kd.R_alloc | apply Kd.R_drewN | apply Kd.R_drew)); exact HO108.out, by repeat (first | (with_reducible first | exact HB.out | apply below_alloc | apply pw_below_drewN | apply below_drew1) | exact HB.out)⟩

-- NOT PRINTED: function 67 (api_Put_67)

-- NOT PRINTED: function 45 (api_Put_45)

-- NOT PRINTED: function 48 (wbuf_twice)

-- NOT PRINTED: function 49 (slices_Clone_byte_byte)

-- NOT PRINTED: function 17 (wbuf_Buf_Write)

-- NOT PRINTED: function 79 (slices_AppendSeq_int_int)

-- NOT PRINTED: function 68 (slices_Collect_int)

/-! ### cmp_isNaN_int: function 103 -/
def cmp_isNaN_int.f (a0 : Int) : Option (Bool) := some (a0 != a0)
set_option maxHeartbeats 8000000 in
set_option maxRecDepth 100000 in
theorem cmp_isNaN_int.calls (a0 : Int) (r : Bool) (w : World) (h : cmp_isNaN_int.f a0 = some r) :
    Calls Try.prog 103 #[.int .i64 a0] w fun e w' => e = .returned (.bool r) ∧ Drawn0 w w' := by
  have H : (some (a0 != a0)) = some r := h
  clear h
  obtain rfl := Option.some.inj H
  go_enter Try.func103, Try.ntmps103
  go_wp2
  go_ret
  exact ⟨by first | rfl | (simp; done) | (simp [*]; done), by repeat (first | exact Drawn0.refl _ | apply Drawn0.step)⟩

/-! ### cmp_Less_int: function 96 -/
def cmp_Less_int.f (a0 : Int) (a1 : Int) : Option (Bool) := (cmp_isNaN_int.f a0).bind fun t109 => (if t109 = true then ((cmp_isNaN_int.f a1).bind fun t110 => (if t110 = true then (some (decide (a0 < a1))) else (some true))) else (some (decide (a0 < a1))))
set_option maxHeartbeats 8000000 in
set_option maxRecDepth 100000 in
theorem cmp_Less_int.calls (a0 : Int) (a1 : Int) (r : Bool) (w : World) (h : cmp_Less_int.f a0 a1 = some r) :
    Calls Try.prog 96 #[.int .i64 a0, .int .i64 a1] w fun e w' => e = .returned (.bool r) ∧ Drawn0 w w' := by
  have H : ((cmp_isNaN_int.f a0).bind fun t109 => (if t109 = true then ((cmp_isNaN_int.f a1).bind fun t110 => (if t110 = true then (some (decide (a0 < a1))) else (some true))) else (some (decide (a0 < a1))))) = some r := h
  clear h
  replace H := Option.bind_eq_some_iff.mp H
  obtain ⟨t109, A30, H⟩ := H
  replace H : (if t109 = true then ((cmp_isNaN_int.f a1).bind fun t110 => (if t110 = true then (some (decide (a0 < a1))) else (some true))) else (some (decide (a0 < a1)))) = some r := H
  have A3 := Aside0.mk A30
  clear A30
  by_cases c4 : t109 = true
  · subst c4
    have H1 : ((cmp_isNaN_int.f a1).bind fun t110 => (if t110 = true then (some (decide (a0 < a1))) else (some true))) = some r := by rw [if_pos rfl] at H; exact H
    clear H
    have H := H1
    clear H1
    replace H := Option.bind_eq_some_iff.mp H
    obtain ⟨t110, A50, H⟩ := H
    replace H : (if t110 = true then (some (decide (a0 < a1))) else (some true)) = some r := H
    have A5 := Aside0.mk A50
    clear A50
    by_cases c6 : t110 = true
    · subst c6
      have H1 : (some (decide (a0 < a1))) = some r := by rw [if_pos rfl] at H; exact H
      clear H
      have H := H1
      clear H1
      obtain rfl := Option.some.inj H
      go_enter Try.func96, Try.ntmps96
      go_wp2_with (first | ((with_reducible refine gate_callee (f := 103) rfl ?_); refine goesL_ (some 6) rfl rfl Try.func103 (by kernel_rfl) rfl #[.int .i64 a0] rfl (by (try simp only [List.map_toArray, List.map_cons, List.map_nil]); first | done | rfl | (simp only [List.length_drop, List.length_take]; rfl)) ?_; (with_reducible refine (cmp_isNaN_int.calls a0 true _ A3.out).mono ?_); rintro e w' ⟨rfl, ⟨nd, rfl⟩⟩; refine ⟨_, rfl, ?_⟩) | (go_at_call 103; (with_reducible refine (cmp_isNaN_int.calls a1 true _ A5.out).mono ?_); rintro e w' ⟨rfl, ⟨nd, rfl⟩⟩))
      go_ret
      exact ⟨by first | rfl | (simp; done) | (simp [*]; done), by repeat (first | exact Drawn0.refl _ | apply Drawn0.step)⟩
    · replace c6 := Bool.eq_false_iff.mpr c6
      subst c6
      have H1 : (some true) = some r := by rw [if_neg (show ¬ (false = true) by decide)] at H; exact H
      clear H
      have H := H1
      clear H1
      obtain rfl := Option.some.inj H
      go_enter Try.func96, Try.ntmps96
      go_wp2_with (first | ((with_reducible refine gate_callee (f := 103) rfl ?_); refine goesL_ (some 6) rfl rfl Try.func103 (by kernel_rfl) rfl #[.int .i64 a0] rfl (by (try simp only [List.map_toArray, List.map_cons, List.map_nil]); first | done | rfl | (simp only [List.length_drop, List.length_take]; rfl)) ?_; (with_reducible refine (cmp_isNaN_int.calls a0 true _ A3.out).mono ?_); rintro e w' ⟨rfl, ⟨nd, rfl⟩⟩; refine ⟨_, rfl, ?_⟩) | (go_at_call 103; (with_reducible refine (cmp_isNaN_int.calls a1 false _ A5.out).mono ?_); rintro e w' ⟨rfl, ⟨nd, rfl⟩⟩))
      go_ret
      exact ⟨by first | rfl | (simp; done) | (simp [*]; done), by repeat (first | exact Drawn0.refl _ | apply Drawn0.step)⟩
  · replace c4 := Bool.eq_false_iff.mpr c4
    subst c4
    have H1 : (some (decide (a0 < a1))) = some r := by rw [if_neg (show ¬ (false = true) by decide)] at H; exact H
    clear H
    have H := H1
    clear H1
    obtain rfl := Option.some.inj H
    go_enter Try.func96, Try.ntmps96
    go_wp2_with (first | ((with_reducible refine gate_callee (f := 103) rfl ?_); refine goesL_ (some 6) rfl rfl Try.func103 (by kernel_rfl) rfl #[.int .i64 a0] rfl (by (try simp only [List.map_toArray, List.map_cons, List.map_nil]); first | done | rfl | (simp only [List.length_drop, List.length_take]; rfl)) ?_; (with_reducible refine (cmp_isNaN_int.calls a0 false _ A3.out).mono ?_); rintro e w' ⟨rfl, ⟨nd, rfl⟩⟩; refine ⟨_, rfl, ?_⟩))
    go_ret
    exact ⟨by first | rfl | (simp; done) | (simp [*]; done), by repeat (first | exact Drawn0.refl _ | apply Drawn0.step)⟩

end Go.Proofs.Ytbebihphodafiaa.PWb

namespace Go.Proofs.Ytbebihphodafiaa.Iv
open Go.RowKit Go.Proofs.YtbebihphodafiaaW.PrintWords Go.Proofs.YtbebihphodafiaaW.PrintLast Go.Proofs.YtbebihphodafiaaW.PrintMore Go.Proofs.Ytbebihphodafiaa.PWb Go.Maps
set_option linter.unusedVariables false
set_option linter.unusedSimpArgs false

theorem round251 (a : Int) : ∃ r, scarpalike_Round.f a 251 = some r := by
  unfold scarpalike_Round.f
  rw [if_neg (by decide)]
  split <;> exact ⟨_, rfl⟩
theorem block_l0 (x1 : Int) (d : Nat) : ∀ (k : Nat) (l : List Int) (i : Nat), i + d = l.length → d + 1 ≤ k → l.length ≤ 1000000 → ∃ r, scarpalike_Block.l0 k x1 l (i : Int) = some r ∧ r.length = l.length := by
  induction d with
  | zero =>
    intro k l i hi hk hl
    obtain ⟨k, rfl⟩ : ∃ m, k = m + 1 := ⟨k - 1, by omega⟩
    simp only [scarpalike_Block.l0]
    rw [if_neg (by omega)]
    exact ⟨_, rfl, rfl⟩
  | succ d ih =>
    intro k l i hi hk hl
    obtain ⟨k, rfl⟩ : ∃ m, k = m + 1 := ⟨k - 1, by omega⟩
    simp only [scarpalike_Block.l0]
    rw [if_pos (by omega)]
    obtain ⟨t, ht⟩ := round251 (wrap64 ((wrap64 ((wrap64 ((i : Int) * i)) + (wrap64 (x1 * 7)))) + 1))
    rw [ht, Option.bind_some, if_pos (by omega)]
    have w : wrap64 ((i : Int) + 1) = ((i + 1 : Nat) : Int) := by unfold wrap64; omega
    rw [w]
    obtain ⟨r, h1, h2⟩ := ih k (l.set ((i : Int).toNat) (t % 256)) (i + 1) (by rw [List.length_set]; omega) (by omega) (by rw [List.length_set]; exact hl)
    exact ⟨r, h1, by rw [h2, List.length_set]⟩
theorem block_ok (n : Nat) (x : Int) (hn : n ≤ 1000000) : ∃ r, scarpalike_Block.f (n + 1) n x = some r ∧ r.length = n := by
  unfold scarpalike_Block.f
  have hm : mx (n : Int) 0 = n := by unfold mx; omega
  rw [hm, if_pos (by omega), if_pos (by omega)]
  obtain ⟨r, h1, h2⟩ := block_l0 x n (n + 1) (List.replicate (n : Int).toNat 0) 0 (by simp) (by omega) (by simp; omega)
  exact ⟨r, h1, by rw [h2]; simp⟩
/-- The bytes that hang on a number. -/
theorem data_ex (x : Int) : ∃ r, scarpalike_Data.f 41 x = some r ∧ r.length = 40 := by
  obtain ⟨r, h1, h2⟩ := block_ok 40 x (by decide)
  refine ⟨r, ?_, h2⟩
  unfold scarpalike_Data.f
  rw [show ((40 : Nat) : Int) = 40 from rfl] at h1
  rw [h1]; rfl
noncomputable def dat (x : Int) : List Int := Classical.choose (data_ex x)
theorem dat_f (x : Int) : scarpalike_Data.f 41 x = some (dat x) := (Classical.choose_spec (data_ex x)).1
theorem dat_len (x : Int) : (dat x).length = 40 := (Classical.choose_spec (data_ex x)).2
theorem data_calls (x : Int) (w : World) : Calls Try.prog 15 #[.int .i64 x] w fun e w' => ∃ v : Value, e = .returned v ∧ Kd.R kb 5 w' w.heap.size (fun _ => True) v (dat x) ∧ Below w.heap.size w w' :=
  scarpalike_Data.calls 41 x (dat x) w (dat_f x)
theorem C31_cells (w : World) (g : Nat) (l : List S31) (hl : l.length ≤ 9223372036854775807)
    (h : ∀ j, (hj : j < l.length) → ∃ A c, w.cell? ⟨g, j * 2, none⟩ = some (.int .i64 l[j].f0) ∧ w.cell? ⟨g, j * 2 + 1, none⟩ = some (.slice A l[j].f1.length c) ∧ l[j].f1.length ≤ c ∧ Kd.C kb w A l[j].f1.length l[j].f1) : Kd.C k31 w (some ⟨g, 0, none⟩) l.length l := by
  refine ⟨rfl, hl, fun _ => ⟨_, rfl, fun j p hj => ?_⟩⟩
  obtain ⟨hj', he⟩ := List.getElem?_eq_some_iff.1 hj
  obtain ⟨A, c, h0, h1, h2, h3⟩ := h j hj'
  subst he
  refine ⟨_, rfl, k31_mk w _ h2 h3, fun i u hu => ?_⟩
  rw [add_plain]
  match i, hu with
  | 0, hu => cases hu; have hs : k31.sz = 2 := rfl; simpa [hs] using h0
  | 1, hu => cases hu; have hs : k31.sz = 2 := rfl; simpa [hs] using h1
theorem C31_one (w : World) (n : Nat) (a c : Int) (A : Option Addr) (m : Nat) (d : List Int) (hn : n = w.heap.size) (hm : d.length ≤ m) (hC : Kd.C kb w A d.length d) :
    Kd.C k31 (w.alloc (.cells #[.int .i64 a, .slice A d.length m] 31)) (some ⟨n, 0, none⟩) 1 [⟨a, d⟩] := by
  subst hn
  refine C31_cells _ _ [⟨a, d⟩] (by simp) (fun j hj => ?_)
  obtain rfl : j = 0 := by simp at hj; exact hj
  exact ⟨A, m, by rw [World.cell?_alloc_at _ _ _ _ rfl]; rfl, by rw [World.cell?_alloc_at _ _ _ _ rfl]; rfl, hm, Kd.C_alloc hC _⟩
theorem C31_two (w : World) (n : Nat) (a b : Int) (A B : Option Addr) (m k : Nat) (d e : List Int) (hn : n = w.heap.size) (hm : d.length ≤ m) (hk : e.length ≤ k) (hC : Kd.C kb w A d.length d) (hD : Kd.C kb w B e.length e) :
    Kd.C k31 (w.alloc (.cells #[.int .i64 a, .slice A d.length m, .int .i64 b, .slice B e.length k] 31)) (some ⟨n, 0, none⟩) 2 [⟨a, d⟩, ⟨b, e⟩] := by
  subst hn
  refine C31_cells _ _ [⟨a, d⟩, ⟨b, e⟩] (by simp) (fun j hj => ?_)
  match j, hj with
  | 0, _ => exact ⟨A, m, by rw [World.cell?_alloc_at _ _ _ _ rfl]; rfl, by rw [World.cell?_alloc_at _ _ _ _ rfl]; rfl, hm, Kd.C_alloc hC _⟩
  | 1, _ => exact ⟨B, k, by rw [World.cell?_alloc_at _ _ _ _ rfl]; rfl, by rw [World.cell?_alloc_at _ _ _ _ rfl]; rfl, hk, Kd.C_alloc hD _⟩
/-- A buffer that the call made. -/
structure JB (w : World) (fr mb : Nat) (blocks most : Int) (M : List S31) (W : World) : Prop where
  below : RowKit.Below w.heap.size w W
  ge : w.heap.size ≤ mb
  b : IsBuf W fr mb blocks most M
  size : fr ≤ W.heap.size
section
variable {w W W' : World} {fr mb : Nat} {blocks most : Int} {M M' : List S31}
theorem JB.step (h : JB w fr mb blocks most M W) (hb : RowKit.Below W.heap.size W W') : JB w fr mb blocks most M W' :=
  ⟨below_step h.below hb, h.ge, h.b.below hb, Nat.le_trans h.size hb.size⟩
theorem JB.wr (h : JB w fr mb blocks most M W) (hI : IsBuf W' fr mb blocks most M') (hg : W.grownBy W' (some mb)) : JB w fr mb blocks most M' W' := by
  have h1 := h.ge; have h2 := h.b.lt; have h3 := h.size
  exact ⟨h.below.grown hg (by omega) (fun k hk => by cases hk; exact h1), h1, hI, Nat.le_trans h3 hg.size⟩
theorem JB.row (h : JB w fr mb blocks most M W) (hg : W.grownBy W' (some mb)) {A : Option Addr} {n : Nat} {l : List Int} (hC : Kd.C kb W A n l) : Kd.C kb W' A n l := Cb_map hC hg h.b.isMap
end
theorem wr_dup (d : List Int) (hd : d.length = 40) : wrC 10 16 [] [⟨3, d⟩, ⟨3, d⟩] = 4 := by simp [wrC, outB, lenB, dupB, hd]
theorem wr_one (d : List Int) (hd : d.length = 40) : wrC 10 16 [] [⟨3, d⟩] = 0 := by simp [wrC, outB, lenB, dupB, hd, freshN, hasM]
set_option maxHeartbeats 4000000 in
set_option maxRecDepth 100000 in
theorem awakeB_calls (w : World) : Calls Try.prog 13 #[] w fun e w' => e = .returned (.bool true) ∧ RowKit.Below w.heap.size w w' := by
  have t1 : True := trivial
  have HE4 := Lib.hid (wr_dup (dat 1) (dat_len 1))
  have HM4 := Lib.hid (show wrM 10 16 [] [⟨3, dat 1⟩, ⟨3, dat 1⟩] = [] by unfold wrM; rw [wr_dup _ (dat_len 1)]; rfl)
  have HE0 := Lib.hid (wr_one (dat 1) (dat_len 1))
  have HM0 := Lib.hid (show wrM 10 16 [] [⟨3, dat 1⟩] = [⟨3, dat 1⟩] by unfold wrM; rw [wr_one _ (dat_len 1)]; rfl)
  have HDL := Lib.hid (dat_len 1)
  go_enter Try.func13, Try.ntmps13
  go_wp2_with (first
    | (go_at_call 14; go_must (refine (newB_calls 10 16 (w.heap.size + 2) w.heap.size w ⟨by decide, by decide, by decide⟩ rfl (by omega)).mono ?_; rintro _ w1 ⟨rfl, hB1, hI1, hS1⟩; have H1 := Lib.hid (show JB w (w.heap.size + 2) w.heap.size 10 16 [] w1 from ⟨hB1, Nat.le_refl _, hI1, by omega⟩); clear hB1 hI1 hS1))
    | (go_at_call 15; go_must (refine (data_calls 1 _).mono ?_; rintro _ w2 ⟨v2, rfl, hR2, hB2⟩; obtain ⟨A2, c2, hv2, hc2, hC2⟩ := Kd.R_reads hR2; subst hv2; have H2 := Lib.hid (H1.out.step hB2); have D2 := Lib.hid hC2; have L2 := Lib.hid hc2; clear hR2 hB2 hC2 hc2))
    | (go_at_call 17; have _t := t1; clear t1; go_must (refine (write_calls (w.heap.size + 2) w.heap.size 10 16 [] _ 2 [⟨3, dat 1⟩, ⟨3, dat 1⟩] _ (H2.out.step (below_alloc (Below.refl _ _) _)).b (C31_two _ _ 3 3 A2 A2 c2 c2 (dat 1) (dat 1) rfl L2.out L2.out D2.out D2.out) (by decide) (H2.out.step (below_alloc (Below.refl _ _) _)).size).mono ?_; rintro _ w3 ⟨rfl, hI3, hg3⟩; rw [HE4.out, HM4.out] at *; have H3 := Lib.hid ((H2.out.step (below_alloc (Below.refl _ _) _)).wr hI3 hg3); have D3 := Lib.hid ((H2.out.step (below_alloc (Below.refl _ _) _)).row hg3 (Kd.C_alloc D2.out _)); clear hI3 hg3))
    | (go_at_call 17; go_must (refine (write_calls (w.heap.size + 2) w.heap.size 10 16 [] _ 1 [⟨3, dat 1⟩] _ (H3.out.step (below_alloc (Below.refl _ _) _)).b (C31_one _ _ 3 0 A2 c2 (dat 1) rfl L2.out D3.out) (by decide) (H3.out.step (below_alloc (Below.refl _ _) _)).size).mono ?_; rintro _ w4 ⟨rfl, hI4, hg4⟩; rw [HE0.out, HM0.out] at *; have H4 := Lib.hid ((H3.out.step (below_alloc (Below.refl _ _) _)).wr hI4 hg4); clear hI4 hg4))
    | (go_at_call 18; go_must (refine (len_calls (w.heap.size + 2) w.heap.size 10 16 [⟨3, dat 1⟩] _ H4.out.b).mono ?_; rintro _ w5 ⟨rfl, hB5⟩; have H5 := Lib.hid (H4.out.step hB5); clear hB5)))
  go_ret
  exact ⟨rfl, H5.out.below⟩
end Go.Proofs.Ytbebihphodafiaa.Iv

namespace Go.Proofs.Ytbebihphodafiaa.Iv
open Go.RowKit Go.Proofs.YtbebihphodafiaaW.PrintWords Go.Proofs.YtbebihphodafiaaW.PrintLast Go.Proofs.YtbebihphodafiaaW.PrintMore Go.Proofs.Ytbebihphodafiaa.PWb Go.Maps
set_option linter.unusedVariables false
set_option linter.unusedSimpArgs false

theorem newAt_calls (most : Int) (fr b : Nat) (w : World) (hb : b = w.heap.size) (hfr : b < fr) : Calls Try.prog 62 #[.int .i64 most] w fun e w' => e = .returned (.pointer (some ⟨b, 0, none⟩)) ∧ w' = w.alloc (.cells #[.int .i64 most, .slice none 0 0] 137) ∧ IsSet w' fr b most [] := by
  subst hb
  exact new_calls most fr w hfr
theorem C60_one (w : World) (a b : Int) (n : Nat) (hn : n = w.heap.size) : Kd.C k60 (w.alloc (.cells #[.int .i64 a, .int .i64 b] 60)) (some ⟨n, 0, none⟩) 1 [⟨a, b⟩] := by
  subst hn
  exact C_one w ⟨a, b⟩
def units (M : List S31) : List S60 := M.map fun p => ⟨p.f0, 1⟩
theorem units_may (M : List S31) (h : ∀ p ∈ M, 0 ≤ p.f0 ∧ p.f0 < 1048576) : (units M).all mayB = true := by
  refine List.all_eq_true.2 (fun x hx => ?_)
  obtain ⟨p, hp, rfl⟩ := List.mem_map.1 hx
  have := h p hp
  exact (mayB_iff _).2 ⟨this.1, by simp only; omega, by simp, by simp, by simp only; omega⟩
set_option maxHeartbeats 4000000 in
set_option maxRecDepth 100000 in
theorem setB_calls (fr mb : Nat) (blocks most : Int) (M : List S31) (w : World) (hb : IsBuf w fr mb blocks most M) :
    Calls Try.prog 43 #[.pointer (some ⟨mb + 1, 0, none⟩)] w fun e w' => ∃ g, e = .returned (.pointer (some ⟨g, 0, none⟩)) ∧ RowKit.Below w.heap.size w w' ∧ IsSet w' (g + 1) g M.length (nrm (units M)) := by
  have HS := Lib.hid (puts_calls fr mb blocks most M w hb)
  have HL := Lib.hid hb.len
  have HR := Lib.hid (show ∀ p ∈ M, 0 ≤ p.f0 ∧ p.f0 < 1048576 from fun p hp => by have h1 := hb.rng p hp; have h2 := hb.bl; omega)
  clear hb
  go_enter Try.func43, Try.ntmps43
  go_wp2_with (first
    | (go_at_call 21; go_must (refine HS.out.mono ?_; rintro _ w1 ⟨v1, rfl, hB1, hR1⟩; obtain ⟨A1, c1, hv1, _, hC1⟩ := Kd.R_reads hR1; subst hv1; have HB1 := Lib.hid hB1; have HC1 := Lib.hid (fun w' (h : RowKit.Below w1.heap.size w1 w') => Kd.C_below hC1 h); clear hB1 hR1 hC1))
    | (go_at_call 62; go_must (refine (newAt_calls M.length (w1.heap.size + 1) w1.heap.size _ rfl (by omega)).mono ?_; rintro _ _ ⟨rfl, rfl, hI⟩; have H0 := Lib.hid hI; clear hI)))
  have hl := HL.out
  go_loopw [6, 14] (fun _ i wr => ∃ k : Nat, k ≤ M.length ∧ i = .int .i64 k ∧ Aside0 (RowKit.Below w1.heap.size w1 wr ∧ IsSet wr (w1.heap.size + 1) w1.heap.size M.length (nrm (units (M.take k))) ∧ w1.heap.size + 1 ≤ wr.heap.size)) (fun _ i _ => M.length - (intOf i).toNat)
  case atStart => exact ⟨0, Nat.zero_le _, rfl, ⟨below_alloc (Below.refl _ _) _, by rw [List.take_zero]; rw [show units [] = [] from rfl, nrm_nil]; exact H0.out, by simp⟩⟩
  case round =>
    clear H0
    obtain ⟨k, hk, rfl, HO⟩ := hrel
    by_cases hlt : k < M.length
    · obtain ⟨ad, A2, c2, rfl, x0, x1, _, _⟩ := at_T31 (HC1.out _ HO.out.1) (k : Int) (by omega) (by omega)
      simp only [Int.toNat_natCast] at x0 x1
      obtain ⟨q, hq⟩ : ∃ q, q = rd_T31 M (k : Int) := ⟨_, rfl⟩
      rw [← hq] at x0 x1
      have hqe : q = M[k] := by rw [hq]; simp [rd_T31, List.getD_eq_getElem?_getD, List.getElem?_eq_getElem hlt]
      have hu : units (M.take (k + 1)) = units (M.take k) ++ [⟨q.f0, 1⟩] := by
        rw [List.take_succ_eq_append_getElem hlt, hqe]; unfold units; rw [List.map_append]; rfl
      have hmk : (units (M.take k)).all mayB = true := units_may _ (fun p hp => HR.out p (List.mem_of_mem_take hp))
      have hq1 : [(⟨q.f0, 1⟩ : S60)].all mayB = true := units_may [q] (fun p hp => by simp at hp; subst hp; rw [hqe]; exact HR.out _ (List.getElem_mem hlt))
      have hnl := nrm_len (units (M.take k))
      have hul : (units (M.take k)).length = k := by simp [units]; omega
      have HA := Lib.hid (add_ok M.length (nrm (units (M.take k))) [⟨q.f0, 1⟩] (nrm_nf _ (may_len _ hmk)).1 hq1 (by simp; omega))
      have HE := Lib.hid (nrm_absorb (units (M.take k)) [⟨q.f0, 1⟩] (units (M.take (k + 1))) (may_len _ hmk) (may_len _ hq1) (by rw [hu]))
      have HL2 := Lib.hid (show ((nrm (units (M.take k))).length + 1) * 16 ≤ 140737488355328 by omega)
      have b2 : (k : Int) < (M.length : Int) := by omega
      have HO' := Lib.hid HO.out
      clear hq hqe hu hmk hq1 hnl hul HO
      go_wp2_with (go_at_call 57; go_must (refine (add_calls (w1.heap.size + 1) w1.heap.size M.length (nrm (units (M.take k))) _ 1 [⟨q.f0, 1⟩] _ (HO'.out.2.1.below (below_alloc (below_alloc (Below.refl _ _) _) _)) (C60_one _ _ _ _ (by simp)) (Nat.le_refl 1) HL2.out (by have := HO'.out.2.2; simp; omega)).mono ?_; rintro _ w5 ⟨rfl, hI5, hM5⟩; rw [HA.out, HE.out] at hI5; rw [HA.out]; have HI5 := Lib.hid hI5; have HB5 := Lib.hid (hM5.below (n0 := w1.heap.size) (below_alloc (below_alloc HO'.out.1 _) _) (Nat.le_refl _) (by have := HO'.out.2.2; simp; omega) (by have := HO'.out.2.2; simp; omega)); have HS5 := Lib.hid (Nat.le_trans (show w1.heap.size + 1 ≤ _ by have := HO'.out.2.2; simp; omega) hM5.size); clear hI5 hM5))
      go_roundw
      case rel => exact ⟨k + 1, by omega, by go_num, ⟨HB5.out, HI5.out, HS5.out⟩⟩
      case measure => simp [intOf]; omega
    · obtain rfl : k = M.length := by omega
      rw [List.take_length] at HO
      have b2 : ¬ (M.length : Int) < (M.length : Int) := by omega
      go_wp2
      try rw [Exit.noGoto_ret]
      go_ret
      exact ⟨_, rfl, Below.trans HB1.out (HO.out.1.mono HB1.out.size), HO.out.2.1⟩
set_option maxHeartbeats 1000000 in
theorem setNil_calls (w : World) :
    Calls Try.prog 43 #[.pointer none] w fun e w' => e = .returned (.pointer (some ⟨w.heap.size, 0, none⟩)) ∧ RowKit.Below w.heap.size w w' ∧ IsSet w' (w.heap.size + 1) w.heap.size 0 [] := by
  go_enter Try.func43, Try.ntmps43
  go_wp2_with (first
    | (go_at_call 21; go_must (refine (putsNil_calls w).mono ?_; rintro _ w1 ⟨rfl, rfl⟩))
    | (go_at_call 62; go_must (refine (newAt_calls 0 (w1.heap.size + 1) w1.heap.size _ rfl (by omega)).mono ?_; rintro _ _ ⟨rfl, rfl, hI⟩; have H0 := Lib.hid hI; clear hI)))
  go_loop [6, 14] (fun _ i => i = .int .i64 0) (fun _ i => 0)
  case atStart => rfl
  case round =>
    obtain rfl := hrel
    go_wp2
    try rw [Exit.noGoto_ret]
    go_ret
    exact ⟨rfl, below_alloc (Below.refl _ _) _, H0.out⟩
set_option maxHeartbeats 1000000 in
theorem writeNil_calls (A : Option Addr) (c : Nat) (l : List S31) (w : World) :
    Calls Try.prog 17 #[.pointer none, .slice A l.length c] w fun e w' => e = .returned (.int .i64 (if l = [] then 1 else 2)) ∧ RowKit.Below w.heap.size w w' := by
  by_cases he : l = []
  · subst he
    rw [if_pos rfl]
    go_enter Try.func17, Try.ntmps17
    go_wp2
    try rw [Exit.noGoto_ret]
    go_ret
    exact ⟨rfl, below_alloc (Below.refl _ _) _⟩
  · have hne : ¬ ((l.length : Int) = 0) := by
      intro h; exact he (List.length_eq_zero_iff.1 (by omega))
    have hne' : ¬ (l.length = 0) := by omega
    rw [if_neg he]
    go_enter Try.func17, Try.ntmps17
    go_wp2
    try rw [Exit.noGoto_ret]
    go_ret
    exact ⟨rfl, below_alloc (Below.refl _ _) _⟩
set_option maxHeartbeats 4000000 in
set_option maxRecDepth 100000 in
theorem wnothing_calls (lba : Int) (w : World) :
    Calls Try.prog 12 #[.int .i64 lba] w fun e w' => e = .returned (.bool true) ∧ RowKit.Below w.heap.size w w' := by
  have t1 : True := trivial
  go_enter Try.func12, Try.ntmps12
  go_wp2_with (first
    | (go_at_call 24; go_must (refine (getNil_calls lba w).mono ?_; rintro _ w1 ⟨rfl, rfl⟩))
    | (go_at_call 43; go_must (refine (setNil_calls _).mono ?_; rintro _ w2 ⟨rfl, hB2, hI2⟩; have HB2 := Lib.hid hB2; have HI2 := Lib.hid hI2; clear hB2 hI2))
    | (go_at_call 15; go_must (refine (data_calls 1 _).mono ?_; rintro _ w3 ⟨v3, rfl, hR3, hB3⟩; obtain ⟨A3, c3, hv3, hc3, hC3⟩ := Kd.R_reads hR3; subst hv3; have HB3 := Lib.hid (below_step HB2.out hB3); have HI3 := Lib.hid (HI2.out.below hB3); clear hR3 hB3 hC3 hc3))
    | (go_at_call 17; have _t := t1; clear t1; go_must (refine (writeNil_calls _ 1 [⟨lba, dat 1⟩] _).mono ?_; rintro _ w4 ⟨rfl, hB4⟩; have HB4 := Lib.hid (below_step HB3.out (below_step (below_alloc (Below.refl _ _) _) hB4)); have HI4 := Lib.hid (HI3.out.below (below_step (below_alloc (Below.refl _ _) _) hB4)); clear hB4))
    | (go_at_call 17; go_must (refine (writeNil_calls none 0 [] _).mono ?_; rintro _ w5 ⟨rfl, hB5⟩; have HB5 := Lib.hid (below_step HB4.out hB5); have HI5 := Lib.hid (HI4.out.below hB5); clear hB5))
    | (go_at_call 18; go_must (refine (lenNil_calls _).mono ?_; rintro _ w6 ⟨rfl, rfl⟩))
    | (go_at_call 21; go_must (refine (putsNil_calls _).mono ?_; rintro _ w7 ⟨rfl, rfl⟩))
    | (go_at_call 35; go_must (refine (count_calls _ _ 0 [] _ HI5.out (by decide)).mono ?_; rintro _ w8 ⟨rfl, hB8⟩; have HB8 := Lib.hid (below_step HB5.out hB8); clear hB8; rw [show sumS [] = 0 from rfl]))
    | (go_at_call 13; go_must (refine (awakeB_calls _).mono ?_; rintro _ w9 ⟨rfl, hB9⟩; have HB9 := Lib.hid (below_step HB8.out hB9); clear hB9)))
  go_ret
  exact ⟨rfl, HB9.out⟩
end Go.Proofs.Ytbebihphodafiaa.Iv

namespace Go.Proofs.Ytbebihphodafiaa.Iv
open Go.RowKit Go.Proofs.YtbebihphodafiaaW.PrintWords Go.Proofs.YtbebihphodafiaaW.PrintLast Go.Proofs.YtbebihphodafiaaW.PrintMore Go.Proofs.Ytbebihphodafiaa.PWb Go.Maps
set_option linter.unusedVariables false
set_option linter.unusedSimpArgs false

/-- How many blocks were written. -/
def cntV (blocks : Int) (V : Int → List S31) : Nat := (List.range blocks.toNat).countP (fun i : Nat => !(V (i : Int)).isEmpty)
/-- What is held of a block's versions (time, data), the eldest first. -/
structure IsExt (W : World) (fr em : Nat) (blocks last : Int) (V : Int → List S31) : Prop where
  lt : em + 1 < fr
  c0 : W.cell? ⟨em + 1, 0, none⟩ = some (.int .i64 blocks)
  c1 : W.cell? ⟨em + 1, 1, none⟩ = some (.map (some em))
  c2 : W.cell? ⟨em + 1, 2, none⟩ = some (.int .i64 last)
  map : ∃ (n : Nat) (D : DataW Value) (vv : Int → Value), W.ownsMap Try.prog 3 Rh em n D ∧ (n = size D ∧ n = cntV blocks V) ∧ (∀ x, V x = [] → has D (ky x) = false) ∧
    (∀ x, V x ≠ [] → has D (ky x) = true ∧ (∀ z, D.atKey (ky x) z = .held (vv x)) ∧ Kd.R k31 126 W fr (fun k => fr ≤ k) (vv x) (V x)) ∧
    ∀ x y, x ≠ y → V x ≠ [] → V y ≠ [] → (vv x).ownBlock ≠ (vv y).ownBlock
  rng : ∀ x, V x ≠ [] → 0 ≤ x ∧ x < blocks
  dat : ∀ x, ∀ p ∈ V x, p.f1.length = 40
  bl : 1 ≤ blocks ∧ blocks ≤ 1048576
  f2 : W.frozen? ⟨em + 1, 2, none⟩ = false
theorem frozen_grown {W W' : World} {row : Option Nat} (hg : W.grownBy W' row) {g j : Nat} (hlt : g < W.heap.size) (hr : some g ≠ row) : W'.frozen? ⟨g, j, none⟩ = W.frozen? ⟨g, j, none⟩ := by
  unfold World.frozen?
  rw [hg.block g hlt hr]
theorem IsExt.grown {W W' : World} {fr em : Nat} {blocks last : Int} {V : Int → List S31} (h : IsExt W fr em blocks last V) {row : Option Nat} (hg : W.grownBy W' row) (hr : ∀ k, row = some k → k < fr ∧ k ≠ em ∧ k ≠ em + 1) : IsExt W' fr em blocks last V := by
  have h1 : some (em + 1) ≠ row := fun e => (hr _ e.symm).2.2 rfl
  have h2 : some em ≠ row := fun e => (hr _ e.symm).2.1 rfl
  obtain ⟨n, D, vv, d1, d2, d3, d4, d5⟩ := h.map
  refine ⟨h.lt, hg.cell h.c0 h1, hg.cell h.c1 h1, hg.cell h.c2 h1, ⟨n, D, vv, d1.kept hg h2, d2, d3, fun x hx => ?_, d5⟩, h.rng, h.dat, h.bl, by rw [frozen_grown hg (World.block_lt_of_cell? _ _ h.c0) h1]; exact h.f2⟩
  obtain ⟨e1, e2, e3⟩ := d4 x hx
  exact ⟨e1, e2, Kd.R_grown e3 hg (fun k hk e => by have := (hr k e.symm).1; omega)⟩
theorem IsExt.below {W W' : World} {fr em : Nat} {blocks last : Int} {V : Int → List S31} (h : IsExt W fr em blocks last V) (hb : RowKit.Below W.heap.size W W') : IsExt W' fr em blocks last V :=
  h.grown (grown_of_below hb none) (fun k hk => by cases hk)
theorem IsExt.look {W : World} {fr em : Nat} {blocks last : Int} {V : Int → List S31} (h : IsExt W fr em blocks last V) (x : Int) (hx : (Lit.int .i64 x).wf = true) :
    ∃ A c, (∀ W' : World, W'.heap[em]? = W.heap[em]? → (Instr.lookup 121 (.map (some em)) (.int .i64 x) false).run Try.prog W' = .ok (.slice A (V x).length c) W') ∧ (V x).length ≤ c ∧ Kd.C k31 W A (V x).length (V x) := by
  obtain ⟨n, D, vv, d1, d2, d3, d4, d5⟩ := h.map
  have key : keyOf Try.prog 3 (.int .i64 x) = some (ky x) := keyOf_int_mk Try.underlying3 hx
  have hz : Rh (.slice none 0 0) = some (.held (.slice none 0 0), []) := rfl
  have zero124 : ∀ w : World, (zeroValue 124).run Try.prog w = .ok (.slice none 0 0) w := fun w => by kernel_rfl
  have hv : ∃ A c, D.atKey (ky x) (.held (.slice none 0 0)) = .held (.slice A (V x).length c) ∧ (V x).length ≤ c ∧ Kd.C k31 W A (V x).length (V x) := by
    by_cases hV : V x = []
    · refine ⟨none, 0, ?_, ?_, ?_⟩
      · rw [atKey_of_not_has (d3 x hV), hV]; rfl
      · rw [hV]; exact Nat.le_refl _
      · rw [hV]; exact Kd.C_nil _ _
    · obtain ⟨_, e2, e3⟩ := d4 x hV
      obtain ⟨A, c, hv, hc, hC⟩ := Kd.R_reads e3
      exact ⟨A, c, by rw [e2, hv], hc, hC⟩
  obtain ⟨A, c, v1, v2, v3⟩ := hv
  refine ⟨A, c, fun W' hW' => ?_, v2, v3⟩
  replace d1 : W'.ownsMap Try.prog 3 Rh em n D := by
    obtain ⟨es, clock, hb, r⟩ := d1
    exact ⟨es, clock, hW'.trans hb, r⟩
  obtain ⟨v, ps, hrun, hR⟩ := d1.lookup law3 Try.underlying121 (zero124 W') hz key
  rw [hrun]
  have : v = .slice A (V x).length c ∧ ps = [] := by
    rw [v1] at hR
    simpa [Rh] using hR
  rw [this.1]
set_option maxHeartbeats 1000000 in
theorem newE_calls (blocks : Int) (fr em : Nat) (w : World) (hok : 1 ≤ blocks ∧ blocks ≤ 1048576) (hm : em = w.heap.size) (hfr : em + 1 < fr) :
    Calls Try.prog 53 #[.int .i64 blocks] w fun e w' => e = .returned (.tuple #[.pointer (some ⟨em + 1, 0, none⟩), .int .i64 0]) ∧ RowKit.Below w.heap.size w w' ∧ IsExt w' fr em blocks 0 (fun _ => []) ∧ em + 2 = w'.heap.size := by
  subst hm
  obtain ⟨h0, h1⟩ := hok
  have hmm := @run_makeMap Try.prog
  go_enter Try.func53, Try.ntmps53
  go_wp2
  go_ret2
  have hown := (World.ownsMap_made w Try.prog 3 Rh).alloc (.cells #[.int .i64 blocks, .map (some w.heap.size), .int .i64 0] 123)
  refine ⟨rfl, below_alloc (below_alloc (Below.refl _ _) _) _, ⟨hfr, ?_, ?_, ?_, ⟨0, _, fun _ => .nilIface, hown, ⟨rfl, by simp [cntV]⟩, fun x _ => rfl, fun x hx => absurd rfl hx, fun x y _ hx => absurd rfl hx⟩, fun x hx => absurd rfl hx, by simp, ⟨h0, h1⟩, ?_⟩, by simp⟩
  · rw [World.cell?_alloc_at _ _ _ _ (by simp)]; rfl
  · rw [World.cell?_alloc_at _ _ _ _ (by simp)]; rfl
  · rw [World.cell?_alloc_at _ _ _ _ (by simp)]; rfl
  · rw [World.frozen?_alloc_at _ _ _ _ (by simp)]
theorem blocksE_calls (em : Nat) (blocks : Int) (w : World) (h : w.cell? ⟨em + 1, 0, none⟩ = some (.int .i64 blocks)) :
    Calls Try.prog 76 #[.pointer (some ⟨em + 1, 0, none⟩)] w fun e w' => e = .returned (.int .i64 blocks) ∧ w = w' := by
  go_enter Try.func76, Try.ntmps76
  go_wp2
  go_ret
  exact ⟨rfl, rfl⟩
theorem blockE_calls (em : Nat) (blocks x : Int) (w : World) (h : w.cell? ⟨em + 1, 0, none⟩ = some (.int .i64 blocks)) :
    Calls Try.prog 60 #[.pointer (some ⟨em + 1, 0, none⟩), .int .i64 x] w fun e w' => e = .returned (.bool (decide (0 ≤ x) && decide (x < blocks))) ∧ w' = w := by
  by_cases h0 : 0 ≤ x
  · have d0 : decide (0 ≤ x) = true := by simpa using h0
    go_enter Try.func60, Try.ntmps60
    go_wp2_with (go_at_call 76; go_must (refine (blocksE_calls em blocks _ h).mono ?_; rintro _ w1 ⟨rfl, rfl⟩))
    go_ret
    exact ⟨by simp [h0], rfl⟩
  · have d0 : decide (0 ≤ x) = false := by simpa using h0
    have h0' : x < 0 := by omega
    go_enter Try.func60, Try.ntmps60
    go_wp2
    go_ret
    exact ⟨by simp [h0], rfl⟩
/-- The newest version that is not above a time. -/
def verAt (l : List S31) (t : Int) : Option S31 := l.reverse.find? (fun p => decide (p.f0 ≤ t))
theorem verAt_nil (t : Int) : verAt [] t = none := rfl
theorem verAt_snoc (l : List S31) (p : S31) (t : Int) : verAt (l ++ [p]) t = if p.f0 ≤ t then some p else verAt l t := by
  unfold verAt
  rw [List.reverse_append, List.reverse_cons, List.reverse_nil, List.nil_append, List.singleton_append, List.find?_cons]
  by_cases h : p.f0 ≤ t <;> simp [h]
def AtIs (l : List S31) (t i : Int) : Prop := (i = -1 ∧ verAt l t = none) ∨ ∃ k : Nat, i = k ∧ ∃ h : k < l.length, verAt l t = some l[k]
set_option maxHeartbeats 4000000 in
set_option maxRecDepth 100000 in
theorem at_calls (fr em : Nat) (blocks last : Int) (V : Int → List S31) (x t : Int) (w : World) (hE : IsExt w fr em blocks last V) (hx : (Lit.int .i64 x).wf = true) :
    Calls Try.prog 82 #[.pointer (some ⟨em + 1, 0, none⟩), .int .i64 x, .int .i64 t] w fun e w' => ∃ i, e = .returned (.int .i64 i) ∧ AtIs (V x) t i ∧ w' = w := by
  obtain ⟨A, c, hrun, hl, hC⟩ := hE.look x hx
  replace hrun := hrun w rfl
  have c1 := hE.c1
  obtain ⟨l, hl'⟩ : ∃ l, l = V x := ⟨_, rfl⟩
  rw [← hl'] at hrun hl hC ⊢
  have HC := Lib.hid hC
  have hn : l.length ≤ 9223372036854775807 := hC.2.1
  clear hE hx hl' hC
  go_enter Try.func82, Try.ntmps82
  go_wp2
  go_step3
  go_wp2
  clear hrun c1
  go_step3
  go_wp2
  go_loop [8] (fun i => ∃ m : Nat, m ≤ l.length ∧ i = .int .i64 ((m : Int) - 1) ∧ Aside0 (verAt l t = verAt (l.take m) t)) (fun i => (intOf i + 1).toNat)
  case atStart => exact ⟨l.length, Nat.le_refl _, rfl, ⟨by rw [List.take_length]⟩⟩
  case round =>
    obtain ⟨m, hm, rfl, HV⟩ := hrel
    by_cases h0 : m = 0
    · subst h0
      have e1 : ((0 : Nat) : Int) - 1 = -1 := rfl
      rw [e1]
      have HV' := Lib.hid (show verAt l t = none from HV.out.trans rfl)
      clear HV e1
      go_wp2
      try rw [Exit.noGoto_ret]
      go_ret
      exact ⟨_, rfl, .inl ⟨rfl, HV'.out⟩, rfl⟩
    · obtain ⟨p, rfl⟩ : ∃ p, m = p + 1 := ⟨m - 1, by omega⟩
      have e1 : ((p + 1 : Nat) : Int) - 1 = (p : Int) := by omega
      rw [e1]
      have hlt : p < l.length := by omega
      obtain ⟨ad, A1, c1, rfl, x0, _, _, _⟩ := at_T31 HC.out (p : Int) (by omega) (by omega)
      simp only [Int.toNat_natCast] at x0
      obtain ⟨q, hq⟩ : ∃ q, q = rd_T31 l (p : Int) := ⟨_, rfl⟩
      rw [← hq] at x0
      have hqe : q = l[p] := by rw [hq]; simp [rd_T31, List.getD_eq_getElem?_getD, List.getElem?_eq_getElem hlt]
      have hvs := HV.out
      rw [List.take_succ_eq_append_getElem hlt, verAt_snoc, ← hqe] at hvs
      have HVS := Lib.hid hvs
      have HQ := Lib.hid hqe
      have b1 : (0 : Int) ≤ (p : Int) := by omega
      have b2 : (p : Int) < (l.length : Int) := by omega
      clear hq hqe hvs HV e1 h0
      by_cases hle : q.f0 ≤ t
      · have HX := Lib.hid (show verAt l t = some q by rw [HVS.out, if_pos hle])
        go_wp2
        try rw [Exit.noGoto_ret]
        go_ret
        exact ⟨_, rfl, .inr ⟨p, rfl, hlt, by rw [HX.out, HQ.out]⟩, rfl⟩
      · have HX := Lib.hid (show verAt l t = verAt (l.take p) t by rw [HVS.out, if_neg hle])
        go_wp2
        go_round
        case rel => exact ⟨p, by omega, by go_num, ⟨HX.out⟩⟩
        case measure => simp [intOf]
end Go.Proofs.Ytbebihphodafiaa.Iv

namespace Go.Proofs.Ytbebihphodafiaa.Iv
open Go.RowKit Go.Proofs.YtbebihphodafiaaW.PrintWords Go.Proofs.YtbebihphodafiaaW.PrintLast Go.Proofs.YtbebihphodafiaaW.PrintMore Go.Proofs.Ytbebihphodafiaa.PWb Go.Maps
set_option linter.unusedVariables false
set_option linter.unusedSimpArgs false

def inE (blocks : Int) (e : S60) : Bool := decide (0 ≤ e.f0) && decide (1 ≤ e.f1) && decide (e.f1 ≤ blocks) && decide (e.f0 ≤ blocks - e.f1)
theorem blocksE_calls' (em : Nat) (blocks : Int) (w : World) (h : w.cell? ⟨em + 1, 0, none⟩ = some (.int .i64 blocks)) :
    Calls Try.prog 76 #[.pointer (some ⟨em + 1, 0, none⟩)] w fun e w' => e = .returned (.int .i64 blocks) ∧ w' = w :=
  (blocksE_calls em blocks w h).mono fun e w' ⟨a, b⟩ => ⟨a, b.symm⟩
set_option maxHeartbeats 4000000 in
theorem within_calls (em : Nat) (blocks : Int) (e : S60) (w : World) (h : w.cell? ⟨em + 1, 0, none⟩ = some (.int .i64 blocks)) (hb : 1 ≤ blocks ∧ blocks ≤ 1048576) :
    Calls Try.prog 71 #[.pointer (some ⟨em + 1, 0, none⟩), .agg #[.int .i64 e.f0, .int .i64 e.f1]] w fun r w' => r = .returned (.bool (inE blocks e)) ∧ RowKit.Below w.heap.size w w' := by
  obtain ⟨b1, b2⟩ := hb
  have c0 := World.cell?_alloc_at (w := w) #[.int .i64 e.f0, .int .i64 e.f1] 60 w.heap.size 0 rfl
  have c1 := World.cell?_alloc_at (w := w) #[.int .i64 e.f0, .int .i64 e.f1] 60 w.heap.size 1 rfl
  have c2 := pw_cell_below (below_alloc (Below.refl _ _) (.cells #[.int .i64 e.f0, .int .i64 e.f1] 60)) h
  have C := Lib.hid (show (w.alloc (.cells #[.int .i64 e.f0, .int .i64 e.f1] 60)).cell? ⟨w.heap.size, 0, none⟩ = some (.int .i64 e.f0) ∧ (w.alloc (.cells #[.int .i64 e.f0, .int .i64 e.f1] 60)).cell? ⟨w.heap.size, 1, none⟩ = some (.int .i64 e.f1) ∧ (w.alloc (.cells #[.int .i64 e.f0, .int .i64 e.f1] 60)).cell? ⟨em + 1, 0, none⟩ = some (.int .i64 blocks) from ⟨c0, c1, c2⟩)
  have HB := Lib.hid (below_alloc (Below.refl w.heap.size w) (.cells #[.int .i64 e.f0, .int .i64 e.f1] 60))
  clear c0 c1 c2 h
  by_cases g0 : 0 ≤ e.f0
  · by_cases g1 : 1 ≤ e.f1
    · by_cases g2 : e.f1 ≤ blocks
      · have wr : IntKind.i64.wrap (blocks - e.f1) = blocks - e.f1 := IntWalk.i64_in _ (by omega)
        by_cases g3 : e.f0 ≤ blocks - e.f1
        · have d0 : decide (0 ≤ e.f0) = true := by simpa using g0
          have d1 : decide (1 ≤ e.f1) = true := by simpa using g1
          have d2 : decide (e.f1 ≤ blocks) = true := by simpa using g2
          have d3 : decide (e.f0 ≤ blocks - e.f1) = true := by simpa using g3
          go_enter Try.func71, Try.ntmps71
          go_wp2
          obtain ⟨w5, h5⟩ : ∃ y, y = w.alloc (.cells #[.int .i64 e.f0, .int .i64 e.f1] 60) := ⟨_, rfl⟩
          rw [← h5] at C HB ⊢
          clear h5
          obtain ⟨k0, k1, k2⟩ := C.out
          go_quiet ((go_at_call 76; exact Calls.quiet_of_same (blocksE_calls' em blocks _ (by assumption))))
          go_wp2
          go_ret
          exact ⟨by unfold inE; first | (simp [g0, g1, g2, g3]; done) | (simp [g0, g1, g2, g3]; omega), pw_below_drewN HB.out _⟩
        · have d0 : decide (0 ≤ e.f0) = true := by simpa using g0
          have d1 : decide (1 ≤ e.f1) = true := by simpa using g1
          have d2 : decide (e.f1 ≤ blocks) = true := by simpa using g2
          have d3 : decide (e.f0 ≤ blocks - e.f1) = false := by simpa using g3
          go_enter Try.func71, Try.ntmps71
          go_wp2
          obtain ⟨w5, h5⟩ : ∃ y, y = w.alloc (.cells #[.int .i64 e.f0, .int .i64 e.f1] 60) := ⟨_, rfl⟩
          rw [← h5] at C HB ⊢
          clear h5
          obtain ⟨k0, k1, k2⟩ := C.out
          go_quiet ((go_at_call 76; exact Calls.quiet_of_same (blocksE_calls' em blocks _ (by assumption))))
          go_wp2
          go_ret
          exact ⟨by unfold inE; first | (simp [g0, g1, g2, g3]; done) | (simp [g0, g1, g2, g3]; omega), pw_below_drewN HB.out _⟩
      · have d0 : decide (0 ≤ e.f0) = true := by simpa using g0
        have d1 : decide (1 ≤ e.f1) = true := by simpa using g1
        have d2 : decide (e.f1 ≤ blocks) = false := by simpa using g2
        go_enter Try.func71, Try.ntmps71
        go_wp2
        obtain ⟨w5, h5⟩ : ∃ y, y = w.alloc (.cells #[.int .i64 e.f0, .int .i64 e.f1] 60) := ⟨_, rfl⟩
        rw [← h5] at C HB ⊢
        clear h5
        obtain ⟨k0, k1, k2⟩ := C.out
        go_quiet ((go_at_call 76; exact Calls.quiet_of_same (blocksE_calls' em blocks _ (by assumption))))
        go_wp2
        go_ret
        exact ⟨by unfold inE; first | (simp [g0, g1, g2]; done) | (simp [g0, g1, g2]; omega), pw_below_drewN HB.out _⟩
    · have d0 : decide (0 ≤ e.f0) = true := by simpa using g0
      have d1 : decide (1 ≤ e.f1) = false := by simpa using g1
      go_enter Try.func71, Try.ntmps71
      go_wp2
      obtain ⟨w5, h5⟩ : ∃ y, y = w.alloc (.cells #[.int .i64 e.f0, .int .i64 e.f1] 60) := ⟨_, rfl⟩
      rw [← h5] at C HB ⊢
      clear h5
      obtain ⟨k0, k1, k2⟩ := C.out
      go_quiet ((go_at_call 76; exact Calls.quiet_of_same (blocksE_calls' em blocks _ (by assumption))))
      go_wp2
      go_ret
      exact ⟨by unfold inE; first | (simp [g0, g1]; done) | (simp [g0, g1]; omega), pw_below_drewN HB.out _⟩
  · have d0 : decide (0 ≤ e.f0) = false := by simpa using g0
    go_enter Try.func71, Try.ntmps71
    go_wp2
    obtain ⟨w5, h5⟩ : ∃ y, y = w.alloc (.cells #[.int .i64 e.f0, .int .i64 e.f1] 60) := ⟨_, rfl⟩
    rw [← h5] at C HB ⊢
    clear h5
    obtain ⟨k0, k1, k2⟩ := C.out
    go_quiet ((go_at_call 76; exact Calls.quiet_of_same (blocksE_calls' em blocks _ (by assumption))))
    go_wp2
    go_ret
    exact ⟨by unfold inE; first | (simp [g0]; done) | (simp [g0]; omega), pw_below_drewN HB.out _⟩

/-- What a block was at a time. -/
def getE (V : Int → List S31) (x t : Int) : List Int := ((verAt (V x) t).map (·.f1)).getD (List.replicate 40 0)
theorem getE_len {V : Int → List S31} (h : ∀ x, ∀ p ∈ V x, p.f1.length = 40) (x t : Int) : (getE V x t).length = 40 := by
  unfold getE
  cases hv : verAt (V x) t with
  | none => simp
  | some p =>
    have := List.mem_of_find?_eq_some hv
    exact h x p (by simpa using this)
set_option maxHeartbeats 8000000 in
set_option maxRecDepth 100000 in
theorem getE_calls (fr em : Nat) (blocks last : Int) (V : Int → List S31) (x t : Int) (w : World) (hE : IsExt w fr em blocks last V) (hx : 0 ≤ x ∧ x < blocks) :
    Calls Try.prog 72 #[.pointer (some ⟨em + 1, 0, none⟩), .int .i64 x, .int .i64 t] w fun e w' => ∃ v ti, e = .returned (.tuple #[v, .int .i64 ti]) ∧ RowKit.Below w.heap.size w w' ∧ Kd.R kb 5 w' w.heap.size (fun _ => True) v (getE V x t) := by
  have hbl := hE.bl
  obtain ⟨x0, x1⟩ := hx
  have hwf := wf_small x x0 (by omega)
  have HBK := Lib.hid (blockE_calls em blocks x w hE.c0)
  have HAT := Lib.hid (at_calls fr em blocks last V x t w hE hwf)
  obtain ⟨A, c, hrun, hl, hC⟩ := hE.look x hwf
  replace hrun := hrun w rfl
  have c1 := hE.c1
  have HDT := Lib.hid (hE.dat x)
  have hbk : (decide (0 ≤ x) && decide (x < blocks)) = true := by simp [x0, x1]
  obtain ⟨l, hl'⟩ : ∃ l, l = V x := ⟨_, rfl⟩
  have HG : Hid (getE V x t = ((verAt l t).map (·.f1)).getD (List.replicate 40 0)) := Lib.hid (by rw [hl']; rfl)
  obtain ⟨G, hG⟩ : ∃ G, G = getE V x t := ⟨_, rfl⟩
  rw [← hG] at HG ⊢
  rw [← hl'] at hrun hl hC HAT HDT
  rw [hbk] at HBK
  have HC := Lib.hid hC
  have hn : l.length ≤ 9223372036854775807 := hC.2.1
  clear hE hwf hl' hC hbk hG
  cases hv : verAt l t with
  | none =>
    have HA := Lib.hid (HAT.out.mono fun e w' ⟨i, he, hi, hw⟩ => (show e = Ending.returned (.int .i64 (-1)) ∧ w' = w by
      rcases hi with ⟨h1, _⟩ | ⟨k, _, _, h3⟩
      · rw [he, h1]; exact ⟨rfl, hw⟩
      · rw [hv] at h3; cases h3))
    have HG0 := Lib.hid (show G = List.replicate (40 : Int).toNat 0 by rw [HG.out, hv]; rfl)
    clear hv HAT HG hrun hl
    go_enter Try.func72, Try.ntmps72
    go_wp2_with (first
      | (go_at_call 60; go_must (refine HBK.out.mono ?_; rintro _ w1 ⟨rfl, rfl⟩))
      | (go_at_call 82; go_must (refine HA.out.mono ?_; rintro _ w2 ⟨rfl, rfl⟩))
      | ((with_reducible refine gate_dst (N := 20) rfl ?_); go_must (refine Kd.R_make kb (w0 := w2) w2.heap.size 5 rfl (N := 20) rfl 28 _ _ rfl 40 rfl rfl Try.underlying28 (.int .u8 0) 1 info5 rfl (by decide) (by decide) (0 : Int) (ok := fun _ => True) (okp := fun _ => True) rfl (fun _ h => h) trivial (by decide) (by decide) (Below.refl _ _) (Nat.le_refl _) ?_; intro v3 w3 hR3 hB3 hg3 hb3; rw [← HG0.out] at hR3; obtain ⟨A3, c3, hv3⟩ := Kd.R_slice hR3; subst hv3; have HR3 := Lib.hid hR3; have HB3 := Lib.hid hB3; clear hR3 hB3 hg3 hb3)))
    go_ret2
    exact ⟨_, 0, rfl, HB3.out, HR3.out⟩
  | some p =>
    have HA := Lib.hid (HAT.out.mono fun e w' ⟨i, he, hi, hw⟩ => (show ∃ k : Nat, e = Ending.returned (.int .i64 k) ∧ (k < l.length ∧ rd_T31 l (k : Int) = p) ∧ w' = w by
      rcases hi with ⟨_, h2⟩ | ⟨k, h1, h2, h3⟩
      · rw [hv] at h2; cases h2
      · rw [hv] at h3
        exact ⟨k, by rw [he, h1], ⟨h2, by injection h3 with h3; rw [h3]; simp [rd_T31, List.getD_eq_getElem?_getD, List.getElem?_eq_getElem h2]⟩, hw⟩))
    have HG0 := Lib.hid (show G = p.f1 by rw [HG.out, hv]; rfl)
    have H40 := Lib.hid (show p.f1.length = 40 from by
      have h1 := List.mem_of_find?_eq_some hv
      exact HDT.out p (by simpa using h1))
    clear hv HAT HG hl
    go_enter Try.func72, Try.ntmps72
    go_wp2_with (first
      | (go_at_call 60; go_must (refine HBK.out.mono ?_; rintro _ w1 ⟨rfl, rfl⟩))
      | (go_at_call 82; go_must (refine HA.out.mono ?_; rintro _ w2 ⟨k, rfl, ⟨hk, hp⟩, rfl⟩; obtain ⟨ad, A1, c4, hA, x0, x1, x2, x3⟩ := at_T31 HC.out (k : Int) (by omega) (by omega); rw [hp] at x0 x1 x2 x3; subst hA; simp only [Int.toNat_natCast] at x0 x1; have b1 : (0 : Int) ≤ (k : Int) := (by omega); have b2 : (k : Int) < (l.length : Int) := (by omega); have HX3 := Lib.hid x3; clear hp x2 x3)))
    obtain ⟨w5, h5⟩ : ∃ y, y = w2.alloc (.cells #[.int .i64 p.f0, .slice A1 p.f1.length c4] 126) := ⟨_, rfl⟩
    have y0 := World.cell?_alloc_at (w := w2) #[.int .i64 p.f0, .slice A1 p.f1.length c4] 126 w2.heap.size 0 rfl
    have y1 := World.cell?_alloc_at (w := w2) #[.int .i64 p.f0, .slice A1 p.f1.length c4] 126 w2.heap.size 1 rfl
    have hb5 := below_alloc (Below.refl w2.heap.size w2) (.cells #[.int .i64 p.f0, .slice A1 p.f1.length c4] 126)
    rw [← h5] at y0 y1 hb5 ⊢
    clear h5
    have y0' : w5.cell? ⟨w2.heap.size, 0, none⟩ = some (.int .i64 p.f0) := y0
    have y1' : w5.cell? ⟨w2.heap.size, 1, none⟩ = some (.slice A1 p.f1.length c4) := y1
    have HX5 := Lib.hid (Kd.C_below HX3.out (below_drew1 hb5))
    have HB5 := Lib.hid (below_drew1 hb5)
    clear y0 y1 hb5 x0 x1
    go_region_held3 (fun w' => w'.cell? ⟨w2.heap.size, 0, none⟩ = some (.int .i64 p.f0) ∧ w'.cell? ⟨w2.heap.size, 1, none⟩ = some (.slice A1 p.f1.length c4))
      (first | exact HS6.out | exact ⟨y0', y1'⟩)
      ((go_at_call 49; refine (cloneB_calls A1 c4 p.f1 _ HX5.out (by have := H40.out; omega)).mono ?_; rintro _ w6 ⟨v6, rfl, hB6, hR6⟩; have HS6 := Lib.hid (show w6.cell? ⟨w2.heap.size, 0, none⟩ = some (.int .i64 p.f0) ∧ w6.cell? ⟨w2.heap.size, 1, none⟩ = some (.slice A1 p.f1.length c4) from ⟨pw_cell_below hB6 y0', pw_cell_below hB6 y1'⟩); have HB6 := Lib.hid (below_step HB5.out hB6); have HR6 := Lib.hid (Kd.R_lower hR6 HB5.out.size); clear hB6 hR6))
    go_wp2
    go_ret2
    exact ⟨_, _, rfl, HB6.out, by rw [HG0.out]; exact HR6.out⟩
def rangeK (V : Int → List S31) (x t : Int) (k : Nat) : List Int := (List.range k).flatMap (fun i : Nat => getE V (x + (i : Int)) t)
theorem rangeK_succ (V : Int → List S31) (x t : Int) (k : Nat) : rangeK V x t (k + 1) = rangeK V x t k ++ getE V (x + (k : Int)) t := by
  unfold rangeK
  rw [List.range_succ, List.flatMap_append]
  simp
theorem rangeK_len {V : Int → List S31} (h : ∀ x, ∀ p ∈ V x, p.f1.length = 40) (x t : Int) (k : Nat) : (rangeK V x t k).length = 40 * k := by
  induction k with
  | zero => rfl
  | succ k ih => rw [rangeK_succ, List.length_append, ih, getE_len h]; omega
theorem inE_iff (blocks : Int) (e : S60) : inE blocks e = true ↔ 0 ≤ e.f0 ∧ 1 ≤ e.f1 ∧ e.f1 ≤ blocks ∧ e.f0 ≤ blocks - e.f1 := by
  simp [inE, and_assoc]
set_option maxHeartbeats 8000000 in
set_option maxRecDepth 100000 in
theorem range_calls (fr em : Nat) (blocks last : Int) (V : Int → List S31) (e : S60) (t : Int) (w : World) (hE : IsExt w fr em blocks last V) (hi : inE blocks e = true) :
    Calls Try.prog 56 #[.pointer (some ⟨em + 1, 0, none⟩), .agg #[.int .i64 e.f0, .int .i64 e.f1], .int .i64 t] w fun r w' => ∃ v, r = .returned (.tuple #[v, .int .i64 0]) ∧ RowKit.Below w.heap.size w w' ∧ Kd.R kb 5 w' w.heap.size (fun _ => True) v (rangeK V e.f0 t e.f1.toNat) := by
  have HE := Lib.hid (fun w' (h : RowKit.Below w.heap.size w w') => hE.below h)
  have hbl := hE.bl
  have HDT := Lib.hid hE.dat
  have HIN := Lib.hid hi
  obtain ⟨i0, i1, i2, i3⟩ := (inE_iff blocks e).1 hi
  obtain ⟨n, hn⟩ : ∃ n : Nat, n = e.f1.toNat := ⟨_, rfl⟩
  rw [← hn]
  have hn1 : e.f1 = (n : Int) := by omega
  obtain ⟨f0, f1⟩ := e
  simp only at hn1 i0 i1 i2 i3 hn ⊢
  subst hn1
  have HB0 := Lib.hid (below_alloc (Below.refl w.heap.size w) (.cells #[.int .i64 f0, .int .i64 (n : Int)] 60))
  have HK := Lib.hid (show (w.alloc (.cells #[.int .i64 f0, .int .i64 (n : Int)] 60)).cell? ⟨w.heap.size, 0, none⟩ = some (.int .i64 f0) ∧ (w.alloc (.cells #[.int .i64 f0, .int .i64 (n : Int)] 60)).cell? ⟨w.heap.size, 1, none⟩ = some (.int .i64 (n : Int)) from ⟨World.cell?_alloc_at _ _ _ _ rfl, World.cell?_alloc_at _ _ _ _ rfl⟩)
  clear hE hi hn
  go_enter Try.func56, Try.ntmps56
  go_wp2_with (go_at_call 71; go_must (refine (within_calls em blocks ⟨f0, (n : Int)⟩ _ (HE.out _ HB0.out).c0 hbl).mono ?_; rintro _ w1 ⟨rfl, hB1⟩; rw [HIN.out]; have HB1 := Lib.hid (below_step HB0.out hB1); have k0 := pw_cell_below hB1 HK.out.1; have k1 := pw_cell_below hB1 HK.out.2; have HK1 := Lib.hid (And.intro k0 k1); clear hB1))
  clear k0 k1
  go_loopw [6, 8, 9, 10, 17] (fun v _ _ _ i wr => ∃ k : Nat, k ≤ n ∧ i = .int .i64 k ∧ Aside0 (RowKit.Below w1.heap.size w1 wr ∧ Kd.R kb 5 wr w1.heap.size (fun _ => True) v (rangeK V f0 t k))) (fun _ _ _ _ i _ => n - (intOf i).toNat)
  case atStart => exact ⟨0, Nat.zero_le _, rfl, ⟨Below.refl _ _, Kd.R_nil _ _ _ _ _⟩⟩
  case round =>
    obtain ⟨k, hk, rfl, HO⟩ := hrel
    obtain ⟨A2, c2, hv2⟩ := Kd.R_slice HO.out.2
    subst hv2
    have HR := Lib.hid HO.out.2
    have HB := Lib.hid HO.out.1
    have hrl := rangeK_len HDT.out f0 t k
    have k0 := pw_cell_below HB.out HK1.out.1
    have k1 := pw_cell_below HB.out HK1.out.2
    clear HO
    by_cases hlt : k < n
    · have HT := Lib.hid (rangeK_succ V f0 t k)
      have hgl := getE_len HDT.out (f0 + (k : Int)) t
      have HGE := Lib.hid (getE_calls fr em blocks last V (f0 + (k : Int)) t wr (HE.out _ (Below.trans HB1.out (HB.out.mono HB1.out.size))) (by omega))
      obtain ⟨G, hG⟩ : ∃ G, G = getE V (f0 + (k : Int)) t := ⟨_, rfl⟩
      rw [← hG] at HT HGE hgl
      have HL := Lib.hid (show (rangeK V f0 t k).length + G.length ≤ 140737488355328 by omega)
      obtain ⟨X, hX⟩ : ∃ X, X = rangeK V f0 t k := ⟨_, rfl⟩
      rw [← hX] at HT HR HL ⊢
      have b2 : (k : Int) < (n : Int) := by omega
      clear hrl hgl hG hX
      go_wp2_with (first
        | (go_at_call 72; go_must (refine HGE.out.mono ?_; rintro _ w6 ⟨v6, ti, rfl, hB6, hR6⟩; obtain ⟨A6, c6, hv6, _, hC6⟩ := Kd.R_reads hR6; subst hv6; have HB6 := Lib.hid (below_step HB.out hB6); have HC6 := Lib.hid hC6; have HO6 := Lib.hid (Kd.R_below HR.out hB6); clear hB6 hR6 hC6))
        | ((with_reducible refine gate_builtin (b := .append) (xs := #[.tmp 30, .tmp 31]) rfl ?_); at_builtin; go_must (refine app_bytes (w0 := w1) w1.heap.size rfl (.tmp 30) (.tmp 31) rfl (.slice A2 X.length c2) X G A6 G.length c6 rfl rfl HO6.out HC6.out HB6.out HB6.out.size (by have := HL.out; omega) ?_; intro v7 w7 hR7 hB7 hg7 _; have HR7 := Lib.hid hR7; have HB7 := Lib.hid hB7; clear hR7 hB7 hg7)))
      go_roundw
      case rel => exact ⟨k + 1, by omega, by go_num, ⟨HB7.out, by rw [HT.out]; exact HR7.out⟩⟩
      case measure => simp [intOf]; omega
    · obtain rfl : k = n := by omega
      have b2 : ¬ (k : Int) < (k : Int) := by omega
      obtain ⟨X, hX⟩ : ∃ X, X = rangeK V f0 t k := ⟨_, rfl⟩
      rw [← hX] at HR ⊢
      have HXX := Lib.hid hX
      clear hrl hX
      go_wp2
      try rw [Exit.noGoto_ret]
      go_ret2
      exact ⟨_, rfl, Below.trans HB1.out (HB.out.mono HB1.out.size), by rw [← HXX.out]; exact Kd.R_lower HR.out HB1.out.size⟩
theorem rangeBad_calls (fr em : Nat) (blocks last : Int) (V : Int → List S31) (e : S60) (t : Int) (w : World) (hE : IsExt w fr em blocks last V) (hi : inE blocks e = false) :
    Calls Try.prog 56 #[.pointer (some ⟨em + 1, 0, none⟩), .agg #[.int .i64 e.f0, .int .i64 e.f1], .int .i64 t] w fun r w' => r = .returned (.tuple #[.slice none 0 0, .int .i64 2]) ∧ RowKit.Below w.heap.size w w' := by
  have HE := Lib.hid (fun w' (h : RowKit.Below w.heap.size w w') => hE.below h)
  have hbl := hE.bl
  have HIN := Lib.hid hi
  have HB0 := Lib.hid (below_alloc (Below.refl w.heap.size w) (.cells #[.int .i64 e.f0, .int .i64 e.f1] 60))
  clear hE hi
  go_enter Try.func56, Try.ntmps56
  go_wp2_with (go_at_call 71; go_must (refine (within_calls em blocks e _ (HE.out _ HB0.out).c0 hbl).mono ?_; rintro _ w1 ⟨rfl, hB1⟩; rw [HIN.out]; have HB1 := Lib.hid (below_step HB0.out hB1); clear hB1))
  try rw [Exit.noGoto_ret]
  go_ret2
  exact ⟨rfl, HB1.out⟩
end Go.Proofs.Ytbebihphodafiaa.Iv

namespace Go.Proofs.Ytbebihphodafiaa.Iv
open Go.RowKit Go.Proofs.YtbebihphodafiaaW.PrintWords Go.Proofs.YtbebihphodafiaaW.PrintLast Go.Proofs.YtbebihphodafiaaW.PrintMore Go.Proofs.Ytbebihphodafiaa.PWb Go.Maps
set_option linter.unusedVariables false
set_option linter.unusedSimpArgs false

/-! ### what was read: block, bytes, one's own? -/
structure S77 where
  f0 : Int
  f1 : (List Int)
  f2 : Bool
def z77 : S77 := ⟨0, [], false⟩
def k77 : Kd S77 := Kd.iso (Kd.pair (Kd.int .i64) (Kd.pair (Kd.slice 5 (Kd.int .u8)) Kd.bool)) (fun x : S77 => (x.f0, x.f1, x.f2))
theorem k77_open {w : World} {x : S77} {cs : List Value} (h : k77.K w x cs) : ∃ A1 c1, cs = [.int .i64 x.f0, .slice A1 x.f1.length c1, .bool x.f2] ∧ x.f1.length ≤ c1 ∧ (Kd.int .u8).C w A1 x.f1.length x.f1 := by
  obtain ⟨_, _, rfl, rfl, ⟨_, _, rfl, ⟨A2, c2, rfl, l2, g2⟩, rfl⟩⟩ := h
  exact ⟨A2, c2, rfl, l2, g2⟩
theorem k77_mkM (w : World) (base : Nat) (ok : Nat → Prop) (x : S77) {v1 : Value} (g : (Kd.int .u8).R 5 w base ok v1 x.f1) : k77.M w base ok x [.int .i64 x.f0, v1, .bool x.f2] := ⟨[.int .i64 x.f0], [v1, .bool x.f2], rfl, rfl, ⟨[v1], [.bool x.f2], rfl, ⟨v1, rfl, g⟩, rfl⟩⟩
def rd_T77 (xs : List S77) (i : Int) : S77 := xs.getD i.toNat z77
theorem at_T77 {w : World} {A : Option Addr} {n : Nat} {xs : List S77} (h : Kd.C k77 w A n xs) (i : Int) (h0 : 0 ≤ i) (h1 : i < n) : ∃ ad A1 c1, A = some ad ∧ w.cell? (ad.add (i.toNat * 3)) = some (.int .i64 (rd_T77 xs i).f0) ∧ w.cell? ⟨(ad.add (i.toNat * 3)).block, (ad.add (i.toNat * 3)).off + 1, none⟩ = some (.slice A1 (rd_T77 xs i).f1.length c1) ∧ w.cell? ⟨(ad.add (i.toNat * 3)).block, (ad.add (i.toNat * 3)).off + 2, none⟩ = some (.bool (rd_T77 xs i).f2) ∧ (rd_T77 xs i).f1.length ≤ c1 ∧ (Kd.int .u8).C w A1 (rd_T77 xs i).f1.length (rd_T77 xs i).f1 := by
  obtain ⟨ad, c, e, _, hK, hc0⟩ := Kd.C_get h z77 i h0 h1
  have hc : ∀ j u, c[j]? = some u → w.cell? (ad.add (i.toNat * 3 + j)) = some u := hc0
  obtain ⟨A1, c1, rfl, l2, g2⟩ := k77_open hK
  exact ⟨ad, A1, c1, e, hc 0 _ rfl, by rw [← add_field _ _ 1 (by omega)]; exact hc 1 _ rfl, by rw [← add_field _ _ 2 (by omega)]; exact hc 2 _ rfl, l2, g2⟩
/-! ### rows beside what is written -/
/-- A change of one block that is no block of these types, or is older. -/
def Off (W : World) (base : Nat) (ts : List Nat) (row : Option Nat) : Prop := ∀ k, row = some k → k < base ∨ ∃ cells t, t ∉ ts ∧ W.heap[k]? = some (.cells cells t (0, 0))
theorem R_off {α : Type} {d : Kd α} {e : Nat} {W w1 : World} {base : Nat} {ok : Nat → Prop} {v : Value} {xs : List α} (h : d.R e W base ok v xs) {row : Option Nat} (hg : W.grownBy w1 row) (hr : Off W base (e :: d.E) row) : d.R e w1 base ok v xs := by
  cases hrow : row with
  | none => subst hrow; exact Kd.R_grown h hg (fun k _ e => by cases e)
  | some k =>
    subst hrow
    rcases hr k rfl with h1 | ⟨cells, t, h1, h2⟩
    · refine Kd.R_mono (Kd.R_grown (Kd.R_bound h) hg (fun j hj e => ?_)) (fun _ hk => hk.1)
      injection e with e
      have := hj.2.1
      omega
    · exact Kd.R_over' (v := .slice (some ⟨k, 0, none⟩) 0 0) h (fun j hj => by simp only [Value.ownBlock, Option.map_some, Option.some.injEq] at hj; subst hj; exact ⟨cells, h2⟩) (fun q hq he => h1 (by rw [← he]; exact hq)) hg
theorem IsExt.grown2 {W W' : World} {fr em : Nat} {blocks last : Int} {V : Int → List S31} (h : IsExt W fr em blocks last V) {row : Option Nat} (hg : W.grownBy W' row) (hr : ∀ k, row = some k → k ≠ em ∧ k ≠ em + 1) (ho : Off W fr [126, 5] row) : IsExt W' fr em blocks last V := by
  have h1 : some (em + 1) ≠ row := fun e => (hr _ e.symm).2 rfl
  have h2 : some em ≠ row := fun e => (hr _ e.symm).1 rfl
  obtain ⟨n, D, vv, d1, d2, d3, d4, d5⟩ := h.map
  refine ⟨h.lt, hg.cell h.c0 h1, hg.cell h.c1 h1, hg.cell h.c2 h1, ⟨n, D, vv, d1.kept hg h2, d2, d3, fun x hx => ?_, d5⟩, h.rng, h.dat, h.bl, by rw [frozen_grown hg (World.block_lt_of_cell? _ _ h.c0) h1]; exact h.f2⟩
  obtain ⟨e1, e2, e3⟩ := d4 x hx
  exact ⟨e1, e2, R_off e3 hg ho⟩
theorem grown_set {W : World} {g j : Nat} {u : Value} : W.grownBy (W.setCell ⟨g, j, none⟩ u) (some g) :=
  ⟨rfl, rfl, rfl, by simp [World.setCell], fun i _ hi => Below.heap_setCell W ⟨g, j, none⟩ u i (fun e => hi (by rw [e]))⟩
theorem C60_grown {W W' : World} {row : Option Nat} {A : Option Addr} {n : Nat} {l : List S60} (h : Kd.C k60 W A n l) (hg : W.grownBy W' row) (hA : ∀ x, A = some x → some x.block ≠ row) : Kd.C k60 W' A n l := by
  refine ⟨h.1, h.2.1, fun hp => ?_⟩
  obtain ⟨ad, he, hc⟩ := h.2.2 hp
  refine ⟨ad, he, fun j p hj => ?_⟩
  obtain ⟨cs, c1, c2, c3⟩ := hc j p hj
  obtain rfl := k60_open c2
  exact ⟨_, c1, k60_mk _ _, fun i u hu => hg.cell (c3 i u hu) (by rw [addr_block]; exact hA ad he)⟩
theorem IsSet.grown2 {W W' : World} {fr b : Nat} {most : Int} {L : List S60} (h : IsSet W fr b most L) {row : Option Nat} (hg : W.grownBy W' row) (hr : ∀ k, row = some k → k ≠ b) (ho : Off W fr [60] row) : IsSet W' fr b most L := by
  obtain ⟨h1, h2, ⟨A, c, h3, h4, h5, h6⟩, h7, h8, h9⟩ := h
  have hlt := World.block_lt_of_cell? _ _ h2
  have hb : some b ≠ row := fun e => hr _ e.symm rfl
  have hne : ∀ x, A = some x → some x.block ≠ row := fun x hx e => by
    obtain ⟨k1, cells, k2⟩ := h6 x hx
    rcases ho _ e.symm with h | ⟨cs, t, e1, e2⟩
    · omega
    · rw [k2] at e2; injection e2 with e2; injection e2 with _ e2; exact e1 (by rw [← e2]; simp)
  refine ⟨h1, hg.cell h2 hb, ⟨A, c, hg.cell h3 hb, h4, C60_grown h5 hg hne, fun x hx => ⟨(h6 x hx).1, (h6 x hx).2.elim fun cells e => ⟨cells, (hg.block x.block (blk_lt e) (hne x hx)).trans e⟩⟩⟩, by rw [frozen_grown hg hlt hb]; exact h7, h8, h9⟩
/-! ### copy into the middle of a row of bytes -/
theorem copy_mid {P : Program} {W : World} {base g lo cap cap2 m c : Nat} {ty : TypeId} {ok : Nat → Prop} {xs ys : List Int} {A : Option Addr} (ht : P.underlying 28 = some (.slice 5)) (hinfo : (P.info? 5).map (·.size) = some 1)
    (HO : Kd.R kb 5 W base ok (.slice (some ⟨g, 0, none⟩) xs.length cap) xs) (HR : Kd.C kb W A m ys) (hm0 : 0 < m) (hlo : lo + m ≤ xs.length) :
    ∃ w1, (Builtin.copy_ #[28, 28] ty #[.slice (some ⟨g, lo, none⟩) m cap2, .slice A m c]).run P W = .ok (goInt (m : Int)) w1 ∧ Kd.R kb 5 w1 base ok (.slice (some ⟨g, 0, none⟩) xs.length cap) (xs.take lo ++ ys ++ xs.drop (lo + m)) ∧ W.grownBy w1 (some g) := by
  have hR := Kd.reads_of_C (d := (0 : Int)) HR
  have hm : ys.length = m := hR.1
  have hown := Kd.own_of_R HO
  obtain ⟨ad, hA, hc⟩ := hR.2.2 hm0
  rcases hown.2 with ⟨hx0, _⟩ | ⟨g', cap', cur, hv, hb, hh, hnc, hcm, hcs, htake⟩
  · cases hx0
  injection hv with h1 h2 h3
  injection h1 with h1
  injection h1 with h1
  subst h1
  subst h3
  obtain ⟨enc, henc⟩ : ∃ f : Int → Value, f = Value.int .u8 := ⟨_, rfl⟩
  have hsrc : ∀ j u, (ys.map (Value.int .u8))[j]? = some u → W.cell? (ad.add j) = some u := by
    intro j u hu
    have hj : j < ys.length := by
      rcases Nat.lt_or_ge j ys.length with h | h
      · exact h
      · rw [List.getElem?_eq_none (by simpa using h)] at hu
        cases hu
    rw [hc j (by omega), ← hu]
    simp [List.getD_eq_getElem?_getD, hj]
  have hkl : (ys.map (Value.int .u8)).length = m := by simp [hm]
  have hcs1 : cur.size = cap := by omega
  have hr := run_copy_cells (P := P) W 28 28 ty 5 g lo m cap2 ad m c (ys.map (Value.int .u8)) ht hinfo (by rw [hkl]; simp) hsrc
    (fun j hj => by rw [cell_of_row W g _ cur 5 (0, 0) hh]; simp; omega) (fun j _ => blk_frozen hh _) (by intro u hu; simp only [List.mem_map] at hu; obtain ⟨q, _, rfl⟩ := hu; rfl)
  obtain ⟨cur', h3, h4, h5⟩ := setCells_row (ys.map (Value.int .u8)) lo W cur hh (by rw [hkl]; omega)
  obtain ⟨s1, s2, s3, s4⟩ := setCells_same g (ys.map (Value.int .u8)) lo W
  have hln : (xs.take lo ++ ys ++ xs.drop (lo + m)).length = xs.length := by
    rw [List.length_append, List.length_append, List.length_take, List.length_drop]
    omega
  refine ⟨_, by rw [hA, hr, hkl], Kd.R_of_own ?_ HO.1, ⟨s1, s2, s3, by rw [s4]; exact Nat.le_refl _, fun k _ hk => setCells_far _ _ k (fun he => hk (by rw [he]))⟩⟩
  rw [hln]
  refine ⟨by rw [encs_length, hln, Nat.mul_one], .inr ⟨g, cap, cur', rfl, hb, h3, hnc, hcm, by rw [h4, hcs], ?_⟩⟩
  have htk : cur.toList.take xs.length = xs.map (Value.int .u8) := by rw [← Nat.mul_one xs.length, htake]; rfl
  have hcl : cur.toList.length = cap := by rw [Array.length_toList]; omega
  rw [h5, hkl, Nat.mul_one]
  have e1 : cur.toList.take lo = (xs.map (Value.int .u8)).take lo := by rw [← htk, List.take_take]; congr 1; omega
  have e2 : (cur.toList.drop (lo + m)).take (xs.length - (lo + m)) = (xs.map (Value.int .u8)).drop (lo + m) := by rw [← htk, List.drop_take]
  rw [List.take_append, List.take_of_length_le (by simp; omega)]
  have e3 : (cur.toList.take lo ++ ys.map (Value.int .u8)).length = lo + m := by simp [hm]; omega
  rw [e3, e2, e1]
  show _ = (xs.take lo ++ ys ++ xs.drop (lo + m)).map (Value.int .u8)
  simp [List.map_append, List.map_take, List.map_drop]
end Go.Proofs.Ytbebihphodafiaa.Iv
