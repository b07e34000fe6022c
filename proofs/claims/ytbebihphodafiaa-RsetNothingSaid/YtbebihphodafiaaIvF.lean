/- Walks of the set of extents: made, added to. -/
import Derived.Test.YtbebihphodafiaaProg
import Derived.Below
import Derived.Deep.Draws
import Derived.Deep.AppendLies
import Derived.Maps.AppendAt
import Derived.OwnWalk
import Derived.Laws.BytesArg
import Derived.Laws.MakeOwn
import Derived.Laws.OwnMore
import Derived.Deep.OwnRows
import Derived.Tactics
import Derived.Lib.ConvBytes
import Derived.Laws.Slices
import Derived.WalkKit
import Derived.KernelRfl
import Derived.RowKit3
import Derived.Deep.LoopGhost
import Derived.Deep.QuietTactic
import Derived.BigQuiet
import Derived.WideLaws
import Derived.Deep.DeepCutAuto
import Derived.Deep.CutBlock
import Derived.Deep.RegionHeld3
import Derived.Laws.Rows
import Derived.Lib.AppendStr
import Derived.ArgAppend
import Derived.Laws.IdiomCopy
import Derived.OrdersHeld
import Derived.Laws.BitsLemmas
import Derived.RowKit
import Derived.Test.YtbebihphodafiaaWWords
import Derived.Test.YtbebihphodafiaaWLast
import Derived.Test.YtbebihphodafiaaWTab
import Derived.Test.YtbebihphodafiaaWFour
import Derived.Test.YtbebihphodafiaaWQPut
import Derived.Test.YtbebihphodafiaaWApart
import Derived.Test.YtbebihphodafiaaWArr
import Derived.Test.YtbebihphodafiaaWZeros
import Derived.Test.YtbebihphodafiaaWFoot
import Derived.Test.YtbebihphodafiaaWKept
import Derived.Test.YtbebihphodafiaaWShare
import Derived.Test.YtbebihphodafiaaWN
import Derived.Test.YtbebihphodafiaaWFootNe
import Derived.Test.YtbebihphodafiaaWAt
import Derived.Test.YtbebihphodafiaaWEqStruct
import Derived.Test.YtbebihphodafiaaWRepsOne
import Derived.Test.YtbebihphodafiaaWInv
import Derived.Test.YtbebihphodafiaaWInvWords
import Derived.Test.YtbebihphodafiaaWGuard
import Derived.Test.YtbebihphodafiaaWNEv
import Derived.Test.YtbebihphodafiaaWMore
import Derived.Outline
import Derived.Lib.Hide
import Derived.Deep.DeepMust
import Derived.Test.YtbebihphodafiaaIvE
namespace Go.Proofs.Ytbebihphodafiaa.Iv
open Go.RowKit Go.Proofs.YtbebihphodafiaaW.PrintWords Go.Proofs.YtbebihphodafiaaW.PrintLast Go.Proofs.YtbebihphodafiaaW.PrintMore Go.Proofs.Ytbebihphodafiaa.PWb
set_option linter.unusedVariables false
set_option linter.unusedSimpArgs false

theorem joined_nrm (A : Option Addr) (c : Nat) (l : List S60) (w : World) (hr : Kd.C k60 w A l.length l) (hl : l.length * 16 ≤ 140737488355328) (hok : ∀ x ∈ l, Okx x) :
    Calls Try.prog 74 #[.slice A l.length c] w fun e w' => ∃ v, e = .returned v ∧ RowKit.Below w.heap.size w w' ∧ Kd.R k60 60 w' w.heap.size (fun _ => True) v (nrm l) :=
  (joined_calls A c l w hr hl hok).mono fun e w' ⟨v, l', he, hb, hp, ha, hR⟩ => ⟨v, he, hb, by rw [← joinL_nrm l l' hp ha (fun x hx => (hok x hx).2.1)]; exact hR⟩
theorem nrm_ok (l : List S60) (h : ∀ x ∈ l, Okx x) : ∀ x ∈ nrm l, Okx x :=
  joinL_ok _ [] (by simp) (fun x hx => h x ((List.mergeSort_perm l _).mem_iff.1 hx))
/-- A set: its bound, its row. fr: where the rows of sets begin. -/
structure IsSet (W : World) (fr b : Nat) (most : Int) (L : List S60) : Prop where
  lt : b < fr
  c0 : W.cell? ⟨b, 0, none⟩ = some (.int .i64 most)
  c1 : ∃ A c, W.cell? ⟨b, 1, none⟩ = some (.slice A L.length c) ∧ L.length ≤ c ∧ Kd.C k60 W A L.length L ∧ (∀ x, A = some x → fr ≤ x.block ∧ ∃ cells, W.heap[x.block]? = some (.cells cells 60 (0, 0)))
  f1 : W.frozen? ⟨b, 1, none⟩ = false
  nf : Nf L
  ok : ∀ x ∈ L, Okx x
/-- What an addition leaves of the world. -/
def Mv (b : Nat) (W w' : World) : Prop := ∃ w1, RowKit.Below W.heap.size W w1 ∧ (w' = w1 ∨ ∃ v, w' = w1.setCell ⟨b, 1, none⟩ v)
def addS (most : Int) (L l : List S60) : Int × List S60 :=
  if l.all mayB = true then (if l = [] then (0, L) else if ((nrm (L ++ l)).length : Int) > most then (7, L) else (0, nrm (L ++ l))) else (1, L)
theorem IsSet.below {W w1 : World} {fr b : Nat} {most : Int} {L : List S60} (h : IsSet W fr b most L) (hb : RowKit.Below W.heap.size W w1) : IsSet w1 fr b most L := by
  obtain ⟨h1, h2, ⟨A, c, h3, h4, h5, h6⟩, h7, h8, h9⟩ := h
  have hlt := World.block_lt_of_cell? _ _ h2
  exact ⟨h1, pw_cell_below hb h2, ⟨A, c, pw_cell_below hb h3, h4, Kd.C_below h5 hb, fun x hx => ⟨(h6 x hx).1, (h6 x hx).2.elim fun cells e => ⟨cells, (hb.block x.block (blk_lt e)).trans e⟩⟩⟩, by rw [hb.frozen (p := ⟨b, 1, none⟩) hlt]; exact h7, h8, h9⟩
theorem C_set1 {W : World} {b j : Nat} {u : Value} {A : Option Addr} {l : List S60} (h : Kd.C k60 W A l.length l) (hA : ∀ x, A = some x → x.block ≠ b) : Kd.C k60 (W.setCell ⟨b, j, none⟩ u) A l.length l := by
  refine ⟨h.1, h.2.1, fun hp => ?_⟩
  obtain ⟨ad, he, hc⟩ := h.2.2 hp
  refine ⟨ad, he, fun j p hj => ?_⟩
  obtain ⟨cs, c1, c2, c3⟩ := hc j p hj
  obtain rfl := k60_open c2
  refine ⟨_, c1, k60_mk _ _, fun i u hu => ?_⟩
  rw [World.cell?_setCell_other]
  · exact c3 i u hu
  · have := hA ad he
    have hb : ∀ m, (ad.add m).block = ad.block := fun m => by unfold Addr.add; split <;> rfl
    intro hh
    have h2 := congrArg Addr.block hh
    rw [hb] at h2
    exact this h2.symm
theorem IsSet.far {W : World} {fr t b : Nat} {most : Int} {L : List S60} (h : IsSet W fr t most L) (hne : t ≠ b) (hb : b < fr) (j : Nat) (v : Value) : IsSet (W.setCell ⟨b, j, none⟩ v) fr t most L := by
  obtain ⟨h1, h2, ⟨A, c, h3, h4, h5, h6⟩, h7, h8, h9⟩ := h
  refine ⟨h1, by rw [World.cell?_setCell_other _ _ _ _ (by simp <;> omega)]; exact h2, ⟨A, c, by rw [World.cell?_setCell_other _ _ _ _ (by simp <;> omega)]; exact h3, h4, C_set1 h5 (fun x hx => by have := (h6 x hx).1; omega), fun x hx => ⟨(h6 x hx).1, (h6 x hx).2.elim fun cells e => ⟨cells, (Below.heap_setCell W ⟨b, j, none⟩ v x.block (by have := (h6 x hx).1; simp only; omega)).trans e⟩⟩⟩, by rw [World.frozen?_setCell]; exact h7, h8, h9⟩
theorem IsSet.mv {W w' : World} {fr t b : Nat} {most : Int} {L : List S60} (h : IsSet W fr t most L) (hm : Mv b W w') (hne : t ≠ b) (hb : b < fr) : IsSet w' fr t most L := by
  obtain ⟨w1, h1, rfl | ⟨v, rfl⟩⟩ := hm
  · exact h.below h1
  · exact (h.below h1).far hne hb 1 v
theorem Mv.below {W w' : World} {n0 b : Nat} {w0 : World} (h : Mv b W w') (hB : RowKit.Below n0 w0 W) (hn : n0 ≤ b) (hb : b < W.heap.size) (hs : n0 ≤ W.heap.size) : RowKit.Below n0 w0 w' := by
  obtain ⟨w1, h1, rfl | ⟨v, rfl⟩⟩ := h
  · exact hB.trans (h1.mono hs)
  · exact (hB.trans (h1.mono hs)).setCell (p := ⟨b, 1, none⟩) hn v
theorem Mv.size {W w' : World} {b : Nat} (h : Mv b W w') : W.heap.size ≤ w'.heap.size := by
  obtain ⟨w1, h1, rfl | ⟨v, rfl⟩⟩ := h
  · exact h1.size
  · simpa using h1.size
theorem Mv.cell {W w' : World} {b : Nat} (h : Mv b W w') {p : Addr} {v : Value} (hp : p.block ≠ b) (hc : W.cell? p = some v) : w'.cell? p = some v := by
  obtain ⟨w1, h1, rfl | ⟨u, rfl⟩⟩ := h
  · exact pw_cell_below h1 hc
  · rw [World.cell?_setCell_other _ _ _ _ (by intro hh; apply hp; rw [← hh])]; exact pw_cell_below h1 hc
theorem Mv.row {W w' : World} {b : Nat} (h : Mv b W w') {A : Option Addr} {l : List S60} (hA : ∀ x, A = some x → x.block ≠ b) (hC : Kd.C k60 W A l.length l) : Kd.C k60 w' A l.length l := by
  obtain ⟨w1, h1, rfl | ⟨u, rfl⟩⟩ := h
  · exact Kd.C_below hC h1
  · exact C_set1 (Kd.C_below hC h1) hA
/-- The set's row is another one. -/
theorem IsSet.put {W w1 : World} {fr b base : Nat} {most : Int} {L L' : List S60} {v : Value} (h : IsSet W fr b most L) (hb : RowKit.Below W.heap.size W w1) (hR : Kd.R k60 60 w1 base (fun _ => True) v L') (hf : fr ≤ base) (hn : Nf L') (ho : ∀ x ∈ L', Okx x) :
    IsSet (w1.setCell ⟨b, 1, none⟩ v) fr b most L' := by
  obtain ⟨h1, h2, ⟨A, c, h3, h4, h5, h6⟩, h7, h8, h9⟩ := h
  have hlt := World.block_lt_of_cell? _ _ h2
  obtain ⟨A', c', rfl, hc', hC'⟩ := Kd.R_reads hR
  have hA' : ∀ x, A' = some x → fr ≤ x.block := fun x hx => by
    subst hx
    obtain ⟨inner, ho⟩ := Kd.R_own hR
    have := own_base ho x.block (by simp [Value.ownBlock])
    omega
  refine ⟨h1, by rw [World.cell?_setCell_other _ _ _ _ (by simp)]; exact pw_cell_below hb h2, ⟨A', c', World.cell?_setCell_same' _ _ _ (by rw [pw_cell_below hb h3]; rfl), hc', C_set1 hC' (fun x hx => by have := hA' x hx; omega), fun x hx => ⟨hA' x hx, by
    subst hx
    obtain ⟨cells, e⟩ := Kd.R_typed hR x.block rfl
    exact ⟨cells, (Below.heap_setCell w1 ⟨b, 1, none⟩ _ x.block (by have := hA' x rfl; simp only; omega)).trans e⟩⟩⟩, by rw [World.frozen?_setCell, hb.frozen (p := ⟨b, 1, none⟩) hlt]; exact h7, hn, ho⟩
theorem C_two (w : World) (A1 A2 : Option Addr) (c1 c2 : Nat) (l1 l2 : List S60) (h1 : l1.length ≤ c1) (h2 : l2.length ≤ c2) (k1 : Kd.C k60 w A1 l1.length l1) (k2 : Kd.C k60 w A2 l2.length l2) :
    Kd.C (Kd.slice 60 k60) (w.alloc (.cells #[.slice A1 l1.length c1, .slice A2 l2.length c2] 83)) (some ⟨w.heap.size, 0, none⟩) 2 [l1, l2] := by
  refine ⟨rfl, by decide, fun _ => ⟨_, rfl, fun j p hj => ?_⟩⟩
  match j, hj with
  | 0, hj =>
    simp at hj; subst hj
    refine ⟨[.slice A1 l1.length c1], rfl, ⟨A1, c1, rfl, h1, Kd.C_alloc k1 _⟩, fun i u hu => ?_⟩
    match i, hu with
    | 0, hu => simp at hu; subst hu; rw [add_plain, World.cell?_alloc_at _ _ _ _ rfl]; rfl
    | i + 1, hu => simp at hu
  | 1, hj =>
    simp at hj; subst hj
    refine ⟨[.slice A2 l2.length c2], rfl, ⟨A2, c2, rfl, h2, Kd.C_alloc k2 _⟩, fun i u hu => ?_⟩
    match i, hu with
    | 0, hu => simp at hu; subst hu; rw [add_plain, World.cell?_alloc_at _ _ _ _ rfl]; rfl
    | i + 1, hu => simp at hu
  | j + 2, hj => simp at hj
theorem new_calls (most : Int) (fr : Nat) (w : World) (hfr : w.heap.size < fr) : Calls Try.prog 62 #[.int .i64 most] w fun e w' => e = .returned (.pointer (some ⟨w.heap.size, 0, none⟩)) ∧ w' = w.alloc (.cells #[.int .i64 most, .slice none 0 0] 137) ∧ IsSet w' fr w.heap.size most [] := by
  have hI : IsSet (w.alloc (.cells #[.int .i64 most, .slice none 0 0] 137)) fr w.heap.size most [] :=
    ⟨hfr, by rw [World.cell?_alloc_at _ _ _ _ rfl]; rfl, ⟨none, 0, by rw [World.cell?_alloc_at _ _ _ _ rfl]; rfl, Nat.le_refl _, Kd.C_nil _ _, by simp⟩, by rw [World.frozen?_alloc_at _ _ _ _ rfl], ⟨List.Pairwise.nil, by simp⟩, by simp⟩
  have HI := Lib.hid hI
  clear hI
  go_enter Try.func62, Try.ntmps62
  go_wp2
  go_ret
  exact ⟨rfl, rfl, HI.out⟩
set_option maxHeartbeats 2000000 in
theorem add_calls (fr b : Nat) (most : Int) (L : List S60) (A : Option Addr) (c : Nat) (l : List S60) (w : World) (hs : IsSet w fr b most L) (hr : Kd.C k60 w A l.length l) (hc : l.length ≤ c) (hl : (L.length + l.length) * 16 ≤ 140737488355328) (hfr : fr ≤ w.heap.size) :
    Calls Try.prog 57 #[.pointer (some ⟨b, 0, none⟩), .slice A l.length c] w fun e w' => e = .returned (.int .i64 (addS most L l).1) ∧ IsSet w' fr b most (addS most L l).2 ∧ Mv b w w' := by
  have HS := Lib.hid hs
  have HR := Lib.hid hr
  have HC := Lib.hid hc
  obtain ⟨_, _, ⟨A0, c0, h1, h2, h3, _⟩, h4, hnf, hok⟩ := hs
  have X1 := Lib.hid (fun w' (h : RowKit.Below w.heap.size w w') => pw_cell_below h h1)
  have X2 := Lib.hid h2
  have X3 := Lib.hid (fun w' (h : RowKit.Below w.heap.size w w') => Kd.C_below h3 h)
  clear hr hc h1 h2 h3 h4
  by_cases hall : l.all mayB = true
  · by_cases he : l = []
    · have ha : addS most L l = (0, L) := by simp [addS, hall, he]
      rw [ha]
      subst he
      clear hall ha hl
      go_enter Try.func57, Try.ntmps57
      go_wp2_with (go_at_call 73; go_must (refine (all_calls A c [] w HR.out (by simp)).mono ?_; rintro e w1 ⟨rfl, hB1⟩))
      go_ret
      exact ⟨rfl, HS.out.below hB1, ⟨_, hB1, .inl rfl⟩⟩
    · have hne : ¬ ((l.length : Int) = 0) := by
        intro h; exact he (List.length_eq_zero_iff.1 (by omega))
      have hne' : ¬ (l.length = 0) := by omega
      have hokl : ∀ x ∈ L ++ l, Okx x := fun x hx => by
        rcases List.mem_append.1 hx with h | h
        · exact hok x h
        · exact Okx.of_may (List.all_eq_true.1 hall x h)
      have hnn := nrm_nf (L ++ l) (fun x hx => (hokl x hx).2.1)
      have hno := nrm_ok (L ++ l) hokl
      obtain ⟨x, hx⟩ : ∃ x, x = nrm (L ++ l) := ⟨_, rfl⟩
      have HX := Lib.hid hx
      rw [← hx] at hnn hno
      have ha : addS most L l = if (x.length : Int) > most then (7, L) else (0, x) := by simp [addS, hall, he, hx]
      have HA := Lib.hid (fun h : (x.length : Int) > most => ha.trans (if_pos h))
      have HA' := Lib.hid (fun h : ¬ (x.length : Int) > most => ha.trans (if_neg h))
      have HN := Lib.hid hnn
      have HNO := Lib.hid hno
      have HOK := Lib.hid hokl
      have HALL := Lib.hid hall
      have X0 := Lib.hid (fun w' (h : RowKit.Below w.heap.size w w') => pw_cell_below h HS.out.c0)
      clear ha hnn hno hokl hok hnf hx he hall
      have hll : l.length ≤ 9223372036854775807 := by omega
      have hbw := World.block_lt_of_cell? _ _ HS.out.c0
      have XF := Lib.hid (fun w' (h : RowKit.Below w.heap.size w w') => (h.frozen (p := ⟨b, 1, none⟩) hbw).trans HS.out.f1)
      clear hbw
      have HL1 := Lib.hid (show tot [L, l] * 16 ≤ 140737488355328 by simpa [tot] using hl)
      have HL2 := Lib.hid (show (L ++ l).length * 16 ≤ 140737488355328 by simpa using hl)
      have HF := Lib.hid (show [L, l].flatten = L ++ l by simp)
      obtain ⟨y, hy⟩ : ∃ y, y = L ++ l := ⟨_, rfl⟩
      rw [← hy] at HX HOK HL2 HF
      clear hy hl
      by_cases hbig : (x.length : Int) > most
      · have d1 : decide (most < (x.length : Int)) = true := by simpa using hbig
        have hbig' : most < (x.length : Int) := hbig
        have HAX := Lib.hid (HA.out hbig)
        clear hbig
        go_enter Try.func57, Try.ntmps57
        go_wp2_with (first
          | (go_at_call 73; go_must (refine (all_calls A c l w HR.out hll).mono ?_; rintro e w1 ⟨rfl, hB1⟩; rw [HALL.out]; have Y1 := X1.out _ hB1; have HB1 := Lib.hid hB1; clear hB1))
          | (go_at_call 75; go_must (refine (concat_calls (some ⟨w1.heap.size, 0, none⟩) 2 [L, l] _ (C_two w1 A0 A c0 c L l X2.out HC.out (X3.out _ HB1.out) (Kd.C_below HR.out HB1.out)) HL1.out (show 2 ≤ 9223372036854775807 by decide)).mono ?_; rintro e w2 ⟨v2, rfl, hB2, hR2⟩; rw [HF.out] at hR2; obtain ⟨A3, c3, hv3, _, hC3⟩ := Kd.R_reads hR2; subst hv3; have HB2 := Lib.hid (below_step HB1.out ((below_alloc (Below.refl w1.heap.size w1) _).trans (hB2.mono (by simp)))); have HC3 := Lib.hid hC3; clear hC3 hR2 hB2))
          | (go_at_call 74; go_must (refine (joined_nrm A3 c3 y w2 HC3.out HL2.out HOK.out).mono ?_; rintro e w3 ⟨v3, rfl, hB3, hR3⟩; rw [← HX.out] at hR3; obtain ⟨A4, c4, hv4⟩ := Kd.R_slice hR3; subst hv4; have HR3 := Lib.hid hR3; have HB3 := Lib.hid (below_step HB2.out hB3); have Z0 := X0.out _ HB3.out; have Z1 := X1.out _ HB3.out; have Zf := XF.out _ HB3.out; clear hR3 hB3)))
        go_ret
        rw [HAX.out]
        exact ⟨rfl, HS.out.below HB3.out, ⟨_, HB3.out, .inl rfl⟩⟩
      · have d1 : decide (most < (x.length : Int)) = false := by simpa using hbig
        have hbig' : ¬ most < (x.length : Int) := hbig
        have HAX := Lib.hid (HA'.out hbig)
        clear hbig
        go_enter Try.func57, Try.ntmps57
        go_wp2_with (first
          | (go_at_call 73; go_must (refine (all_calls A c l w HR.out hll).mono ?_; rintro e w1 ⟨rfl, hB1⟩; rw [HALL.out]; have Y1 := X1.out _ hB1; have HB1 := Lib.hid hB1; clear hB1))
          | (go_at_call 75; go_must (refine (concat_calls (some ⟨w1.heap.size, 0, none⟩) 2 [L, l] _ (C_two w1 A0 A c0 c L l X2.out HC.out (X3.out _ HB1.out) (Kd.C_below HR.out HB1.out)) HL1.out (show 2 ≤ 9223372036854775807 by decide)).mono ?_; rintro e w2 ⟨v2, rfl, hB2, hR2⟩; rw [HF.out] at hR2; obtain ⟨A3, c3, hv3, _, hC3⟩ := Kd.R_reads hR2; subst hv3; have HB2 := Lib.hid (below_step HB1.out ((below_alloc (Below.refl w1.heap.size w1) _).trans (hB2.mono (by simp)))); have HC3 := Lib.hid hC3; clear hC3 hR2 hB2))
          | (go_at_call 74; go_must (refine (joined_nrm A3 c3 y w2 HC3.out HL2.out HOK.out).mono ?_; rintro e w3 ⟨v3, rfl, hB3, hR3⟩; rw [← HX.out] at hR3; obtain ⟨A4, c4, hv4⟩ := Kd.R_slice hR3; subst hv4; have HR3 := Lib.hid hR3; have HB3 := Lib.hid (below_step HB2.out hB3); have Z0 := X0.out _ HB3.out; have Z1 := X1.out _ HB3.out; have Zf := XF.out _ HB3.out; clear hR3 hB3)))
        go_ret
        rw [HAX.out]
        exact ⟨rfl, HS.out.put HB3.out HR3.out (Nat.le_trans hfr HB2.out.size) HN.out.1 HNO.out, ⟨_, HB3.out, .inr ⟨_, rfl⟩⟩⟩
  · have hall' : l.all mayB = false := by simpa using hall
    have ha : addS most L l = (1, L) := by unfold addS; rw [if_neg hall]
    rw [ha]
    have HALL := Lib.hid hall'
    have hll : l.length ≤ 9223372036854775807 := by omega
    clear hall hall' ha
    go_enter Try.func57, Try.ntmps57
    go_wp2_with (go_at_call 73; go_must (refine (all_calls A c l w HR.out hll).mono ?_; rintro e w1 ⟨rfl, hB1⟩; rw [HALL.out]))
    go_ret
    exact ⟨rfl, HS.out.below hB1, ⟨_, hB1, .inl rfl⟩⟩
end Go.Proofs.Ytbebihphodafiaa.Iv
