/- The walk of CrcPieces: added in whatever pieces it is the sum of all; two that go on do not touch each other; nothing is no sum. -/
import Derived.Test.YtkackggplinelaaProg
import Derived.Below
import Derived.Deep.Draws
import Derived.Deep.AppendLies
import Derived.Maps.AppendAt
import Derived.OwnWalk
import Derived.Laws.BytesArg
import Derived.Laws.MakeOwn
import Derived.Laws.OwnMore
import Derived.Deep.OwnRows
import Derived.Tactics
import Derived.Lib.ConvBytes
import Derived.Laws.Slices
import Derived.WalkKit
import Derived.KernelRfl
import Derived.RowKit3
import Derived.Deep.LoopGhost
import Derived.Deep.QuietTactic
import Derived.BigQuiet
import Derived.WideLaws
import Derived.Deep.DeepCutAuto
import Derived.Deep.CutBlock
import Derived.Deep.RegionHeld3
import Derived.Laws.Rows
import Derived.Lib.AppendStr
import Derived.ArgAppend
import Derived.Laws.IdiomCopy
import Derived.OrdersHeld
import Derived.Laws.BitsLemmas
import Derived.RowKit
import Derived.Test.YtkackggplinelaaWWords
import Derived.Test.YtkackggplinelaaWLast
import Derived.Test.YtkackggplinelaaWTab
import Derived.Test.YtkackggplinelaaWFour
import Derived.Test.YtkackggplinelaaWQPut
import Derived.Test.YtkackggplinelaaWApart
import Derived.Test.YtkackggplinelaaWArr
import Derived.Test.YtkackggplinelaaWZeros
import Derived.Test.YtkackggplinelaaWFoot
import Derived.Test.YtkackggplinelaaWKept
import Derived.Test.YtkackggplinelaaWShare
import Derived.Test.YtkackggplinelaaWN
import Derived.Test.YtkackggplinelaaWFootNe
import Derived.Test.YtkackggplinelaaWAt
import Derived.Test.YtkackggplinelaaWEqStruct
import Derived.Test.YtkackggplinelaaWRepsOne
import Derived.Test.YtkackggplinelaaWInv
import Derived.Test.YtkackggplinelaaWInvWords
import Derived.Test.YtkackggplinelaaWGuard
import Derived.Test.YtkackggplinelaaWNEv
import Derived.Test.YtkackggplinelaaWMore
import Derived.Outline
import Derived.Lib.Hide
import Derived.Deep.DeepMust
import Derived.Lib.Builder
import Derived.Deep.AppendLies
import Derived.Test.YtkackggplinelaaCrcE
import Derived.Test.YtkackggplinelaaPPcx1
import Derived.Test.YtkackggplinelaaOpen
namespace Go.Proofs.Ytkackggplinelaa.Crc
open Go.RowKit Go.Proofs.YtkackggplinelaaW.PrintWords Go.Proofs.YtkackggplinelaaW.PrintLast Go.Proofs.YtkackggplinelaaW.PrintMore
set_option linter.unusedVariables false
set_option linter.unusedSimpArgs false

/-! ### What the law's own count says -/
def tot (l : List (List Int)) : Nat := (l.map List.length).sum
theorem sum_one (k : Nat) (n a : Int) (hk : 2 ≤ k) (h0 : 0 ≤ n) (h1 : n ≤ 1099511627776) (a0 : 0 ≤ a) (a1 : a ≤ 9223372036854775807) : ∃ t, PPc.scarpalike_Sum.f k n [a] = some t ∧ 0 ≤ t ∧ t ≤ 1099511627776 ∧ (t ≤ 2000 → t = n + a) := by
  obtain ⟨k, rfl⟩ : ∃ m, k = m + 2 := ⟨k - 2, by omega⟩
  unfold PPc.scarpalike_Sum.f
  simp only [PPc.scarpalike_Sum.l0, List.length_cons, List.length_nil, show rd [a] 0 = a from rfl]
  have w1 : wrap64 (1099511627776 - n) = 1099511627776 - n := by unfold wrap64; omega
  have w3 : wrap64 (0 + 1) = 1 := by unfold wrap64; omega
  rw [w1, w3, if_pos (by decide), if_neg (by omega), if_pos (by decide)]
  by_cases h : a > 1099511627776 - n
  · rw [if_pos h]; exact ⟨_, rfl, by decide, by decide, fun h => absurd h (by decide)⟩
  · have w2 : wrap64 (n + a) = n + a := by unfold wrap64; omega
    rw [if_neg h, w2, if_neg (by decide)]
    exact ⟨_, rfl, by omega, by omega, fun _ => rfl⟩
theorem total_l0 (ls : List (List Int)) (hl : ∀ x ∈ ls, x.length ≤ 9223372036854775807) (hn : ls.length < 2 ^ 62) (d : Nat) : ∀ (k i : Nat) (n : Int), i + d = ls.length → d + 3 ≤ k → 0 ≤ n → n ≤ 1099511627776 →
    ∃ t, PPc.scarpalike_Total.l0 k ls 2000 n (i : Int) = some t ∧ (t ≤ 2000 → t = n + (tot (ls.drop i) : Nat)) := by
  induction d with
  | zero =>
    intro k i n hi hk h0 h1
    obtain ⟨k, rfl⟩ : ∃ m, k = m + 1 := ⟨k - 1, by omega⟩
    simp only [PPc.scarpalike_Total.l0]
    rw [if_neg (by omega)]
    refine ⟨n, rfl, fun _ => ?_⟩
    rw [List.drop_eq_nil_of_le (by omega)]
    simp [tot]
  | succ d ih =>
    intro k i n hi hk h0 h1
    obtain ⟨k, rfl⟩ : ∃ m, k = m + 1 := ⟨k - 1, by omega⟩
    simp only [PPc.scarpalike_Total.l0]
    have w : wrap64 ((i : Int) + 1) = ((i + 1 : Nat) : Int) := by unfold wrap64; omega
    rw [if_pos (by omega)]
    by_cases hb : n ≤ 2000
    · have hil : i < ls.length := by omega
      have e : PPc.rd_L2 ls (i : Int) = ls[i] := by simp [PPc.rd_L2, List.getD_eq_getElem?_getD, List.getElem?_eq_getElem hil]
      obtain ⟨t, e1, t0, t1, t2⟩ := sum_one k n ((ls[i]).length : Int) (by omega) h0 h1 (by omega) (by have := hl _ (List.getElem_mem hil); omega)
      obtain ⟨r, e2, r2⟩ := ih k (i + 1) t (by omega) (by omega) t0 t1
      rw [if_pos hb, if_pos (by omega), e, e1, w]
      refine ⟨r, e2, fun hr => ?_⟩
      have h3 := r2 hr
      have h4 := t2 (by omega)
      have h5 : tot (ls.drop i) = (ls[i]).length + tot (ls.drop (i + 1)) := by
        show ((ls.drop i).map List.length).sum = _
        rw [List.drop_eq_getElem_cons hil, List.map_cons, List.sum_cons]; rfl
      omega
    · rw [if_neg hb]
      exact ⟨n, rfl, fun h => absurd h hb⟩
theorem total_f (ls : List (List Int)) (hl : ∀ x ∈ ls, x.length ≤ 9223372036854775807) (hn : ls.length ≤ 50) (k : Nat) (hk : 60 ≤ k) : ∃ t, PPc.scarpalike_Total.f k ls 2000 = some t ∧ (t ≤ 2000 → tot ls ≤ 2000) := by
  unfold PPc.scarpalike_Total.f
  obtain ⟨t, e1, t0, t1, t2⟩ := sum_one k 0 (ls.length : Int) (by omega) (by decide) (by decide) (by omega) (by omega)
  rw [e1]
  obtain ⟨r, e2, r2⟩ := total_l0 ls hl (by omega) ls.length k 0 t (by omega) (by omega) t0 t1
  refine ⟨r, e2, fun h => ?_⟩
  have := r2 h
  rw [List.drop_zero] at this
  omega
/-- Added to what was. -/
theorem crc_more (p q : List Int) (hp : ∀ x ∈ p, 0 ≤ x ∧ x < 256) (hq : ∀ x ∈ q, 0 ≤ x ∧ x < 256) : inv (crcL (inv (crcOf p)) q) = crcOf (p ++ q) := by
  have h1 := CrcP.C_lt (nat p) CrcP.F_lt (nat_lt hp)
  have hpq : ∀ x ∈ p ++ q, 0 ≤ x ∧ x < 256 := fun x hx => by
    rcases List.mem_append.1 hx with h | h
    · exact hp x h
    · exact hq x h
  rw [crcOf_nat p hp, crcOf_nat _ hpq]
  have hc : CrcP.crc (nat p) < 2 ^ 32 := Nat.xor_lt_two_pow h1 CrcP.F_lt
  rw [inv_nat _ hc]
  have e : CrcP.crc (nat p) ^^^ CrcP.F = CrcP.C CrcP.F (nat p) := by
    unfold CrcP.crc
    rw [Nat.xor_assoc, Nat.xor_self, Nat.xor_zero]
  rw [e, crcL_nat q _ h1 hq, inv_nat _ (CrcP.C_lt (nat q) h1 (nat_lt hq))]
  unfold CrcP.crc
  congr 2
  rw [← CrcP.C_append]
  simp [nat]
theorem valueNil_calls (w : World) : Calls Try.prog 22 #[.pointer none] w fun e w' => e = .returned (.int .u32 0) ∧ w' = w := by
  go_enter Try.func22, Try.ntmps22
  go_wp2
  go_ret
  exact ⟨rfl, rfl⟩
theorem addNil_calls (A : Option Addr) (n c : Nat) (w : World) : Calls Try.prog 21 #[.pointer none, .slice A n c] w fun e w' => e = .returned (.pointer none) ∧ w' = w := by
  go_enter Try.func21, Try.ntmps21
  go_wp2
  go_ret
  exact ⟨rfl, rfl⟩
def flat (l : List (List Int)) : List Int := l.flatten
theorem flat_take (l : List (List Int)) (k : Nat) (h : k < l.length) : flat (l.take (k + 1)) = flat (l.take k) ++ PPc.rd_L2 l (k : Int) := by
  rw [List.take_succ_eq_append_getElem h]
  simp only [flat, List.flatten_append, List.flatten_cons, List.flatten_nil, List.append_nil]
  simp [PPc.rd_L2, List.getD_eq_getElem?_getD, List.getElem?_eq_getElem h]
theorem flat_len (l : List (List Int)) : (flat l).length = tot l := by
  induction l with
  | nil => rfl
  | cons x l ih => simp only [flat, tot, List.flatten_cons, List.length_append, List.map_cons, List.sum_cons] at ih ⊢; rw [ih]
theorem tot_take (l : List (List Int)) : ∀ k : Nat, tot (l.take k) ≤ tot l := by
  induction l with
  | nil => intro k; simp
  | cons x l ih =>
    intro k
    cases k with
    | zero => simp [tot]
    | succ k => have := ih k; simp [tot] at this ⊢; omega
theorem info37 : ∃ j, Try.prog.info? 37 = some j ∧ j.size = 1 := by
  have h : (Try.prog.info? 37).map (fun i => i.size) = some 1 := by kernel_rfl
  obtain ⟨j, h1, h2⟩ := Option.map_eq_some_iff.1 h
  exact ⟨j, h1, h2⟩
theorem crcOf_nil : crcOf [] = 0 := nil_crc
/-- What the loop keeps. -/
structure Pc (gs : Nat) (w wr : World) (p : List Int) (v : Value) : Prop where
  cs : wr.cell? ⟨gs, 0, none⟩ = some (.int .u32 (crcOf p))
  cz : wr.cell? ⟨gs + 1 + 1 + 1, 0, none⟩ = some (.int .u32 (crcOf p))
  co : wr.cell? ⟨gs + 1, 0, none⟩ = some (.int .u32 (crcOf [1, 2, 3]))
  fs : wr.frozen? ⟨gs, 0, none⟩ = false
  fz : wr.frozen? ⟨gs + 1 + 1 + 1, 0, none⟩ = false
  size : gs + 4 ≤ wr.heap.size
  old : w.heap.size ≤ gs
  row : Kd.R (Kd.int .u8) 5 wr w.heap.size (fun b => gs + 4 ≤ b) v p
  below : Below w.heap.size w wr
/-- Both sums have taken the piece in, and then the row. -/
theorem Pc.both {gs : Nat} {w wr : World} {p : List Int} {v : Value} (h : Pc gs w wr p v) (x : Int) :
    let w2 := (wr.setCell ⟨gs, 0, none⟩ (.int .u32 x)).setCell ⟨gs + 1 + 1 + 1, 0, none⟩ (.int .u32 x)
    w2.cell? ⟨gs, 0, none⟩ = some (.int .u32 x) ∧ w2.cell? ⟨gs + 1 + 1 + 1, 0, none⟩ = some (.int .u32 x) ∧ w2.cell? ⟨gs + 1, 0, none⟩ = some (.int .u32 (crcOf [1, 2, 3])) ∧
    w2.frozen? ⟨gs, 0, none⟩ = false ∧ w2.frozen? ⟨gs + 1 + 1 + 1, 0, none⟩ = false ∧ gs + 4 ≤ w2.heap.size ∧ Kd.R (Kd.int .u8) 5 w2 w.heap.size (fun b => gs + 4 ≤ b) v p ∧ Below w.heap.size w w2 := by
  refine ⟨?_, ?_, ?_, ?_, ?_, ?_, ?_, ?_⟩
  · rw [World.cell?_setCell_other _ _ _ _ (by simp)]
    exact World.cell?_setCell_same' _ _ _ (by rw [h.cs]; rfl)
  · refine World.cell?_setCell_same' _ _ _ ?_
    rw [World.cell?_setCell_other _ _ _ _ (by simp), h.cz]; rfl
  · rw [World.cell?_setCell_other _ _ _ _ (by simp), World.cell?_setCell_other _ _ _ _ (by simp)]; exact h.co
  · rw [World.frozen?_setCell, World.frozen?_setCell]; exact h.fs
  · rw [World.frozen?_setCell, World.frozen?_setCell]; exact h.fz
  · simpa using h.size
  · exact Kd.R_far (Kd.R_far h.row (fun k hk => by simp; omega) _) (fun k hk => by simp; omega) _
  · exact (h.below.setCell (p := ⟨gs, 0, none⟩) h.old _).setCell (p := ⟨gs + 1 + 1 + 1, 0, none⟩) (by have := h.old; simp; omega) _
theorem Pc.grown {gs : Nat} {w w2 w3 : World} {x : Int} {p q : List Int} {v v1 : Value}
    (h : w2.cell? ⟨gs, 0, none⟩ = some (.int .u32 x) ∧ w2.cell? ⟨gs + 1 + 1 + 1, 0, none⟩ = some (.int .u32 x) ∧ w2.cell? ⟨gs + 1, 0, none⟩ = some (.int .u32 (crcOf [1, 2, 3])) ∧
    w2.frozen? ⟨gs, 0, none⟩ = false ∧ w2.frozen? ⟨gs + 1 + 1 + 1, 0, none⟩ = false ∧ gs + 4 ≤ w2.heap.size ∧ Kd.R (Kd.int .u8) 5 w2 w.heap.size (fun b => gs + 4 ≤ b) v p ∧ Below w.heap.size w w2)
    (hold : w.heap.size ≤ gs) (hx : x = crcOf q) (hg : w2.grownBy w3 v.ownBlock) (hR : Kd.R (Kd.int .u8) 5 w3 w.heap.size (fun b => gs + 4 ≤ b) v1 q) (hB : Below w.heap.size w w3) : Pc gs w w3 q v1 := by
  obtain ⟨a1, a2, a3, a4, a5, a6, a7, a8⟩ := h
  subst hx
  have hn : ∀ n, n < gs + 4 → some n ≠ v.ownBlock := fun n hn he => by have := a7.1 n he.symm; omega
  refine ⟨hg.cell a1 (hn _ (by simp)), hg.cell a2 (hn _ (by simp)), hg.cell a3 (hn _ (by simp)), ?_, ?_, by have := hg.size; omega, hold, hR, hB⟩
  · rw [hg.frozen_far _ (by simp; omega) (hn _ (by simp))]; exact a4
  · rw [hg.frozen_far _ (by simp; omega) (hn _ (by simp))]; exact a5
set_option maxHeartbeats 4000000 in
set_option maxRecDepth 100000 in
theorem pieces_calls (A0 : Option Addr) (c0 : Nat) (l : List (List Int)) (w : World) (hr : Kd.C (Kd.slice 5 (Kd.int .u8)) w A0 l.length l) (hc : l.length ≤ c0) (hb : ∀ p ∈ l, ∀ x ∈ p, 0 ≤ x ∧ x < 256) (hlp : ∀ p ∈ l, p.length ≤ 9223372036854775807) (hl : l.length ≤ 9223372036854775807) :
    Calls Try.prog 5 #[.slice A0 l.length c0] w fun e w' => e = .returned (.bool true) ∧ Below w.heap.size w w' := by
  have HR := Lib.hid (fun w' (h : Below w.heap.size w w') => Kd.C_below hr h)
  have HR0 := Lib.hid hr
  have HC := Lib.hid hc
  have HB := Lib.hid hb
  clear hr hc hb
  by_cases hbig : (50 : Int) < l.length
  · have d1 : decide ((50 : Int) < l.length) = true := by simpa using hbig
    have d1' : decide (50 < l.length) = true := by simp; omega
    go_enter Try.func5, Try.ntmps5
    go_wp2_with (go_at_call 15; refine (awake_calls _).mono ?_; rintro e w' ⟨rfl, hb1⟩)
    go_ret
    exact ⟨rfl, hb1⟩
  · have d1 : decide ((50 : Int) < l.length) = false := by simpa using hbig
    have d1' : decide (50 < l.length) = false := by simp; omega
    obtain ⟨t, et, ht⟩ := total_f l hlp (by omega) 60 (by decide)
    have ET := Lib.hid et
    clear et
    by_cases hbt : (2000 : Int) < t
    · have d2 : decide ((2000 : Int) < t) = true := by simpa using hbt
      clear ht
      go_enter Try.func5, Try.ntmps5
      go_wp2_with (first
        | (go_at_call 19; go_must (refine (PPc.scarpalike_Total.calls 60 A0 c0 l 2000 t _ HR0.out HC.out ET.out).mono ?_; rintro e w1 ⟨rfl, hb1⟩))
        | (go_at_call 15; go_must (refine (awake_calls _).mono ?_; rintro e w2 ⟨rfl, hb2⟩)))
      go_ret
      exact ⟨rfl, below_step hb1 hb2⟩
    · have d2 : decide ((2000 : Int) < t) = false := by simpa using hbt
      have HT := Lib.hid (ht (by omega))
      have hll : l.length ≤ 50 := by omega
      clear ht
      have t1 : True := trivial
      obtain ⟨i37, hi37', _⟩ := info37
      have hi37 := Lib.hid hi37'
      clear hi37'
      go_enter Try.func5, Try.ntmps5
      go_wp2_with (first
        | (go_at_call 19; go_must (refine (PPc.scarpalike_Total.calls 60 A0 c0 l 2000 t _ HR0.out HC.out ET.out).mono ?_; rintro e w1 ⟨rfl, hb1⟩))
        | (go_at_call 20; have _t := t1; clear t1; go_must (refine (new_calls _).mono ?_; rintro e w' ⟨rfl, rfl⟩))
        | (go_at_call 20; go_must (refine (new_calls _).mono ?_; rintro e w' ⟨rfl, rfl⟩; simp only [World.size_alloc]; have h3 := C_lit ((w1.alloc (.cells #[.int .u32 0] 37)).alloc (.cells #[.int .u32 0] 37)) [1, 2, 3] 5 (0, 0) (by decide); simp only [World.size_alloc] at h3))
        | (go_at_call 21; go_must (refine (add_calls (w1.heap.size + 1) (some ⟨w1.heap.size + 2, 0, none⟩) 3 [1, 2, 3] 0 _ (by rw [World.cell?_alloc_past _ _ _ (by simp), World.cell?_alloc_at _ _ _ _ (by simp)]; rfl) (by rw [World.frozen?_alloc_past _ _ _ (by simp), World.frozen?_alloc_at _ _ _ _ (by simp)]) h3 (by decide) (by decide)).mono ?_; rintro e w' ⟨rfl, rfl⟩)))
      have hP : Pc w1.heap.size w ((((w1.alloc (.cells #[.int .u32 0] 37)).alloc (.cells #[.int .u32 (inv (crcL (inv 0) [1, 2, 3]))] 37)).alloc (.cells #[.int .u8 1, .int .u8 2, .int .u8 3] 5)).alloc (.cells #[.int .u32 0] 37)) [] (.slice none 0 0) := by
        refine ⟨?_, ?_, ?_, ?_, ?_, ?_, hb1.size, Kd.R_nil _ _ _ _ _, below_alloc (below_alloc (below_alloc (below_alloc hb1 _) _) _) _⟩
        · rw [World.cell?_alloc_past _ _ _ (by simp <;> omega), World.cell?_alloc_past _ _ _ (by simp <;> omega), World.cell?_alloc_past _ _ _ (by simp), World.cell?_alloc_at _ _ _ _ rfl, crcOf_nil]; rfl
        · rw [World.cell?_alloc_at _ _ _ _ (by simp), crcOf_nil]; rfl
        · rw [World.cell?_alloc_past _ _ _ (by simp <;> omega), World.cell?_alloc_past _ _ _ (by simp), World.cell?_alloc_at _ _ _ _ (by simp)]; rfl
        · rw [World.frozen?_alloc_past _ _ _ (by simp <;> omega), World.frozen?_alloc_past _ _ _ (by simp <;> omega), World.frozen?_alloc_past _ _ _ (by simp), World.frozen?_alloc_at _ _ _ _ rfl]
        · rw [World.frozen?_alloc_at _ _ _ _ (by simp)]
        · simp
      have HP0 := Lib.hid hP
      clear hP h3
      obtain ⟨gs, hgs⟩ : ∃ gs, gs = w1.heap.size := ⟨_, rfl⟩
      rw [← hgs] at HP0 ⊢
      clear hgs hb1
      have hneq := fun (a : Addr) (W : World) => Lib.run_neq_ptr_same (P := Try.prog) W (tp := 33) (te := 37) a Try.underlying33 hi37.out
      go_loopw [7, 8] (fun b i wr => ∃ k : Nat, k ≤ l.length ∧ i = .int .i64 k ∧ Aside0 (Pc gs w wr (flat (l.take k)) b)) (fun _ i _ => l.length - (intOf i).toNat)
      case atStart => exact ⟨0, Nat.zero_le _, rfl, ⟨HP0.out⟩⟩
      case round =>
        clear HP0
        obtain ⟨k, hk, rfl, HP⟩ := hrel
        by_cases hlt : k < l.length
        · obtain ⟨ad, A1, c1, e1, hx1, hc1, hC1⟩ := PPc.at_L2 HR0.out (k : Int) (by omega) (by omega)
          cases e1
          simp only [Int.toNat_natCast] at hx1
          obtain ⟨q, hq⟩ : ∃ q, q = PPc.rd_L2 l (k : Int) := ⟨_, rfl⟩
          rw [← hq] at hx1 hc1 hC1
          have hqm : q ∈ l := by
            rw [hq]
            simp only [PPc.rd_L2, Int.toNat_natCast, List.getD_eq_getElem?_getD, List.getElem?_eq_getElem hlt]
            exact List.getElem_mem hlt
          have HQ := Lib.hid (fun w' (h : Below w.heap.size w w') => Kd.C_below hC1 h)
          have HX := Lib.hid (fun w' (h : Below w.heap.size w w') => pw_cell_below h hx1)
          have HQB := Lib.hid (HB.out q hqm)
          obtain ⟨p, hp⟩ : ∃ p, p = flat (l.take k) := ⟨_, rfl⟩
          rw [← hp] at HP
          obtain ⟨p', hp'⟩ : ∃ p, p = flat (l.take (k + 1)) := ⟨_, rfl⟩
          have epp : p' = p ++ q := by rw [hp', hp, flat_take l k hlt, hq]
          have hpb : ∀ x ∈ p, 0 ≤ x ∧ x < 256 := by
            rw [hp]; intro x hx
            obtain ⟨y, hy, hxy⟩ := List.mem_flatten.1 hx
            exact HB.out y (List.mem_of_mem_take hy) x hxy
          have hpl : p.length + q.length ≤ 2000 := by
            have h1 := tot_take l (k + 1)
            have h2 := HT.out
            have h3 := flat_len (l.take (k + 1))
            rw [← hp', epp, List.length_append] at h3
            omega
          have HM := Lib.hid (crc_more p q hpb HQB.out)
          have HPP := Lib.hid epp
          have HP' := Lib.hid hp'
          have HPB := Lib.hid hpb
          have HPL := Lib.hid hpl
          have X1 := HX.out _ HP.out.below
          have HPB' : Hid (∀ x ∈ p', 0 ≤ x ∧ x < 256) := Lib.hid (fun x hx => by
            rw [HPP.out] at hx
            rcases List.mem_append.1 hx with h | h
            · exact HPB.out x h
            · exact HQB.out x h)
          have HBO := Lib.hid (Pc.both HP.out (crcOf (p ++ q)))
          have BW := Lib.hid (HP.out.below.setCell (p := ⟨gs, 0, none⟩) HP.out.old (.int .u32 (crcOf (p ++ q))))
          have CZ := Lib.hid (show (wr.setCell ⟨gs, 0, none⟩ (.int .u32 (crcOf (p ++ q)))).cell? ⟨gs + 1 + 1 + 1, 0, none⟩ = some (.int .u32 (crcOf p)) by
            rw [World.cell?_setCell_other _ _ _ _ (by simp)]; exact HP.out.cz)
          have FZ := Lib.hid (show (wr.setCell ⟨gs, 0, none⟩ (.int .u32 (crcOf (p ++ q)))).frozen? ⟨gs + 1 + 1 + 1, 0, none⟩ = false by
            rw [World.frozen?_setCell]; exact HP.out.fz)
          have X2 := HX.out _ BW.out
          have X3 := HX.out _ HBO.out.2.2.2.2.2.2.2
          have b1 : (0 : Int) ≤ (k : Int) := by omega
          have b2 : (k : Int) < (l.length : Int) := by omega
          clear hx1 hc1 hC1 hq hqm hp epp hpb hpl hp'
          have t2 : True := trivial
          have t3 : True := trivial
          go_wp2_with (first
            | (go_at_call 21; have _t := t2; clear t2; go_must (refine (add_calls gs A1 c1 q (crcOf p) _ HP.out.cs HP.out.fs (HQ.out _ HP.out.below) HQB.out (by have := HPL.out; omega)).mono ?_; rintro e w' ⟨rfl, rfl⟩; rw [HM.out]))
            | (go_at_call 21; go_must (refine (add_calls (gs + 1 + 1 + 1) A1 c1 q (crcOf p) _ CZ.out FZ.out (HQ.out _ BW.out) HQB.out (by have := HPL.out; omega)).mono ?_; rintro e w' ⟨rfl, rfl⟩; rw [HM.out]))
            | ((with_reducible refine gate_builtin (b := .append) (xs := #[.tmp 41, .tmp 45]) rfl ?_); at_builtin; go_must (refine Kd.R_append_row (Value.int .u8) 0 (w0 := w) w.heap.size rfl (.tmp 41) (.tmp 45) 24 5 (.int .u8 0) 1 rfl Try.underlying24 info5 rfl (by decide) u7 p q A1 q.length c1 (fun b => gs + 4 ≤ b) rfl rfl ?aF HBO.out.2.2.2.2.2.2.1 (HQ.out _ HBO.out.2.2.2.2.2.2.2) HBO.out.2.2.2.2.2.2.2 ?aS ?aL ?_; (case aF => exact fun k hk => Nat.le_trans HBO.out.2.2.2.2.2.1 hk); (case aS => exact HBO.out.2.2.2.2.2.2.2.size); (case aL => have := HPL.out; omega); intro v4 w4 hO4 hB4 hg4 hat4; have HP4 := Lib.hid (Pc.grown HBO.out HP.out.old rfl hg4 hO4 hB4); clear hO4 hB4 hg4 hat4; rw [← HPP.out] at HP4; have HC4 := Lib.hid (Kd.R_reads HP4.out.row); obtain ⟨A4, c4, rfl, hc4, hC4⟩ := HC4.out; have HD4 := Lib.hid hC4; clear hC4 hc4))
            | (go_at_call 22; go_must (refine (value_calls gs (crcOf p') _ HP4.out.cs).mono ?_; rintro e w' ⟨rfl, rfl⟩))
            | (go_at_call 17; go_must (refine (ref_calls A4 c4 p' _ HD4.out HPB'.out (by rw [HPP.out, List.length_append]; have := HPL.out; omega)).mono ?_; rintro e w' ⟨rfl, rfl⟩)))
          go_roundw
          case rel => exact ⟨k + 1, by omega, by go_num, ⟨by rw [← HP'.out]; exact HP4.out⟩⟩
          case measure => simp [intOf]; omega
        · obtain rfl : k = l.length := by omega
          have hF : l.take l.length = l := List.take_length
          rw [hF] at HP
          obtain ⟨p, hp⟩ : ∃ p, p = flat l := ⟨_, rfl⟩
          rw [← hp] at HP
          have hpl : p.length ≤ 2000 := by
            have h2 := HT.out
            have h3 := flat_len l
            rw [← hp] at h3
            omega
          have hpb : ∀ x ∈ p, 0 ≤ x ∧ x < 256 := by
            rw [hp]; intro x hx
            obtain ⟨y, hy, hxy⟩ := List.mem_flatten.1 hx
            exact HB.out y hy x hxy
          have HPB := Lib.hid hpb
          have HPL := Lib.hid hpl
          have b2 : ¬ (l.length : Int) < (l.length : Int) := by omega
          clear hp hpl hpb hF
          obtain ⟨A4, c4, rfl, hc4, hC4⟩ := Kd.R_reads HP.out.row
          have HD4 := Lib.hid hC4
          clear hC4 hc4
          have t2 : True := trivial
          have t3 : True := trivial
          have t4 : True := trivial
          have t5 : True := trivial
          have t6 : True := trivial
          have H3 := Lib.hid (fun W : World => C_lit W [1, 2, 3] 5 (0, 0) (by decide))
          go_wp2_with (first
            | (go_at_call 22; have _t := t2; clear t2; go_must (refine (value_calls (gs + 1 + 1 + 1) (crcOf p) _ HP.out.cz).mono ?_; rintro e w' ⟨rfl, rfl⟩))
            | (go_at_call 22; have _t := t3; clear t3; go_must (refine (value_calls gs (crcOf p) _ HP.out.cs).mono ?_; rintro e w' ⟨rfl, rfl⟩))
            | (go_at_call 22; have _t := t4; clear t4; go_must (refine (value_calls gs (crcOf p) _ HP.out.cs).mono ?_; rintro e w' ⟨rfl, rfl⟩))
            | (go_at_call 17; have _t := t5; clear t5; go_must (refine (ref_calls A4 c4 p _ HD4.out HPB.out (by have := HPL.out; omega)).mono ?_; rintro e w' ⟨rfl, rfl⟩))
            | (go_at_call 22; have _t := t6; clear t6; go_must (refine (value_calls (gs + 1) (crcOf [1, 2, 3]) _ HP.out.co).mono ?_; rintro e w' ⟨rfl, rfl⟩))
            | (go_at_call 17; go_must (refine (ref_calls _ 3 [1, 2, 3] _ (H3.out _) (by decide) (by decide)).mono ?_; rintro e w' ⟨rfl, rfl⟩))
            | (go_at_call 21; go_must (refine (addNil_calls _ 1 1 _).mono ?_; rintro e w' ⟨rfl, rfl⟩))
            | (go_at_call 22; go_must (refine (valueNil_calls _).mono ?_; rintro e w' ⟨rfl, rfl⟩))
            | (go_at_call 15; go_must (refine (awake_calls _).mono ?_; rintro e w2 ⟨rfl, hb2⟩)))
          try rw [Exit.noGoto_ret]
          go_ret
          refine ⟨?_, below_step (below_alloc (below_alloc HP.out.below _) _) hb2⟩
          rfl
end Go.Proofs.Ytkackggplinelaa.Crc
