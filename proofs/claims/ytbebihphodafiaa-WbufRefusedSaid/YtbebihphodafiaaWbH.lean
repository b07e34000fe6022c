/- The walk of WbufRefused: each thing that may not be has its own error, and the first of these is told. -/
import Derived.Test.YtbebihphodafiaaProg
import Derived.Below
import Derived.Deep.Draws
import Derived.Deep.AppendLies
import Derived.Maps.AppendAt
import Derived.OwnWalk
import Derived.Laws.BytesArg
import Derived.Laws.MakeOwn
import Derived.Laws.OwnMore
import Derived.Deep.OwnRows
import Derived.Tactics
import Derived.Lib.ConvBytes
import Derived.Laws.Slices
import Derived.WalkKit
import Derived.KernelRfl
import Derived.RowKit3
import Derived.Deep.LoopGhost
import Derived.Deep.QuietTactic
import Derived.BigQuiet
import Derived.WideLaws
import Derived.Deep.DeepCutAuto
import Derived.Deep.CutBlock
import Derived.Deep.RegionHeld3
import Derived.Laws.Rows
import Derived.Lib.AppendStr
import Derived.ArgAppend
import Derived.Laws.IdiomCopy
import Derived.OrdersHeld
import Derived.Laws.BitsLemmas
import Derived.RowKit
import Derived.Test.YtbebihphodafiaaWWords
import Derived.Test.YtbebihphodafiaaWLast
import Derived.Test.YtbebihphodafiaaWTab
import Derived.Test.YtbebihphodafiaaWFour
import Derived.Test.YtbebihphodafiaaWQPut
import Derived.Test.YtbebihphodafiaaWApart
import Derived.Test.YtbebihphodafiaaWArr
import Derived.Test.YtbebihphodafiaaWZeros
import Derived.Test.YtbebihphodafiaaWFoot
import Derived.Test.YtbebihphodafiaaWKept
import Derived.Test.YtbebihphodafiaaWShare
import Derived.Test.YtbebihphodafiaaWN
import Derived.Test.YtbebihphodafiaaWFootNe
import Derived.Test.YtbebihphodafiaaWAt
import Derived.Test.YtbebihphodafiaaWEqStruct
import Derived.Test.YtbebihphodafiaaWRepsOne
import Derived.Test.YtbebihphodafiaaWInv
import Derived.Test.YtbebihphodafiaaWInvWords
import Derived.Test.YtbebihphodafiaaWGuard
import Derived.Test.YtbebihphodafiaaWNEv
import Derived.Test.YtbebihphodafiaaWMore
import Derived.Outline
import Derived.Lib.Hide
import Derived.Deep.DeepMust
import Derived.IntWalk
import Derived.Test.YtbebihphodafiaaWbG
namespace Go.Proofs.Ytbebihphodafiaa.Iv
open Go.RowKit Go.Proofs.YtbebihphodafiaaW.PrintWords Go.Proofs.YtbebihphodafiaaW.PrintLast Go.Proofs.YtbebihphodafiaaW.PrintMore Go.Proofs.Ytbebihphodafiaa.PWb Go.Maps
set_option linter.unusedVariables false
set_option linter.unusedSimpArgs false

noncomputable def pt (i : Nat) : S31 := ⟨40 + (i : Int), dat i⟩
noncomputable def rowP (k : Nat) : List S31 := (List.range k).map pt
theorem rowP_succ (k : Nat) : rowP (k + 1) = rowP k ++ [pt k] := by
  unfold rowP; rw [List.range_succ, List.map_append]; rfl
theorem rowP_len (k : Nat) : (rowP k).length = k := by simp [rowP]
noncomputable def rowL (m : Nat) (x : S31) (tw : Bool) : List S31 := rowP m ++ [x] ++ (if tw = true then [pt 0] else [])
theorem rowP_mem (m : Nat) (p : S31) (h : p ∈ rowP m) : 40 ≤ p.f0 ∧ p.f0 < 40 + m ∧ p.f1.length = 40 := by
  obtain ⟨i, hi, rfl⟩ := List.mem_map.1 h
  have : i < m := by simpa using hi
  exact ⟨by simp only [pt]; omega, by simp only [pt]; omega, dat_len _⟩
theorem rowL_mem (m : Nat) (x : S31) (tw : Bool) (hm : 1 ≤ m) (p : S31) : p ∈ rowL m x tw ↔ p ∈ rowP m ∨ p = x := by
  have h0 : pt 0 ∈ rowP m := List.mem_map.2 ⟨0, by simp; omega, rfl⟩
  unfold rowL
  cases tw with
  | true =>
    simp only [if_pos, List.mem_append, List.mem_cons, List.not_mem_nil, or_false]
    constructor
    · rintro ((h | h) | h)
      · exact .inl h
      · exact .inr h
      · subst h; exact .inl h0
    · rintro (h | h)
      · exact .inl (.inl h)
      · exact .inl (.inr h)
  | false => simp
theorem rowL_out (m : Nat) (x : S31) (tw : Bool) (hm : 1 ≤ m) (hm2 : m ≤ 20) : (rowL m x tw).any (outB 100) = outB 100 x := by
  rw [Bool.eq_iff_iff, List.any_eq_true]
  constructor
  · rintro ⟨p, hp, h⟩
    rcases (rowL_mem m x tw hm p).1 hp with h1 | rfl
    · have := rowP_mem m p h1
      simp [outB] at h; omega
    · exact h
  · intro h; exact ⟨x, (rowL_mem m x tw hm x).2 (.inr rfl), h⟩
theorem rowL_lenB (m : Nat) (x : S31) (tw : Bool) (hm : 1 ≤ m) : (rowL m x tw).any lenB = lenB x := by
  rw [Bool.eq_iff_iff, List.any_eq_true]
  constructor
  · rintro ⟨p, hp, h⟩
    rcases (rowL_mem m x tw hm p).1 hp with h1 | rfl
    · have := rowP_mem m p h1
      simp [lenB, this.2.2] at h
    · exact h
  · intro h; exact ⟨x, (rowL_mem m x tw hm x).2 (.inr rfl), h⟩
theorem rowP_keys (m : Nat) : ((rowP m).map (·.f0)).Nodup := by
  unfold rowP
  rw [List.map_map]
  exact List.Pairwise.map _ (fun a b (h : a < b) => by simp only [Function.comp, pt]; omega) List.pairwise_lt_range
theorem rowP_key (m : Nat) (y : Int) : y ∈ (rowP m).map (·.f0) ↔ 40 ≤ y ∧ y < 40 + m := by
  constructor
  · intro h
    obtain ⟨p, hp, rfl⟩ := List.mem_map.1 h
    have := rowP_mem m p hp
    exact ⟨this.1, this.2.1⟩
  · rintro ⟨h1, h2⟩
    refine List.mem_map.2 ⟨pt (y - 40).toNat, List.mem_map.2 ⟨_, by simp; omega, rfl⟩, ?_⟩
    simp only [pt]; omega
theorem rowL_dup (m : Nat) (x : S31) (tw : Bool) (hm : 1 ≤ m) : dupB (rowL m x tw) = (tw || (decide (40 ≤ x.f0) && decide (x.f0 < 40 + m))) := by
  have h1 : ((rowP m ++ [x]).map (·.f0)).Nodup ↔ ¬ (40 ≤ x.f0 ∧ x.f0 < 40 + m) := by
    rw [List.map_append, List.nodup_append]
    constructor
    · rintro ⟨_, _, h⟩ hx
      exact h x.f0 ((rowP_key m x.f0).2 hx) x.f0 (by simp) rfl
    · intro h
      refine ⟨rowP_keys m, by simp, fun a ha b hb e => ?_⟩
      simp at hb
      subst e; subst hb
      exact h ((rowP_key m _).1 ha)
  unfold dupB rowL
  cases tw with
  | false =>
    simp only [Bool.false_eq_true, if_false, List.append_nil, Bool.false_or]
    rw [Bool.eq_iff_iff]
    simp only [Bool.not_eq_true', decide_eq_false_iff_not, h1, Bool.and_eq_true, decide_eq_true_eq, Decidable.not_not]
  | true =>
    rw [if_pos rfl, Bool.true_or, Bool.not_eq_true', decide_eq_false_iff_not, List.map_append, List.nodup_append]
    rintro ⟨_, _, h⟩
    have h0 : pt 0 ∈ rowP m := List.mem_map.2 ⟨0, by simp; omega, rfl⟩
    exact h (pt 0).f0 (List.mem_map.2 ⟨pt 0, by simp [h0], rfl⟩) (pt 0).f0 (by simp) rfl
theorem fresh_nil (l : List S31) : freshN [] l = l.length := by
  unfold freshN
  rw [List.countP_eq_length]
  intro a _
  rfl
def wantC (lba : Int) (n : Int) (tw : Bool) (m : Nat) : Int :=
  if lba < 0 ∨ 100 ≤ lba then 2 else if n ≠ 40 then 3 else if (tw || (decide (40 ≤ lba) && decide (lba < 40 + m))) = true then 4 else if 16 < (m : Int) + 1 then 7 else 0
theorem refused_law (lba n : Int) (bk : List Int) (tw : Bool) (m : Nat) (hm : 1 ≤ m) (hm2 : m ≤ 20) (hb : (bk.length : Int) = n) : wrC 100 16 [] (rowL m ⟨lba, bk⟩ tw) = wantC lba n tw m := by
  have hne : rowL m ⟨lba, bk⟩ tw ≠ [] := fun h => by
    have := (rowL_mem m ⟨lba, bk⟩ tw hm ⟨lba, bk⟩).2 (.inr rfl)
    rw [h] at this; simp at this
  unfold wrC wantC
  rw [if_neg hne, rowL_out m _ tw hm hm2, rowL_lenB m _ tw hm, rowL_dup m _ tw hm, fresh_nil]
  have e1 : (outB 100 ⟨lba, bk⟩ = true) ↔ (lba < 0 ∨ 100 ≤ lba) := by simp [outB]
  have e2 : (lenB ⟨lba, bk⟩ = true) ↔ n ≠ 40 := by simp [lenB]; omega
  simp only [e1, e2]
  by_cases h1 : lba < 0 ∨ 100 ≤ lba
  · rw [if_pos h1, if_pos h1]
  rw [if_neg h1, if_neg h1]
  by_cases h2 : n ≠ 40
  · rw [if_pos h2, if_pos h2]
  rw [if_neg h2, if_neg h2]
  cases tw with
  | true => simp
  | false =>
    have e3 : (rowL m ⟨lba, bk⟩ false).length = m + 1 := by simp [rowL, rowP_len]
    rw [e3]
    by_cases h3 : (false || (decide (40 ≤ lba) && decide (lba < 40 + (m : Int)))) = true
    · rw [if_pos h3, if_pos h3]
    rw [if_neg h3, if_neg h3]
    simp
theorem ins_ne (M : List S31) (x : S31) : ins M x ≠ [] := by
  cases M with
  | nil => simp [ins]
  | cons y r => unfold ins; split <;> (try split) <;> simp
theorem insL_ne (M l : List S31) (h : l ≠ []) : insL M l ≠ [] := by
  rcases List.eq_nil_or_concat l with rfl | ⟨l1, t, rfl⟩
  · exact absurd rfl h
  · rw [List.concat_eq_append]
    unfold insL
    rw [List.foldl_append]
    exact ins_ne _ _
noncomputable def blk (n : Nat) (hn : n ≤ 1000000) : List Int := Classical.choose (block_ok n 1 hn)
end Go.Proofs.Ytbebihphodafiaa.Iv
