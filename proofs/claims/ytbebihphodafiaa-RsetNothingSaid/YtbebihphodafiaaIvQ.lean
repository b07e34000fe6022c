/- What the laws of sets of extents ask, of rows alone. Plain law. -/
import Derived.Test.YtbebihphodafiaaIvG
import Derived.Test.YtbebihphodafiaaIvG
namespace Go.Proofs.Ytbebihphodafiaa.Iv
open Go.Proofs.Ytbebihphodafiaa.PWb
set_option linter.unusedVariables false
set_option linter.unusedSimpArgs false
/-! ### What the laws ask -/
theorem may_len (l : List S60) (h : l.all mayB = true) : ∀ e ∈ l, 1 ≤ e.f1 := fun e he => ((mayB_iff e).1 (List.all_eq_true.1 h e he)).2.2.1
theorem nf_nrm (L : List S60) (h : Nf L) : nrm L = L := nrm_of L L h.2 h (fun _ => Iff.rfl)
theorem add_ok (most : Int) (L l : List S60) (hL : Nf L) (hl : l.all mayB = true) (hm : (L.length + l.length : Int) ≤ most) : addS most L l = (0, nrm (L ++ l)) := by
  unfold addS
  rw [if_pos hl]
  by_cases he : l = []
  · rw [if_pos he, he, List.append_nil, nf_nrm L hL]
  · rw [if_neg he, if_neg]
    have := nrm_len (L ++ l)
    rw [List.length_append] at this
    omega
theorem add_bad (most : Int) (L l : List S60) (hl : ¬ l.all mayB = true) : addS most L l = (1, L) := by
  unfold addS; rw [if_neg hl]
theorem nrm_absorb (a b c : List S60) (ha : ∀ e ∈ a, 1 ≤ e.f1) (hb : ∀ e ∈ b, 1 ≤ e.f1) (hp : (a ++ b).Perm c) : nrm (nrm a ++ b) = nrm c := by
  have hc : ∀ e ∈ c, 1 ≤ e.f1 := fun e he => by
    rcases List.mem_append.1 (hp.mem_iff.2 he) with h | h
    · exact ha e h
    · exact hb e h
  obtain ⟨n1, n2⟩ := nrm_nf a ha
  obtain ⟨c1, c2⟩ := nrm_nf c hc
  refine nrm_of _ _ (fun e he => ?_) c1 (fun x => ?_)
  · rcases List.mem_append.1 he with h | h
    · exact n1.2 e h
    · exact hb e h
  · rw [c2, cov_append, n2, ← cov_append, cov_perm hp]
/-! ### A set and its room -/
def rowR (m : Nat) : List S60 := (List.range m).map fun (j : Nat) => (⟨2 * (j : Int), 1⟩ : S60)
theorem rowR_succ (m : Nat) : rowR (m + 1) = rowR m ++ [⟨2 * (m : Int), 1⟩] := by
  simp [rowR, List.range_succ]
theorem rowR_len (m : Nat) : (rowR m).length = m := by simp [rowR]
theorem rowR_mem (m : Nat) (e : S60) (h : e ∈ rowR m) : 0 ≤ e.f0 ∧ e.f0 + 2 ≤ 2 * m ∧ e.f1 = 1 := by
  simp only [rowR, List.mem_map, List.mem_range] at h
  obtain ⟨j, hj, rfl⟩ := h
  exact ⟨by simp only; omega, by simp only; omega, rfl⟩
theorem nf_snoc (L : List S60) (x : S60) (h : Nf L) (hx : 1 ≤ x.f1) (hb : ∀ e ∈ L, e.f0 + e.f1 < x.f0) : Nf (L ++ [x]) := by
  refine ⟨?_, fun e he => ?_⟩
  · rw [List.pairwise_append]
    exact ⟨h.1, List.pairwise_singleton _ _, fun a ha b hb' => by simp at hb'; subst hb'; exact hb a ha⟩
  · rcases List.mem_append.1 he with h' | h'
    · exact h.2 e h'
    · simp at h'; subst h'; exact hx
theorem rowR_nf (m : Nat) : Nf (rowR m) := by
  induction m with
  | zero => exact ⟨List.Pairwise.nil, by simp [rowR]⟩
  | succ m ih =>
    rw [rowR_succ]
    exact nf_snoc _ _ ih (Int.le_refl _) (fun e he => by have := rowR_mem m e he; simp only; omega)
theorem rowR_sum (m : Nat) : sumS (rowR m) = m := by
  induction m with
  | zero => rfl
  | succ m ih => rw [rowR_succ]; simp only [sumS, List.map_append, List.sum_append, List.map_cons, List.map_nil, List.sum_cons, List.sum_nil] at ih ⊢; rw [ih]; simp
theorem may_at (i : Nat) (h : i ≤ 60) : [(⟨2 * (i : Int), 1⟩ : S60)].all mayB = true := by
  simp [mayB_iff]; omega
theorem room_in (most : Nat) (i : Nat) (hi : i < most) (h60 : i ≤ 60) : addS most (rowR i) [⟨2 * (i : Int), 1⟩] = (0, rowR (i + 1)) := by
  have hn := rowR_nf (i + 1)
  have hl := rowR_len (i + 1)
  rw [rowR_succ] at hn hl ⊢
  unfold addS
  rw [if_pos (may_at i h60), if_neg (by simp), nf_nrm _ hn, if_neg (by rw [hl]; omega)]
theorem room_out (most : Nat) (i : Nat) (hi : most ≤ i) (h60 : i ≤ 60) : addS most (rowR most) [⟨2 * (i : Int), 1⟩] = (7, rowR most) := by
  have hn : Nf (rowR most ++ [⟨2 * (i : Int), 1⟩]) := nf_snoc _ _ (rowR_nf most) (Int.le_refl _) (fun e he => by have := rowR_mem most e he; simp only; omega)
  unfold addS
  rw [if_pos (may_at i h60), if_neg (by simp), nf_nrm _ hn, if_pos (by rw [List.length_append, rowR_len]; simp; omega)]
theorem room_join (most k : Nat) (hk : 0 < k) (h : k ≤ most) (h60 : k ≤ 60) : addS most (rowR k) [⟨0, 2 * (k : Int)⟩] = (0, [⟨0, 2 * (k : Int)⟩]) := by
  have hm : [(⟨0, 2 * (k : Int)⟩ : S60)].all mayB = true := by simp [mayB_iff]; omega
  have hn : nrm (rowR k ++ [⟨0, 2 * (k : Int)⟩]) = [⟨0, 2 * (k : Int)⟩] := by
    refine nrm_of _ _ (fun e he => ?_) ⟨List.pairwise_singleton _ _, by simp; omega⟩ (fun x => ?_)
    · rcases List.mem_append.1 he with h' | h'
      · have := rowR_mem k e h'; omega
      · simp at h'; subst h'; simp only; omega
    · rw [cov_append, cov_one]
      constructor
      · exact .inr
      · rintro (⟨e, he, hx⟩ | hx)
        · have := rowR_mem k e he
          unfold In at hx ⊢
          simp only
          omega
        · exact hx
  unfold addS
  rw [if_pos hm, if_neg (by simp), hn, if_neg (by simp; omega)]
end Go.Proofs.Ytbebihphodafiaa.Iv
