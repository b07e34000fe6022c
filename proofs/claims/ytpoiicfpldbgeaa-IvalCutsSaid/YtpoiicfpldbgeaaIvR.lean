/- The blocks of two numbers' bits as rows of extents. Plain law. -/
import Derived.Test.YtpoiicfpldbgeaaIvQ
namespace Go.Proofs.Ytpoiicfpldbgeaa.Iv
open Go.Proofs.Ytpoiicfpldbgeaa.PIv
set_option linter.unusedVariables false
set_option linter.unusedSimpArgs false

/-- The blocks that f tells of, in the order idx. -/
def bl (f : Nat → Bool) (idx : Nat → Nat) (n : Nat) : List S28 := ((List.range n).filter (fun j => f (idx j))).map (fun j => (⟨(idx j : Int), 1⟩ : S28))
theorem bl_succ (f : Nat → Bool) (idx : Nat → Nat) (n : Nat) : bl f idx (n + 1) = bl f idx n ++ if f (idx n) = true then [⟨(idx n : Int), 1⟩] else [] := by
  unfold bl
  rw [List.range_succ, List.filter_append, List.map_append]
  by_cases h : f (idx n) = true
  · simp [h]
  · simp [h]
theorem bl_len (f : Nat → Bool) (idx : Nat → Nat) (n : Nat) : (bl f idx n).length ≤ n := by
  unfold bl
  rw [List.length_map]
  have := List.length_filter_le (fun j => f (idx j)) (List.range n)
  simpa using this
theorem bl_mem (f : Nat → Bool) (idx : Nat → Nat) (n : Nat) (e : S28) : e ∈ bl f idx n ↔ ∃ j, j < n ∧ f (idx j) = true ∧ e = ⟨(idx j : Int), 1⟩ := by
  unfold bl
  simp only [List.mem_map, List.mem_filter, List.mem_range]
  constructor
  · rintro ⟨j, ⟨h1, h2⟩, rfl⟩; exact ⟨j, h1, h2, rfl⟩
  · rintro ⟨j, h1, h2, rfl⟩; exact ⟨j, ⟨h1, h2⟩, rfl⟩
theorem bl_one (f : Nat → Bool) (idx : Nat → Nat) (n : Nat) : ∀ e ∈ bl f idx n, 1 ≤ e.f1 := fun e he => by
  obtain ⟨j, _, _, rfl⟩ := (bl_mem f idx n e).1 he
  exact Int.le_refl _
theorem bl_cov (f : Nat → Bool) (idx : Nat → Nat) (n : Nat) (x : Int) : Cov (bl f idx n) x ↔ ∃ j, j < n ∧ f (idx j) = true ∧ x = idx j := by
  constructor
  · rintro ⟨e, he, hx⟩
    obtain ⟨j, h1, h2, rfl⟩ := (bl_mem f idx n e).1 he
    unfold In at hx
    simp only at hx
    exact ⟨j, h1, h2, by omega⟩
  · rintro ⟨j, h1, h2, rfl⟩
    exact ⟨⟨(idx j : Int), 1⟩, (bl_mem f idx n _).2 ⟨j, h1, h2, rfl⟩, by unfold In; simp only; omega⟩
theorem bl_turn (f : Nat → Bool) : nrm (bl f (fun j => 63 - j) 64) = nrm (bl f id 64) := by
  obtain ⟨n1, n2⟩ := nrm_nf (bl f id 64) (bl_one _ _ _)
  refine nrm_of _ _ (bl_one _ _ _) n1 (fun x => ?_)
  rw [n2, bl_cov, bl_cov]
  constructor
  · rintro ⟨j, h1, h2, h3⟩
    refine ⟨63 - j, by omega, ?_, ?_⟩
    · rw [show 63 - (63 - j) = j by omega]; exact h2
    · simp only [id] at h3; rw [show 63 - (63 - j) = j by omega]; exact h3
  · rintro ⟨j, h1, h2, h3⟩
    exact ⟨63 - j, by omega, h2, h3⟩
/-- One more block. -/
theorem bl_add (f : Nat → Bool) (idx : Nat → Nat) (n : Nat) (hn : n < 64) (hi : idx n ≤ 63) (h : f (idx n) = true) : addS 100 (nrm (bl f idx n)) [⟨(idx n : Int), 1⟩] = (0, nrm (bl f idx (n + 1))) := by
  have h1 := nrm_nf (bl f idx n) (bl_one _ _ _)
  have h2 := nrm_len (bl f idx n)
  have h3 := bl_len f idx n
  have hm : [(⟨(idx n : Int), 1⟩ : S28)].all mayB = true := by simp [mayB_iff]; omega
  rw [add_ok 100 _ _ h1.1 hm (by simp; omega), nrm_absorb (bl f idx n) _ (bl f idx (n + 1)) (bl_one _ _ _) (may_len _ hm) (by rw [bl_succ, if_pos h])]
/-- What the set comes to. -/
def setB (f : Nat → Bool) : List S28 := nrm (bl f id 64)
theorem setB_nf (f : Nat → Bool) : Nf (setB f) := (nrm_nf _ (bl_one _ _ _)).1
theorem setB_cov (f : Nat → Bool) (x : Int) : Cov (setB f) x ↔ ∃ j : Nat, j < 64 ∧ f j = true ∧ x = j := by
  rw [setB, (nrm_nf _ (bl_one _ _ _)).2, bl_cov]
  rfl
theorem setB_len (f : Nat → Bool) : (setB f).length ≤ 64 := Nat.le_trans (nrm_len _) (bl_len _ _ _)
theorem any_cov (L : List S28) (i : Int) : (L.any fun x => meetB x ⟨i, 1⟩) = true ↔ Cov L i := by
  simp only [List.any_eq_true, meetB, Cov, In, Bool.and_eq_true, decide_eq_true_eq]
  constructor
  · rintro ⟨x, h1, h2, h3⟩; exact ⟨x, h1, by omega, by omega⟩
  · rintro ⟨x, h1, h2, h3⟩; exact ⟨x, h1, by omega, by omega⟩
theorem hasB_setB (f : Nat → Bool) (i : Nat) (hi : i < 66) : hasB (setB f) (i : Int) = (decide (i < 64) && f i) := by
  have hm : mayB ⟨(i : Int), 1⟩ = true := by rw [mayB_iff]; simp only; omega
  unfold hasB
  rw [hm, Bool.true_and, Bool.eq_iff_iff, any_cov, setB_cov]
  simp only [Bool.and_eq_true, decide_eq_true_eq]
  constructor
  · rintro ⟨j, h1, h2, h3⟩
    obtain rfl : i = j := by omega
    exact ⟨h1, h2⟩
  · rintro ⟨h1, h2⟩; exact ⟨i, h1, h2, rfl⟩
theorem crossB_iff (L1 L2 : List S28) (h1 : ∀ e ∈ L1, 1 ≤ e.f1) (h2 : ∀ e ∈ L2, 1 ≤ e.f1) : crossB L1 L2 = true ↔ ∃ x, Cov L1 x ∧ Cov L2 x := by
  simp only [crossB, List.any_eq_true, meetB, Cov, In, Bool.and_eq_true, decide_eq_true_eq]
  constructor
  · rintro ⟨a, ha, b, hb, h3, h4⟩
    have := h1 a ha
    have := h2 b hb
    exact ⟨max a.f0 b.f0, ⟨a, ha, by omega, by omega⟩, ⟨b, hb, by omega, by omega⟩⟩
  · rintro ⟨x, ⟨a, ha, h3, h4⟩, ⟨b, hb, h5, h6⟩⟩
    exact ⟨a, ha, b, hb, by omega, by omega⟩
theorem cross_setB (f g : Nat → Bool) : crossB (setB f) (setB g) = true ↔ ∃ j, j < 64 ∧ f j = true ∧ g j = true := by
  rw [crossB_iff _ _ (setB_nf f).2 (setB_nf g).2]
  constructor
  · rintro ⟨x, h1, h2⟩
    obtain ⟨j, a1, a2, a3⟩ := (setB_cov f x).1 h1
    obtain ⟨k, b1, b2, b3⟩ := (setB_cov g x).1 h2
    obtain rfl : j = k := by omega
    exact ⟨j, a1, a2, b2⟩
  · rintro ⟨j, h1, h2, h3⟩
    exact ⟨j, (setB_cov f j).2 ⟨j, h1, h2, rfl⟩, (setB_cov g j).2 ⟨j, h1, h3, rfl⟩⟩
/-! ### How many -/
def inB (e : S28) (i : Nat) : Bool := decide (e.f0 ≤ i) && decide ((i : Int) < e.f0 + e.f1)
theorem count_in (e : S28) (h0 : 0 ≤ e.f0) (h1 : 0 ≤ e.f1) (M : Nat) : ((List.range M).countP (inB e) : Int) = max 0 (min (M : Int) (e.f0 + e.f1) - e.f0) := by
  induction M with
  | zero => simp; omega
  | succ M ih =>
    rw [List.range_succ, List.countP_append, List.countP_singleton]
    by_cases h : inB e M = true
    · rw [if_pos h]
      simp only [inB, Bool.and_eq_true, decide_eq_true_eq] at h
      push_cast
      rw [ih]
      omega
    · rw [if_neg h]
      simp only [inB, Bool.and_eq_true, decide_eq_true_eq, not_and, Int.not_lt] at h
      push_cast
      rw [ih]
      omega
theorem count_or (p q : Nat → Bool) (l : List Nat) (h : ∀ i ∈ l, ¬ (p i = true ∧ q i = true)) : l.countP (fun i => p i || q i) = l.countP p + l.countP q := by
  induction l with
  | nil => rfl
  | cons i l ih =>
    have h1 := ih (fun j hj => h j (by simp [hj]))
    have h2 := h i (by simp)
    simp only [List.countP_cons]
    rw [h1]
    cases hp : p i <;> cases hq : q i <;> simp_all <;> omega
theorem count_nf : ∀ (L : List S28), Nf L → ∀ M : Nat, (∀ e ∈ L, 0 ≤ e.f0 ∧ e.f0 + e.f1 ≤ M) → sumS L = ((List.range M).countP (fun i => L.any fun e => inB e i) : Nat) := by
  intro L
  induction L with
  | nil => intro _ M _; simp [sumS]
  | cons e L ih =>
    intro hn M hM
    obtain ⟨a1, a2⟩ := List.pairwise_cons.1 hn.1
    have h1 := ih ⟨a2, fun x hx => hn.2 x (by simp [hx])⟩ M (fun x hx => hM x (by simp [hx]))
    have he := hM e (by simp)
    have hl := hn.2 e (by simp)
    have h2 : (List.range M).countP (fun i => (e :: L).any fun e => inB e i) = (List.range M).countP (inB e) + (List.range M).countP (fun i => L.any fun e => inB e i) := by
      rw [← count_or]
      · rfl
      · rintro i _ ⟨h3, h4⟩
        obtain ⟨x, hx, hxi⟩ := List.any_eq_true.1 h4
        have := a1 x hx
        simp only [inB, Bool.and_eq_true, decide_eq_true_eq] at h3 hxi
        omega
    rw [h2]
    have h3 := count_in e he.1 (by omega) M
    push_cast
    rw [h3, ← h1]
    simp only [sumS, List.map_cons, List.sum_cons]
    omega
theorem any_in (L : List S28) (i : Nat) : (L.any fun e => inB e i) = true ↔ Cov L (i : Int) := by
  simp only [List.any_eq_true, inB, Cov, In, Bool.and_eq_true, decide_eq_true_eq]
theorem count_setB (f : Nat → Bool) : sumS (setB f) = ((List.range 64).countP f : Nat) := by
  have h := setB_nf f
  rw [count_nf (setB f) h 64 (fun e he => ?_)]
  · congr 1
    apply List.countP_congr
    intro i hi
    have hi' : i < 64 := by simpa using hi
    rw [any_in, setB_cov]
    constructor
    · rintro ⟨j, _, h2, h3⟩
      obtain rfl : i = j := by omega
      exact h2
    · intro h2; exact ⟨i, hi', h2, rfl⟩
  · have hl := h.2 e he
    obtain ⟨j, j1, _, j3⟩ := (setB_cov f e.f0).1 ⟨e, he, by unfold In; omega⟩
    obtain ⟨k, k1, _, k3⟩ := (setB_cov f (e.f0 + e.f1 - 1)).1 ⟨e, he, by unfold In; omega⟩
    omega
end Go.Proofs.Ytpoiicfpldbgeaa.Iv
