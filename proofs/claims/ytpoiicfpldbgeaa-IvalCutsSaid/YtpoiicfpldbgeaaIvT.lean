/- What is cut off an extent: the blocks of it that are in none of others. Plain law, no program in it. -/
import Derived.Test.YtpoiicfpldbgeaaIvQ
import Derived.Test.YtpoiicfpldbgeaaIvR
namespace Go.Proofs.Ytpoiicfpldbgeaa.Iv
open Go.Proofs.Ytpoiicfpldbgeaa.PIv
set_option linter.unusedVariables false
set_option linter.unusedSimpArgs false

def tailC (e1 at0 : Int) (out : List S28) : List S28 := if at0 < e1 then out ++ [⟨at0, e1 - at0⟩] else out
def cutF (e1 : Int) : List S28 → Int → List S28 → List S28
  | [], at0, out => tailC e1 at0 out
  | x :: r, at0, out => if e1 ≤ x.f0 then tailC e1 at0 out else cutF e1 r (max at0 (x.f0 + x.f1)) (if at0 < x.f0 then out ++ [⟨at0, x.f0 - at0⟩] else out)
theorem cutF_nil (e1 at0 : Int) (out : List S28) : cutF e1 [] at0 out = tailC e1 at0 out := rfl
theorem cutF_stop (e1 at0 : Int) (x : S28) (r out : List S28) (h : e1 ≤ x.f0) : cutF e1 (x :: r) at0 out = tailC e1 at0 out := by
  rw [cutF, if_pos h]
theorem cutF_on (e1 at0 : Int) (x : S28) (r out : List S28) (h : ¬ e1 ≤ x.f0) : cutF e1 (x :: r) at0 out = cutF e1 r (max at0 (x.f0 + x.f1)) (if at0 < x.f0 then out ++ [⟨at0, x.f0 - at0⟩] else out) := by
  rw [cutF, if_neg h]
theorem nf_ge (x : S28) (r : List S28) (h : Nf (x :: r)) (y : Int) (hy : Cov (x :: r) y) : x.f0 ≤ y := by
  obtain ⟨a1, _⟩ := List.pairwise_cons.1 h.1
  have hx := h.2 x (by simp)
  rcases (cov_cons _ _ _).1 hy with hy | ⟨g, hg, hy⟩
  · exact hy.1
  · have := a1 g hg; unfold In at hy; omega
theorem nf_tl (x : S28) (r : List S28) (h : Nf (x :: r)) : Nf r :=
  ⟨(List.pairwise_cons.1 h.1).2, fun g hg => h.2 g (by simp [hg])⟩
theorem tailC_cov (e1 at0 : Int) (out : List S28) (y : Int) : Cov (tailC e1 at0 out) y ↔ Cov out y ∨ (at0 ≤ y ∧ y < e1) := by
  unfold tailC
  split
  · rw [cov_append, cov_one]; unfold In; simp only; constructor
    · rintro (h | h)
      · exact .inl h
      · exact .inr (by omega)
    · rintro (h | h)
      · exact .inl h
      · exact .inr (by omega)
  · constructor
    · exact .inl
    · rintro (h | h)
      · exact h
      · omega
theorem cutF_cov (e1 : Int) : ∀ (L : List S28) (at0 : Int) (out : List S28), Nf L → ∀ y, Cov (cutF e1 L at0 out) y ↔ Cov out y ∨ (at0 ≤ y ∧ y < e1 ∧ ¬ Cov L y) := by
  intro L
  induction L with
  | nil =>
    intro at0 out _ y
    rw [cutF_nil, tailC_cov]
    simp [cov_nil]
  | cons x r ih =>
    intro at0 out hL y
    have hge := nf_ge x r hL y
    have hx := hL.2 x (by simp)
    by_cases h : e1 ≤ x.f0
    · rw [cutF_stop _ _ _ _ _ h, tailC_cov]
      constructor
      · rintro (h1 | h1)
        · exact .inl h1
        · exact .inr ⟨h1.1, h1.2, fun hc => by have := hge hc; omega⟩
      · rintro (h1 | h1)
        · exact .inl h1
        · exact .inr ⟨h1.1, h1.2.1⟩
    · rw [cutF_on _ _ _ _ _ h, ih _ _ (nf_tl x r hL) y]
      have hout : Cov (if at0 < x.f0 then out ++ [⟨at0, x.f0 - at0⟩] else out) y ↔ Cov out y ∨ (at0 ≤ y ∧ y < x.f0) := tailC_cov x.f0 at0 out y
      rw [hout, cov_cons]
      unfold In
      constructor
      · rintro ((h1 | h1) | ⟨h1, h2, h3⟩)
        · exact .inl h1
        · refine .inr ⟨h1.1, by omega, ?_⟩
          rintro (h4 | h4)
          · omega
          · have := hge ((cov_cons _ _ _).2 (.inr h4)); omega
        · refine .inr ⟨by omega, h2, ?_⟩
          rintro (h4 | h4)
          · omega
          · exact h3 h4
      · rintro (h1 | ⟨h1, h2, h3⟩)
        · exact .inl (.inl h1)
        · by_cases hy : y < x.f0
          · exact .inl (.inr ⟨h1, hy⟩)
          · refine .inr ⟨?_, h2, fun h4 => h3 (.inr h4)⟩
            by_cases hy2 : y < x.f0 + x.f1
            · exact absurd (.inl ⟨by omega, hy2⟩) h3
            · omega
/-- The pieces: within, not empty, they rise and do not touch. -/
def Pcs (lo hi : Int) (out : List S28) : Prop := Nf out ∧ ∀ a ∈ out, lo ≤ a.f0 ∧ a.f0 + a.f1 ≤ hi
theorem pcs_snoc {lo hi at0 c : Int} {out : List S28} (h : Pcs lo hi out) (hl : ∀ a ∈ out, a.f0 + a.f1 < at0) (h0 : lo ≤ at0) (h1 : at0 < c) (h2 : c ≤ hi) : Pcs lo hi (out ++ [⟨at0, c - at0⟩]) := by
  refine ⟨nf_snoc _ _ h.1 (by simp only; omega) hl, fun a ha => ?_⟩
  rcases List.mem_append.1 ha with ha | ha
  · exact h.2 a ha
  · simp at ha; subst ha; simp only; omega
theorem tailC_pcs {lo e1 at0 : Int} {out : List S28} (h : Pcs lo e1 out) (hl : ∀ a ∈ out, a.f0 + a.f1 < at0) (h0 : lo ≤ at0) : Pcs lo e1 (tailC e1 at0 out) := by
  unfold tailC
  split
  · rename_i hh; exact pcs_snoc h hl h0 hh (Int.le_refl _)
  · exact h
theorem cutF_pcs (lo e1 : Int) : ∀ (L : List S28) (at0 : Int) (out : List S28), Nf L → Pcs lo e1 out → (∀ a ∈ out, a.f0 + a.f1 < at0) → lo ≤ at0 → Pcs lo e1 (cutF e1 L at0 out) := by
  intro L
  induction L with
  | nil => intro at0 out _ h hl h0; rw [cutF_nil]; exact tailC_pcs h hl h0
  | cons x r ih =>
    intro at0 out hL h hl h0
    have hx := hL.2 x (by simp)
    by_cases hs : e1 ≤ x.f0
    · rw [cutF_stop _ _ _ _ _ hs]; exact tailC_pcs h hl h0
    · rw [cutF_on _ _ _ _ _ hs]
      refine ih _ _ (nf_tl x r hL) ?_ ?_ (by omega)
      · split
        · rename_i hh; exact pcs_snoc h hl h0 hh (by omega)
        · exact h
      · intro a ha
        split at ha
        · rcases List.mem_append.1 ha with ha | ha
          · have := hl a ha; omega
          · simp at ha; subst ha; simp only; omega
        · have := hl a ha; omega
theorem tailC_len (e1 at0 : Int) (out : List S28) : (tailC e1 at0 out).length ≤ out.length + 1 := by
  unfold tailC; split <;> simp
theorem cutF_len (e1 : Int) : ∀ (L : List S28) (at0 : Int) (out : List S28), (cutF e1 L at0 out).length ≤ out.length + L.length + 1 := by
  intro L
  induction L with
  | nil => intro at0 out; rw [cutF_nil]; have := tailC_len e1 at0 out; simpa using this
  | cons x r ih =>
    intro at0 out
    by_cases hs : e1 ≤ x.f0
    · rw [cutF_stop _ _ _ _ _ hs]; have := tailC_len e1 at0 out; simp only [List.length_cons]; omega
    · rw [cutF_on _ _ _ _ _ hs]
      have := ih (max at0 (x.f0 + x.f1)) (if at0 < x.f0 then out ++ [⟨at0, x.f0 - at0⟩] else out)
      have h2 : (if at0 < x.f0 then out ++ [⟨at0, x.f0 - at0⟩] else out : List S28).length ≤ out.length + 1 := tailC_len x.f0 at0 out
      simp only [List.length_cons]; omega
/-- What is cut. -/
def cutL (e : S28) (t : List S28) : List S28 := if (mayB e && t.all mayB) = true then cutF (e.f0 + e.f1) (nrm t) e.f0 [] else []
/-- A row that rises, asked from the left. -/
theorem cov_at (l : List S28) (h : Nf l) (k : Nat) (i : Int) (hk : ∀ j, j < k → ∀ hj : j < l.length, (l[j]).f0 + (l[j]).f1 ≤ i) (hs : ∀ hj : k < l.length, i < (l[k]).f0 + (l[k]).f1) : Cov l i ↔ ∃ hj : k < l.length, (l[k]).f0 ≤ i := by
  constructor
  · rintro ⟨e, he, hi⟩
    obtain ⟨j, hj, rfl⟩ := List.getElem_of_mem he
    unfold In at hi
    rcases Nat.lt_trichotomy j k with h1 | h1 | h1
    · have := hk j h1 hj; omega
    · subst h1; exact ⟨hj, hi.1⟩
    · have hkl : k < l.length := by omega
      have h2 := List.pairwise_iff_getElem.1 h.1 k j hkl hj h1
      have h3 := hs hkl
      have h4 := h.2 _ (List.getElem_mem hkl)
      exact ⟨hkl, by omega⟩
  · rintro ⟨hj, h0⟩
    exact ⟨_, List.getElem_mem hj, h0, hs hj⟩
/-- No piece meets what was cut off. -/
theorem meet_none (L : List S28) (hL : Nf L) (p : S28) (hp : 1 ≤ p.f1) (h : ∀ y, p.f0 ≤ y → y < p.f0 + p.f1 → ¬ Cov L y) : (L.any fun x => meetB x p) = false := by
  rw [Bool.eq_false_iff]
  intro ha
  obtain ⟨x, hx, hm⟩ := List.any_eq_true.1 ha
  simp only [meetB, Bool.and_eq_true, decide_eq_true_eq] at hm
  have h1 := hL.2 x hx
  refine h (max x.f0 p.f0) (by omega) (by omega) ⟨x, hx, ?_⟩
  unfold In
  omega
theorem cov_mayhas (L : List S28) (i : Int) (h0 : 0 ≤ i) (h1 : i ≤ 1048575) : hasB L i = true ↔ Cov L i := by
  unfold hasB
  have hm : mayB ⟨i, 1⟩ = true := (mayB_iff _).2 ⟨h0, by simp only; omega, by simp, by simp, by simp only; omega⟩
  rw [hm, Bool.true_and]
  exact any_cov L i
end Go.Proofs.Ytpoiicfpldbgeaa.Iv
