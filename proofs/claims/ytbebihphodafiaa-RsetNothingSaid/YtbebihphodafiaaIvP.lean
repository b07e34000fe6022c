/- What rows of extents that rise and do not touch are: each is told by the blocks it has; joining keeps the blocks. Plain law, no program in it. -/
import Derived.Test.YtbebihphodafiaaPWbx0
namespace Go.Proofs.Ytbebihphodafiaa.Iv
open Go.Proofs.Ytbebihphodafiaa.PWb
set_option linter.unusedVariables false
set_option linter.unusedSimpArgs false

def In (e : S60) (x : Int) : Prop := e.f0 ≤ x ∧ x < e.f0 + e.f1
def Cov (l : List S60) (x : Int) : Prop := ∃ e ∈ l, In e x
/-- They rise and do not touch. -/
def Nf (l : List S60) : Prop := l.Pairwise (fun a b => a.f0 + a.f1 < b.f0) ∧ ∀ e ∈ l, 1 ≤ e.f1
def jstep (out : List S60) (e : S60) : List S60 :=
  match out.getLast? with
  | none => [e]
  | some t => if e.f0 ≤ t.f0 + t.f1 then out.dropLast ++ [⟨t.f0, max t.f1 (e.f0 + e.f1 - t.f0)⟩] else out ++ [e]
def joinL (l : List S60) : List S60 := l.foldl jstep []
theorem jstep_nil (e : S60) : jstep [] e = [e] := rfl
theorem jstep_snoc (o : List S60) (t e : S60) : jstep (o ++ [t]) e = if e.f0 ≤ t.f0 + t.f1 then o ++ [⟨t.f0, max t.f1 (e.f0 + e.f1 - t.f0)⟩] else (o ++ [t]) ++ [e] := by
  simp [jstep]
theorem jstep_len (o : List S60) (e : S60) : (jstep o e).length ≤ o.length + 1 := by
  rcases List.eq_nil_or_concat o with rfl | ⟨o1, t, rfl⟩
  · simp [jstep_nil]
  · rw [List.concat_eq_append, jstep_snoc]
    split <;> simp
theorem joinL_len' (l : List S60) : ∀ o : List S60, (l.foldl jstep o).length ≤ o.length + l.length := by
  induction l with
  | nil => intro o; simp
  | cons e l ih => intro o; have h1 := ih (jstep o e); have h2 := jstep_len o e; simp only [List.foldl_cons, List.length_cons]; omega
theorem joinL_len (l : List S60) : (joinL l).length ≤ l.length := by have := joinL_len' l []; simpa [joinL] using this
def Asc (l : List S60) : Prop := l.Pairwise (fun a b => a.f0 ≤ b.f0)
theorem cov_nil (x : Int) : ¬ Cov [] x := fun ⟨e, h, _⟩ => by simp at h
theorem cov_append (a b : List S60) (x : Int) : Cov (a ++ b) x ↔ Cov a x ∨ Cov b x := by
  simp only [Cov, List.mem_append]
  constructor
  · rintro ⟨e, h | h, hx⟩
    · exact .inl ⟨e, h, hx⟩
    · exact .inr ⟨e, h, hx⟩
  · rintro (⟨e, h, hx⟩ | ⟨e, h, hx⟩)
    · exact ⟨e, .inl h, hx⟩
    · exact ⟨e, .inr h, hx⟩
theorem cov_one (e : S60) (x : Int) : Cov [e] x ↔ In e x := by simp [Cov]
theorem cov_perm {a b : List S60} (h : a.Perm b) (x : Int) : Cov a x ↔ Cov b x := by
  simp only [Cov, h.mem_iff]
theorem cov_cons (e : S60) (a : List S60) (x : Int) : Cov (e :: a) x ↔ In e x ∨ Cov a x := by
  simp [Cov]
/-- A step: the blocks of both, and still they rise and do not touch. -/
theorem jstep_nf (o : List S60) (e : S60) (ho : Nf o) (he : 1 ≤ e.f1) (hlo : ∀ a ∈ o, a.f0 ≤ e.f0) :
    Nf (jstep o e) ∧ (∀ x, Cov (jstep o e) x ↔ Cov o x ∨ In e x) ∧ ∀ a ∈ jstep o e, a.f0 ≤ e.f0 := by
  rcases List.eq_nil_or_concat o with rfl | ⟨o1, t, rfl⟩
  · rw [jstep_nil]
    refine ⟨⟨List.pairwise_singleton _ _, by simpa using he⟩, fun x => ?_, by simp⟩
    rw [cov_one]
    simp [cov_nil]
  · rw [List.concat_eq_append] at *
    rw [jstep_snoc]
    obtain ⟨h1, h2⟩ := ho
    rw [List.pairwise_append] at h1
    obtain ⟨p1, _, p3⟩ := h1
    have ht := h2 t (by simp)
    have htl := hlo t (by simp)
    split
    · rename_i hle
      refine ⟨⟨?_, ?_⟩, fun x => ?_, ?_⟩
      · rw [List.pairwise_append]
        refine ⟨p1, List.pairwise_singleton _ _, fun a ha b hb => ?_⟩
        simp at hb
        subst hb
        exact p3 a ha t (by simp)
      · intro a ha
        rcases List.mem_append.1 ha with h | h
        · exact h2 a (by simp [h])
        · simp at h; subst h; simp only; omega
      · rw [cov_append, cov_append, cov_one, cov_one]
        unfold In
        simp only
        constructor
        · rintro (h | h)
          · exact .inl (.inl h)
          · by_cases hx : x < t.f0 + t.f1
            · exact .inl (.inr ⟨h.1, hx⟩)
            · exact .inr ⟨by omega, by omega⟩
        · rintro ((h | h) | h)
          · exact .inl h
          · exact .inr ⟨h.1, by omega⟩
          · exact .inr ⟨by omega, by omega⟩
      · intro a ha
        rcases List.mem_append.1 ha with h | h
        · exact hlo a (by simp [h])
        · simp at h; subst h; exact htl
    · rename_i hle
      refine ⟨⟨?_, ?_⟩, fun x => ?_, ?_⟩
      · rw [List.pairwise_append]
        refine ⟨by rw [List.pairwise_append]; exact ⟨p1, List.pairwise_singleton _ _, p3⟩, List.pairwise_singleton _ _, fun a ha b hb => ?_⟩
        simp at hb
        subst hb
        rcases List.mem_append.1 ha with h | h
        · have := p3 a h t (by simp)
          omega
        · simp at h; subst h; omega
      · intro a ha
        rcases List.mem_append.1 ha with h | h
        · exact h2 a h
        · simp at h; subst h; exact he
      · rw [cov_append, cov_one]
      · intro a ha
        rcases List.mem_append.1 ha with h | h
        · exact hlo a h
        · simp at h; subst h; exact Int.le_refl _
theorem fold_nf (l : List S60) : ∀ o : List S60, Nf o → Asc l → (∀ e ∈ l, 1 ≤ e.f1) → (∀ a ∈ o, ∀ e ∈ l, a.f0 ≤ e.f0) →
    Nf (l.foldl jstep o) ∧ ∀ x, Cov (l.foldl jstep o) x ↔ Cov o x ∨ Cov l x := by
  induction l with
  | nil => intro o ho _ _ _; exact ⟨ho, fun x => by simp [cov_nil]⟩
  | cons e l ih =>
    intro o ho ha hl hlo
    obtain ⟨h1, h2, h3⟩ := jstep_nf o e ho (hl e (by simp)) (fun a h => hlo a h e (by simp))
    obtain ⟨a1, a2⟩ := List.pairwise_cons.1 ha
    obtain ⟨k1, k2⟩ := ih (jstep o e) h1 a2 (fun x hx => hl x (by simp [hx])) (fun a h f hf => Int.le_trans (h3 a h) (a1 f hf))
    refine ⟨k1, fun x => ?_⟩
    rw [List.foldl_cons, k2 x, h2 x, cov_cons, or_assoc]
theorem joinL_nf (l : List S60) (ha : Asc l) (hl : ∀ e ∈ l, 1 ≤ e.f1) : Nf (joinL l) ∧ ∀ x, Cov (joinL l) x ↔ Cov l x := by
  obtain ⟨h1, h2⟩ := fold_nf l [] ⟨List.Pairwise.nil, by simp⟩ ha hl (by simp)
  exact ⟨h1, fun x => by rw [joinL, h2 x]; simp [cov_nil]⟩
/-- Each is told by its blocks. -/
theorem nf_unique : ∀ (a b : List S60), Nf a → Nf b → (∀ x, Cov a x ↔ Cov b x) → a = b := by
  intro a
  induction a with
  | nil =>
    intro b _ hb h
    cases b with
    | nil => rfl
    | cons f b =>
      have h1 := hb.2 f (by simp)
      exact absurd ((h f.f0).2 ⟨f, by simp, by unfold In; omega⟩) (cov_nil _)
  | cons e a ih =>
    intro b ha hb h
    cases b with
    | nil =>
      have h1 := ha.2 e (by simp)
      exact absurd ((h e.f0).1 ⟨e, by simp, by unfold In; omega⟩) (cov_nil _)
    | cons f b =>
      obtain ⟨a1, a2⟩ := List.pairwise_cons.1 ha.1
      obtain ⟨b1, b2⟩ := List.pairwise_cons.1 hb.1
      have he := ha.2 e (by simp)
      have hf := hb.2 f (by simp)
      have hge : ∀ x, Cov (e :: a) x → e.f0 ≤ x := by
        intro x hx
        rcases (cov_cons _ _ _).1 hx with hx | ⟨g, hg, hx⟩
        · exact hx.1
        · have := a1 g hg; unfold In at hx; omega
      have hgf : ∀ x, Cov (f :: b) x → f.f0 ≤ x := by
        intro x hx
        rcases (cov_cons _ _ _).1 hx with hx | ⟨g, hg, hx⟩
        · exact hx.1
        · have := b1 g hg; unfold In at hx; omega
      have e1 : f.f0 ≤ e.f0 := hgf _ ((h _).1 ⟨e, by simp, by unfold In; omega⟩)
      have e2 : e.f0 ≤ f.f0 := hge _ ((h _).2 ⟨f, by simp, by unfold In; omega⟩)
      have hae : ¬ Cov (e :: a) (e.f0 + e.f1) := by
        intro hx
        rcases (cov_cons _ _ _).1 hx with hx | ⟨g, hg, hx⟩
        · unfold In at hx; omega
        · have := a1 g hg; unfold In at hx; omega
      have hbf : ¬ Cov (f :: b) (f.f0 + f.f1) := by
        intro hx
        rcases (cov_cons _ _ _).1 hx with hx | ⟨g, hg, hx⟩
        · unfold In at hx; omega
        · have := b1 g hg; unfold In at hx; omega
      have e3 : e.f1 = f.f1 := by
        rcases Int.lt_trichotomy e.f1 f.f1 with h1 | h1 | h1
        · exact absurd ((h _).2 ⟨f, by simp, by unfold In; omega⟩) hae
        · exact h1
        · exact absurd ((h _).1 ⟨e, by simp, by unfold In; omega⟩) hbf
      have e4 : e = f := by
        cases e; cases f
        simp only at e1 e2 e3
        rw [e3, show _ = _ from Int.le_antisymm e2 e1]
      subst e4
      have hta : ∀ x, Cov a x ↔ Cov (e :: a) x ∧ ¬ In e x := by
        intro x
        rw [cov_cons]
        constructor
        · intro hx
          refine ⟨.inr hx, fun hi => ?_⟩
          obtain ⟨g, hg, hx⟩ := hx
          have := a1 g hg
          unfold In at hx hi
          omega
        · rintro ⟨hx | hx, hn⟩
          · exact absurd hx hn
          · exact hx
      have htb : ∀ x, Cov b x ↔ Cov (e :: b) x ∧ ¬ In e x := by
        intro x
        rw [cov_cons]
        constructor
        · intro hx
          refine ⟨.inr hx, fun hi => ?_⟩
          obtain ⟨g, hg, hx⟩ := hx
          have := b1 g hg
          unfold In at hx hi
          omega
        · rintro ⟨hx | hx, hn⟩
          · exact absurd hx hn
          · exact hx
      have := ih b ⟨a2, fun g hg => ha.2 g (by simp [hg])⟩ ⟨b2, fun g hg => hb.2 g (by simp [hg])⟩ (fun x => by rw [hta, htb, h])
      rw [this]
/-- What a set of extents comes to. -/
def nrm (l : List S60) : List S60 := joinL (l.mergeSort (fun a b => decide (a.f0 ≤ b.f0)))
theorem nrm_sort (l : List S60) : Asc (l.mergeSort (fun a b => decide (a.f0 ≤ b.f0))) := by
  have := List.pairwise_mergeSort (le := fun a b : S60 => decide (a.f0 ≤ b.f0)) (by intro a b c; simp; omega) (by intro a b; simp; omega) l
  exact this.imp (by simp)
theorem nrm_nf (l : List S60) (hl : ∀ e ∈ l, 1 ≤ e.f1) : Nf (nrm l) ∧ ∀ x, Cov (nrm l) x ↔ Cov l x := by
  have hp := List.mergeSort_perm l (fun a b => decide (a.f0 ≤ b.f0))
  obtain ⟨h1, h2⟩ := joinL_nf _ (nrm_sort l) (fun e he => hl e (hp.mem_iff.1 he))
  exact ⟨h1, fun x => by rw [nrm, h2 x, cov_perm hp]⟩
theorem nrm_len (l : List S60) : (nrm l).length ≤ l.length := by
  have := joinL_len (l.mergeSort (fun a b => decide (a.f0 ≤ b.f0)))
  rwa [List.length_mergeSort] at this
/-- Whatever order the sort leaves equals in. -/
theorem joinL_nrm (l l' : List S60) (hp : l'.Perm l) (ha : Asc l') (hl : ∀ e ∈ l, 1 ≤ e.f1) : joinL l' = nrm l := by
  obtain ⟨h1, h2⟩ := joinL_nf l' ha (fun e he => hl e (hp.mem_iff.1 he))
  obtain ⟨k1, k2⟩ := nrm_nf l hl
  exact nf_unique _ _ h1 k1 (fun x => by rw [h2, k2, cov_perm hp])
theorem nrm_of (l m : List S60) (hl : ∀ e ∈ l, 1 ≤ e.f1) (hm : Nf m) (h : ∀ x, Cov m x ↔ Cov l x) : nrm l = m := by
  obtain ⟨k1, k2⟩ := nrm_nf l hl
  exact nf_unique _ _ k1 hm (fun x => by rw [k2, h])
theorem nrm_nil : nrm [] = [] := by simp [nrm, joinL]
end Go.Proofs.Ytbebihphodafiaa.Iv
