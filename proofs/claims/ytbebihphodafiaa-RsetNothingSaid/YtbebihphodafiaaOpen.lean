/- What comes in is opened: a value that reads as data holds what its kind says. -/
import Derived.Deep.Slices
import Derived.Test.YtbebihphodafiaaWWords
import Derived.Test.YtbebihphodafiaaPWbx0
namespace Go.Proofs.Ytbebihphodafiaa.Open
open Go.RowKit Go.Proofs.YtbebihphodafiaaW.PrintWords Go.Deep Go.ChangeShapes
section
variable {H : Type} {enc : TypeId × Value → H} {P : Program} {w : World} {α β γ δ : Type}
/-- Whatever reads as data of type t is of this kind. -/
def Opens (enc : TypeId × Value → H) (P : Program) (w : World) (t : TypeId) (d : Kd α) (good : α → Prop) : Prop :=
  d.sz = P.cellsOf t ∧ ∀ fuel cs x, DataW.trod enc P w 0 (fun _ => true) true fuel t cs = some x → ∃ a, d.K w a cs ∧ good a
theorem opens_int {t : TypeId} {k : IntKind} (ht : P.underlying t = some (.int k)) (hc : P.cellsOf t = 1) : Opens enc P w t (Kd.int k) (fun n => (Lit.int k n).wf = true) := by
  refine ⟨hc.symm, fun fuel cs x h => ?_⟩
  obtain ⟨n, rfl, _, hw⟩ := DataW.trod_int ht h
  exact ⟨n, rfl, hw⟩
theorem opens_bool {t : TypeId} (ht : P.underlying t = some .bool) (hc : P.cellsOf t = 1) : Opens enc P w t Kd.bool (fun _ => True) := by
  refine ⟨hc.symm, fun fuel cs x h => ?_⟩
  obtain ⟨n, rfl, _⟩ := DataW.trod_bool ht h
  exact ⟨n, rfl, trivial⟩
theorem opens_slice {t e : TypeId} {d : Kd α} {good : α → Prop} (ht : P.underlying t = some (.slice e)) (hc : P.cellsOf t = 1) (he : Opens enc P w e d good) :
    Opens enc P w t (Kd.slice e d) (fun l => (∀ a ∈ l, good a) ∧ l.length ≤ maxLen) := by
  refine ⟨hc.symm, fun fuel cs x h => ?_⟩
  rcases open_slice ht h with ⟨rfl, _⟩ | ⟨a, len, cap, m, n, D, Pl, rfl, hb, hl, hm, hmm, _, hx⟩
  · exact ⟨[], ⟨none, 0, rfl, Nat.le_refl _, Kd.C_nil d w⟩, by simp, by simp⟩
  · simp only [if_true] at hmm
    subst hmm
    have each : ∀ i, i < len → ∃ y c, d.K w y c ∧ good y ∧ c.length = d.sz ∧ ∀ j u, c[j]? = some u → w.cell? (a.add (i * d.sz + j)) = some u := by
      intro i hi
      obtain ⟨cs', h1, h2⟩ := hx i (by omega)
      obtain ⟨y, k1, k2⟩ := he.2 _ _ _ h2
      obtain ⟨_, hlen, hcell⟩ := World.cells?_some h1
      refine ⟨y, cs', k1, k2, d.K_len k1, fun j u hu => ?_⟩
      have hj : j < P.cellsOf e := by rw [← hlen]; exact (List.getElem?_eq_some_iff.1 hu).1
      have := hcell j hj
      rw [hu] at this
      rw [he.1, ← Addr.add_add]
      exact this
    have hlist : ∀ n, n ≤ len → ∃ l : List α, l.length = n ∧ ∀ j p, l[j]? = some p → good p ∧ ∃ c, c.length = d.sz ∧ d.K w p c ∧ ∀ i u, c[i]? = some u → w.cell? (a.add (j * d.sz + i)) = some u := by
      intro n
      induction n with
      | zero => intro _; exact ⟨[], rfl, by simp⟩
      | succ n ih =>
        intro hn
        obtain ⟨l, hl1, hl2⟩ := ih (by omega)
        obtain ⟨y, c, k1, k2, k3, k4⟩ := each n (by omega)
        refine ⟨l ++ [y], by simp [hl1], fun j p hp => ?_⟩
        by_cases hj : j < n
        · rw [List.getElem?_append_left (by omega)] at hp
          exact hl2 j p hp
        · rw [List.getElem?_append_right (by omega)] at hp
          have hj' : j = n := by
            have := (List.getElem?_eq_some_iff.1 hp).1
            simp at this
            omega
          subst hj'
          rw [hl1, Nat.sub_self] at hp
          obtain rfl : y = p := by simpa using hp
          exact ⟨k2, c, k3, k1, k4⟩
    obtain ⟨l, hl1, hl2⟩ := hlist len (Nat.le_refl _)
    refine ⟨l, ⟨some a, m, by rw [hl1], by omega, ?_⟩, fun p hp => ?_, by unfold maxLen at *; omega⟩
    · refine ⟨rfl, by unfold maxLen at hm; omega, fun _ => ⟨a, rfl, fun j p hp => ?_⟩⟩
      obtain ⟨_, c, c1, c2, c3⟩ := hl2 j p hp
      exact ⟨c, c1, c2, c3⟩
    · obtain ⟨j, hj⟩ := List.mem_iff_getElem?.1 hp
      exact (hl2 j p hj).1
/-- A struct of two fields. -/
theorem opens_two {t : TypeId} {f0 f1 : Field} {d0 : Kd α} {d1 : Kd β} {g0 : α → Prop} {g1 : β → Prop} (ht : P.underlying t = some (.struct #[f0, f1])) (o0 : f0.offset = 0) (o1 : f1.offset = d0.sz) (hc : P.cellsOf t = d0.sz + d1.sz)
    (h0 : Opens enc P w f0.type d0 g0) (h1 : Opens enc P w f1.type d1 g1) : Opens enc P w t (Kd.pair d0 d1) (fun x => g0 x.1 ∧ g1 x.2) := by
  refine ⟨hc.symm, fun fuel cs x h => ?_⟩
  obtain ⟨xs, n, _, _, hlen, hxs, hf⟩ := DataW.trod_struct ht h
  have q0 := hf 0 f0 rfl
  have q1 := hf 1 f1 rfl
  simp only [List.size_toArray, List.length_cons, List.length_nil] at hxs
  rw [List.getElem?_eq_getElem (by omega)] at q0 q1
  obtain ⟨y0, k0, g0'⟩ := h0.2 _ _ _ q0
  obtain ⟨y1, k1, g1'⟩ := h1.2 _ _ _ q1
  refine ⟨(y0, y1), ⟨_, _, ?_, k0, k1⟩, g0', g1'⟩
  rw [o0, o1, ← h0.1, ← h1.1, List.drop_zero]
  have : (cs.drop d0.sz).take d1.sz = cs.drop d0.sz := List.take_of_length_le (by rw [List.length_drop]; omega)
  rw [this, List.take_append_drop]
/-- A struct of four fields. -/
theorem opens_four {t : TypeId} {f0 f1 f2 f3 : Field} {d0 : Kd α} {d1 : Kd β} {d2 : Kd γ} {d3 : Kd δ} {g0 : α → Prop} {g1 : β → Prop} {g2 : γ → Prop} {g3 : δ → Prop} (ht : P.underlying t = some (.struct #[f0, f1, f2, f3])) (o0 : f0.offset = 0) (o1 : f1.offset = d0.sz) (o2 : f2.offset = d0.sz + d1.sz) (o3 : f3.offset = d0.sz + d1.sz + d2.sz) (hc : P.cellsOf t = d0.sz + d1.sz + d2.sz + d3.sz)
    (h0 : Opens enc P w f0.type d0 g0) (h1 : Opens enc P w f1.type d1 g1) (h2 : Opens enc P w f2.type d2 g2) (h3 : Opens enc P w f3.type d3 g3) : Opens enc P w t (Kd.pair d0 (Kd.pair d1 (Kd.pair d2 d3))) (fun x => g0 x.1 ∧ g1 x.2.1 ∧ g2 x.2.2.1 ∧ g3 x.2.2.2) := by
  refine ⟨by rw [hc]; simp only [Kd.pair]; omega, fun fuel cs x h => ?_⟩
  obtain ⟨xs, n, _, _, hlen, hxs, hf⟩ := DataW.trod_struct ht h
  have q0 := hf 0 f0 rfl
  have q1 := hf 1 f1 rfl
  have q2 := hf 2 f2 rfl
  have q3 := hf 3 f3 rfl
  simp only [List.size_toArray, List.length_cons, List.length_nil] at hxs
  rw [List.getElem?_eq_getElem (by omega)] at q0 q1 q2 q3
  obtain ⟨y0, k0, g0'⟩ := h0.2 _ _ _ q0
  obtain ⟨y1, k1, g1'⟩ := h1.2 _ _ _ q1
  obtain ⟨y2, k2, g2'⟩ := h2.2 _ _ _ q2
  obtain ⟨y3, k3, g3'⟩ := h3.2 _ _ _ q3
  refine ⟨(y0, y1, y2, y3), ⟨_, _, ?_, k0, _, _, rfl, k1, _, _, rfl, k2, k3⟩, g0', g1', g2', g3'⟩
  rw [o0, o1, o2, o3, ← h0.1, ← h1.1, ← h2.1, ← h3.1, List.drop_zero]
  have e3 : (cs.drop (d0.sz + d1.sz + d2.sz)).take d3.sz = cs.drop (d0.sz + d1.sz + d2.sz) := List.take_of_length_le (by rw [List.length_drop]; omega)
  rw [e3]
  have e2 : cs.drop (d0.sz + d1.sz + d2.sz) = (cs.drop (d0.sz + d1.sz)).drop d2.sz := by rw [List.drop_drop]
  rw [e2, List.take_append_drop]
  have e1 : cs.drop (d0.sz + d1.sz) = (cs.drop d0.sz).drop d1.sz := by rw [List.drop_drop]
  rw [e1, List.take_append_drop, List.take_append_drop]
end
end Go.Proofs.Ytbebihphodafiaa.Open
namespace Go.Proofs.Ytbebihphodafiaa.Open
open Go.RowKit Go.Proofs.YtbebihphodafiaaW.PrintWords Go.Proofs.Ytbebihphodafiaa.PWb
/-- Rows of writes. -/
theorem C31o {W : World} {A : Option Addr} {n : Nat} {l : List (Int × List Int)} (h : Kd.C (Kd.pair (Kd.int .i64) (Kd.slice 5 (Kd.int .u8))) W A n l) : Kd.C k31 W A n (l.map fun p => (⟨p.1, p.2⟩ : S31)) := by
  refine ⟨by rw [List.length_map]; exact h.1, h.2.1, fun hp => ?_⟩
  obtain ⟨ad, he, hc⟩ := h.2.2 hp
  refine ⟨ad, he, fun j p hj => ?_⟩
  rw [List.getElem?_map] at hj
  obtain ⟨p0, h0, rfl⟩ := Option.map_eq_some_iff.1 hj
  exact hc j p0 h0
theorem C4o {W : World} {A : Option Addr} {n : Nat} {l : List (List (Int × List Int))} (h : Kd.C (Kd.slice 31 (Kd.pair (Kd.int .i64) (Kd.slice 5 (Kd.int .u8)))) W A n l) : Kd.C (Kd.slice 31 k31) W A n (l.map fun r => r.map fun p => (⟨p.1, p.2⟩ : S31)) := by
  refine ⟨by rw [List.length_map]; exact h.1, h.2.1, fun hp => ?_⟩
  obtain ⟨ad, he, hc⟩ := h.2.2 hp
  refine ⟨ad, he, fun j p hj => ?_⟩
  rw [List.getElem?_map] at hj
  obtain ⟨p0, h0, rfl⟩ := Option.map_eq_some_iff.1 hj
  obtain ⟨cs, c1, ⟨A1, n1, e1, e2, e3⟩, c3⟩ := hc j p0 h0
  exact ⟨cs, c1, ⟨A1, n1, by rw [e1, List.length_map], by rw [List.length_map]; exact e2, by rw [List.length_map]; exact C31o e3⟩, c3⟩
end Go.Proofs.Ytbebihphodafiaa.Open
