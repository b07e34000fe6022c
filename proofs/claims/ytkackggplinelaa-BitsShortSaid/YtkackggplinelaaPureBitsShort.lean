/- A number has as many groups as its binary digits have sevens: the law's own loops, over the groups of the number. Conditions: none but the argument's kind. -/
import Derived.Test.YtkackggplinelaaPBitsLBitsShort
import Derived.Test.YtkackggplinelaaUnv
namespace Go.Proofs.Ytkackggplinelaa.Pure
open Go.RowKit Go.Proofs.Ytkackggplinelaa.PBits Go.Proofs.YtkackggplinelaaW.PrintWords Go.Proofs.YtkackggplinelaaW.PrintLast Go.Proofs.Ytkackggplinelaa.Bits

theorem short_l1 (l : List Int) (hl : l.length < 2 ^ 60) (h1 : ∀ i, i + 1 < l.length → 128 ≤ rd l (i : Int)) (h2 : rd l ((l.length - 1 : Nat) : Int) < 128) (d : Nat) : ∀ (k i : Nat), i + 1 + d = l.length → d + 12 ≤ k →
    scarplaw6_BitsShort.l1 k (l.length : Int) l (i : Int) = some true := by
  induction d with
  | zero =>
    intro k i hi hk
    obtain ⟨k, rfl⟩ : ∃ m, k = m + 1 := ⟨k - 1, by omega⟩
    have w1 : wrap64 ((i : Int) + 1) = ((i + 1 : Nat) : Int) := by unfold wrap64; omega
    have w2 : wrap64 ((l.length : Int) - 1) = ((l.length - 1 : Nat) : Int) := by unfold wrap64; omega
    simp only [scarplaw6_BitsShort.l1, w1, w2]
    rw [if_neg (by omega), if_pos trivial, if_pos (by omega), if_pos (by omega), if_pos h2, awake k (by omega)]
    rfl
  | succ d ih =>
    intro k i hi hk
    obtain ⟨k, rfl⟩ : ∃ m, k = m + 1 := ⟨k - 1, by omega⟩
    have w1 : wrap64 ((i : Int) + 1) = ((i + 1 : Nat) : Int) := by unfold wrap64; omega
    simp only [scarplaw6_BitsShort.l1, w1]
    have := h1 i (by omega)
    rw [if_pos (by omega), if_pos (by omega), if_pos (by omega), if_neg (by omega)]
    exact ih k (i + 1) (by omega) (by omega)
theorem short_l0 (v : Nat) (hv : v < 2 ^ 64) (n : Nat) : ∀ (k y m : Nat), y < 128 ^ n → m + (if y = 0 then 0 else (vb y).length) = (vb v).length → n + 40 ≤ k → m ≤ 11 →
    scarplaw6_BitsShort.l0 k (v : Int) (m : Int) (y : Int) = some true := by
  induction n with
  | zero =>
    intro k y m hy hm hk hm'
    obtain rfl : y = 0 := by omega
    obtain ⟨k, rfl⟩ : ∃ m, k = m + 1 := ⟨k - 1, by omega⟩
    simp only [scarplaw6_BitsShort.l0]
    rw [if_neg (by omega), varint_f v k hv (by omega)]
    obtain ⟨a, b⟩ := vb_mid 9 v (by omega)
    have hl := vb_len10 v hv
    rw [if_pos rfl] at hm
    have := short_l1 (vb v) (by omega) a b ((vb v).length - 1) k 0 (by omega) (by omega)
    rw [← hm] at this
    simpa using this
  | succ n ih =>
    intro k y m hy hm hk hm'
    obtain ⟨k, rfl⟩ : ∃ m, k = m + 1 := ⟨k - 1, by omega⟩
    by_cases h0 : y = 0
    · subst h0
      simp only [scarplaw6_BitsShort.l0]
      rw [if_neg (by omega), varint_f v k hv (by omega)]
      obtain ⟨a, b⟩ := vb_mid 9 v (by omega)
      have hl := vb_len10 v hv
      rw [if_pos rfl] at hm
      have := short_l1 (vb v) (by omega) a b ((vb v).length - 1) k 0 (by omega) (by omega)
      rw [← hm] at this
      simpa using this
    · rw [if_neg h0] at hm
      have hl := vb_len10 v hv
      have w1 : wrap64 ((m : Int) + 1) = ((m + 1 : Nat) : Int) := by unfold wrap64; omega
      simp only [scarplaw6_BitsShort.l0, w1]
      rw [if_pos (by omega), show (y : Int) / 128 = ((y / 128 : Nat) : Int) by omega]
      refine ih k (y / 128) (m + 1) (by rw [Nat.div_lt_iff_lt_mul (by omega)]; rw [Nat.pow_succ] at hy; exact hy) ?_ (by omega) ?_
      · by_cases hy128 : y < 128
        · rw [vb_lt hy128] at hm
          rw [if_pos (by omega)]; simpa using hm
        · rw [vb_ge hy128] at hm
          rw [if_neg (by omega)]; simp at hm; omega
      · by_cases hy128 : y < 128
        · rw [vb_lt hy128] at hm; simp at hm; omega
        · rw [vb_ge hy128] at hm; simp at hm; omega
theorem BitsShort : scarplaw6_BitsShort.Pure := by
  intro a0 h
  obtain ⟨v, rfl, hv⟩ := u64_wf h
  refine ⟨60, ?_⟩
  unfold scarplaw6_BitsShort.f
  rw [show (v : Int) / 128 = ((v / 128 : Nat) : Int) by omega, show (1 : Int) = ((1 : Nat) : Int) from rfl]
  refine short_l0 v hv 9 60 (v / 128) 1 (by omega) ?_ (by omega) (by omega)
  by_cases h128 : v < 128
  · rw [vb_lt h128, if_pos (by omega)]; rfl
  · rw [if_neg (by omega)]
    conv => rhs; rw [vb_ge h128]
    simp; omega
end Go.Proofs.Ytkackggplinelaa.Pure
