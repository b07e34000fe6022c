/- Unvarint, the program's and the document's: one function of the bytes; what it does to a number's own groups. -/
import Derived.Test.YtkackggplinelaaBits
namespace Go.Proofs.Ytkackggplinelaa.Bits
open Go.RowKit Go.Proofs.Ytkackggplinelaa.PBits Go.Proofs.YtkackggplinelaaW.PrintWords Go.Proofs.YtkackggplinelaaW.PrintLast Go.Proofs.YtkackggplinelaaW.PrintMore
set_option linter.unusedVariables false
set_option linter.unusedSimpArgs false

/-- What is read of the bytes that are left, from group i on, so much having come. -/
def uv : List Int → Nat → Int → Int × Int
  | [], _, _ => (0, 0)
  | c :: l, i, acc =>
    if 10 ≤ i then (0, 0) else if i = 9 ∧ 1 < c then (0, 0)
    else if c < 128 then (if 0 < i ∧ c = 0 then (0, 0) else (acc + c * 2 ^ (7 * i), (i : Int) + 1))
    else uv l (i + 1) (acc + c % 128 * 2 ^ (7 * i))
theorem uv_ten (l : List Int) (i : Nat) (acc : Int) (h : 10 ≤ i) : uv l i acc = (0, 0) := by cases l <;> simp [uv, h]

theorem pow7 (i : Nat) : (2 : Int) ^ (7 * (i + 1)) = 2 ^ (7 * i) * 128 ∧ (0 : Int) < 2 ^ (7 * i) := by
  refine ⟨?_, Int.pow_pos (by decide)⟩
  rw [show 7 * (i + 1) = 7 * i + 7 from rfl, Int.pow_add, show (2 : Int) ^ 7 = 128 by decide]
theorem pow7_le (i : Nat) (hi : i ≤ 9) : (2 : Int) ^ (7 * i) ≤ 9223372036854775808 := by
  have e2 : (2 : Nat) ^ (7 * i) ≤ 2 ^ 63 := Nat.pow_le_pow_right (by decide) (by omega)
  have e3 : ((2 ^ (7 * i) : Nat) : Int) ≤ ((2 ^ 63 : Nat) : Int) := Int.ofNat_le.mpr e2
  rw [Int.natCast_pow] at e3
  exact Int.le_trans e3 (by decide)
theorem join_bounds (P acc r : Int) (hp : 0 < P) (r0 : 0 ≤ r) (r1 : r < 128) (h0 : 0 ≤ acc) (h1 : acc < P) : 0 ≤ r * P ∧ acc + r * P < P * 128 ∧ 0 ≤ acc + r * P := by
  have m1 : r * P ≤ 127 * P := Int.mul_le_mul_of_nonneg_right (by omega) (by omega)
  have m2 : 0 ≤ r * P := Int.mul_nonneg r0 (by omega)
  generalize hM : r * P = M at *
  omega
theorem join_room (P r : Int) (i : Nat) (hi : i ≤ 9) (hP : P ≤ 9223372036854775808) (h8 : i ≤ 8 → P ≤ 72057594037927936) (r0 : 0 ≤ r) (r1 : r < 128) (h9 : i = 9 → r ≤ 1) (hp : 0 < P) : r * P < 18446744073709551616 := by
  by_cases h : i = 9
  · have := h9 h
    have m1 : r * P ≤ 1 * P := Int.mul_le_mul_of_nonneg_right (by omega) (by omega)
    omega
  · have := h8 (by omega)
    have m1 : r * P ≤ 127 * P := Int.mul_le_mul_of_nonneg_right (by omega) (by omega)
    omega
/-- The joining of a group. -/
theorem join (i : Nat) (acc c : Int) (hi : i ≤ 9) (h0 : 0 ≤ acc) (h1 : acc < 2 ^ (7 * i)) (c0 : 0 ≤ c) (c1 : c < 256) (h9 : i = 9 → c % 128 ≤ 1) :
    bits .or .u64 acc (shl .u64 (IntKind.u64.wrap (bits .and .u8 c 127)) (wrap64 (7 * (i : Int)))) = acc + c % 128 * 2 ^ (7 * i) ∧ 0 ≤ acc + c % 128 * 2 ^ (7 * i) ∧ acc + c % 128 * 2 ^ (7 * i) < 2 ^ (7 * (i + 1)) := by
  have w7 : wrap64 (7 * (i : Int)) = ((7 * i : Nat) : Int) := by clear h1; unfold wrap64; omega
  have hr0 : 0 ≤ c % 128 := by clear h1; omega
  have hr1 : c % 128 < 128 := by clear h1; omega
  have hr2 : c % 128 < 18446744073709551616 := by clear h1; omega
  have c5 : min ((7 * i : Nat) : Int).toNat IntKind.u64.bits = 7 * i := by clear h1; simp [IntKind.bits]; omega
  have c6 : 7 * i ≤ 64 := by clear h1; omega
  obtain ⟨e1, e2⟩ := pow7 i
  have e3 := pow7_le i hi
  have e4 : i ≤ 8 → (2 : Int) ^ (7 * i) ≤ 72057594037927936 := fun h => by
    have e2 : (2 : Nat) ^ (7 * i) ≤ 2 ^ 56 := Nat.pow_le_pow_right (by decide) (by omega)
    have e3 : ((2 ^ (7 * i) : Nat) : Int) ≤ ((2 ^ 56 : Nat) : Int) := Int.ofNat_le.mpr e2
    rw [Int.natCast_pow] at e3
    exact Int.le_trans e3 (by decide)
  obtain ⟨b1, b2, b3⟩ := join_bounds _ acc (c % 128) e2 hr0 hr1 h0 h1
  have b4 := join_room _ (c % 128) i hi e3 e4 hr0 hr1 h9 e2
  refine ⟨?_, b3, by rw [e1]; exact b2⟩
  rw [u8_and127 c c0 c1, w7, wraps_u64 (c % 128) hr0 hr2]
  have es : shl .u64 (c % 128) ((7 * i : Nat) : Int) = c % 128 * 2 ^ (7 * i) := by
    unfold shl
    rw [c5, wraps_u64 _ b1 b4]
  rw [es, or_join (7 * i) (c % 128 * 2 ^ (7 * i)) acc b1 (by simp) b4 h0 h1 c6]

theorem drop_rd (l : List Int) (i : Nat) (h : i < l.length) : l.drop i = rd l (i : Int) :: l.drop (i + 1) := by
  rw [List.drop_eq_getElem_cons h]; simp [Go.Proofs.YtkackggplinelaaW.PrintWords.rd, List.getD_eq_getElem?_getD, List.getElem?_eq_getElem h]

theorem unvarint_ten (l : List Int) (k : Nat) (x : Int) (hl : l.length < 2 ^ 62) : bits_Unvarint.l0 (k + 2) l x 10 = some (0, 0) := by
  simp only [bits_Unvarint.l0]
  by_cases h : (10 : Int) ≥ l.length
  · rw [if_pos h]; simp [bits_Unvarint.j1]
  · rw [if_neg h]; simp [bits_Unvarint.j1]
theorem unvarint_l0 (l : List Int) (hl : AllB l) (hlen : l.length < 2 ^ 62) (d : Nat) : ∀ (k i : Nat) (acc : Int), i + d = 10 → 2 * d + 2 ≤ k → 0 ≤ acc → acc < 2 ^ (7 * i) →
    bits_Unvarint.l0 k l acc (i : Int) = some (uv (l.drop i) i acc) := by
  induction d with
  | zero =>
    intro k i acc hi hk h0 h1
    obtain ⟨k, rfl⟩ : ∃ m, k = m + 2 := ⟨k - 2, by clear h1; omega⟩
    obtain rfl : i = 10 := by clear h1; omega
    rw [uv_ten _ _ _ (by decide)]
    exact unvarint_ten l k acc hlen
  | succ d ih =>
    intro k i acc hi hk h0 h1
    obtain ⟨k, rfl⟩ : ∃ m, k = m + 2 := ⟨k - 2, by clear h1; omega⟩
    have i9 : i ≤ 9 := by clear h1; omega
    have g2 : ¬ ((i : Int) ≥ 10) := by clear h1; omega
    have g3 : ¬ (10 ≤ i) := by clear h1; omega
    simp only [bits_Unvarint.l0]
    by_cases hil : i < l.length
    · have g1 : ¬ ((i : Int) ≥ l.length) := by clear h1; omega
      have w7 : wrap64 (7 * (i : Int)) = ((7 * i : Nat) : Int) := by clear h1; unfold wrap64; omega
      have wi : wrap64 ((i : Int) + 1) = ((i + 1 : Nat) : Int) := by clear h1; unfold wrap64; omega
      have g4 : (0 : Int) ≤ ((7 * i : Nat) : Int) := by clear h1; omega
      have g5 : (i : Int) < l.length := by clear h1; omega
      have g6 : (0 : Int) ≤ (i : Int) := by clear h1; omega
      rw [if_neg g1, decide_eq_false g2]
      simp only [bits_Unvarint.j1]
      rw [if_neg (by decide), if_pos g6, if_pos g5]
      obtain ⟨r0, r1⟩ := hl.get (i : Int)
      have hj := fun h9 => join i acc (rd l (i : Int)) i9 h0 h1 r0 r1 h9
      rw [drop_rd l i hil]
      generalize hc : rd l (i : Int) = c at *
      simp only [uv]
      rw [if_neg g3]
      have e0 : (if 0 ≤ wrap64 (7 * (i : Int)) then (1 : Int) else 0) = 1 := by rw [w7, if_pos g4]
      rw [if_pos (by rw [w7]; exact g4)]
      simp only [wi]
      by_cases c128 : c < 128
      · rw [if_pos c128, if_pos c128]
        have cm : c % 128 = c := by clear h1 hj; omega
        by_cases h9 : i = 9
        · subst h9
          rw [if_pos (by decide)]
          by_cases hc1 : c > 1
          · rw [if_pos hc1, if_pos (show (9 = 9 ∧ 1 < c) from ⟨rfl, hc1⟩)]
          · have n1 : ¬ (9 = 9 ∧ 1 < c) := fun h => hc1 h.2
            have p1 : ((9 + 1 : Nat) : Int) > 1 := by decide
            rw [if_neg hc1, if_neg n1, if_pos p1]
            by_cases hz : c = 0
            · have p2 : 0 < 9 ∧ c = 0 := ⟨by decide, hz⟩
              rw [if_pos hz, if_pos p2]
            · have n2 : ¬ (0 < 9 ∧ c = 0) := fun h => hz h.2
              rw [if_neg hz, if_neg n2, (hj (fun _ => by clear h1 hj; omega)).1, cm]; rfl
        · have g7 : ¬ (((i + 1 : Nat) : Int) = 10) := by clear h1 hj; omega
          have n1 : ¬ (i = 9 ∧ 1 < c) := fun h => h9 h.1
          rw [if_neg g7, if_neg n1]
          have hj' := (hj (fun h => absurd h h9)).1
          rw [cm] at hj'
          by_cases hi0 : 0 < i
          · have g8 : ((i + 1 : Nat) : Int) > 1 := by clear h1 hj hj'; omega
            rw [if_pos g8]
            by_cases hz : c = 0
            · have p2 : 0 < i ∧ c = 0 := ⟨hi0, hz⟩
              rw [if_pos hz, if_pos p2]
            · have n2 : ¬ (0 < i ∧ c = 0) := fun h => hz h.2
              rw [if_neg hz, if_neg n2, hj']; rfl
          · have g8 : ¬ (((i + 1 : Nat) : Int) > 1) := by clear h1 hj hj'; omega
            have n2 : ¬ (0 < i ∧ c = 0) := fun h => hi0 h.1
            rw [if_neg g8, if_neg n2, hj']; rfl
      · rw [if_neg c128, if_neg c128]
        by_cases h9 : i = 9
        · subst h9
          have p1 : 9 = 9 ∧ 1 < c := ⟨rfl, by clear h1 hj; omega⟩
          rw [if_pos p1]
          obtain ⟨k, rfl⟩ : ∃ m, k = m + 2 := ⟨k - 2, by clear h1 hj; omega⟩
          exact unvarint_ten l k _ hlen
        · have n1 : ¬ (i = 9 ∧ 1 < c) := fun h => h9 h.1
          rw [if_neg n1]
          obtain ⟨e, b0, b1⟩ := hj (fun h => absurd h h9)
          rw [e]
          exact ih k (i + 1) _ (by clear h1 hj b1; omega) (by clear h1 hj b1; omega) b0 b1
    · have g1 : (i : Int) ≥ l.length := by clear h1; omega
      rw [if_pos g1, List.drop_eq_nil_of_le (by clear h1; omega)]
      simp [bits_Unvarint.j1, uv]
theorem unvarint_f (l : List Int) (hl : AllB l) (hlen : l.length < 2 ^ 62) (k : Nat) (hk : 22 ≤ k) : bits_Unvarint.f k l = some (uv l 0 0) := by
  unfold bits_Unvarint.f
  have := unvarint_l0 l hl hlen 10 k 0 0 rfl (by omega) (by decide) (by decide)
  simpa using this

theorem refUnvarint_l0 (l : List Int) (hl : AllB l) (hlen : l.length < 2 ^ 62) (d : Nat) : ∀ (k i : Nat) (acc : Int), i + d = 10 → 3 * d + 2 ≤ k → 0 ≤ acc → acc < 2 ^ (7 * i) →
    scarpref6_Unvarint.l0 k l acc (i : Int) = some (uv (l.drop i) i acc) := by
  induction d with
  | zero =>
    intro k i acc hi hk h0 h1
    obtain ⟨k, rfl⟩ : ∃ m, k = m + 2 := ⟨k - 2, by clear h1; omega⟩
    obtain rfl : i = 10 := by clear h1; omega
    rw [uv_ten _ _ _ (by decide)]
    simp only [scarpref6_Unvarint.l0]
    by_cases h : ((10 : Nat) : Int) < l.length
    · rw [if_pos h]; simp [scarpref6_Unvarint.j1]
    · rw [if_neg h]; simp [scarpref6_Unvarint.j1]
  | succ d ih =>
    intro k i acc hi hk h0 h1
    obtain ⟨k, rfl⟩ : ∃ m, k = m + 3 := ⟨k - 3, by clear h1; omega⟩
    have i9 : i ≤ 9 := by clear h1; omega
    have g2 : (i : Int) < 10 := by clear h1; omega
    have g3 : ¬ (10 ≤ i) := by clear h1; omega
    simp only [scarpref6_Unvarint.l0]
    by_cases hil : i < l.length
    · have w7 : wrap64 (7 * (i : Int)) = ((7 * i : Nat) : Int) := by clear h1; unfold wrap64; omega
      have wi : wrap64 ((i : Int) + 1) = ((i + 1 : Nat) : Int) := by clear h1; unfold wrap64; omega
      have g4 : (0 : Int) ≤ ((7 * i : Nat) : Int) := by clear h1; omega
      have g5 : (i : Int) < l.length := by clear h1; omega
      have g6 : (0 : Int) ≤ (i : Int) := by clear h1; omega
      rw [if_pos g5, decide_eq_true g2]
      simp only [scarpref6_Unvarint.j1]
      rw [if_pos trivial, if_pos g6, if_pos g5]
      obtain ⟨r0, r1⟩ := hl.get (i : Int)
      have hj := fun h9 => join i acc (rd l (i : Int)) i9 h0 h1 r0 r1 h9
      rw [drop_rd l i hil]
      generalize hc : rd l (i : Int) = c at *
      simp only [uv]
      rw [if_neg g3]
      have hb : (if (i : Int) = 9 then (scarpref6_Unvarint.j2 (k + 1) l acc i c (decide (c > 1))) else (scarpref6_Unvarint.j2 (k + 1) l acc i c false)) = scarpref6_Unvarint.j2 (k + 1) l acc i c (decide (i = 9 ∧ 1 < c)) := by
        by_cases h9 : i = 9
        · have h9' : (i : Int) = 9 := by clear h1 hj; omega
          rw [if_pos h9']
          congr 1
          simp [h9]
        · have h9' : ¬ (i : Int) = 9 := by clear h1 hj; omega
          rw [if_neg h9']
          congr 1
          simp [h9]
      rw [hb]
      simp only [scarpref6_Unvarint.j2]
      by_cases hx : i = 9 ∧ 1 < c
      · rw [if_pos (decide_eq_true hx), if_pos hx]
      · have hx' : ¬ (decide (i = 9 ∧ 1 < c) = true) := by simpa using hx
        rw [if_neg hx', if_neg hx, if_pos (by rw [w7]; exact g4)]
        simp only [wi]
        by_cases c128 : c < 128
        · rw [if_pos c128, if_pos c128]
          have cm : c % 128 = c := by clear h1 hj; omega
          have hj' := (hj (fun h => by clear h1 hj; omega)).1
          rw [cm] at hj'
          by_cases hz : c = 0
          · rw [if_pos hz]
            by_cases hi0 : 0 < i
            · have p1 : (i : Int) > 0 := by clear h1 hj hj'; omega
              have p2 : 0 < i ∧ c = 0 := ⟨hi0, hz⟩
              rw [if_pos p1, if_pos p2]
            · have p1 : ¬ ((i : Int) > 0) := by clear h1 hj hj'; omega
              have p2 : ¬ (0 < i ∧ c = 0) := fun h => hi0 h.1
              rw [if_neg p1, if_neg p2, hj']; rfl
          · have p2 : ¬ (0 < i ∧ c = 0) := fun h => hz h.2
            rw [if_neg hz, if_neg p2, hj']; rfl
        · rw [if_neg c128, if_neg c128]
          have h9 : i ≠ 9 := fun h => hx ⟨h, by clear h1 hj; omega⟩
          obtain ⟨e, b0, b1⟩ := hj (fun h => absurd h h9)
          rw [e]
          exact ih (k + 0) (i + 1) _ (by clear h1 hj b1; omega) (by clear h1 hj b1; omega) b0 b1
    · have g1 : ¬ ((i : Int) < l.length) := by clear h1; omega
      rw [if_neg g1, List.drop_eq_nil_of_le (by clear h1; omega)]
      simp [scarpref6_Unvarint.j1, uv]
theorem refUnvarint_f (l : List Int) (hl : AllB l) (hlen : l.length < 2 ^ 62) (k : Nat) (hk : 32 ≤ k) : scarpref6_Unvarint.f k l = some (uv l 0 0) := by
  unfold scarpref6_Unvarint.f
  have := refUnvarint_l0 l hl hlen 10 k 0 0 rfl (by omega) (by decide) (by decide)
  simpa using this

/-! ### A number's own groups -/
theorem uv_vb (rest : List Int) (n : Nat) : ∀ (v i : Nat) (acc : Int), i + n = 9 → v * 2 ^ (7 * i) < 2 ^ 64 → (0 < i → 0 < v) → uv (vb v ++ rest) i acc = (acc + (v : Int) * 2 ^ (7 * i), (i : Int) + (vb v).length) := by
  induction n with
  | zero =>
    intro v i acc hi hv h0
    obtain rfl : i = 9 := by clear hv; omega
    have hv1 : v ≤ 1 := by simp only [Nat.reduceMul, Nat.reducePow] at hv; omega
    rw [vb_lt (by omega)]
    simp only [List.cons_append, List.nil_append, uv]
    have n1 : ¬ (True ∧ 1 < (v : Int)) := by omega
    have n2 : ¬ (0 < 9 ∧ (v : Int) = 0) := by have := h0 (by decide); omega
    rw [if_neg (by decide), if_neg n1, if_pos (by omega), if_neg n2]
    simp
  | succ n ih =>
    intro v i acc hi hv h0
    have g1 : ¬ 10 ≤ i := by clear hv; omega
    have g2 : ¬ i = 9 := by clear hv; omega
    by_cases h : v < 128
    · rw [vb_lt h]
      simp only [List.cons_append, List.nil_append, uv]
      have n2 : ¬ (0 < i ∧ (v : Int) = 0) := fun hh => by have := h0 hh.1; have := hh.2; clear hv; omega
      rw [if_neg g1, if_neg (fun hh => g2 hh.1), if_pos (by clear hv; omega), if_neg n2]
      simp
    · rw [vb_ge h]
      simp only [List.cons_append, uv]
      have e1 : (((v % 128 + 128 : Nat) : Int)) % 128 = ((v % 128 : Nat) : Int) := by clear hv; omega
      rw [if_neg g1, if_neg (fun hh => g2 hh.1), if_neg (by clear hv; omega), e1]
      have hv2 : v / 128 * 2 ^ (7 * (i + 1)) < 2 ^ 64 := by
        refine Nat.lt_of_le_of_lt ?_ hv
        rw [show 7 * (i + 1) = 7 + 7 * i by omega, Nat.pow_add, ← Nat.mul_assoc]
        exact Nat.mul_le_mul_right _ (by omega)
      rw [ih (v / 128) (i + 1) _ (by clear hv hv2; omega) hv2 (fun _ => by clear hv hv2; omega)]
      have e2 : (v : Int) = ((v % 128 : Nat) : Int) + ((v / 128 : Nat) : Int) * 128 := by clear hv hv2; omega
      refine Prod.ext ?_ ?_
      · show acc + ((v % 128 : Nat) : Int) * 2 ^ (7 * i) + ((v / 128 : Nat) : Int) * 2 ^ (7 * (i + 1)) = acc + (v : Int) * 2 ^ (7 * i)
        rw [(pow7 i).1]
        conv => rhs; rw [e2]
        rw [Int.add_mul, Int.mul_assoc, Int.mul_comm 128, Int.add_assoc]
      · show ((i + 1 : Nat) : Int) + (vb (v / 128)).length = (i : Int) + (((v % 128 + 128 : Nat) : Int) :: vb (v / 128)).length
        simp only [List.length_cons]; clear hv hv2; omega
theorem uv_vb0 (rest : List Int) (v : Nat) (h : v < 2 ^ 64) : uv (vb v ++ rest) 0 0 = ((v : Int), ((vb v).length : Int)) := by
  have := uv_vb rest 9 v 0 0 rfl (by simpa using h) (by omega)
  simpa using this
/-- Cut short it is none. -/
theorem uv_cut (n : Nat) : ∀ (v i : Nat) (acc : Int) (c : Nat), v < 128 ^ (n + 1) → c < (vb v).length → uv ((vb v).take c) i acc = (0, 0) := by
  induction n with
  | zero =>
    intro v i acc c hv hc
    rw [vb_lt (by omega)] at hc ⊢
    obtain rfl : c = 0 := by simpa using hc
    simp [uv]
  | succ n ih =>
    intro v i acc c hv hc
    by_cases h : v < 128
    · rw [vb_lt h] at hc ⊢
      obtain rfl : c = 0 := by simpa using hc
      simp [uv]
    · rw [vb_ge h] at hc ⊢
      cases c with
      | zero => simp [uv]
      | succ c =>
        simp only [List.take_succ_cons, uv]
        have := ih (v / 128) (i + 1) (acc + ((v % 128 + 128 : Nat) : Int) % 128 * 2 ^ (7 * i)) c (by rw [Nat.div_lt_iff_lt_mul (by omega)]; rw [Nat.pow_succ] at hv; exact hv) (by simpa using hc)
        rw [this]
        have c1 : ¬ (((v % 128 + 128 : Nat) : Int) < 128) := by omega
        rw [if_neg c1]
        by_cases g1 : 10 ≤ i
        · rw [if_pos g1]
        · rw [if_neg g1, ite_self]
/-- How many groups: one, and one more for each time that something is left. -/
theorem vb_mid (n : Nat) : ∀ v : Nat, v < 128 ^ (n + 1) → (∀ i, i + 1 < (vb v).length → 128 ≤ rd (vb v) (i : Int)) ∧ rd (vb v) (((vb v).length - 1 : Nat) : Int) < 128 := by
  induction n with
  | zero => intro v h; rw [vb_lt (by omega)]; simp [Go.Proofs.YtkackggplinelaaW.PrintWords.rd]; omega
  | succ n ih =>
    intro v h
    by_cases hv : v < 128
    · rw [vb_lt hv]; simp [Go.Proofs.YtkackggplinelaaW.PrintWords.rd]; omega
    · have hv2 : v / 128 < 128 ^ (n + 1) := by rw [Nat.div_lt_iff_lt_mul (by omega)]; rw [Nat.pow_succ] at h; exact h
      obtain ⟨a, b⟩ := ih (v / 128) hv2
      have hl := (vb_len n (v / 128) hv2).1
      rw [vb_ge hv]
      constructor
      · intro i hi
        cases i with
        | zero => simp [Go.Proofs.YtkackggplinelaaW.PrintWords.rd]; omega
        | succ i =>
          have := a i (by simpa using hi)
          simpa [Go.Proofs.YtkackggplinelaaW.PrintWords.rd] using this
      · have e : ((((v % 128 + 128 : Nat) : Int) :: vb (v / 128)).length - 1 : Nat) = ((vb (v / 128)).length - 1) + 1 := by simp; omega
        rw [e]
        simpa [Go.Proofs.YtkackggplinelaaW.PrintWords.rd] using b
end Go.Proofs.Ytkackggplinelaa.Bits
