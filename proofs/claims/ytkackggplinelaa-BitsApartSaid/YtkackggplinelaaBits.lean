/- The plain laws of chapter 6: what the printed functions compute, in numbers and lists. -/
import Derived.Test.YtkackggplinelaaPBitsF
namespace Go.Proofs.Ytkackggplinelaa.Bits
open Go.RowKit Go.Proofs.Ytkackggplinelaa.PBits Go.Proofs.YtkackggplinelaaW.PrintWords Go.Proofs.YtkackggplinelaaW.PrintLast Go.Proofs.YtkackggplinelaaW.PrintMore
set_option linter.unusedVariables false
set_option linter.unusedSimpArgs false

theorem wraps_u64 (n : Int) (h₀ : 0 ≤ n) (h₁ : n < 2 ^ 64) : IntKind.u64.wrap n = n := by
  simp only [IntKind.wrap, IntKind.bits, IntKind.signed]
  simp
  omega
theorem bits_or_comm (k : IntKind) (x y : Int) : bits .or k x y = bits .or k y x := by
  simp only [bits, BitVec.or_comm]
theorem or_join (i : Nat) (x y : Int) (hx0 : 0 ≤ x) (hx : x % 2 ^ i = 0) (hx1 : x < 2 ^ 64) (hy0 : 0 ≤ y) (hy : y < 2 ^ i) (hi : i ≤ 64) : bits .or .u64 y x = y + x := by
  have h2 : (2 : Int) ^ i ≤ 2 ^ 64 := by
    have := Nat.pow_le_pow_right (n := 2) (by omega) hi
    exact_mod_cast this
  rw [bits_or_comm, bits_join .u64 64 (by decide) wraps_u64 i x y hx0 hx hx1 hy0 hy (by omega)]
  omega
theorem u8_or128' (x : Int) (h0 : 0 ≤ x) : bits .or .u8 (x % 256) 128 = x % 128 + 128 := by
  have h : ∀ n : Fin 256, bits .or .u8 ((n.1 : Nat) : Int) 128 = ((n.1 : Nat) : Int) % 128 + 128 := by decide +kernel
  have := h ⟨(x % 256).toNat, by omega⟩
  have e : (((x % 256).toNat : Nat) : Int) = x % 256 := by omega
  rw [show ((⟨(x % 256).toNat, by omega⟩ : Fin 256).1) = (x % 256).toNat from rfl, e] at this
  rw [this]; omega
theorem u8_and127 (c : Int) (h0 : 0 ≤ c) (h1 : c < 256) : bits .and .u8 c 127 = c % 128 := bits_mask .u8 8 (by decide) wraps_u8 7 (by decide) c h0 h1
theorem u64_and127 (c : Int) (h0 : 0 ≤ c) (h1 : c < 2 ^ 64) : bits .and .u64 c 127 = c % 128 := bits_mask .u64 64 (by decide) wraps_u64 7 (by decide) c h0 h1

/-! ### Varint -/
def vb (v : Nat) : List Int := if v < 128 then [(v : Int)] else ((v % 128 + 128 : Nat) : Int) :: vb (v / 128)
termination_by v
decreasing_by omega
theorem vb_lt {v : Nat} (h : v < 128) : vb v = [(v : Int)] := by rw [vb, if_pos h]
theorem vb_ge {v : Nat} (h : ¬ v < 128) : vb v = ((v % 128 + 128 : Nat) : Int) :: vb (v / 128) := by rw [vb, if_neg h]
theorem vb_len (n : Nat) : ∀ v : Nat, v < 128 ^ (n + 1) → 1 ≤ (vb v).length ∧ (vb v).length ≤ n + 1 := by
  induction n with
  | zero => intro v h; rw [vb_lt (by omega)]; simp
  | succ n ih =>
    intro v h
    by_cases hv : v < 128
    · rw [vb_lt hv]; simp
    · rw [vb_ge hv]
      have := ih (v / 128) (by rw [Nat.div_lt_iff_lt_mul (by omega)]; rw [Nat.pow_succ] at h; exact h)
      simp; omega
theorem vb_len10 (v : Nat) (h : v < 2 ^ 64) : 1 ≤ (vb v).length ∧ (vb v).length ≤ 10 := vb_len 9 v (by omega)
theorem vb_byte (n : Nat) : ∀ v : Nat, v < 128 ^ (n + 1) → ∀ x ∈ vb v, 0 ≤ x ∧ x < 256 := by
  induction n with
  | zero => intro v h; rw [vb_lt (by omega)]; simp; omega
  | succ n ih =>
    intro v h x hx
    by_cases hv : v < 128
    · rw [vb_lt hv] at hx; simp at hx; omega
    · rw [vb_ge hv] at hx
      rcases List.mem_cons.1 hx with rfl | hx
      · omega
      · exact ih (v / 128) (by rw [Nat.div_lt_iff_lt_mul (by omega)]; rw [Nat.pow_succ] at h; exact h) x hx

theorem varint_l0 (n : Nat) : ∀ (v k : Nat) (acc : List Int), v < 128 ^ (n + 1) → n + 1 < k → acc.length + n < 140737488355328 → bits_Varint.l0 k (v : Int) acc = some (acc ++ vb v) := by
  induction n with
  | zero =>
    intro v k acc h hk hl
    obtain ⟨k, rfl⟩ : ∃ m, k = m + 1 := ⟨k - 1, by omega⟩
    simp only [bits_Varint.l0]
    rw [if_pos (by omega), if_pos (by omega), vb_lt (by omega)]
    congr; omega
  | succ n ih =>
    intro v k acc h hk hl
    obtain ⟨k, rfl⟩ : ∃ m, k = m + 1 := ⟨k - 1, by omega⟩
    simp only [bits_Varint.l0]
    by_cases hv : v < 128
    · rw [if_pos (by omega), if_pos (by omega), vb_lt hv]
      congr; omega
    · rw [if_neg (by omega), if_pos (by omega), u8_or128' _ (by omega), vb_ge hv]
      have := ih (v / 128) k (acc ++ [(v : Int) % 128 + 128]) (by rw [Nat.div_lt_iff_lt_mul (by omega)]; rw [Nat.pow_succ] at h; exact h) (by omega) (by simp; omega)
      rw [show (v : Int) / 128 = ((v / 128 : Nat) : Int) by omega, this]
      simp
theorem varint_f (v k : Nat) (h : v < 2 ^ 64) (hk : 11 ≤ k) : bits_Varint.f k (v : Int) = some (vb v) := by
  unfold bits_Varint.f
  rw [varint_l0 9 v k [] (by omega) (by omega) (by simp)]; rfl
theorem refVarint_l0 (n : Nat) : ∀ (v k : Nat) (acc : List Int), v < 2 ^ 64 → v < 128 ^ (n + 1) → n + 1 < k → acc.length + n < 140737488355328 → scarpref6_Varint.l0 k (v : Int) acc = some (acc ++ vb v) := by
  induction n with
  | zero =>
    intro v k acc hv h hk hl
    obtain ⟨k, rfl⟩ : ∃ m, k = m + 1 := ⟨k - 1, by omega⟩
    simp only [scarpref6_Varint.l0]
    rw [if_neg (by omega), if_pos (by omega), vb_lt (by omega)]
    congr; omega
  | succ n ih =>
    intro v k acc h64 h hk hl
    obtain ⟨k, rfl⟩ : ∃ m, k = m + 1 := ⟨k - 1, by omega⟩
    simp only [scarpref6_Varint.l0]
    by_cases hv : v < 128
    · rw [if_neg (by omega), if_pos (by omega), vb_lt hv]
      congr; omega
    · have e : (bits .or .u64 (bits .and .u64 (v : Int) 127) 128) % 256 = (v : Int) % 128 + 128 := by
        rw [u64_and127 _ (by omega) (by omega), or_join 7 128 _ (by omega) (by omega) (by omega) (by omega) (by omega) (by omega)]; omega
      rw [if_pos (by omega), if_pos (by omega), e, vb_ge hv]
      have := ih (v / 128) k (acc ++ [(v : Int) % 128 + 128]) (by omega) (by rw [Nat.div_lt_iff_lt_mul (by omega)]; rw [Nat.pow_succ] at h; exact h) (by omega) (by simp; omega)
      rw [show (v : Int) / 128 = ((v / 128 : Nat) : Int) by omega, this]
      simp
theorem refVarint_f (v k : Nat) (h : v < 2 ^ 64) (hk : 11 ≤ k) : scarpref6_Varint.f k (v : Int) = some (vb v) := by
  unfold scarpref6_Varint.f
  rw [refVarint_l0 9 v k [] h (by omega) (by omega) (by simp)]; rfl

/-! ### Four and eight bytes -/
def l4 (v : Int) : List Int := [v % 256, v / 256 % 256, v / 65536 % 256, v / 16777216 % 256]
def l8 (v : Int) : List Int := [v % 256, v / 256 % 256, v / 65536 % 256, v / 16777216 % 256, v / 4294967296 % 256, v / 1099511627776 % 256, v / 281474976710656 % 256, v / 72057594037927936 % 256]
theorem put4 (v : Int) (k : Nat) (hk : 5 ≤ k) : bits_put.f k v 4 = some (l4 v) := by
  obtain ⟨k, rfl⟩ : ∃ m, k = m + 5 := ⟨k - 5, by omega⟩
  simp [bits_put.f, bits_put.l0, wrap64, shr, IntKind.bits, List.replicate, l4, List.set]
theorem put8 (v : Int) (k : Nat) (hk : 9 ≤ k) : bits_put.f k v 8 = some (l8 v) := by
  obtain ⟨k, rfl⟩ : ∃ m, k = m + 9 := ⟨k - 9, by omega⟩
  simp [bits_put.f, bits_put.l0, wrap64, shr, IntKind.bits, List.replicate, l8, List.set]
theorem refPut4 (v : Int) (k : Nat) (hk : 5 ≤ k) : scarpref6_Put.f k v 4 = some (l4 v) := by
  obtain ⟨k, rfl⟩ : ∃ m, k = m + 5 := ⟨k - 5, by omega⟩
  simp [scarpref6_Put.f, scarpref6_Put.l0, wrap64, shr, IntKind.bits, l4]
theorem refPut8 (v : Int) (k : Nat) (hk : 9 ≤ k) : scarpref6_Put.f k v 8 = some (l8 v) := by
  obtain ⟨k, rfl⟩ : ∃ m, k = m + 9 := ⟨k - 9, by omega⟩
  simp [scarpref6_Put.f, scarpref6_Put.l0, wrap64, shr, IntKind.bits, l8]
def g4 (l : List Int) : Int := rd l 0 + rd l 1 * 256 + rd l 2 * 65536 + rd l 3 * 16777216
def g8 (l : List Int) : Int := rd l 0 + rd l 1 * 256 + rd l 2 * 65536 + rd l 3 * 16777216 + rd l 4 * 4294967296 + rd l 5 * 1099511627776 + rd l 6 * 281474976710656 + rd l 7 * 72057594037927936
def AllB (l : List Int) : Prop := ∀ x ∈ l, 0 ≤ x ∧ x < 256
theorem AllB.get {l : List Int} (h : AllB l) (i : Int) : 0 ≤ rd l i ∧ rd l i < 256 := by
  unfold Go.Proofs.YtkackggplinelaaW.PrintWords.rd
  by_cases hi : i.toNat < l.length
  · rw [List.getD_eq_getElem?_getD, List.getElem?_eq_getElem hi]; exact h _ (List.getElem_mem hi)
  · rw [List.getD_eq_getElem?_getD, List.getElem?_eq_none (by omega)]; simp
theorem pow_step (i : Nat) (hi : i < 8) : (2 : Int) ^ (8 * (i + 1)) = 2 ^ (8 * i) * 256 ∧ (2 : Int) ^ (8 * (i + 1)) ≤ 18446744073709551616 ∧ (0 : Int) < 2 ^ (8 * i) := by
  refine ⟨?_, ?_, Int.pow_pos (by decide)⟩
  · rw [show 8 * (i + 1) = 8 * i + 8 from rfl, Int.pow_add, show (2 : Int) ^ 8 = 256 by decide]
  · have e2 : (2 : Nat) ^ (8 * (i + 1)) ≤ 2 ^ 64 := Nat.pow_le_pow_right (by decide) (by omega)
    have e3 : ((2 ^ (8 * (i + 1)) : Nat) : Int) ≤ ((2 ^ 64 : Nat) : Int) := Int.ofNat_le.mpr e2
    rw [Int.natCast_pow] at e3
    exact Int.le_trans e3 (by decide)
theorem step_bounds (P Q acc r : Int) (hQ : Q = P * 256) (hp : 0 < P) (r0 : 0 ≤ r) (r1 : r < 256) (h0 : 0 ≤ acc) (h1 : acc < P) : 0 ≤ r * P ∧ r * P < Q ∧ acc + r * P < Q ∧ 0 ≤ acc + r * P := by
  have m1 : r * P ≤ 255 * P := Int.mul_le_mul_of_nonneg_right (by omega) (by omega)
  have m2 : 0 ≤ r * P := Int.mul_nonneg r0 (by omega)
  generalize hM : r * P = M at *
  omega
theorem get_step (k : Nat) (l : List Int) (hl : AllB l) (n i : Nat) (acc : Int) (hi : i < n) (hn : n ≤ 8) (hnl : n ≤ l.length) (h0 : 0 ≤ acc) (h1 : acc < 2 ^ (8 * i)) :
    bits_get.l0 (k + 1) l acc (n : Int) (i : Int) = bits_get.l0 k l (acc + rd l i * 2 ^ (8 * i)) (n : Int) ((i + 1 : Nat) : Int) ∧ 0 ≤ acc + rd l i * 2 ^ (8 * i) ∧ acc + rd l i * 2 ^ (8 * i) < 2 ^ (8 * (i + 1)) := by
  obtain ⟨r0, r1⟩ := hl.get (i : Int)
  generalize hr : rd l i = r at *
  have c1 : (i : Int) < n := by omega
  have c2 : (0 : Int) ≤ i := by omega
  have c3 : (i : Int) < l.length := by omega
  have c4 : (0 : Int) ≤ ((8 * i : Nat) : Int) := by omega
  have c5 : min ((8 * i : Nat) : Int).toNat IntKind.u64.bits = 8 * i := by simp [IntKind.bits]; omega
  have c6 : 8 * i ≤ 64 := by omega
  have w8 : wrap64 (8 * (i : Int)) = ((8 * i : Nat) : Int) := by clear h1; unfold wrap64; omega
  have wi : wrap64 ((i : Int) + 1) = ((i + 1 : Nat) : Int) := by clear h1; unfold wrap64; omega
  obtain ⟨e1, e2, e3⟩ := pow_step i (Nat.lt_of_lt_of_le hi hn)
  obtain ⟨b1, b2, b3, b4⟩ := step_bounds _ _ acc r e1 e3 r0 r1 h0 h1
  have b5 : r * 2 ^ (8 * i) < 18446744073709551616 := Int.lt_of_lt_of_le b2 e2
  have b6 : r < 18446744073709551616 := Int.lt_trans r1 (by decide)
  refine ⟨?_, b4, b3⟩
  simp only [bits_get.l0]
  rw [if_pos c1, if_pos c2, if_pos c3]
  simp only [w8, wi, hr]
  rw [if_pos c4]
  have es : shl .u64 (IntKind.u64.wrap r) ((8 * i : Nat) : Int) = r * 2 ^ (8 * i) := by
    unfold shl
    rw [wraps_u64 r r0 b6, c5, wraps_u64 _ b1 b5]
  rw [es, or_join (8 * i) (r * 2 ^ (8 * i)) acc b1 (by simp) b5 h0 h1 c6]
theorem get_end (k : Nat) (l : List Int) (n : Nat) (acc : Int) : bits_get.l0 (k + 1) l acc (n : Int) (n : Int) = some (acc, true) := by
  simp only [bits_get.l0]; rw [if_neg (by omega)]
theorem get4 (l : List Int) (hl : AllB l) (hn : 4 ≤ l.length) (k : Nat) (hk : 5 ≤ k) : bits_get.f k l 4 = some (g4 l, true) := by
  obtain ⟨k, rfl⟩ : ∃ m, k = m + 5 := ⟨k - 5, by omega⟩
  unfold bits_get.f
  rw [if_neg (by omega)]
  obtain ⟨e0, a0, b0⟩ := get_step (k + 4) l hl 4 0 0 (by omega) (by omega) hn (by omega) (by simp)
  obtain ⟨e1, a1, b1⟩ := get_step (k + 3) l hl 4 1 _ (by omega) (by omega) hn a0 b0
  obtain ⟨e2, a2, b2⟩ := get_step (k + 2) l hl 4 2 _ (by omega) (by omega) hn a1 b1
  obtain ⟨e3, a3, b3⟩ := get_step (k + 1) l hl 4 3 _ (by omega) (by omega) hn a2 b2
  have e := e0.trans (e1.trans (e2.trans (e3.trans (get_end k l 4 _))))
  simp only [Nat.reduceMul, Nat.reduceAdd, Int.reducePow] at e
  rw [show ((0 : Nat) : Int) = 0 from rfl, show ((4 : Nat) : Int) = 4 from rfl] at e
  rw [e]; simp [g4]
theorem get8 (l : List Int) (hl : AllB l) (hn : 8 ≤ l.length) (k : Nat) (hk : 9 ≤ k) : bits_get.f k l 8 = some (g8 l, true) := by
  obtain ⟨k, rfl⟩ : ∃ m, k = m + 9 := ⟨k - 9, by omega⟩
  unfold bits_get.f
  rw [if_neg (by omega)]
  obtain ⟨e0, a0, b0⟩ := get_step (k + 8) l hl 8 0 0 (by omega) (by omega) hn (by omega) (by simp)
  obtain ⟨e1, a1, b1⟩ := get_step (k + 7) l hl 8 1 _ (by omega) (by omega) hn a0 b0
  obtain ⟨e2, a2, b2⟩ := get_step (k + 6) l hl 8 2 _ (by omega) (by omega) hn a1 b1
  obtain ⟨e3, a3, b3⟩ := get_step (k + 5) l hl 8 3 _ (by omega) (by omega) hn a2 b2
  obtain ⟨e4, a4, b4⟩ := get_step (k + 4) l hl 8 4 _ (by omega) (by omega) hn a3 b3
  obtain ⟨e5, a5, b5⟩ := get_step (k + 3) l hl 8 5 _ (by omega) (by omega) hn a4 b4
  obtain ⟨e6, a6, b6⟩ := get_step (k + 2) l hl 8 6 _ (by omega) (by omega) hn a5 b5
  obtain ⟨e7, a7, b7⟩ := get_step (k + 1) l hl 8 7 _ (by omega) (by omega) hn a6 b6
  have e := e0.trans (e1.trans (e2.trans (e3.trans (e4.trans (e5.trans (e6.trans (e7.trans (get_end k l 8 _))))))))
  simp only [Nat.reduceMul, Nat.reduceAdd, Int.reducePow] at e
  rw [show ((0 : Nat) : Int) = 0 from rfl, show ((8 : Nat) : Int) = 8 from rfl] at e
  rw [e]; simp [g8]
theorem get_short (l : List Int) (n : Int) (k : Nat) (h : (l.length : Int) < n) : bits_get.f k l n = some (0, false) := by
  unfold bits_get.f; rw [if_pos h]
theorem refGet_step (k : Nat) (l : List Int) (hl : AllB l) (i : Nat) (acc : Int) (hi : i < l.length) (hi8 : i < 2 ^ 60) (h0 : 0 ≤ acc) (h1 : acc * 256 + 256 ≤ 2 ^ 64) :
    scarpref6_Get.l0 (k + 1) l acc (i : Int) = scarpref6_Get.l0 k l (acc * 256 + rd l i) ((i : Int) - 1) ∧ 0 ≤ acc * 256 + rd l i := by
  obtain ⟨r0, r1⟩ := hl.get (i : Int)
  generalize hr : rd l i = r at *
  refine ⟨?_, by omega⟩
  simp only [scarpref6_Get.l0]
  have wi : wrap64 ((i : Int) - 1) = (i : Int) - 1 := by unfold wrap64; omega
  rw [if_pos (by omega), if_pos (by omega), if_pos (by omega), wi, hr, wraps_u64 r r0 (by omega), wraps_u64 (acc * 256) (by omega) (by omega)]
  rw [bits_join .u64 64 (by decide) wraps_u64 8 (acc * 256) r (by omega) (by omega) (by omega) r0 (by omega) (by omega)]
theorem refGet_end (k : Nat) (l : List Int) (acc : Int) : scarpref6_Get.l0 (k + 1) l acc (-1) = some (acc, true) := by
  simp only [scarpref6_Get.l0]; rw [if_neg (by omega)]
theorem refGet4 (l : List Int) (hl : AllB l) (hn : 4 ≤ l.length) (k : Nat) (hk : 5 ≤ k) : scarpref6_Get.f k l 4 = some (g4 l, true) := by
  obtain ⟨k, rfl⟩ : ∃ m, k = m + 5 := ⟨k - 5, by omega⟩
  unfold scarpref6_Get.f
  rw [if_neg (by omega), show wrap64 (4 - 1) = ((3 : Nat) : Int) by unfold wrap64; omega]
  have r0 := hl.get 0; have r1 := hl.get 1; have r2 := hl.get 2; have r3 := hl.get 3
  obtain ⟨e0, a0⟩ := refGet_step (k + 4) l hl 3 0 (by omega) (by omega) (by omega) (by omega)
  obtain ⟨e1, a1⟩ := refGet_step (k + 3) l hl 2 _ (by omega) (by omega) a0 (by simp; omega)
  obtain ⟨e2, a2⟩ := refGet_step (k + 2) l hl 1 _ (by omega) (by omega) a1 (by simp; omega)
  obtain ⟨e3, a3⟩ := refGet_step (k + 1) l hl 0 _ (by omega) (by omega) a2 (by simp; omega)
  have e := e0.trans (e1.trans (e2.trans (e3.trans (refGet_end k l _))))
  rw [e]; simp [g4]; omega
theorem refGet8 (l : List Int) (hl : AllB l) (hn : 8 ≤ l.length) (k : Nat) (hk : 9 ≤ k) : scarpref6_Get.f k l 8 = some (g8 l, true) := by
  obtain ⟨k, rfl⟩ : ∃ m, k = m + 9 := ⟨k - 9, by omega⟩
  unfold scarpref6_Get.f
  rw [if_neg (by omega), show wrap64 (8 - 1) = ((7 : Nat) : Int) by unfold wrap64; omega]
  have r0 := hl.get 0; have r1 := hl.get 1; have r2 := hl.get 2; have r3 := hl.get 3
  have r4 := hl.get 4; have r5 := hl.get 5; have r6 := hl.get 6; have r7 := hl.get 7
  obtain ⟨e0, a0⟩ := refGet_step (k + 8) l hl 7 0 (by omega) (by omega) (by omega) (by omega)
  obtain ⟨e1, a1⟩ := refGet_step (k + 7) l hl 6 _ (by omega) (by omega) a0 (by simp; omega)
  obtain ⟨e2, a2⟩ := refGet_step (k + 6) l hl 5 _ (by omega) (by omega) a1 (by simp; omega)
  obtain ⟨e3, a3⟩ := refGet_step (k + 5) l hl 4 _ (by omega) (by omega) a2 (by simp; omega)
  obtain ⟨e4, a4⟩ := refGet_step (k + 4) l hl 3 _ (by omega) (by omega) a3 (by simp; omega)
  obtain ⟨e5, a5⟩ := refGet_step (k + 3) l hl 2 _ (by omega) (by omega) a4 (by simp; omega)
  obtain ⟨e6, a6⟩ := refGet_step (k + 2) l hl 1 _ (by omega) (by omega) a5 (by simp; omega)
  obtain ⟨e7, a7⟩ := refGet_step (k + 1) l hl 0 _ (by omega) (by omega) a6 (by simp; omega)
  have e := e0.trans (e1.trans (e2.trans (e3.trans (e4.trans (e5.trans (e6.trans (e7.trans (refGet_end k l _))))))))
  rw [e]; simp [g8]; omega
theorem refGet_short (l : List Int) (n : Int) (k : Nat) (h : (l.length : Int) < n) : scarpref6_Get.f k l n = some (0, false) := by
  unfold scarpref6_Get.f; rw [if_pos h]

/-! ### Rows of bytes held against each other -/
theorem bytes_l0 (a b : List Int) (hab : a.length = b.length) (hl : a.length < 2 ^ 62) (d : Nat) : ∀ (k i : Nat), i + d = a.length → d < k → scarpalike_Bytes.l0 k a b (i : Int) = some (decide (a.drop i = b.drop i)) := by
  induction d with
  | zero =>
    intro k i hi hk
    obtain ⟨k, rfl⟩ : ∃ m, k = m + 1 := ⟨k - 1, by omega⟩
    simp only [scarpalike_Bytes.l0]
    rw [if_neg (by omega), List.drop_eq_nil_of_le (by omega), List.drop_eq_nil_of_le (by omega)]; simp
  | succ d ih =>
    intro k i hi hk
    obtain ⟨k, rfl⟩ : ∃ m, k = m + 1 := ⟨k - 1, by omega⟩
    simp only [scarpalike_Bytes.l0]
    have w : wrap64 ((i : Int) + 1) = ((i + 1 : Nat) : Int) := by unfold wrap64; omega
    rw [if_pos (by omega), if_pos (by omega), if_pos (by omega), w, ih k (i + 1) (by omega) (by omega)]
    have ha : a.drop i = rd a i :: a.drop (i + 1) := by
      rw [List.drop_eq_getElem_cons (by omega)]; simp [Go.Proofs.YtkackggplinelaaW.PrintWords.rd, List.getD_eq_getElem?_getD, List.getElem?_eq_getElem (show i < a.length by omega)]
    have hb : b.drop i = rd b i :: b.drop (i + 1) := by
      rw [List.drop_eq_getElem_cons (by omega)]; simp [Go.Proofs.YtkackggplinelaaW.PrintWords.rd, List.getD_eq_getElem?_getD, List.getElem?_eq_getElem (show i < b.length by omega)]
    rw [ha, hb]
    by_cases h : rd a i = rd b i
    · rw [if_pos h, h]; simp
    · rw [if_neg h]; simp [h]
theorem bytes_f (a b : List Int) (hl : a.length < 2 ^ 62) (k : Nat) (hk : a.length < k) : scarpalike_Bytes.f k a b = some (decide (a = b)) := by
  unfold scarpalike_Bytes.f
  by_cases h : (a.length : Int) = b.length
  · rw [if_pos h]
    have := bytes_l0 a b (by omega) hl a.length k 0 (by omega) hk
    simpa using this
  · rw [if_neg h]
    have : a ≠ b := fun e => h (by rw [e])
    simp [this]

/-! ### The law's own eye -/
theorem awake (k : Nat) (hk : 11 ≤ k) : scarplaw6_awake.f k = some true := by
  unfold scarplaw6_awake.f bits_Put32.f
  rw [show (300 : Int) = ((300 : Nat) : Int) from rfl, varint_f 300 k (by omega) hk, wraps_u64 1 (by omega) (by omega), put4 1 k (by omega)]
  have e : vb 300 = [172, 2] := by rw [vb_ge (by omega), vb_lt (by omega)]; rfl
  rw [e]
  simp [l4, Go.Proofs.YtkackggplinelaaW.PrintWords.rd]
theorem u64_wf {v : Int} (h : (Lit.int .u64 v).wf = true) : ∃ n : Nat, v = n ∧ n < 2 ^ 64 := by
  simp [Lit.wf, IntKind.min, IntKind.max, IntKind.signed, IntKind.bits] at h
  exact ⟨v.toNat, by omega, by omega⟩
theorem u32_wf {v : Int} (h : (Lit.int .u32 v).wf = true) : 0 ≤ v ∧ v < 2 ^ 32 := by
  simp [Lit.wf, IntKind.min, IntKind.max, IntKind.signed, IntKind.bits] at h
  omega
theorem allB_wf {l : List Int} (h : ∀ x ∈ l, (Lit.int .u8 x).wf = true) : AllB l := fun x hx => by
  have := h x hx
  simp [Lit.wf, IntKind.min, IntKind.max, IntKind.signed, IntKind.bits] at this
  omega
end Go.Proofs.Ytkackggplinelaa.Bits
