/- Any number is laid in groups, in four and in eight bytes; any bytes are read so, or not: the program's functions and the document's are one. Conditions: none but the arguments' kinds. -/
import Derived.Test.YtkackggplinelaaPBitsLBitsAsks
import Derived.Test.YtkackggplinelaaUnv
namespace Go.Proofs.Ytkackggplinelaa.Pure
open Go.RowKit Go.Proofs.Ytkackggplinelaa.PBits Go.Proofs.YtkackggplinelaaW.PrintWords Go.Proofs.YtkackggplinelaaW.PrintLast Go.Proofs.Ytkackggplinelaa.Bits

/-- What is read of four bytes, and of eight. -/
def gg4 (l : List Int) : Int × Bool := if 4 ≤ l.length then (g4 l, true) else (0, false)
def gg8 (l : List Int) : Int × Bool := if 8 ≤ l.length then (g8 l, true) else (0, false)
theorem get4' (l : List Int) (hl : AllB l) (k : Nat) (hk : 5 ≤ k) : bits_get.f k l 4 = some (gg4 l) := by
  unfold gg4; split
  · rw [get4 l hl (by assumption) k hk]
  · rw [get_short l 4 k (by omega)]
theorem get8' (l : List Int) (hl : AllB l) (k : Nat) (hk : 9 ≤ k) : bits_get.f k l 8 = some (gg8 l) := by
  unfold gg8; split
  · rw [get8 l hl (by assumption) k hk]
  · rw [get_short l 8 k (by omega)]
theorem refGet4' (l : List Int) (hl : AllB l) (k : Nat) (hk : 5 ≤ k) : scarpref6_Get.f k l 4 = some (gg4 l) := by
  unfold gg4; split
  · rw [refGet4 l hl (by assumption) k hk]
  · rw [refGet_short l 4 k (by omega)]
theorem refGet8' (l : List Int) (hl : AllB l) (k : Nat) (hk : 9 ≤ k) : scarpref6_Get.f k l 8 = some (gg8 l) := by
  unfold gg8; split
  · rw [refGet8 l hl (by assumption) k hk]
  · rw [refGet_short l 8 k (by omega)]
theorem gg4_range (l : List Int) (hl : AllB l) : 0 ≤ (gg4 l).1 ∧ (gg4 l).1 < 4294967296 := by
  unfold gg4; split
  · have := hl.get 0; have := hl.get 1; have := hl.get 2; have := hl.get 3
    simp only [g4]; omega
  · simp
theorem BitsAsks : scarplaw6_BitsAsks.Pure := by
  intro l0 a1 a2 hm hs hw h1 h2
  obtain ⟨v, rfl, hv⟩ := u64_wf h1
  have hl := allB_wf hw
  have h2' := u32_wf h2
  have hlen : l0.length < 2 ^ 62 := by omega
  refine ⟨60, ?_⟩
  unfold scarplaw6_BitsAsks.f
  by_cases hbig : (l0.length : Int) > 1000
  · rw [if_pos hbig, awake 60 (by decide)]; rfl
  · rw [if_neg hbig]
    unfold bits_Get32.f bits_Get64.f bits_Put32.f bits_Put64.f
    have w2 : IntKind.u64.wrap a2 = a2 := wraps_u64 _ h2'.1 (by omega)
    obtain ⟨b1, b2⟩ := gg4_range l0 hl
    have w3 : IntKind.u64.wrap ((gg4 l0).1 % 4294967296) = (gg4 l0).1 := by rw [wraps_u64 _ (by omega) (by omega)]; omega
    rw [unvarint_f l0 hl hlen 60 (by decide), refUnvarint_f l0 hl hlen 60 (by decide), get4' l0 hl 60 (by decide), refGet4' l0 hl 60 (by decide), get8' l0 hl 60 (by decide), refGet8' l0 hl 60 (by decide),
      varint_f v 60 hv (by decide), refVarint_f v 60 hv (by decide), w2, put4 a2 60 (by decide), refPut4 a2 60 (by decide), put8 _ 60 (by decide), refPut8 _ 60 (by decide)]
    simp only [Option.bind_some]
    have hvl := vb_len10 v hv
    rw [bytes_f (vb v) _ (by omega) 60 (by omega), bytes_f (l4 a2) _ (by simp [l4]) 60 (by simp [l4]), bytes_f (l8 v) _ (by simp [l8]) 60 (by simp [l8])]
    simp only [Option.bind_some, decide_true, if_true, w3, beq_self_eq_true, awake 60 (by decide)]
end Go.Proofs.Ytkackggplinelaa.Pure
