/- Eight bytes are the four of the lower half, and the four of the upper one behind them. Conditions: none but the argument's kind. -/
import Derived.Test.YtkackggplinelaaPBitsLBitsHalves
import Derived.Test.YtkackggplinelaaUnv
namespace Go.Proofs.Ytkackggplinelaa.Pure
open Go.RowKit Go.Proofs.Ytkackggplinelaa.PBits Go.Proofs.YtkackggplinelaaW.PrintWords Go.Proofs.YtkackggplinelaaW.PrintLast Go.Proofs.Ytkackggplinelaa.Bits

theorem allB_l8 (v : Int) : AllB (l8 v) := by intro x hx; simp [l8] at hx; omega
theorem allB_l4 (v : Int) : AllB (l4 v) := by intro x hx; simp [l4] at hx; omega
theorem BitsHalves : scarplaw6_BitsHalves.Pure := by
  intro a0 h
  obtain ⟨v, rfl, hv⟩ := u64_wf h
  refine ⟨60, ?_⟩
  unfold scarplaw6_BitsHalves.f bits_Put64.f bits_Put32.f
  have w1 : IntKind.u64.wrap ((v : Int) % 4294967296) = (v : Int) % 4294967296 := wraps_u64 _ (by omega) (by omega)
  have w2 : IntKind.u64.wrap ((v : Int) / 4294967296 % 4294967296) = (v : Int) / 4294967296 % 4294967296 := wraps_u64 _ (by omega) (by omega)
  have t4 : (l8 (v : Int)).take 4 = l4 ((v : Int) % 4294967296) := by
    simp [l8, l4]; omega
  have d4 : (l8 (v : Int)).drop 4 = l4 ((v : Int) / 4294967296 % 4294967296) := by
    simp [l8, l4]; omega
  rw [put8 _ 60 (by decide), w1, w2, put4 _ 60 (by decide), put4 _ 60 (by decide)]
  simp only [Option.bind_some]
  have n8 : (l8 (v : Int)).length = 8 := rfl
  have n4 : ∀ x, (l4 x).length = 4 := fun _ => rfl
  rw [if_pos (by rw [n8]; rfl), if_pos (by rw [n4]; rfl)]
  simp only [scarplaw6_BitsHalves.j0, n4]
  rw [if_neg (by decide)]
  unfold bits_Get32.f
  rw [get4 _ (allB_l8 _) (by rw [n8]; decide) 59 (by decide), d4, get4 _ (allB_l4 _) (by rw [n4]; decide) 59 (by decide), t4]
  simp only [Option.bind_some]
  rw [if_pos (by rw [n8]; decide), bytes_f _ _ (by rw [n4]; decide) 59 (by rw [n4]; decide), bytes_f _ _ (by rw [n4]; decide) 59 (by rw [n4]; decide)]
  simp only [Option.bind_some, decide_true, if_true]
  have g1 : g4 (l8 (v : Int)) % 4294967296 = (v : Int) % 4294967296 := by simp [g4, l8, Go.Proofs.YtkackggplinelaaW.PrintWords.rd]; omega
  have g2 : g4 (l4 ((v : Int) / 4294967296 % 4294967296)) % 4294967296 = (v : Int) / 4294967296 % 4294967296 := by simp [g4, l4, Go.Proofs.YtkackggplinelaaW.PrintWords.rd]; omega
  have r0 : rd (l8 (v : Int)) 0 = (v : Int) % 256 := by simp [l8, Go.Proofs.YtkackggplinelaaW.PrintWords.rd]
  rw [if_pos (by rw [n8]; decide), if_pos r0, if_pos g1, if_pos g2, awake 59 (by decide)]
  rfl
end Go.Proofs.Ytkackggplinelaa.Pure
