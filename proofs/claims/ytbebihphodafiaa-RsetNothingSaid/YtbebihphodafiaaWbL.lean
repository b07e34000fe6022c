/- The walk of WbufLast: what is written is read again, the last one; a vector that is refused changes nothing. -/
import Derived.Test.YtbebihphodafiaaProg
import Derived.Below
import Derived.Deep.Draws
import Derived.Deep.AppendLies
import Derived.Maps.AppendAt
import Derived.OwnWalk
import Derived.Laws.BytesArg
import Derived.Laws.MakeOwn
import Derived.Laws.OwnMore
import Derived.Deep.OwnRows
import Derived.Tactics
import Derived.Lib.ConvBytes
import Derived.Laws.Slices
import Derived.WalkKit
import Derived.KernelRfl
import Derived.RowKit3
import Derived.Deep.LoopGhost
import Derived.Deep.QuietTactic
import Derived.BigQuiet
import Derived.WideLaws
import Derived.Deep.DeepCutAuto
import Derived.Deep.CutBlock
import Derived.Deep.RegionHeld3
import Derived.Laws.Rows
import Derived.Lib.AppendStr
import Derived.ArgAppend
import Derived.Laws.IdiomCopy
import Derived.OrdersHeld
import Derived.Laws.BitsLemmas
import Derived.RowKit
import Derived.Test.YtbebihphodafiaaWWords
import Derived.Test.YtbebihphodafiaaWLast
import Derived.Test.YtbebihphodafiaaWTab
import Derived.Test.YtbebihphodafiaaWFour
import Derived.Test.YtbebihphodafiaaWQPut
import Derived.Test.YtbebihphodafiaaWApart
import Derived.Test.YtbebihphodafiaaWArr
import Derived.Test.YtbebihphodafiaaWZeros
import Derived.Test.YtbebihphodafiaaWFoot
import Derived.Test.YtbebihphodafiaaWKept
import Derived.Test.YtbebihphodafiaaWShare
import Derived.Test.YtbebihphodafiaaWN
import Derived.Test.YtbebihphodafiaaWFootNe
import Derived.Test.YtbebihphodafiaaWAt
import Derived.Test.YtbebihphodafiaaWEqStruct
import Derived.Test.YtbebihphodafiaaWRepsOne
import Derived.Test.YtbebihphodafiaaWInv
import Derived.Test.YtbebihphodafiaaWInvWords
import Derived.Test.YtbebihphodafiaaWGuard
import Derived.Test.YtbebihphodafiaaWNEv
import Derived.Test.YtbebihphodafiaaWMore
import Derived.Outline
import Derived.Lib.Hide
import Derived.Deep.DeepMust
import Derived.IntWalk
import Derived.StillTailTactics
import Derived.Test.YtbebihphodafiaaWbF
import Derived.Test.YtbebihphodafiaaWbJ
namespace Go.Proofs.Ytbebihphodafiaa.Iv
open Go.RowKit Go.Proofs.YtbebihphodafiaaW.PrintWords Go.Proofs.YtbebihphodafiaaW.PrintLast Go.Proofs.YtbebihphodafiaaW.PrintMore Go.Proofs.Ytbebihphodafiaa.PWb Go.Maps
set_option linter.unusedVariables false
set_option linter.unusedSimpArgs false

theorem bytes_l0 (l : List Int) (hl : l.length ≤ 1000000) (d : Nat) : ∀ (k i : Nat), i + d = l.length → d + 1 ≤ k → scarpalike_Bytes.l0 k l l (i : Int) = some true := by
  induction d with
  | zero =>
    intro k i hi hk
    obtain ⟨k, rfl⟩ : ∃ m, k = m + 1 := ⟨k - 1, by omega⟩
    simp only [scarpalike_Bytes.l0]
    rw [if_neg (by omega)]
  | succ d ih =>
    intro k i hi hk
    obtain ⟨k, rfl⟩ : ∃ m, k = m + 1 := ⟨k - 1, by omega⟩
    simp only [scarpalike_Bytes.l0]
    have w : wrap64 ((i : Int) + 1) = ((i + 1 : Nat) : Int) := by unfold wrap64; omega
    rw [if_pos (by omega), if_pos (by omega), if_pos (by omega), if_pos trivial, w]
    exact ih k (i + 1) (by omega) (by omega)
theorem bytes_refl (l : List Int) (hl : l.length ≤ 1000000) : scarpalike_Bytes.f (l.length + 1) l l = some true := by
  unfold scarpalike_Bytes.f
  rw [if_pos rfl]
  exact bytes_l0 l hl l.length (l.length + 1) 0 (by omega) (by omega)
theorem lookM_ins (M : List S31) (x : S31) (hM : Rise M) (y : Int) : lookM (ins M x) y = if y = x.f0 then x.f1 else lookM M y := by
  have hr := ins_rise M x hM
  by_cases h : y = x.f0
  · rw [if_pos h, h, lookM_mem hr ((ins_mem M x hM x).2 (.inl rfl))]
  · rw [if_neg h]
    cases hm : hasM M y with
    | true =>
      obtain ⟨p, hp, rfl⟩ := (hasM_iff M y).1 hm
      rw [lookM_mem hM hp, lookM_mem hr ((ins_mem M x hM p).2 (.inr ⟨hp, h⟩))]
    | false =>
      rw [lookM_none M y hm, lookM_none (ins M x) y ((hasM_false _ _).2 (fun p hp e => by
        rcases (ins_mem M x hM p).1 hp with rfl | hp
        · exact h e.symm
        · exact (hasM_false M y).1 hm p hp.1 e))]
theorem count_keys (M : List S31) (hM : Rise M) (n : Nat) (hr : ∀ p ∈ M, 0 ≤ p.f0 ∧ p.f0 < (n : Int)) : (List.range n).countP (fun j : Nat => hasM M (j : Int)) = M.length := by
  have h1 : ((List.range n).filter (fun j : Nat => hasM M (j : Int))).Nodup := List.nodup_range.filter _
  have h2 : (M.map fun p => p.f0.toNat).Nodup := List.Pairwise.map _ (fun a b h => h) (List.pairwise_iff_getElem.2 (fun i j hi hj hij e => by
    have h3 := List.pairwise_iff_getElem.1 hM i j hi hj hij
    have h4 := hr _ (List.getElem_mem hi)
    have h5 := hr _ (List.getElem_mem hj)
    omega))
  have hp : ((List.range n).filter (fun j : Nat => hasM M (j : Int))).Perm (M.map fun p => p.f0.toNat) := (List.perm_ext_iff_of_nodup h1 h2).2 (fun j => by
    rw [List.mem_filter, List.mem_map, List.mem_range, hasM_iff]
    constructor
    · rintro ⟨_, p, hp, e⟩
      exact ⟨p, hp, by omega⟩
    · rintro ⟨p, hp, e⟩
      have := hr p hp
      exact ⟨by omega, p, hp, by omega⟩)
  rw [List.countP_eq_length_filter, hp.length_eq, List.length_map]
/-- What each block is to be. -/
def Wants (w W : World) (gw : Nat) (M : List S31) : Prop := ∀ j : Nat, j < 20 → W.frozen? ⟨gw, j, none⟩ = false ∧ ∃ A c, W.cell? ⟨gw, j, none⟩ = some (.slice A (lookM M (j : Int)).length c) ∧ (lookM M (j : Int)).length ≤ c ∧ Kd.C kb w A (lookM M (j : Int)).length (lookM M (j : Int))
section
variable {w W W' : World} {gw : Nat} {M : List S31}
theorem Wants.below (h : Wants w W gw M) (hb : RowKit.Below W.heap.size W W') : Wants w W' gw M := fun j hj => by
  obtain ⟨h1, A, c, h2, h3, h4⟩ := h j hj
  exact ⟨by rw [hb.frozen (p := ⟨gw, j, none⟩) (World.block_lt_of_cell? _ _ h2)]; exact h1, A, c, pw_cell_below hb h2, h3, h4⟩
theorem Wants.wr (h : Wants w W gw M) {m : Nat} (hg : W.grownBy W' (some m)) (hm : ∃ o : Obj, W.heap[m]? = some o ∧ o.isCells = false) : Wants w W' gw M := fun j hj => by
  obtain ⟨h1, A, c, h2, h3, h4⟩ := h j hj
  exact ⟨by rw [frozen_kept h2 hg (fun r hr => by cases hr; exact hm)]; exact h1, A, c, cell_kept h2 hg (fun r hr => by cases hr; exact hm), h3, h4⟩
theorem Wants.put (h : Wants w W gw M) (hM : Rise M) (x : Nat) (hx : x < 20) (d : List Int) (A : Option Addr) (c : Nat) (hc : d.length ≤ c) (hC : Kd.C kb w A d.length d) :
    Wants w (W.setCell ⟨gw, x, none⟩ (.slice A d.length c)) gw (ins M ⟨(x : Int), d⟩) := fun j hj => by
  obtain ⟨h1, A1, c1, h2, h3, h4⟩ := h j hj
  refine ⟨by rw [World.frozen?_setCell]; exact h1, ?_⟩
  rw [lookM_ins M _ hM]
  by_cases he : j = x
  · subst he
    rw [if_pos rfl]
    exact ⟨A, c, World.cell?_setCell_same _ _ _ h2, hc, hC⟩
  · rw [if_neg (fun e => he (Int.ofNat_inj.1 e))]
    refine ⟨A1, c1, ?_, h3, h4⟩
    rw [World.cell?_setCell_other]
    · exact h2
    · intro e; injection e with _ e; exact he e.symm
end
theorem IsBuf.raise {W : World} {fr mb : Nat} {blocks most : Int} (h : IsBuf W fr mb blocks most []) (fr' : Nat) (hf : mb + 1 < fr') : IsBuf W fr' mb blocks most [] := by
  obtain ⟨D, d1, d2, d3, d4⟩ := h.map
  exact ⟨hf, h.c0, h.c1, h.c2, ⟨D, d1, d2, d3, fun p hp => by simp at hp⟩, h.srt, h.rng, h.bl⟩
theorem info28 : (Try.prog.info? 28).map (fun i => (i.zero, i.size, i.bytes)) = some (some (.slice none 0 0), 1, 24) := by kernel_rfl
theorem lookM_nil (y : Int) : lookM [] y = [] := rfl
end Go.Proofs.Ytbebihphodafiaa.Iv
