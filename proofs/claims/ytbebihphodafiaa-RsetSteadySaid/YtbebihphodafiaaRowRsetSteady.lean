/- Proved: scarplaw15.RsetSteady returns true at every input (read again, a block that one did not write oneself is the same, whatever was applied above the time meanwhile), and leaves its argument as it was. Conditions: none. -/
import Derived.Test.YtbebihphodafiaaZRsetSteady1
import Derived.Test.YtbebihphodafiaaZRsetSteady2
import Derived.Test.YtbebihphodafiaaZRsetSteady3
import Derived.Test.YtbebihphodafiaaZRsetSteady4
import Derived.Test.YtbebihphodafiaaZRsetSteady5
import Derived.Test.YtbebihphodafiaaZRsetSteady6
import Derived.Test.YtbebihphodafiaaRows
import Derived.WalkKit
import Derived.ProofKit
import Derived.OpenShut
import Derived.ShutString
import Derived.ChangeOld
import Derived.Below
import Derived.SizedLaws
import Derived.Test.YtbebihphodafiaaWSized
namespace Go.Proofs.Ytbebihphodafiaa.rsetSteady
open Go.ChangeShapes Go.WideShapes Go.ChangeAt Go.RowKit
open Go.ChangeMaps (open_string shut_string)
set_option linter.unusedVariables false
theorem own : ownKnob Try.prog.godebug = none := by kernel_rfl
theorem laidOut : laidOutB Try.prog = true := by kernel_rfl
def IsRow (k : IntKind) (w : World) (a : Option Addr) (len cap : Nat) (zs : List Int) : Prop :=
  (a = none ∧ len = 0 ∧ cap = 0 ∧ zs = []) ∨
  ∃ x, a = some x ∧ len ≤ cap ∧ cap ≤ maxLen ∧ zs.length = cap ∧ (∀ i, i < zs.length → w.cell? (x.add i) = some (.int k (zs.getD i 0))) ∧ ∀ n ∈ zs, (Lit.int k n).wf = true
set_option maxHeartbeats 1000000 in
set_option maxRecDepth 100000 in
theorem lifted (os : Os) (started : os.Started) (H : Type) (enc : TypeId × Value → H) :
    ReturnsInHanded {} Try.checked os 7 .any (Rows.rsetSteadySpec.pre6 enc Try.prog Try.f7 Rows.rsetSteadyRow.domain false) (Rows.rsetSteadySpec.post enc Try.prog Try.f7 false true false false) := by
  refine returnsInHanded_of_change_sized (C := Try.checked) own started (by kernel_rfl) Try.func7
    (ChangeSpec.witness6 (enc := enc) (C := Try.checked) false ⟨#[], #[.slice none 0 0, .int .i64 0], []⟩ 8 (by kernel_rfl) (by kernel_rfl) (by kernel_rfl) (by kernel_rfl)) ?_
  intro W base args ds gs before hval0 hW hcnd hsz0 _
  have hsz : (DataW.weightsEach Try.prog (Try.f7.params.toList ++ Rows.rsetSteadySpec.plain.varTypes Try.prog) (ds ++ gs)).all (· ≤ reachBytes) = true := hsz0
  have hval : ∀ (j : Nat) t v, Try.f7.params[j]? = some t → args[j]? = some v → Value.okWide Try.prog W .any base t v := hval0
  have hW' := hW
  obtain ⟨p, q, hA0, hV, rfl, hfz, hnd⟩ := hW
  have hA : DataW.TrodAll enc Try.prog W 0 (fun _ => true) true Try.f7.params.toList args.toList ds p := hA0
  rw [Try.params7] at hA hval hsz
  obtain ⟨v0, vs0, d0, ds0, p0, q0, hargs, rfl, rfl, h0, r0⟩ := trodAll_cons hA
  obtain ⟨v1, vs1, d1, ds1, p1, q1, rfl, rfl, rfl, h1, r1⟩ := trodAll_cons r0
  obtain ⟨rfl, rfl, rfl⟩ := trodAll_nil r1
  obtain rfl : args = #[v0, v1] := by cases args; simp_all
  obtain ⟨rfl, rfl⟩ := trodVars_none hV
  have k0 := h0
  have lt0 : ∀ x ∈ p0, x.block < W.heap.size := by obtain ⟨m, hm⟩ := k0; exact DataW.trod_lt m _ _ _ hm
  obtain ⟨A0, n0, c0, rfl⟩ := okWide_slice Try.underlying62 (hval 0 62 v0 rfl rfl)
  obtain ⟨l0, C0, le0, ml0, mx0⟩ : ∃ l : List PWb.S65, Go.Proofs.YtbebihphodafiaaW.PrintWords.Kd.C PWb.k65 W A0 l.length l ∧ (n0 = l.length ∧ l.length ≤ c0) ∧ l.length ≤ maxLen ∧ ∀ x ∈ l, x.f2.length ≤ maxLen := by
    obtain ⟨fuel, hf⟩ := h0
    obtain ⟨l, ⟨A, c, e1, e2, e3⟩, g1, g2⟩ := (Open.opens_slice Try.underlying62 (by kernel_rfl) (Open.opens_four Try.underlying65 rfl rfl rfl rfl (by kernel_rfl) (Open.opens_int Try.underlying3 (by kernel_rfl)) (Open.opens_two Try.underlying60 rfl rfl (by kernel_rfl) (Open.opens_int Try.underlying3 (by kernel_rfl)) (Open.opens_int Try.underlying3 (by kernel_rfl))) (Open.opens_slice Try.underlying27 (by kernel_rfl) (Open.opens_two Try.underlying31 rfl rfl (by kernel_rfl) (Open.opens_int Try.underlying3 (by kernel_rfl)) (Open.opens_slice Try.underlying28 (by kernel_rfl) (Open.opens_int Try.underlying5 (by kernel_rfl))))) (Open.opens_int Try.underlying3 (by kernel_rfl)))).2 _ _ _ hf
    simp [Value.cells] at e1
    obtain ⟨rfl, rfl, rfl⟩ := e1
    refine ⟨l.map fun p => (⟨p.1, ⟨p.2.1.1, p.2.1.2⟩, p.2.2.1.map fun q => ⟨q.1, q.2⟩, p.2.2.2⟩ : PWb.S65), by rw [List.length_map]; exact Open.C65o e3, ⟨by rw [List.length_map], by rw [List.length_map]; exact e2⟩, by rw [List.length_map]; exact g2, fun x hx => ?_⟩
    obtain ⟨y, hy, rfl⟩ := List.mem_map.1 hx
    rw [List.length_map]; exact (g1 y hy).2.2.1.2
  obtain ⟨rfl, le0⟩ := le0
  obtain ⟨a1, rfl, rfl, rfl, w1⟩ := open_int Try.underlying3 (hval 1 3 v1 rfl rfl) h1
  clear hA0 hval0 hsz0
  refine (Iv.steady_calls A0 c0 l0 a1 W C0 le0 (by unfold maxLen at ml0; exact ml0) (fun x hx => by have := mx0 x hx; unfold maxLen at this; exact this)).mono fun e W' ⟨he, bel⟩ => ?_
  subst he
  exact ⟨_, rfl, _, _, _, [], _, [], hW', trodAll_mk1 (shut_bool Try.underlying4 _), (trodAll_cons_mk (Below.trod laidOut (by kernel_rfl) (of_decide_eq_true (by kernel_rfl)) k0 bel lt0) (trodAll_cons_mk (shut_int Try.underlying3 w1) trodAll_mk0)), rfl, bel.frame _, fun h => by cases h⟩
theorem over : Rows.rsetSteadyRow.holds Try.pinned (OpenSpec.ofChange Rows.rsetSteadySpec) :=
  OpenClaim.holds_of_wide 7 Try.f7 rfl rfl rfl rfl rfl rfl rfl ⟨rfl, rfl, rfl, rfl, rfl⟩ rfl rfl rfl rfl rfl (by kernel_rfl) Try.func7 (by kernel_rfl)
    (of_decide_eq_true (by kernel_rfl)) (by unfold Func.isWrapper; first | (rw [if_pos (by decide +kernel)]; kernel_rfl) | (rw [if_neg (by decide +kernel)]; exact ⟨rfl, rfl⟩))
    (fun os started H enc _ => lifted os started H enc)
theorem proved : Rows.RsetSteadySaid := over
#print axioms proved
end Go.Proofs.Ytbebihphodafiaa.rsetSteady
namespace Go.Proofs.Ytbebihphodafiaa
/-- The row, under a short name, for the claim. -/
theorem rsetSteady_holds : Rows.RsetSteadySaid := rsetSteady.proved
end Go.Proofs.Ytbebihphodafiaa
