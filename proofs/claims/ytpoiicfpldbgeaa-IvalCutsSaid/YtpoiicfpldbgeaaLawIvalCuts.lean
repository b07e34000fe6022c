/- Proved: scarplaw11.IvalCuts returns true at every input (what is cut off and what is left are an extent's blocks, each once), and leaves its arguments as they were. Conditions: none. -/
import Derived.Test.YtpoiicfpldbgeaaRows
import Derived.Test.YtpoiicfpldbgeaaIvV
import Derived.Test.YtpoiicfpldbgeaaOpen
import Derived.WalkKit
import Derived.ProofKit
import Derived.OpenShut
import Derived.ShutString
import Derived.ChangeOld
import Derived.Below
import Derived.SizedLaws
import Derived.Test.YtpoiicfpldbgeaaWSized
namespace Go.Proofs.Ytpoiicfpldbgeaa.ivalCuts
open Go.ChangeShapes Go.WideShapes Go.ChangeAt Go.RowKit
open Go.ChangeMaps (open_string shut_string)
set_option linter.unusedVariables false
theorem own : ownKnob Try.prog.godebug = none := by kernel_rfl
theorem laidOut : laidOutB Try.prog = true := by kernel_rfl
def IsRow (k : IntKind) (w : World) (a : Option Addr) (len cap : Nat) (zs : List Int) : Prop :=
  (a = none ∧ len = 0 ∧ cap = 0 ∧ zs = []) ∨
  ∃ x, a = some x ∧ len ≤ cap ∧ cap ≤ maxLen ∧ zs.length = cap ∧ (∀ i, i < zs.length → w.cell? (x.add i) = some (.int k (zs.getD i 0))) ∧ ∀ n ∈ zs, (Lit.int k n).wf = true
set_option maxHeartbeats 1000000 in
set_option maxRecDepth 100000 in
theorem lifted (os : Os) (started : os.Started) (H : Type) (enc : TypeId × Value → H) :
    ReturnsInHanded {} Try.checked os 7 .any (Rows.ivalCutsSpec.pre6 enc Try.prog Try.f7 Rows.ivalCutsRow.domain false) (Rows.ivalCutsSpec.post enc Try.prog Try.f7 false true false false) := by
  refine returnsInHanded_of_change_sized (C := Try.checked) own started (by kernel_rfl) Try.func7
    (ChangeSpec.witness6 (enc := enc) (C := Try.checked) false ⟨#[], #[.agg #[.int .i64 0, .int .i64 0], .slice none 0 0], []⟩ 8 (by kernel_rfl) (by kernel_rfl) (by kernel_rfl) (by kernel_rfl)) ?_
  intro W base args ds gs before hval0 hW hcnd hsz0 _
  have hsz : (DataW.weightsEach Try.prog (Try.f7.params.toList ++ Rows.ivalCutsSpec.plain.varTypes Try.prog) (ds ++ gs)).all (· ≤ reachBytes) = true := hsz0
  have hval : ∀ (j : Nat) t v, Try.f7.params[j]? = some t → args[j]? = some v → Value.okWide Try.prog W .any base t v := hval0
  have hW' := hW
  obtain ⟨p, q, hA0, hV, rfl, hfz, hnd⟩ := hW
  have hA : DataW.TrodAll enc Try.prog W 0 (fun _ => true) true Try.f7.params.toList args.toList ds p := hA0
  rw [Try.params7] at hA hval hsz
  obtain ⟨v0, vs0, d0, ds0, p0, q0, hargs, rfl, rfl, h0, r0⟩ := trodAll_cons hA
  obtain ⟨v1, vs1, d1, ds1, p1, q1, rfl, rfl, rfl, h1, r1⟩ := trodAll_cons r0
  obtain ⟨rfl, rfl, rfl⟩ := trodAll_nil r1
  obtain rfl : args = #[v0, v1] := by cases args; simp_all
  obtain ⟨rfl, rfl⟩ := trodVars_none hV
  have k0 := h0
  have lt0 : ∀ x ∈ p0, x.block < W.heap.size := by obtain ⟨m, hm⟩ := k0; exact DataW.trod_lt m _ _ _ hm
  obtain ⟨cs0, rfl, hcs0⟩ := okWide_struct Try.underlying28 (hval 0 28 v0 rfl rfl)
  obtain ⟨x0, hx0⟩ : ∃ x : PIv.S28, cs0 = #[.int .i64 x.f0, .int .i64 x.f1] := by
    obtain ⟨fuel, hf⟩ := h0
    obtain ⟨⟨a, b⟩, hK, _⟩ := (Open.opens_two Try.underlying28 rfl rfl (by kernel_rfl) (Open.opens_int Try.underlying3 (by kernel_rfl)) (Open.opens_int Try.underlying3 (by kernel_rfl))).2 _ _ _ hf
    obtain ⟨c1, c2, e1, e2, e3⟩ := hK
    refine ⟨⟨a, b⟩, ?_⟩
    rw [e2, e3] at e1
    exact Array.toList_inj.1 (by simpa [Value.cells] using e1)
  subst hx0
  have k1 := h1
  have lt1 : ∀ x ∈ p1, x.block < W.heap.size := by obtain ⟨m, hm⟩ := k1; exact DataW.trod_lt m _ _ _ hm
  obtain ⟨A1, n1, c1, rfl⟩ := okWide_slice Try.underlying29 (hval 1 29 v1 rfl rfl)
  obtain ⟨l1, C1, le1, ml1⟩ : ∃ l : List PIv.S28, Go.Proofs.YtpoiicfpldbgeaaW.PrintWords.Kd.C PIv.k28 W A1 l.length l ∧ (n1 = l.length ∧ l.length ≤ c1) ∧ l.length ≤ maxLen := by
    obtain ⟨fuel, hf⟩ := h1
    obtain ⟨l, ⟨A, c, e1, e2, e3⟩, g1, g2⟩ := (Open.opens_slice Try.underlying29 (by kernel_rfl) (Open.opens_two Try.underlying28 rfl rfl (by kernel_rfl) (Open.opens_int Try.underlying3 (by kernel_rfl)) (Open.opens_int Try.underlying3 (by kernel_rfl)))).2 _ _ _ hf
    simp [Value.cells] at e1
    obtain ⟨rfl, rfl, rfl⟩ := e1
    refine ⟨l.map fun p => (⟨p.1, p.2⟩ : PIv.S28), by rw [List.length_map]; exact Iv.C28 e3, ⟨by rw [List.length_map], by rw [List.length_map]; exact e2⟩, by rw [List.length_map]; exact g2⟩
  obtain ⟨rfl, le1⟩ := le1
  clear hA0 hval0 hsz0
  refine (Iv.cuts_calls x0 A1 c1 l1 W C1 le1 (by unfold maxLen at ml1; omega)).mono fun e W' ⟨he, bel⟩ => ?_
  subst he
  exact ⟨_, rfl, _, _, _, [], _, [], hW', trodAll_mk1 (shut_bool Try.underlying4 _), (trodAll_cons_mk (Below.trod laidOut (by kernel_rfl) (of_decide_eq_true (by kernel_rfl)) k0 bel lt0) (trodAll_cons_mk (Below.trod laidOut (by kernel_rfl) (of_decide_eq_true (by kernel_rfl)) k1 bel lt1) trodAll_mk0)), rfl, bel.frame _, fun h => by cases h⟩
theorem over : Rows.ivalCutsRow.holds Try.pinned (OpenSpec.ofChange Rows.ivalCutsSpec) :=
  OpenClaim.holds_of_wide 7 Try.f7 rfl rfl rfl rfl rfl rfl rfl ⟨rfl, rfl, rfl, rfl, rfl⟩ rfl rfl rfl rfl rfl (by kernel_rfl) Try.func7 (by kernel_rfl)
    (of_decide_eq_true (by kernel_rfl)) (by unfold Func.isWrapper; first | (rw [if_pos (by decide +kernel)]; kernel_rfl) | (rw [if_neg (by decide +kernel)]; exact ⟨rfl, rfl⟩))
    (fun os started H enc _ => lifted os started H enc)
theorem proved : Rows.IvalCutsSaid := over
#print axioms proved
end Go.Proofs.Ytpoiicfpldbgeaa.ivalCuts
namespace Go.Proofs.Ytpoiicfpldbgeaa
/-- The row, under a short name, for the claim. -/
theorem ivalCuts_holds : Rows.IvalCutsSaid := ivalCuts.proved
end Go.Proofs.Ytpoiicfpldbgeaa
