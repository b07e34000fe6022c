/- Proved: scarplaw14.WbufLast returns true at every input (what is written is read again, the last one; a vector that is refused changes nothing), and leaves its argument as it was. Conditions: none. -/
import Derived.Test.YtbebihphodafiaaRows
import Derived.Test.YtbebihphodafiaaWbM
import Derived.Test.YtbebihphodafiaaOpen
import Derived.WalkKit
import Derived.ProofKit
import Derived.OpenShut
import Derived.ShutString
import Derived.ChangeOld
import Derived.Below
import Derived.SizedLaws
import Derived.Test.YtbebihphodafiaaWSized
namespace Go.Proofs.Ytbebihphodafiaa.wbufLast
open Go.ChangeShapes Go.WideShapes Go.ChangeAt Go.RowKit
open Go.ChangeMaps (open_string shut_string)
set_option linter.unusedVariables false
theorem own : ownKnob Try.prog.godebug = none := by kernel_rfl
theorem laidOut : laidOutB Try.prog = true := by kernel_rfl
def IsRow (k : IntKind) (w : World) (a : Option Addr) (len cap : Nat) (zs : List Int) : Prop :=
  (a = none ∧ len = 0 ∧ cap = 0 ∧ zs = []) ∨
  ∃ x, a = some x ∧ len ≤ cap ∧ cap ≤ maxLen ∧ zs.length = cap ∧ (∀ i, i < zs.length → w.cell? (x.add i) = some (.int k (zs.getD i 0))) ∧ ∀ n ∈ zs, (Lit.int k n).wf = true
set_option maxHeartbeats 1000000 in
set_option maxRecDepth 100000 in
theorem lifted (os : Os) (started : os.Started) (H : Type) (enc : TypeId × Value → H) :
    ReturnsInHanded {} Try.checked os 5 .any (Rows.wbufLastSpec.pre6 enc Try.prog Try.f5 Rows.wbufLastRow.domain false) (Rows.wbufLastSpec.post enc Try.prog Try.f5 false true false false) := by
  refine returnsInHanded_of_change_sized (C := Try.checked) own started (by kernel_rfl) Try.func5
    (ChangeSpec.witness6 (enc := enc) (C := Try.checked) false ⟨#[], #[.slice none 0 0], []⟩ 8 (by kernel_rfl) (by kernel_rfl) (by kernel_rfl) (by kernel_rfl)) ?_
  intro W base args ds gs before hval0 hW hcnd hsz0 _
  have hsz : (DataW.weightsEach Try.prog (Try.f5.params.toList ++ Rows.wbufLastSpec.plain.varTypes Try.prog) (ds ++ gs)).all (· ≤ reachBytes) = true := hsz0
  have hval : ∀ (j : Nat) t v, Try.f5.params[j]? = some t → args[j]? = some v → Value.okWide Try.prog W .any base t v := hval0
  have hW' := hW
  obtain ⟨p, q, hA0, hV, rfl, hfz, hnd⟩ := hW
  have hA : DataW.TrodAll enc Try.prog W 0 (fun _ => true) true Try.f5.params.toList args.toList ds p := hA0
  rw [Try.params5] at hA hval hsz
  obtain ⟨v0, vs0, d0, ds0, p0, q0, hargs, rfl, rfl, h0, r0⟩ := trodAll_cons hA
  obtain ⟨rfl, rfl, rfl⟩ := trodAll_nil r0
  obtain rfl : args = #[v0] := by cases args; simp_all
  obtain ⟨rfl, rfl⟩ := trodVars_none hV
  have k0 := h0
  have lt0 : ∀ x ∈ p0, x.block < W.heap.size := by obtain ⟨m, hm⟩ := k0; exact DataW.trod_lt m _ _ _ hm
  obtain ⟨A0, n0, c0, rfl⟩ := okWide_slice Try.underlying41 (hval 0 41 v0 rfl rfl)
  obtain ⟨l0, C0, le0, ml0, mx0⟩ : ∃ l : List (List PWb.S31), Go.Proofs.YtbebihphodafiaaW.PrintWords.Kd.C (Go.Proofs.YtbebihphodafiaaW.PrintWords.Kd.slice 31 PWb.k31) W A0 l.length l ∧ (n0 = l.length ∧ l.length ≤ c0) ∧ l.length ≤ maxLen ∧ ∀ x ∈ l, x.length ≤ maxLen := by
    obtain ⟨fuel, hf⟩ := h0
    obtain ⟨l, ⟨A, c, e1, e2, e3⟩, g1, g2⟩ := (Open.opens_slice Try.underlying41 (by kernel_rfl) (Open.opens_slice Try.underlying27 (by kernel_rfl) (Open.opens_two Try.underlying31 rfl rfl (by kernel_rfl) (Open.opens_int Try.underlying3 (by kernel_rfl)) (Open.opens_slice Try.underlying28 (by kernel_rfl) (Open.opens_int Try.underlying5 (by kernel_rfl)))))).2 _ _ _ hf
    simp [Value.cells] at e1
    obtain ⟨rfl, rfl, rfl⟩ := e1
    refine ⟨l.map fun r => r.map fun p => (⟨p.1, p.2⟩ : PWb.S31), by rw [List.length_map]; exact Open.C4o e3, ⟨by rw [List.length_map], by rw [List.length_map]; exact e2⟩, by rw [List.length_map]; exact g2, fun x hx => ?_⟩
    obtain ⟨y, hy, rfl⟩ := List.mem_map.1 hx
    rw [List.length_map]; exact (g1 y hy).2
  obtain ⟨rfl, le0⟩ := le0
  clear hA0 hval0 hsz0
  refine (Iv.last_calls A0 c0 l0 W C0 le0 (by unfold maxLen at ml0; exact ml0) (fun x hx => by have := mx0 x hx; unfold maxLen at this; exact this)).mono fun e W' ⟨he, bel⟩ => ?_
  subst he
  exact ⟨_, rfl, _, _, _, [], _, [], hW', trodAll_mk1 (shut_bool Try.underlying4 _), (trodAll_cons_mk (Below.trod laidOut (by kernel_rfl) (of_decide_eq_true (by kernel_rfl)) k0 bel lt0) trodAll_mk0), rfl, bel.frame _, fun h => by cases h⟩
theorem over : Rows.wbufLastRow.holds Try.pinned (OpenSpec.ofChange Rows.wbufLastSpec) :=
  OpenClaim.holds_of_wide 5 Try.f5 rfl rfl rfl rfl rfl rfl rfl ⟨rfl, rfl, rfl, rfl, rfl⟩ rfl rfl rfl rfl rfl (by kernel_rfl) Try.func5 (by kernel_rfl)
    (of_decide_eq_true (by kernel_rfl)) (by unfold Func.isWrapper; first | (rw [if_pos (by decide +kernel)]; kernel_rfl) | (rw [if_neg (by decide +kernel)]; exact ⟨rfl, rfl⟩))
    (fun os started H enc _ => lifted os started H enc)
theorem proved : Rows.WbufLastSaid := over
#print axioms proved
end Go.Proofs.Ytbebihphodafiaa.wbufLast
namespace Go.Proofs.Ytbebihphodafiaa
/-- The row, under a short name, for the claim. -/
theorem wbufLast_holds : Rows.WbufLastSaid := wbufLast.proved
end Go.Proofs.Ytbebihphodafiaa
