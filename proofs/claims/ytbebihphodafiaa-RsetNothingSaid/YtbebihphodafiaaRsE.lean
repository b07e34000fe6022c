/- Walk of a view's Read. -/
import Derived.Test.YtbebihphodafiaaProg
import Derived.Below
import Derived.Deep.Draws
import Derived.Deep.AppendLies
import Derived.Maps.AppendAt
import Derived.OwnWalk
import Derived.Laws.BytesArg
import Derived.Laws.MakeOwn
import Derived.Laws.OwnMore
import Derived.Deep.OwnRows
import Derived.Tactics
import Derived.Lib.ConvBytes
import Derived.Laws.Slices
import Derived.WalkKit
import Derived.KernelRfl
import Derived.RowKit3
import Derived.Deep.LoopGhost
import Derived.Deep.QuietTactic
import Derived.BigQuiet
import Derived.WideLaws
import Derived.Deep.DeepCutAuto
import Derived.Deep.CutBlock
import Derived.Deep.RegionHeld3
import Derived.Laws.Rows
import Derived.Lib.AppendStr
import Derived.ArgAppend
import Derived.Laws.IdiomCopy
import Derived.OrdersHeld
import Derived.Laws.BitsLemmas
import Derived.RowKit
import Derived.Test.YtbebihphodafiaaWWords
import Derived.Test.YtbebihphodafiaaWLast
import Derived.Test.YtbebihphodafiaaWTab
import Derived.Test.YtbebihphodafiaaWFour
import Derived.Test.YtbebihphodafiaaWQPut
import Derived.Test.YtbebihphodafiaaWApart
import Derived.Test.YtbebihphodafiaaWArr
import Derived.Test.YtbebihphodafiaaWZeros
import Derived.Test.YtbebihphodafiaaWFoot
import Derived.Test.YtbebihphodafiaaWKept
import Derived.Test.YtbebihphodafiaaWShare
import Derived.Test.YtbebihphodafiaaWN
import Derived.Test.YtbebihphodafiaaWFootNe
import Derived.Test.YtbebihphodafiaaWAt
import Derived.Test.YtbebihphodafiaaWEqStruct
import Derived.Test.YtbebihphodafiaaWRepsOne
import Derived.Test.YtbebihphodafiaaWInv
import Derived.Test.YtbebihphodafiaaWInvWords
import Derived.Test.YtbebihphodafiaaWGuard
import Derived.Test.YtbebihphodafiaaWNEv
import Derived.Test.YtbebihphodafiaaWMore
import Derived.Outline
import Derived.Lib.Hide
import Derived.Deep.DeepMust
import Derived.Deep.RegionHeld3
import Derived.StillTailTactics
import Derived.IntWalk
import Derived.Test.YtbebihphodafiaaRsD
namespace Go.Proofs.Ytbebihphodafiaa.Iv
open Go.RowKit Go.Proofs.YtbebihphodafiaaW.PrintWords Go.Proofs.YtbebihphodafiaaW.PrintLast Go.Proofs.YtbebihphodafiaaW.PrintMore Go.Proofs.Ytbebihphodafiaa.PWb Go.Maps
set_option linter.unusedVariables false
set_option linter.unusedSimpArgs false

theorem info77 : (Try.prog.info? 77).map (fun i => (i.zero, i.size, i.bytes)) = some (some (.agg #[.int .i64 0, .slice none 0 0, .bool false]), 3, 40) := by kernel_rfl
section
variable {ops : Array Oper} {rest : List Oper} {o : Oper} {a : Act} {Q : Exit → Act → World → Prop}
/-- append(v, one read). -/
theorem app_read {W : World} (base : Nat) (ok : Nat → Prop) (hgd : o.guard = none) (s x : Operand)
    (ho : o.op = .call { callee := .builtin .append, args := #[s, x], argTypes := #[73, 73] })
    (v : Value) (xs : List S77) (p : S77) (u : Value) (hs : a.eval s = v) (hx : a.eval x = .slice (some ⟨W.heap.size, 0, none⟩) 1 1)
    (hp : Kd.R kb 5 W base (fun k => ok k ∧ some k ≠ v.ownBlock) u p.f1) (HO : Kd.R k77 77 W base ok v xs)
    (hbase : base ≤ W.heap.size) (hfresh : ∀ k, W.heap.size ≤ k → ok k) (hl : (xs.length + 1) * 40 ≤ 140737488355328)
    (h : ∀ v1 w1, Kd.R k77 77 w1 base ok v1 (xs ++ [p]) → W.grownBy w1 v.ownBlock → wpList Try.prog ops Q rest (a.put o.dst v1) w1) :
    wpList Try.prog ops Q (o :: rest) a (W.alloc (.cells #[.int .i64 p.f0, u, .bool p.f2] 77)) :=
  Kd.R_append k77 (w0 := W) base hgd s x 73 77 (.agg #[.int .i64 0, .slice none 0 0, .bool false]) 40 ho Try.underlying73 info77 rfl (by decide) (by decide) v xs p [.int .i64 p.f0, u, .bool p.f2] ok (fun k => ok k ∧ some k ≠ v.ownBlock) hs hx (k77_mkM W base _ p hp) (fun _ h => h) hfresh HO (Below.refl _ _) hbase hl
    (fun v1 w1 h1 _ h3 _ => h v1 w1 h1 h3)
/-- The same at a step of a region that draws its order. -/
theorem app_read_step {W : World} {Kc : Act → World → Prop} (base : Nat) (ok : Nat → Prop) (hw : Region.wanted o (yielded ops a.tmps) = true) (s x : Operand)
    (ho : o.op = .call { callee := .builtin .append, args := #[s, x], argTypes := #[73, 73] })
    (v : Value) (xs : List S77) (p : S77) (u : Value) (hs : a.eval s = v) (hx : a.eval x = .slice (some ⟨W.heap.size, 0, none⟩) 1 1)
    (hp : Kd.R kb 5 W base (fun k => ok k ∧ some k ≠ v.ownBlock) u p.f1) (HO : Kd.R k77 77 W base ok v xs)
    (hbase : base ≤ W.heap.size) (hfresh : ∀ k, W.heap.size ≤ k → ok k) (hl : (xs.length + 1) * 40 ≤ 140737488355328)
    (h : ∀ v1 w1, Kd.R k77 77 w1 base ok v1 (xs ++ [p]) → W.grownBy w1 v.ownBlock → Kc (a.put o.dst v1) w1) :
    if Region.wanted o (yielded ops a.tmps) = true then Oper.wp Try.prog o a (W.alloc (.cells #[.int .i64 p.f0, u, .bool p.f2] 77)) Kc Q else Kc (a.put o.dst undef) (W.alloc (.cells #[.int .i64 p.f0, u, .bool p.f2] 77)) :=
  Kd.R_append_step k77 (w0 := W) base hw s x 73 77 (.agg #[.int .i64 0, .slice none 0 0, .bool false]) 40 ho Try.underlying73 info77 rfl (by decide) (by decide) v xs p [.int .i64 p.f0, u, .bool p.f2] ok (fun k => ok k ∧ some k ≠ v.ownBlock) hs hx (k77_mkM W base _ p hp) (fun _ h => h) hfresh HO (Below.refl _ _) hbase hl
    (fun v1 w1 h1 _ h3 _ => h v1 w1 h1 h3)
/-- copy(v[lo:lo+m], ys). -/
theorem cp_mid {W : World} {base g lo cap cap2 m c : Nat} {ok : Nat → Prop} {xs ys : List Int} {A : Option Addr} (hgd : o.guard = none) (s x : Operand)
    (ho : o.op = .call { callee := .builtin .copy, args := #[s, x], argTypes := #[28, 28] }) (hs : a.eval s = .slice (some ⟨g, lo, none⟩) m cap2) (hx : a.eval x = .slice A m c)
    (HO : Kd.R kb 5 W base ok (.slice (some ⟨g, 0, none⟩) xs.length cap) xs) (HR : Kd.C kb W A m ys) (hm0 : 0 < m) (hlo : lo + m ≤ xs.length)
    (h : ∀ w1, Kd.R kb 5 w1 base ok (.slice (some ⟨g, 0, none⟩) xs.length cap) (xs.take lo ++ ys ++ xs.drop (lo + m)) → W.grownBy w1 (some g) → wpList Try.prog ops Q rest (a.put o.dst (.int .i64 (m : Int))) w1) :
    wpList Try.prog ops Q (o :: rest) a W := by
  obtain ⟨w1, hr, h1, h2⟩ := copy_mid (P := Try.prog) (ty := o.type) (cap2 := cap2) (c := c) Try.underlying28 (by kernel_rfl) HO HR hm0 hlo
  refine wpList_plain hgd fun K hK => ?_
  unfold Oper.wp execOp
  simp only [ho, resolve, invoke, builtin, Sem.run_bind, Sem.run_pure, Result.andThen_ok, List.map_toArray, List.map_cons, List.map_nil, hs, hx, hr]
  exact hK _ _ (h w1 h1 h2)
end
/-- out[lo:hi]. -/
theorem cut_out (g N cap lo hi : Nat) (h1 : lo < hi) (h2 : hi ≤ N) (hc : N ≤ cap) : ∀ W : World, (Instr.slice 28 (.slice (some ⟨g, 0, none⟩) N cap) (some (.int .i64 (lo : Int))) (some (.int .i64 (hi : Int))) none).run Try.prog W = .ok (.slice (some ⟨g, lo, none⟩) (hi - lo) (cap - lo)) W := by
  intro W
  obtain ⟨i, hi1, hi2⟩ := Option.map_eq_some_iff.1 info5
  simp only [Prod.mk.injEq] at hi2
  have := cut_mid (P := Try.prog) 28 5 .i64 .i64 Try.underlying28 hi1 1 hi2.2.1 (some ⟨g, 0, none⟩) N cap (lo : Int) (hi : Int) (by omega) (by omega) (by omega) hc W
  rw [this]
  have hne : ¬ cap = lo := by omega
  simp [hne, add_plain]
theorem inE_may {blocks : Int} {e : S60} (h : inE blocks e = true) (hb : 1 ≤ blocks ∧ blocks ≤ 1048576) : mayB e = true := by
  obtain ⟨h0, h1, h2, h3⟩ := (inE_iff blocks e).1 h
  exact (mayB_iff e).2 ⟨h0, by omega, h1, by omega, by omega⟩
end Go.Proofs.Ytbebihphodafiaa.Iv
