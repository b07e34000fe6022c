/- What a buffer of writes is in memory: its box, its map, the rows of bytes behind the map; what is read of it, and what a write leaves of it. -/
import Derived.Test.YtbebihphodafiaaProg
import Derived.Below
import Derived.Deep.Draws
import Derived.Deep.AppendLies
import Derived.Maps.AppendAt
import Derived.OwnWalk
import Derived.Laws.BytesArg
import Derived.Laws.MakeOwn
import Derived.Laws.OwnMore
import Derived.Deep.OwnRows
import Derived.Tactics
import Derived.Lib.ConvBytes
import Derived.Laws.Slices
import Derived.WalkKit
import Derived.KernelRfl
import Derived.RowKit3
import Derived.Deep.LoopGhost
import Derived.Deep.QuietTactic
import Derived.BigQuiet
import Derived.WideLaws
import Derived.Deep.DeepCutAuto
import Derived.Deep.CutBlock
import Derived.Deep.RegionHeld3
import Derived.Laws.Rows
import Derived.Lib.AppendStr
import Derived.ArgAppend
import Derived.Laws.IdiomCopy
import Derived.OrdersHeld
import Derived.Laws.BitsLemmas
import Derived.RowKit
import Derived.Test.YtbebihphodafiaaWWords
import Derived.Test.YtbebihphodafiaaWLast
import Derived.Test.YtbebihphodafiaaWTab
import Derived.Test.YtbebihphodafiaaWFour
import Derived.Test.YtbebihphodafiaaWQPut
import Derived.Test.YtbebihphodafiaaWApart
import Derived.Test.YtbebihphodafiaaWArr
import Derived.Test.YtbebihphodafiaaWZeros
import Derived.Test.YtbebihphodafiaaWFoot
import Derived.Test.YtbebihphodafiaaWKept
import Derived.Test.YtbebihphodafiaaWShare
import Derived.Test.YtbebihphodafiaaWN
import Derived.Test.YtbebihphodafiaaWFootNe
import Derived.Test.YtbebihphodafiaaWAt
import Derived.Test.YtbebihphodafiaaWEqStruct
import Derived.Test.YtbebihphodafiaaWRepsOne
import Derived.Test.YtbebihphodafiaaWInv
import Derived.Test.YtbebihphodafiaaWInvWords
import Derived.Test.YtbebihphodafiaaWGuard
import Derived.Test.YtbebihphodafiaaWNEv
import Derived.Test.YtbebihphodafiaaWMore
import Derived.Lib.Hide
import Derived.Test.YtbebihphodafiaaWbA
namespace Go.Proofs.Ytbebihphodafiaa.Iv
open Go.RowKit Go.Proofs.YtbebihphodafiaaW.PrintWords Go.Proofs.YtbebihphodafiaaW.PrintLast Go.Proofs.YtbebihphodafiaaW.PrintMore Go.Proofs.Ytbebihphodafiaa.PWb Go.Maps
set_option linter.unusedVariables false
set_option linter.unusedSimpArgs false

abbrev ky (x : Int) : Lit := .int .i64 x
def Rh (v : Value) : Option (DataW Value × List MemPlace) := some (.held v, [])
theorem law3 : Keyed Try.prog 3 := int_keyed Try.underlying3
theorem zero28 (w : World) : (zeroValue 28).run Try.prog w = .ok (.slice none 0 0) w := by kernel_rfl
theorem ky_key (x : Int) : WideAt.IsKeyLit (ky x) := trivial
theorem ky_inj {x y : Int} (h : x ≠ y) : ky x ≠ ky y := fun e => h (by injection e)
theorem wf_small (x : Int) (h0 : 0 ≤ x) (h1 : x < 9223372036854775808) : (Lit.int .i64 x).wf = true := WalkArith.wf_i64 (by omega)
theorem tight {W : World} {P : Program} {k : TypeId} {R : Value → Option (DataW Value × List MemPlace)} {b n : Nat} {D : DataW Value} (h : W.ownsMap P k R b n D) : W.ownsMap P k R b (size D) D := by
  obtain ⟨es, clock, hb, F, hs, hD⟩ := h
  refine ⟨es, clock, hb, F, ?_, hD⟩
  rw [hD, size_eq, length_sorted]
  simp
theorem tidy_of {W : World} {b n : Nat} {D : DataW Value} (h : W.ownsMap Try.prog 3 Rh b n D) : Tidy D := by
  obtain ⟨es, e, h1, _⟩ := h.canon law3
  exact ⟨es, e, apart_of_rising h1⟩
/-! ### writes by their blocks, rising -/
def Rise (M : List S31) : Prop := M.Pairwise (fun a b => a.f0 < b.f0)
def ins : List S31 → S31 → List S31
  | [], x => [x]
  | y :: r, x => if x.f0 < y.f0 then x :: y :: r else if x.f0 = y.f0 then x :: r else y :: ins r x
def hasM (M : List S31) (x : Int) : Bool := M.any (fun p => decide (p.f0 = x))
def lookM (M : List S31) (x : Int) : List Int := ((M.find? (fun p => decide (p.f0 = x))).map (·.f1)).getD []
theorem hasM_iff (M : List S31) (x : Int) : hasM M x = true ↔ ∃ p ∈ M, p.f0 = x := by
  simp [hasM]
theorem hasM_false (M : List S31) (x : Int) : hasM M x = false ↔ ∀ p ∈ M, p.f0 ≠ x := by
  simp [hasM]
theorem lookM_none (M : List S31) (x : Int) (h : hasM M x = false) : lookM M x = [] := by
  unfold lookM
  rw [List.find?_eq_none.2 (by simpa using (hasM_false M x).1 h)]
  rfl
theorem rise_inj {M : List S31} (h : Rise M) {p q : S31} (hp : p ∈ M) (hq : q ∈ M) (e : p.f0 = q.f0) : p = q := by
  obtain ⟨i, hi, rfl⟩ := List.getElem_of_mem hp
  obtain ⟨j, hj, rfl⟩ := List.getElem_of_mem hq
  have h2 := List.pairwise_iff_getElem.1 h
  rcases Nat.lt_trichotomy i j with h1 | h1 | h1
  · have := h2 i j hi hj h1; omega
  · subst h1; rfl
  · have := h2 j i hj hi h1; omega
theorem lookM_mem {M : List S31} (h : Rise M) {p : S31} (hp : p ∈ M) : lookM M p.f0 = p.f1 := by
  unfold lookM
  cases he : M.find? (fun q => decide (q.f0 = p.f0)) with
  | none => exact absurd (List.find?_eq_none.1 he p hp) (by simp)
  | some q =>
    have h1 := List.mem_of_find?_eq_some he
    have h2 := List.find?_some he
    have := rise_inj h h1 hp (by simpa using h2)
    subst this
    rfl
theorem ins_mem : ∀ (M : List S31) (x : S31), Rise M → ∀ p, p ∈ ins M x ↔ p = x ∨ (p ∈ M ∧ p.f0 ≠ x.f0) := by
  intro M
  induction M with
  | nil => intro x _ p; simp [ins]
  | cons y r ih =>
    intro x h p
    obtain ⟨h1, h2⟩ := List.pairwise_cons.1 h
    unfold ins
    split
    · rename_i hlt
      simp only [List.mem_cons]
      constructor
      · rintro (h3 | h3 | h3)
        · exact .inl h3
        · subst h3; exact .inr ⟨.inl rfl, by omega⟩
        · exact .inr ⟨.inr h3, by have := h1 p h3; omega⟩
      · rintro (h3 | ⟨h3, _⟩)
        · exact .inl h3
        · exact .inr h3
    · split
      · rename_i _ he
        simp only [List.mem_cons]
        constructor
        · rintro (h3 | h3)
          · exact .inl h3
          · exact .inr ⟨.inr h3, by have := h1 p h3; omega⟩
        · rintro (h3 | ⟨h3 | h3, h4⟩)
          · exact .inl h3
          · subst h3; exact absurd he.symm h4
          · exact .inr h3
      · rename_i hn he
        simp only [List.mem_cons, ih x h2 p]
        constructor
        · rintro (h3 | h3 | h3)
          · subst h3; exact .inr ⟨.inl rfl, by omega⟩
          · exact .inl h3
          · exact .inr ⟨.inr h3.1, h3.2⟩
        · rintro (h3 | ⟨h3 | h3, h4⟩)
          · exact .inr (.inl h3)
          · exact .inl h3
          · exact .inr (.inr ⟨h3, h4⟩)
theorem ins_rise : ∀ (M : List S31) (x : S31), Rise M → Rise (ins M x) := by
  intro M
  induction M with
  | nil => intro x _; exact List.pairwise_singleton _ _
  | cons y r ih =>
    intro x h
    obtain ⟨h1, h2⟩ := List.pairwise_cons.1 h
    unfold ins
    split
    · rename_i hlt
      refine List.pairwise_cons.2 ⟨fun p hp => ?_, h⟩
      rcases List.mem_cons.1 hp with rfl | hp
      · exact hlt
      · have := h1 p hp; omega
    · split
      · rename_i _ he
        exact List.pairwise_cons.2 ⟨fun p hp => by have := h1 p hp; omega, h2⟩
      · rename_i hn he
        refine List.pairwise_cons.2 ⟨fun p hp => ?_, ih x h2⟩
        rcases (ins_mem r x h2 p).1 hp with rfl | hp
        · omega
        · exact h1 p hp.1
theorem ins_len : ∀ (M : List S31) (x : S31), Rise M → (ins M x).length = if hasM M x.f0 = true then M.length else M.length + 1 := by
  intro M
  induction M with
  | nil => intro x _; simp [ins, hasM]
  | cons y r ih =>
    intro x h
    obtain ⟨h1, h2⟩ := List.pairwise_cons.1 h
    unfold ins
    split
    · rename_i hlt
      have : hasM (y :: r) x.f0 = false := (hasM_false _ _).2 (fun p hp => by
        rcases List.mem_cons.1 hp with rfl | hp
        · omega
        · have := h1 p hp; omega)
      rw [this]; simp
    · split
      · rename_i _ he
        have : hasM (y :: r) x.f0 = true := (hasM_iff _ _).2 ⟨y, by simp, he.symm⟩
        rw [this]; simp
      · rename_i hn he
        have : hasM (y :: r) x.f0 = hasM r x.f0 := by
          unfold hasM; rw [List.any_cons, decide_eq_false (fun e => he e.symm), Bool.false_or]
        rw [this, List.length_cons, ih x h2]
        split <;> simp
/-- Rising, from 0 on, below a number: so many at most. -/
theorem rise_len : ∀ (M : List S31) (a b : Int), Rise M → (∀ p ∈ M, a ≤ p.f0 ∧ p.f0 < b) → a ≤ b → (M.length : Int) ≤ b - a := by
  intro M
  induction M with
  | nil => intro a b _ _ h; simp; omega
  | cons y r ih =>
    intro a b h hb hab
    obtain ⟨h1, h2⟩ := List.pairwise_cons.1 h
    have hy := hb y (by simp)
    have := ih (y.f0 + 1) b h2 (fun p hp => ⟨by have := h1 p hp; omega, (hb p (by simp [hp])).2⟩) (by omega)
    simp only [List.length_cons]
    omega
/-! ### the buffer -/
theorem lt_of_some {α : Type} {a : Array α} {i : Nat} {x : α} (h : a[i]? = some x) : i < a.size := by
  obtain ⟨h, _⟩ := Array.getElem?_eq_some_iff.1 h
  exact h
def Held (W : World) (fr : Nat) (D : DataW Value) (p : S31) : Prop :=
  ∃ g c, has D (ky p.f0) = true ∧ (∀ z, D.atKey (ky p.f0) z = .held (.slice (some ⟨g, 0, none⟩) p.f1.length c)) ∧ p.f1.length ≤ c ∧ Kd.C kb W (some ⟨g, 0, none⟩) p.f1.length p.f1 ∧ fr ≤ g ∧ ∃ cells, W.heap[g]? = some (.cells cells 5 (0, 0))
structure IsBuf (W : World) (fr mb : Nat) (blocks most : Int) (M : List S31) : Prop where
  lt : mb + 1 < fr
  c0 : W.cell? ⟨mb + 1, 0, none⟩ = some (.int .i64 blocks)
  c1 : W.cell? ⟨mb + 1, 1, none⟩ = some (.int .i64 most)
  c2 : W.cell? ⟨mb + 1, 2, none⟩ = some (.map (some mb))
  map : ∃ D, W.ownsMap Try.prog 3 Rh mb M.length D ∧ size D = M.length ∧ (∀ x, hasM M x = false → has D (ky x) = false) ∧ ∀ p ∈ M, Held W fr D p
  srt : Rise M
  rng : ∀ p ∈ M, 0 ≤ p.f0 ∧ p.f0 < blocks ∧ p.f1.length = 40
  bl : 1 ≤ blocks ∧ blocks ≤ 1048576
theorem IsBuf.len {W : World} {fr mb : Nat} {blocks most : Int} {M : List S31} (h : IsBuf W fr mb blocks most M) : M.length ≤ 1048576 := by
  have := rise_len M 0 blocks h.srt (fun p hp => ⟨(h.rng p hp).1, (h.rng p hp).2.1⟩) (by have := h.bl; omega)
  have := h.bl
  omega
theorem addr_block (ad : Addr) (m : Nat) : (ad.add m).block = ad.block := by unfold Addr.add; split <;> rfl
/-- A row of bytes stays where no cell of it is written. -/
theorem Cb_grown {W W' : World} {row : Option Nat} {A : Option Addr} {n : Nat} {l : List Int} (h : Kd.C kb W A n l) (hg : W.grownBy W' row) (hA : ∀ x, A = some x → some x.block ≠ row) : Kd.C kb W' A n l := by
  refine ⟨h.1, h.2.1, fun hp => ?_⟩
  obtain ⟨ad, he, hc⟩ := h.2.2 hp
  refine ⟨ad, he, fun j p hj => ?_⟩
  obtain ⟨cs, c1, c2, c3⟩ := hc j p hj
  exact ⟨cs, c1, c2, fun i u hu => hg.cell (c3 i u hu) (by rw [addr_block]; exact hA ad he)⟩
theorem grown_trans {W W1 W2 : World} {row : Option Nat} (h : W.grownBy W1 row) (k : W1.grownBy W2 row) : W.grownBy W2 row :=
  ⟨k.os.trans h.os, k.tape.trans h.tape, k.output.trans h.output, Nat.le_trans h.size k.size, fun i hi hr => (k.block i (Nat.lt_of_lt_of_le hi h.size) hr).trans (h.block i hi hr)⟩
theorem IsBuf.grown {W W' : World} {fr mb : Nat} {blocks most : Int} {M : List S31} (h : IsBuf W fr mb blocks most M) {row : Option Nat} (hg : W.grownBy W' row) (hr : ∀ k, row = some k → k < fr ∧ k ≠ mb ∧ k ≠ mb + 1) : IsBuf W' fr mb blocks most M := by
  have h1 : some (mb + 1) ≠ row := fun e => (hr _ e.symm).2.2 rfl
  have h2 : some mb ≠ row := fun e => (hr _ e.symm).2.1 rfl
  obtain ⟨D, d1, d2, d3, d4⟩ := h.map
  refine ⟨h.lt, hg.cell h.c0 h1, hg.cell h.c1 h1, hg.cell h.c2 h1, ⟨D, d1.kept hg h2, d2, d3, fun p hp => ?_⟩, h.srt, h.rng, h.bl⟩
  obtain ⟨g, c, e1, e2, e3, e4, e5, cells, e6⟩ := d4 p hp
  exact ⟨g, c, e1, e2, e3, Cb_grown e4 hg (fun x hx hk => by cases hx; have := (hr _ hk.symm).1; simp only at this; omega), e5, cells,
    (hg.block g (lt_of_some e6) (fun hk => by have := (hr _ hk.symm).1; omega)).trans e6⟩
/-- What is written to a row of another type changes nothing. -/
theorem IsBuf.grown2 {W W' : World} {fr mb : Nat} {blocks most : Int} {M : List S31} (h : IsBuf W fr mb blocks most M) {row : Option Nat} (hg : W.grownBy W' row) (hr : ∀ k, row = some k → k ≠ mb ∧ k ≠ mb + 1 ∧ (k < fr ∨ ∃ cells t, t ≠ 5 ∧ W.heap[k]? = some (.cells cells t (0, 0)))) : IsBuf W' fr mb blocks most M := by
  have h1 : some (mb + 1) ≠ row := fun e => (hr _ e.symm).2.1 rfl
  have h2 : some mb ≠ row := fun e => (hr _ e.symm).1 rfl
  obtain ⟨D, d1, d2, d3, d4⟩ := h.map
  refine ⟨h.lt, hg.cell h.c0 h1, hg.cell h.c1 h1, hg.cell h.c2 h1, ⟨D, d1.kept hg h2, d2, d3, fun p hp => ?_⟩, h.srt, h.rng, h.bl⟩
  obtain ⟨g, c, e1, e2, e3, e4, e5, cells, e6⟩ := d4 p hp
  have hne : some g ≠ row := fun hk => by
    rcases (hr _ hk.symm).2.2 with h5 | ⟨cs, t, h6, h7⟩
    · omega
    · rw [e6] at h7; injection h7 with h7; injection h7 with _ h7; exact h6 h7.symm
  exact ⟨g, c, e1, e2, e3, Cb_grown e4 hg (fun x hx => by cases hx; exact hne), e5, cells, (hg.block g (lt_of_some e6) hne).trans e6⟩
theorem IsBuf.below {W W' : World} {fr mb : Nat} {blocks most : Int} {M : List S31} (h : IsBuf W fr mb blocks most M) (hb : RowKit.Below W.heap.size W W') : IsBuf W' fr mb blocks most M :=
  h.grown (grown_of_below hb none) (fun k hk => by cases hk)
/-- What is read of it. -/
theorem IsBuf.look {W : World} {fr mb : Nat} {blocks most : Int} {M : List S31} (h : IsBuf W fr mb blocks most M) (x : Int) (hx : (Lit.int .i64 x).wf = true) (b : Bool) :
    ∃ A c, (∀ W' : World, W'.heap[mb]? = W.heap[mb]? → (Instr.lookup 99 (.map (some mb)) (.int .i64 x) b).run Try.prog W' = .ok (if b = true then .tuple #[.slice A (lookM M x).length c, .bool (hasM M x)] else .slice A (lookM M x).length c) W') ∧ (lookM M x).length ≤ c ∧ Kd.C kb W A (lookM M x).length (lookM M x) := by
  obtain ⟨D, d1, d2, d3, d4⟩ := h.map
  have key : keyOf Try.prog 3 (.int .i64 x) = some (ky x) := keyOf_int_mk Try.underlying3 hx
  have hz : Rh (.slice none 0 0) = some (.held (.slice none 0 0), []) := rfl
  have hh : has D (ky x) = hasM M x := by
    cases hm : hasM M x with
    | false => exact d3 x hm
    | true =>
      obtain ⟨p, hp, rfl⟩ := (hasM_iff M x).1 hm
      obtain ⟨g, c, e1, _⟩ := d4 p hp
      exact e1
  have hv : ∃ A c, D.atKey (ky x) (.held (.slice none 0 0)) = .held (.slice A (lookM M x).length c) ∧ (lookM M x).length ≤ c ∧ Kd.C kb W A (lookM M x).length (lookM M x) := by
    cases hm : hasM M x with
    | false =>
      refine ⟨none, 0, ?_, ?_, ?_⟩
      · rw [atKey_of_not_has (d3 x hm), lookM_none M x hm]; rfl
      · rw [lookM_none M x hm]; exact Nat.le_refl _
      · rw [lookM_none M x hm]; exact Kd.C_nil _ _
    | true =>
      obtain ⟨p, hp, rfl⟩ := (hasM_iff M x).1 hm
      obtain ⟨g, c, _, e2, e3, e4, _⟩ := d4 p hp
      rw [lookM_mem h.srt hp]
      exact ⟨_, c, e2 _, e3, e4⟩
  obtain ⟨A, c, v1, v2, v3⟩ := hv
  refine ⟨A, c, fun W' hW' => ?_, v2, v3⟩
  replace d1 : W'.ownsMap Try.prog 3 Rh mb M.length D := by
    obtain ⟨es, clock, hb, r⟩ := d1
    exact ⟨es, clock, hW'.trans hb, r⟩
  cases b with
  | true =>
    obtain ⟨v, ps, hrun, hR⟩ := d1.look_ok law3 Try.underlying99 (zero28 W') hz key
    rw [hrun, hh]
    have : v = .slice A (lookM M x).length c ∧ ps = [] := by
      rw [v1] at hR
      simpa [Rh] using hR
    rw [this.1]; rfl
  | false =>
    obtain ⟨v, ps, hrun, hR⟩ := d1.lookup law3 Try.underlying99 (zero28 W') hz key
    rw [hrun]
    have : v = .slice A (lookM M x).length c ∧ ps = [] := by
      rw [v1] at hR
      simpa [Rh] using hR
    rw [this.1]; rfl
/-- A write. -/
theorem IsBuf.put {W1 W2 : World} {fr mb : Nat} {blocks most : Int} {M : List S31} {D : DataW Value} {x : S31} {g c : Nat} (h : IsBuf W1 fr mb blocks most M)
    (hD : W1.ownsMap Try.prog 3 Rh mb M.length D) (hs : size D = M.length) (hn : ∀ y, hasM M y = false → has D (ky y) = false) (hh : ∀ p ∈ M, Held W1 fr D p)
    (hm : W2.ownsMap Try.prog 3 Rh mb (M.length + 1) (D.put (ky x.f0) (.held (.slice (some ⟨g, 0, none⟩) x.f1.length c)))) (hg : W1.grownBy W2 (some mb))
    (hx : 0 ≤ x.f0 ∧ x.f0 < blocks ∧ x.f1.length = 40) (hc : x.f1.length ≤ c) (hC : Kd.C kb W1 (some ⟨g, 0, none⟩) x.f1.length x.f1) (hfr : fr ≤ g) (hty : ∃ cells, W1.heap[g]? = some (.cells cells 5 (0, 0))) :
    IsBuf W2 fr mb blocks most (ins M x) := by
  have hlt := h.lt
  have h1 : some (mb + 1) ≠ some mb := by simp
  have hT := tidy_of hD
  have hgm : ∀ y : Addr, (some (⟨g, 0, none⟩ : Addr)) = some y → some y.block ≠ some mb := by
    intro y hy e; cases hy; simp at e; omega
  have hs2 : size (D.put (ky x.f0) (.held (.slice (some ⟨g, 0, none⟩) x.f1.length c))) = (ins M x).length := by
    rw [size_put hT, hs, ins_len M x h.srt]
    cases hm0 : hasM M x.f0 with
    | false => rw [hn _ hm0]
    | true =>
      obtain ⟨p, hp, e⟩ := (hasM_iff M _).1 hm0
      obtain ⟨_, _, e1, _⟩ := hh p hp
      rw [← e, e1]
  refine ⟨h.lt, hg.cell h.c0 h1, hg.cell h.c1 h1, hg.cell h.c2 h1, ⟨_, by rw [← hs2]; exact tight hm, hs2, fun y hy => ?_, fun p hp => ?_⟩, ins_rise M x h.srt, fun p hp => ?_, h.bl⟩
  · have hy' := (hasM_false _ _).1 hy
    have hne : x.f0 ≠ y := hy' x ((ins_mem M x h.srt x).2 (.inl rfl))
    rw [has_put_other (ky_inj (Ne.symm hne))]
    refine hn y ((hasM_false _ _).2 (fun p hp => ?_))
    by_cases e : p.f0 = x.f0
    · rw [e]; exact hne
    · exact hy' p ((ins_mem M x h.srt p).2 (.inr ⟨hp, e⟩))
  · rcases (ins_mem M x h.srt p).1 hp with rfl | ⟨hp, hne⟩
    · exact ⟨g, c, has_put_same hT.isMap (ky_key _) _, fun z => atKey_put_same hT.isMap (ky_key _) _ _, hc, Cb_grown hC hg hgm, hfr, hty.elim fun cells e6 => ⟨cells, (hg.block g (lt_of_some e6) (hgm _ rfl)).trans e6⟩⟩
    · obtain ⟨g', c', e1, e2, e3, e4, e5, cells, e6⟩ := hh p hp
      refine ⟨g', c', by rw [has_put_other (ky_inj hne)]; exact e1, fun z => by rw [atKey_put_other (ky_inj hne)]; exact e2 z, e3, Cb_grown e4 hg ?_, e5, cells, (hg.block g' (lt_of_some e6) (fun hk => by injection hk with hk; omega)).trans e6⟩
      intro y hy e; cases hy; simp at e; omega
  · rcases (ins_mem M x h.srt p).1 hp with rfl | ⟨hp, _⟩
    · exact hx
    · exact h.rng p hp
end Go.Proofs.Ytbebihphodafiaa.Iv
