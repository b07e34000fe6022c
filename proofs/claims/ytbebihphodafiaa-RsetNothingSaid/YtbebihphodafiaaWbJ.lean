/- How much is looked at, told; two rows of writes held against each other; what a row of writes comes to, in whatever order and parts. -/
import Derived.Test.YtbebihphodafiaaProg
import Derived.Below
import Derived.Deep.Draws
import Derived.Deep.AppendLies
import Derived.Maps.AppendAt
import Derived.OwnWalk
import Derived.Laws.BytesArg
import Derived.Laws.MakeOwn
import Derived.Laws.OwnMore
import Derived.Deep.OwnRows
import Derived.Tactics
import Derived.Lib.ConvBytes
import Derived.Laws.Slices
import Derived.WalkKit
import Derived.KernelRfl
import Derived.RowKit3
import Derived.Deep.LoopGhost
import Derived.Deep.QuietTactic
import Derived.BigQuiet
import Derived.WideLaws
import Derived.Deep.DeepCutAuto
import Derived.Deep.CutBlock
import Derived.Deep.RegionHeld3
import Derived.Laws.Rows
import Derived.Lib.AppendStr
import Derived.ArgAppend
import Derived.Laws.IdiomCopy
import Derived.OrdersHeld
import Derived.Laws.BitsLemmas
import Derived.RowKit
import Derived.Test.YtbebihphodafiaaWWords
import Derived.Test.YtbebihphodafiaaWLast
import Derived.Test.YtbebihphodafiaaWTab
import Derived.Test.YtbebihphodafiaaWFour
import Derived.Test.YtbebihphodafiaaWQPut
import Derived.Test.YtbebihphodafiaaWApart
import Derived.Test.YtbebihphodafiaaWArr
import Derived.Test.YtbebihphodafiaaWZeros
import Derived.Test.YtbebihphodafiaaWFoot
import Derived.Test.YtbebihphodafiaaWKept
import Derived.Test.YtbebihphodafiaaWShare
import Derived.Test.YtbebihphodafiaaWN
import Derived.Test.YtbebihphodafiaaWFootNe
import Derived.Test.YtbebihphodafiaaWAt
import Derived.Test.YtbebihphodafiaaWEqStruct
import Derived.Test.YtbebihphodafiaaWRepsOne
import Derived.Test.YtbebihphodafiaaWInv
import Derived.Test.YtbebihphodafiaaWInvWords
import Derived.Test.YtbebihphodafiaaWGuard
import Derived.Test.YtbebihphodafiaaWNEv
import Derived.Test.YtbebihphodafiaaWMore
import Derived.Outline
import Derived.Lib.Hide
import Derived.Deep.DeepMust
import Derived.IntWalk
import Derived.Test.YtbebihphodafiaaWbD
import Derived.Test.YtbebihphodafiaaPWbG
namespace Go.Proofs.Ytbebihphodafiaa.Iv
open Go.RowKit Go.Proofs.YtbebihphodafiaaW.PrintWords Go.Proofs.YtbebihphodafiaaW.PrintLast Go.Proofs.YtbebihphodafiaaW.PrintMore Go.Proofs.Ytbebihphodafiaa.PWb Go.Maps
set_option linter.unusedVariables false
set_option linter.unusedSimpArgs false

theorem sum_one (n a : Int) (k : Nat) (h0 : 0 ≤ n) (h1 : n ≤ 1099511627776) (ha : 0 ≤ a) (hk : 2 ≤ k) : scarpalike_Sum.f k n [a] = some (min 1099511627776 (n + a)) := by
  obtain ⟨k, rfl⟩ : ∃ m, k = m + 2 := ⟨k - 2, by omega⟩
  unfold scarpalike_Sum.f
  simp only [scarpalike_Sum.l0]
  have hw : wrap64 (1099511627776 - n) = 1099511627776 - n := by unfold wrap64; omega
  have hr : rd [a] 0 = a := rfl
  rw [if_pos (by simp), if_neg (by omega), if_pos (by decide), hr, hw]
  by_cases h : a > 1099511627776 - n
  · rw [if_pos h, Int.min_eq_left (by omega)]
  · rw [if_neg h]
    have h2 : wrap64 (n + a) = n + a := by unfold wrap64; omega
    have h3 : wrap64 ((0 : Int) + 1) = 1 := by unfold wrap64; omega
    rw [h2, h3, if_neg (by simp), Int.min_eq_right (by omega)]
theorem sum_two (n a b : Int) (k : Nat) (h0 : 0 ≤ n) (h1 : n ≤ 1099511627776) (ha : 0 ≤ a) (hb : 0 ≤ b) (hk : 3 ≤ k) : scarpalike_Sum.f k n [a, b] = some (min 1099511627776 (n + a + b)) := by
  obtain ⟨k, rfl⟩ : ∃ m, k = m + 3 := ⟨k - 3, by omega⟩
  unfold scarpalike_Sum.f
  simp only [scarpalike_Sum.l0]
  have hw : wrap64 (1099511627776 - n) = 1099511627776 - n := by unfold wrap64; omega
  have hr : rd [a, b] 0 = a := rfl
  rw [if_pos (by simp), if_neg (by omega), if_pos (by decide), hr, hw]
  by_cases h : a > 1099511627776 - n
  · rw [if_pos h, Int.min_eq_left (by omega)]
  · rw [if_neg h]
    have h2 : wrap64 (n + a) = n + a := by unfold wrap64; omega
    have h3 : wrap64 ((0 : Int) + 1) = 1 := by unfold wrap64; omega
    have hr2 : rd [a, b] 1 = b := rfl
    have hw2 : wrap64 (1099511627776 - (n + a)) = 1099511627776 - (n + a) := by unfold wrap64; omega
    rw [h2, h3, if_pos (by simp), if_neg (by omega), if_pos (by decide), hr2, hw2]
    by_cases h4 : b > 1099511627776 - (n + a)
    · rw [if_pos h4, Int.min_eq_left (by omega)]
    · rw [if_neg h4]
      have h5 : wrap64 (n + a + b) = n + a + b := by unfold wrap64; omega
      have h6 : wrap64 ((1 : Int) + 1) = 2 := by unfold wrap64; omega
      rw [h5, h6, if_neg (by simp), Int.min_eq_right (by omega)]
theorem puts_l0 (l : List S31) (top : Int) (hl : l.length ≤ 9223372036854775807) (d : Nat) : ∀ (k i : Nat) (n : Int), i + d = l.length → d + 3 ≤ k → 0 ≤ n → n ≤ 1099511627776 → ∃ r, scarpalike_Puts.l0 k l top n (i : Int) = some r ∧ n ≤ r ∧ r ≤ 1099511627776 := by
  induction d with
  | zero =>
    intro k i n hi hk h0 h1
    obtain ⟨k, rfl⟩ : ∃ m, k = m + 1 := ⟨k - 1, by omega⟩
    simp only [scarpalike_Puts.l0]
    rw [if_neg (by omega)]
    exact ⟨n, rfl, Int.le_refl _, h1⟩
  | succ d ih =>
    intro k i n hi hk h0 h1
    obtain ⟨k, rfl⟩ : ∃ m, k = m + 1 := ⟨k - 1, by omega⟩
    simp only [scarpalike_Puts.l0]
    rw [if_pos (by omega)]
    by_cases ht : n ≤ top
    · rw [if_pos ht, if_pos (by omega), sum_one n _ k h0 h1 (by omega) (by omega), Option.bind_some]
      have w : wrap64 ((i : Int) + 1) = ((i + 1 : Nat) : Int) := by unfold wrap64; omega
      rw [w]
      obtain ⟨r, e1, e2, e3⟩ := ih k (i + 1) (min 1099511627776 (n + ((rd_T31 l (i : Int)).f1.length : Int))) (by omega) (by omega) (by omega) (by omega)
      exact ⟨r, e1, by omega, e3⟩
    · rw [if_neg ht]
      exact ⟨n, rfl, Int.le_refl _, h1⟩
theorem puts_ex (l : List S31) (top : Int) (k : Nat) (hl : l.length ≤ 9223372036854775807) (hk : l.length + 3 ≤ k) : ∃ r, scarpalike_Puts.f k l top = some r ∧ min 1099511627776 (l.length : Int) ≤ r ∧ r ≤ 1099511627776 := by
  unfold scarpalike_Puts.f
  rw [sum_one 0 _ k (by decide) (by decide) (by omega) (by omega), Option.bind_some]
  obtain ⟨r, e1, e2, e3⟩ := puts_l0 l top hl l.length k 0 (min 1099511627776 (0 + (l.length : Int))) (by omega) (by omega) (by omega) (by omega)
  exact ⟨r, e1, by omega, e3⟩
theorem small_l0 (l : List (List S31)) (hl : l.length ≤ 9223372036854775807) (B : Nat) (hB : ∀ x ∈ l, x.length ≤ B) (hB2 : B ≤ 9223372036854775807) (d : Nat) : ∀ (k i : Nat) (n : Int), i + d = l.length → d + B + 5 ≤ k → 0 ≤ n → n ≤ 1099511627776 →
    ∃ r, scarplaw14_small.l0 k l n (i : Int) = some r ∧ (r = true → l.length ≤ 100 ∧ ∀ j, i ≤ j → (hj : j < l.length) → (l[j]).length ≤ 20000) := by
  induction d with
  | zero =>
    intro k i n hi hk h0 h1
    obtain ⟨k, rfl⟩ : ∃ m, k = m + 1 := ⟨k - 1, by omega⟩
    simp only [scarplaw14_small.l0]
    rw [if_neg (by omega)]
    exact ⟨_, rfl, fun h => ⟨by simp at h; omega, fun j hj hj2 => by omega⟩⟩
  | succ d ih =>
    intro k i n hi hk h0 h1
    obtain ⟨k, rfl⟩ : ∃ m, k = m + 1 := ⟨k - 1, by omega⟩
    simp only [scarplaw14_small.l0]
    have hil : i < l.length := by omega
    have hrd : rd_L4 l (i : Int) = l[i] := by simp [rd_L4, List.getD_eq_getElem?_getD, List.getElem?_eq_getElem hil]
    have hbl := hB l[i] (List.getElem_mem hil)
    obtain ⟨p, p1, p2, p3⟩ := puts_ex l[i] 20000 k (by omega) (by omega)
    rw [if_pos (by omega), if_pos (by omega), hrd, p1, Option.bind_some, sum_two n p 1 k h0 h1 (by omega) (by decide) (by omega), Option.bind_some]
    by_cases hb : min 1099511627776 (n + p + 1) > 20000
    · rw [if_pos hb]
      exact ⟨false, rfl, fun h => by cases h⟩
    · rw [if_neg hb]
      have w : wrap64 ((i : Int) + 1) = ((i + 1 : Nat) : Int) := by unfold wrap64; omega
      rw [w]
      obtain ⟨r, e1, e2⟩ := ih k (i + 1) (min 1099511627776 (n + p + 1)) (by omega) (by omega) (by omega) (by omega)
      refine ⟨r, e1, fun h => ⟨(e2 h).1, fun j hj hj2 => ?_⟩⟩
      rcases Nat.eq_or_lt_of_le hj with h3 | h3
      · subst h3; omega
      · exact (e2 h).2 j h3 hj2
/-- small tells something; where it says yes, the rows are short. -/
theorem small_ex (l : List (List S31)) (hl : l.length ≤ 9223372036854775807) (hB : ∀ x ∈ l, x.length ≤ 9223372036854775807) : ∃ k r, scarplaw14_small.f k l = some r ∧ (r = true → l.length ≤ 100 ∧ ∀ x ∈ l, x.length ≤ 20000) := by
  obtain ⟨r, e1, e2⟩ := small_l0 l hl 9223372036854775807 hB (Nat.le_refl _) l.length (l.length + 9223372036854775807 + 5) 0 0 (by omega) (Nat.le_refl _) (by decide) (by decide)
  refine ⟨_, r, e1, fun h => ⟨(e2 h).1, fun x hx => ?_⟩⟩
  obtain ⟨j, hj, rfl⟩ := List.getElem_of_mem hx
  exact (e2 h).2 j (Nat.zero_le _) hj
/-! ### order and parts -/
theorem rise_ext : ∀ (A B : List S31), Rise A → Rise B → (∀ p, p ∈ A ↔ p ∈ B) → A = B := by
  intro A
  induction A with
  | nil =>
    intro B _ _ h
    cases B with
    | nil => rfl
    | cons y r => have := (h y).2 (by simp); simp at this
  | cons x a ih =>
    intro B hA hB h
    cases B with
    | nil => have := (h x).1 (by simp); simp at this
    | cons y b =>
      obtain ⟨a1, a2⟩ := List.pairwise_cons.1 hA
      obtain ⟨b1, b2⟩ := List.pairwise_cons.1 hB
      have hxy : x = y := by
        rcases List.mem_cons.1 ((h x).1 (by simp)) with e | e
        · exact e
        · rcases List.mem_cons.1 ((h y).2 (by simp)) with e2 | e2
          · exact e2.symm
          · have h1 := b1 x e; have h2 := a1 y e2; omega
      subst hxy
      rw [ih b a2 b2 (fun p => ?_)]
      constructor
      · intro hp
        rcases List.mem_cons.1 ((h p).1 (by simp [hp])) with e | e
        · subst e; have := a1 p hp; omega
        · exact e
      · intro hp
        rcases List.mem_cons.1 ((h p).2 (by simp [hp])) with e | e
        · subst e; have := b1 p hp; omega
        · exact e
theorem insL_cons (M : List S31) (x : S31) (r : List S31) : insL M (x :: r) = insL (ins M x) r := rfl
theorem insL_rise : ∀ (l M : List S31), Rise M → Rise (insL M l) := by
  intro l
  induction l with
  | nil => intro M h; exact h
  | cons x r ih => intro M h; rw [insL_cons]; exact ih _ (ins_rise M x h)
theorem insL_mem : ∀ (l M : List S31), Rise M → (l.map (·.f0)).Nodup → ∀ p, p ∈ insL M l ↔ p ∈ l ∨ (p ∈ M ∧ ∀ q ∈ l, q.f0 ≠ p.f0) := by
  intro l
  induction l with
  | nil => intro M _ _ p; simp [insL]
  | cons x r ih =>
    intro M hM hn p
    obtain ⟨n1, n2⟩ := List.nodup_cons.1 hn
    have n1' : ∀ q ∈ r, q.f0 ≠ x.f0 := fun q hq e => n1 (List.mem_map.2 ⟨q, hq, e⟩)
    rw [insL_cons, ih _ (ins_rise M x hM) n2 p, ins_mem M x hM p]
    simp only [List.mem_cons]
    constructor
    · rintro (h | ⟨h | ⟨h, h2⟩, h3⟩)
      · exact .inl (.inr h)
      · exact .inl (.inl h)
      · refine .inr ⟨h, fun q hq => ?_⟩
        rcases hq with rfl | hq
        · exact fun e => h2 e.symm
        · exact h3 q hq
    · rintro ((h | h) | ⟨h, h2⟩)
      · subst h; exact .inr ⟨.inl rfl, n1'⟩
      · exact .inl h
      · exact .inr ⟨.inr ⟨h, fun e => h2 x (.inl rfl) e.symm⟩, fun q hq => h2 q (.inr hq)⟩
theorem insL_perm (M l k : List S31) (hM : Rise M) (hn : (l.map (·.f0)).Nodup) (hp : l.Perm k) : insL M l = insL M k := by
  have hn2 : (k.map (·.f0)).Nodup := (hp.map _).nodup_iff.1 hn
  refine rise_ext _ _ (insL_rise l M hM) (insL_rise k M hM) (fun p => ?_)
  rw [insL_mem l M hM hn, insL_mem k M hM hn2, hp.mem_iff]
  constructor
  · rintro (h | ⟨h, h2⟩)
    · exact .inl h
    · exact .inr ⟨h, fun q hq => h2 q (hp.mem_iff.2 hq)⟩
  · rintro (h | ⟨h, h2⟩)
    · exact .inl h
    · exact .inr ⟨h, fun q hq => h2 q (hp.mem_iff.1 hq)⟩
theorem insL_app (M a b : List S31) : insL (insL M a) b = insL M (a ++ b) := by unfold insL; rw [List.foldl_append]
theorem insL_len_le : ∀ (l M : List S31), Rise M → (insL M l).length ≤ M.length + l.length := by
  intro l
  induction l with
  | nil => intro M _; exact Nat.le_refl _
  | cons x r ih =>
    intro M h
    rw [insL_cons]
    have h1 := ih _ (ins_rise M x h)
    have h2 := ins_len M x h
    split at h2 <;> simp only [List.length_cons] <;> omega
theorem fresh_ins (M r : List S31) (x : S31) (hM : Rise M) (h : ∀ q ∈ r, q.f0 ≠ x.f0) : freshN (ins M x) r = freshN M r := by
  unfold freshN
  refine List.countP_congr (fun q hq => ?_)
  have : hasM (ins M x) q.f0 = hasM M q.f0 := by
    rw [Bool.eq_iff_iff, hasM_iff, hasM_iff]
    constructor
    · rintro ⟨p, hp, e⟩
      rcases (ins_mem M x hM p).1 hp with rfl | hp
      · exact absurd e.symm (h q hq)
      · exact ⟨p, hp.1, e⟩
    · rintro ⟨p, hp, e⟩
      exact ⟨p, (ins_mem M x hM p).2 (.inr ⟨hp, by rw [e]; exact h q hq⟩), e⟩
  rw [this]
theorem insL_len : ∀ (l M : List S31), Rise M → (l.map (·.f0)).Nodup → (insL M l).length = M.length + freshN M l := by
  intro l
  induction l with
  | nil => intro M _ _; rfl
  | cons x r ih =>
    intro M hM hn
    obtain ⟨n1, n2⟩ := List.nodup_cons.1 hn
    have n1' : ∀ q ∈ r, q.f0 ≠ x.f0 := fun q hq e => n1 (List.mem_map.2 ⟨q, hq, e⟩)
    rw [insL_cons, ih _ (ins_rise M x hM) n2, fresh_ins M r x hM n1', ins_len M x hM]
    unfold freshN
    rw [List.countP_cons]
    cases hasM M x.f0 <;> simp <;> omega
theorem wrC_zero {blocks most : Int} {M l : List S31} (h : wrC blocks most M l = 0) : l ≠ [] ∧ l.any (outB blocks) = false ∧ l.any lenB = false ∧ dupB l = false ∧ ¬ most < (M.length : Int) + (freshN M l : Int) := by
  unfold wrC at h
  by_cases h1 : l = []
  · rw [if_pos h1] at h; omega
  rw [if_neg h1] at h
  cases h2 : l.any (outB blocks) with
  | true => rw [h2, if_pos rfl] at h; omega
  | false =>
    rw [h2, if_neg (by decide)] at h
    cases h3 : l.any lenB with
    | true => rw [h3, if_pos rfl] at h; omega
    | false =>
      rw [h3, if_neg (by decide)] at h
      cases h4 : dupB l with
      | true => rw [h4, if_pos rfl] at h; omega
      | false =>
        rw [h4, if_neg (by decide)] at h
        by_cases h5 : most < (M.length : Int) + (freshN M l : Int)
        · rw [if_pos h5] at h; omega
        · exact ⟨h1, rfl, rfl, rfl, h5⟩
theorem wrC_mk {blocks most : Int} {M l : List S31} (h1 : l ≠ []) (h2 : l.any (outB blocks) = false) (h3 : l.any lenB = false) (h4 : dupB l = false) (h5 : ¬ most < (M.length : Int) + (freshN M l : Int)) : wrC blocks most M l = 0 := by
  unfold wrC
  rw [if_neg h1, h2, if_neg (by decide), h3, if_neg (by decide), h4, if_neg (by decide), if_neg h5]
theorem any_sub {p : S31 → Bool} {l k : List S31} (h : l.any p = false) (hs : ∀ x ∈ k, x ∈ l) : k.any p = false :=
  List.any_eq_false.2 (fun x hx => List.any_eq_false.1 h x (hs x hx))
theorem dup_nodup {l : List S31} (h : dupB l = false) : (l.map (·.f0)).Nodup := by simpa [dupB] using h
theorem nodup_dup {l : List S31} (h : (l.map (·.f0)).Nodup) : dupB l = false := by simpa [dupB] using h
/-- A part of what may be written at once may be written, behind another part. -/
theorem part_ok {blocks most : Int} {l a b : List S31} (h : wrC blocks most [] l = 0) {r : List S31} (hp : (a ++ b ++ r).Perm l) (hb : b ≠ []) : wrC blocks most (insL [] a) b = 0 ∧ wrM blocks most (insL [] a) b = insL [] (a ++ b) := by
  obtain ⟨h1, h2, h3, h4, h5⟩ := wrC_zero h
  have hn := dup_nodup h4
  have hn2 : ((a ++ b ++ r).map (·.f0)).Nodup := (hp.map _).nodup_iff.2 hn
  rw [List.map_append, List.map_append] at hn2
  have hnb := (List.nodup_append.1 (List.nodup_append.1 hn2).1).2.1
  have hs : ∀ x ∈ b, x ∈ l := fun x hx => hp.mem_iff.1 (by simp [hx])
  have hla := insL_len_le a [] List.Pairwise.nil
  have hfb := fresh_le (insL [] a) b
  have hlen := hp.length_eq
  rw [List.length_append, List.length_append] at hlen
  have hf : freshN [] l = l.length := by
    unfold freshN; rw [List.countP_eq_length]; intro _ _; rfl
  have hc : wrC blocks most (insL [] a) b = 0 := wrC_mk hb (any_sub h2 hs) (any_sub h3 hs) (nodup_dup hnb) (by
    rw [hf] at h5; simp at h5 hla; omega)
  exact ⟨hc, by unfold wrM; rw [hc, if_pos rfl, insL_app]⟩
set_option maxHeartbeats 8000000 in
set_option maxRecDepth 100000 in
/-- Two rows that hold the same. -/
theorem sameputs_calls (A0 A1 : Option Addr) (c0 c1 : Nat) (l : List S31) (w : World) (h0 : Kd.C k31 w A0 l.length l) (h1 : Kd.C k31 w A1 l.length l) (hl : l.length ≤ 9223372036854775807) :
    Calls Try.prog 22 #[.slice A0 l.length c0, .slice A1 l.length c1] w fun e w' => e = .returned (.bool true) ∧ RowKit.Below w.heap.size w w' := by
  have H0 := Lib.hid (fun w' (h : RowKit.Below w.heap.size w w') => Kd.C_below h0 h)
  have H1 := Lib.hid (fun w' (h : RowKit.Below w.heap.size w w') => Kd.C_below h1 h)
  clear h0 h1
  go_enter Try.func22, Try.ntmps22
  go_wp2
  go_loopw [5] (fun i wr => ∃ k : Nat, k ≤ l.length ∧ i = .int .i64 k ∧ Aside0 (RowKit.Below w.heap.size w wr)) (fun i _ => l.length - (intOf i).toNat)
  case atStart => exact ⟨0, Nat.zero_le _, rfl, ⟨Below.refl _ _⟩⟩
  case round =>
    obtain ⟨k, hk, rfl, HB⟩ := hrel
    by_cases hlt : k < l.length
    · obtain ⟨ad, A2, c2, rfl, x0, x1, _, xC⟩ := at_T31 (H0.out _ HB.out) (k : Int) (by omega) (by omega)
      obtain ⟨ae, A3, c3, rfl, y0, y1, _, yC⟩ := at_T31 (H1.out _ HB.out) (k : Int) (by omega) (by omega)
      simp only [Int.toNat_natCast] at x0 x1 y0 y1
      obtain ⟨q, hq⟩ : ∃ q, q = rd_T31 l (k : Int) := ⟨_, rfl⟩
      rw [← hq] at x0 x1 y0 y1 xC yC
      have hx := fun n => Kd.C_string (P := Try.prog) (w := wr.drewN n) (A := A2) (c := c2) Try.underlying28 Try.underlying5 Try.underlying9 xC
      have hy := fun n => Kd.C_string (P := Try.prog) (w := wr.drewN n) (A := A3) (c := c3) Try.underlying28 Try.underlying5 Try.underlying9 yC
      have hx' := Kd.C_string (P := Try.prog) (w := wr) (A := A2) (c := c2) Try.underlying28 Try.underlying5 Try.underlying9 xC
      have hy' := Kd.C_string (P := Try.prog) (w := wr) (A := A3) (c := c3) Try.underlying28 Try.underlying5 Try.underlying9 yC
      obtain ⟨st, hst⟩ : ∃ st, st = strOfNums q.f1 := ⟨_, rfl⟩
      rw [← hst] at hx hy hx' hy'
      have b1 : 0 ≤ (k : Int) := by omega
      have b2 : (k : Int) < (l.length : Int) := by omega
      have HK := Lib.hid (show k + 1 ≤ l.length by omega)
      clear hq hst xC yC
      go_wp2
      go_quiet (fail)
      clear hx hy hx' hy'
      go_wp2
      go_roundw
      case rel => exact ⟨k + 1, HK.out, by go_num, ⟨pw_below_drewN HB.out _⟩⟩
      case measure => simp [intOf]; omega
    · obtain rfl : k = l.length := by omega
      have b2 : ¬ (l.length : Int) < (l.length : Int) := by omega
      go_wp2
      try rw [Exit.noGoto_ret]
      go_ret
      exact ⟨rfl, HB.out⟩
end Go.Proofs.Ytbebihphodafiaa.Iv
