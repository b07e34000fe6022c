/- Walks of what is read of a buffer whole: the sorted blocks, the writes, how many, the set of the blocks; and of no buffer. -/
import Derived.Test.YtbebihphodafiaaProg
import Derived.Below
import Derived.Deep.Draws
import Derived.Deep.AppendLies
import Derived.Maps.AppendAt
import Derived.OwnWalk
import Derived.Laws.BytesArg
import Derived.Laws.MakeOwn
import Derived.Laws.OwnMore
import Derived.Deep.OwnRows
import Derived.Tactics
import Derived.Lib.ConvBytes
import Derived.Laws.Slices
import Derived.WalkKit
import Derived.KernelRfl
import Derived.RowKit3
import Derived.Deep.LoopGhost
import Derived.Deep.QuietTactic
import Derived.BigQuiet
import Derived.WideLaws
import Derived.Deep.DeepCutAuto
import Derived.Deep.CutBlock
import Derived.Deep.RegionHeld3
import Derived.Laws.Rows
import Derived.Lib.AppendStr
import Derived.ArgAppend
import Derived.Laws.IdiomCopy
import Derived.OrdersHeld
import Derived.Laws.BitsLemmas
import Derived.RowKit
import Derived.Test.YtbebihphodafiaaWWords
import Derived.Test.YtbebihphodafiaaWLast
import Derived.Test.YtbebihphodafiaaWTab
import Derived.Test.YtbebihphodafiaaWFour
import Derived.Test.YtbebihphodafiaaWQPut
import Derived.Test.YtbebihphodafiaaWApart
import Derived.Test.YtbebihphodafiaaWArr
import Derived.Test.YtbebihphodafiaaWZeros
import Derived.Test.YtbebihphodafiaaWFoot
import Derived.Test.YtbebihphodafiaaWKept
import Derived.Test.YtbebihphodafiaaWShare
import Derived.Test.YtbebihphodafiaaWN
import Derived.Test.YtbebihphodafiaaWFootNe
import Derived.Test.YtbebihphodafiaaWAt
import Derived.Test.YtbebihphodafiaaWEqStruct
import Derived.Test.YtbebihphodafiaaWRepsOne
import Derived.Test.YtbebihphodafiaaWInv
import Derived.Test.YtbebihphodafiaaWInvWords
import Derived.Test.YtbebihphodafiaaWGuard
import Derived.Test.YtbebihphodafiaaWNEv
import Derived.Test.YtbebihphodafiaaWMore
import Derived.Outline
import Derived.Lib.Hide
import Derived.Deep.DeepMust
import Derived.IntWalk
import Derived.Test.YtbebihphodafiaaWbD
import Derived.Test.YtbebihphodafiaaIvS
import Derived.Test.YtbebihphodafiaaIvG
import Derived.Test.YtbebihphodafiaaIvQ
namespace Go.Proofs.Ytbebihphodafiaa.Iv
open Go.RowKit Go.Proofs.YtbebihphodafiaaW.PrintWords Go.Proofs.YtbebihphodafiaaW.PrintLast Go.Proofs.YtbebihphodafiaaW.PrintMore Go.Proofs.Ytbebihphodafiaa.PWb Go.Maps Go.Shelf Go.Sort
set_option linter.unusedVariables false
set_option linter.unusedSimpArgs false

theorem keys_calls (mb : Option Nat) (w : World) : Calls Try.prog 52 #[.map mb] w fun e w' => e = .returned (.func (.func 70) #[] #[.pointer (some ⟨w.heap.size, 0, none⟩)]) ∧ w' = w.alloc (.cells #[.map mb] 99) :=
  (callsIn_wide (n := 5)).1 (AnyZI.keys_in keysX Fence.wide 5 trivial rfl mb w)
theorem sortsF (m : Nat) : AnyZI.SortsIn Try.prog sortedX_ren Fence.wide m :=
  ⟨fun blk off cap ss W hH hblk hsz => callsIn_wide.2 (AnyM.slices_Sort_int sortI blk off cap ss W hH hblk hsz),
   fun p cap W => callsIn_wide.2 (AnyM.slices_Sort_int_none sortI p cap W)⟩
def keysM (M : List S31) : List Int := M.map (·.f0)
theorem keysM_perm {W : World} {fr mb : Nat} {blocks most : Int} {M : List S31} (h : IsBuf W fr mb blocks most M) {D : DataW Value} (hD : W.ownsMap Try.prog 3 Rh mb M.length D) (hn : ∀ x, hasM M x = false → has D (ky x) = false) (hh : ∀ p ∈ M, Held W fr D p) : (keysM M).Perm (intKeys D) := by
  obtain ⟨es, he, hp⟩ := tidy_of hD
  obtain ⟨es', he', hk⟩ := hD.keysOf
  rw [he] at he'
  have e2 : es = es' := by injection he'
  subst e2
  rw [he]
  refine perm_intKeys hp (fun p hp => ?_) (List.Pairwise.map _ (fun a b h => Int.ne_of_lt h) h.srt) (fun x => ?_)
  · obtain ⟨key, hkey⟩ := hk p hp
    obtain ⟨x, _, e, _⟩ := Maps.keyOf_i64 Try.underlying3 hkey
    exact ⟨x, e⟩
  · rw [← he]
    constructor
    · intro hx
      obtain ⟨p, hp, rfl⟩ := List.mem_map.1 hx
      obtain ⟨_, _, e1, _⟩ := hh p hp
      exact e1
    · intro hx
      cases hm : hasM M x with
      | false => rw [hn x hm] at hx; cases hx
      | true => obtain ⟨p, hp, rfl⟩ := (hasM_iff M x).1 hm; exact List.mem_map.2 ⟨p, hp, rfl⟩
theorem keysM_sorted {M : List S31} (h : Rise M) {ss : List Int} (hp : ss.Perm (keysM M)) : ss.mergeSort (fun x y => decide (x ≤ y)) = keysM M := by
  rw [mergeSort_of_perm_i hp]
  refine List.mergeSort_of_pairwise (List.Pairwise.map _ (fun a b h => ?_) h)
  simp; omega
theorem at_int {W : World} {A : Option Addr} {n : Nat} {l : List Int} (h : Kd.C (Kd.int .i64) W A n l) (i : Int) (h0 : 0 ≤ i) (h1 : i < n) : ∃ ad, A = some ad ∧ W.cell? (ad.add i.toNat) = some (.int .i64 (l.getD i.toNat 0)) := by
  obtain ⟨ad, c, e, _, hK, hc0⟩ := Kd.C_get h (0 : Int) i h0 h1
  have hc : ∀ j u, c[j]? = some u → W.cell? (ad.add (i.toNat * 1 + j)) = some u := hc0
  obtain rfl := hK
  exact ⟨ad, e, by have := hc 0 _ rfl; rwa [Nat.mul_one, Nat.add_zero] at this⟩
theorem sorted_calls (fr mb : Nat) (blocks most : Int) (M : List S31) (w : World) (hb : IsBuf w fr mb blocks most M) :
    Calls Try.prog 51 #[.func (.func 70) #[] #[.pointer (some ⟨w.heap.size, 0, none⟩)]] (w.alloc (.cells #[.map (some mb)] 99)) fun e w' => ∃ A c, e = .returned (.slice A M.length c) ∧ RowKit.Below w.heap.size w w' ∧ Kd.C (Kd.int .i64) w' A M.length (keysM M) := by
  obtain ⟨D, d1, d2, d3, d4⟩ := hb.map
  have hseq : SeqGives Fence.wide 2 Try.prog 70 #[.pointer (some ⟨w.heap.size, 0, none⟩)] encZ (fun ss => ss.Perm (intKeys D)) (Maps.size D) (w.alloc (.cells #[.map (some mb)] 99)) :=
    AnyZI.keys_gives (ρ := keysX_ren) { keysX with } Fence.wide _ trivial rfl (by omega) w.heap.size mb M.length D _ (by simp) (World.cell?_alloc_at _ _ _ _ rfl) (d1.alloc _)
  have hl := hb.len
  have cS := AnyZI.sorted_in sortedX Fence.wide 5 trivial trivial trivial trivial rfl (by omega) (sortsF _) (enters_of Try.func69 (by kernel_rfl) rfl) 70 #[.pointer (some ⟨w.heap.size, 0, none⟩)] trivial (enters_of Try.func70 (by kernel_rfl) rfl) _ _ (by rw [d2]; unfold maxLen; omega) (by rw [d2]; omega) _ hseq
  change CallsIn _ _ Try.prog 51 _ _ _ at cS
  refine (callsIn_wide.1 cS).mono ?_
  rintro e w' ⟨v, ss, rfl, hS, hrow, _, hB⟩
  have hp : ss.Perm (keysM M) := hS.trans (keysM_perm hb d1 d3 d4).symm
  have hlen : ss.length = M.length := by rw [hp.length_eq]; simp [keysM]
  rw [keysM_sorted hb.srt hp, hlen] at hrow
  obtain ⟨A, c, rfl, hr⟩ := own_reads (k := .i64) (xs := keysM M) hrow
  exact ⟨A, c, rfl, below_step (below_alloc (Below.refl _ _) _) hB, Kd.C_of_reads (d := (0 : Int)) (h1 := fun _ => rfl) hr⟩
section
variable {P : Program} {ops : Array Oper} {rest : List Oper} {o : Oper} {a : Act} {Q : Exit → Act → World → Prop}
/-- append(v, one write), its bytes the call's own. -/
theorem app_put {w0 W : World} (base : Nat) (hgd : o.guard = none) (s x : Operand)
    (ho : o.op = .call { callee := .builtin .append, args := #[s, x], argTypes := #[27, 27] })
    (v : Value) (xs : List S31) (p : S31) (u : Value) (hs : a.eval s = v) (hx : a.eval x = .slice (some ⟨W.heap.size, 0, none⟩) 1 1)
    (hp : Kd.R kb 5 W base (fun k => True ∧ some k ≠ v.ownBlock) u p.f1) (HO : Kd.R k31 31 W base (fun _ => True) v xs)
    (HB : Below base w0 W) (hbase : base ≤ W.heap.size) (hl : (xs.length + 1) * 32 ≤ 140737488355328)
    (h : ∀ v1 w1, Kd.R k31 31 w1 base (fun _ => True) v1 (xs ++ [p]) → Below base w0 w1 → W.grownBy w1 v.ownBlock → (v1.ownBlock = v.ownBlock ∨ ∃ b, v1.ownBlock = some b ∧ W.heap.size ≤ b) → wpList Try.prog ops Q rest (a.put o.dst v1) w1) :
    wpList Try.prog ops Q (o :: rest) a (W.alloc (.cells #[.int .i64 p.f0, u] 31)) :=
  Kd.R_append k31 (w0 := w0) base hgd s x 27 31 (.agg #[.int .i64 0, .slice none 0 0]) 32 ho Try.underlying27 info31 rfl (by decide) (by decide) v xs p [.int .i64 p.f0, u] (fun _ => True) (fun k => True ∧ some k ≠ v.ownBlock) hs hx (k31_mkM W base _ p hp) (fun _ h => h) (fun _ _ => trivial) HO HB hbase hl h
end
set_option maxHeartbeats 4000000 in
set_option maxRecDepth 100000 in
theorem puts_calls (fr mb : Nat) (blocks most : Int) (M : List S31) (w : World) (hb : IsBuf w fr mb blocks most M) :
    Calls Try.prog 21 #[.pointer (some ⟨mb + 1, 0, none⟩)] w fun e w' => ∃ v, e = .returned v ∧ RowKit.Below w.heap.size w w' ∧ Kd.R k31 31 w' w.heap.size (fun _ => True) v M := by
  have HB := Lib.hid (fun w' (h : RowKit.Below w.heap.size w w') => hb.below h)
  have HS := Lib.hid (sorted_calls fr mb blocks most M w hb)
  have c2 := hb.c2
  have hl := hb.len
  have HM := Lib.hid (And.intro hb.srt (And.intro hb.rng hb.bl))
  clear hb
  go_enter Try.func21, Try.ntmps21
  go_wp2_with (first
    | (go_at_call 52; go_must (refine (keys_calls (some mb) _).mono ?_; rintro _ _ ⟨rfl, rfl⟩))
    | (go_at_call 51; go_must (refine HS.out.mono ?_; rintro _ w1 ⟨A1, c1, rfl, hB1, hC1⟩; have HB1 := Lib.hid hB1; have HC1 := Lib.hid (fun w' (h : RowKit.Below w1.heap.size w1 w') => Kd.C_below hC1 h); clear hB1 hC1)))
  clear HS c2
  go_loopw [2, 4, 14] (fun v _ i wr => ∃ k : Nat, k ≤ M.length ∧ i = .int .i64 k ∧ Aside0 (RowKit.Below w1.heap.size w1 wr ∧ Kd.R k31 31 wr w1.heap.size (fun _ => True) v (M.take k))) (fun _ _ i _ => M.length - (intOf i).toNat)
  case atStart => exact ⟨0, Nat.zero_le _, rfl, ⟨Below.refl _ _, by simpa using Kd.R_nil _ _ _ _ _⟩⟩
  case round =>
    obtain ⟨k, hk, rfl, HO⟩ := hrel
    by_cases hlt : k < M.length
    · obtain ⟨ad, rfl, x0⟩ := at_int (HC1.out _ HO.out.1) (k : Int) (by omega) (by omega)
      simp only [Int.toNat_natCast] at x0
      obtain ⟨q, hq⟩ : ∃ q, q = M[k] := ⟨_, rfl⟩
      have hqe : (keysM M).getD k 0 = q.f0 := by
        unfold keysM
        rw [List.getD_eq_getElem?_getD, List.getElem?_map, List.getElem?_eq_getElem hlt, hq]
        rfl
      rw [hqe] at x0
      have hqm : q ∈ M := by rw [hq]; exact List.getElem_mem hlt
      obtain ⟨r0, r1, r2⟩ := HM.out.2.1 q hqm
      have hbl := HM.out.2.2
      have HT := Lib.hid (show M.take (k + 1) = M.take k ++ [q] by rw [hq]; exact List.take_succ_eq_append_getElem hlt)
      have hbw := HB.out _ (Below.trans HB1.out (HO.out.1.mono HB1.out.size))
      obtain ⟨A5, c5, hlk, hc5, hC5⟩ := hbw.look q.f0 (wf_small q.f0 r0 (by omega)) false
      replace hlk := hlk wr rfl
      rw [if_neg (by decide), lookM_mem HM.out.1 hqm] at hlk
      rw [lookM_mem HM.out.1 hqm] at hC5
      have y2 := hbw.c2
      have HC5 := Lib.hid hC5
      have b2 : (k : Int) < (M.length : Int) := by omega
      have hv := Kd.R_slice HO.out.2
      obtain ⟨A6, c6, hv6⟩ := hv
      subst hv6
      have hol : (M.take k).length = k := by rw [List.length_take]; omega
      have HOL := Lib.hid hol
      rw [hol] at HO ⊢
      have HR := Lib.hid HO.out.2
      have HBB := Lib.hid HO.out.1
      have H40 := Lib.hid r2
      clear hq hqe hqm r2 hbw hc5 hC5 hol HO
      go_wp2_with (first
        | (go_at_call 49; go_must (refine (cloneB_calls A5 c5 q.f1 _ HC5.out (by have := H40.out; omega)).mono ?_; rintro _ w6 ⟨v6, rfl, hB6, hR6⟩; obtain ⟨A7, c7, hv7⟩ := Kd.R_slice hR6; subst hv7; have HB6 := Lib.hid (below_step HBB.out hB6); have HR6 := Lib.hid (Kd.R_lower (Kd.R_new' hR6 (Kd.R_lt HR.out)) HBB.out.size); have HO6 := Lib.hid (Kd.R_below HR.out hB6); clear hB6 hR6))
        | ((with_reducible refine gate_builtin (b := .append) (xs := #[.tmp 18, .tmp 28]) rfl ?_); at_builtin; go_must (refine app_put (w0 := w1) w1.heap.size rfl (.tmp 18) (.tmp 28) rfl (.slice A6 k c6) (M.take k) q (.slice A7 q.f1.length c7) rfl rfl HR6.out HO6.out HB6.out HB6.out.size (by have := HOL.out; omega) ?_; intro v7 w7 hR7 hB7 hg7 _; have HR7 := Lib.hid hR7; have HB7 := Lib.hid hB7; clear hR7 hB7 hg7)))
      go_roundw
      case rel => exact ⟨k + 1, by omega, by go_num, ⟨HB7.out, by rw [HT.out]; exact HR7.out⟩⟩
      case measure => simp [intOf]; omega
    · obtain rfl : k = M.length := by omega
      rw [List.take_length] at HO
      have b2 : ¬ (M.length : Int) < (M.length : Int) := by omega
      go_wp2
      try rw [Exit.noGoto_ret]
      go_ret
      exact ⟨_, rfl, Below.trans HB1.out (HO.out.1.mono HB1.out.size), Kd.R_lower HO.out.2 HB1.out.size⟩
set_option maxHeartbeats 1000000 in
theorem len_calls (fr mb : Nat) (blocks most : Int) (M : List S31) (w : World) (hb : IsBuf w fr mb blocks most M) :
    Calls Try.prog 18 #[.pointer (some ⟨mb + 1, 0, none⟩)] w fun e w' => e = .returned (.int .i64 M.length) ∧ RowKit.Below w.heap.size w w' := by
  have HS := Lib.hid (puts_calls fr mb blocks most M w hb)
  clear hb
  go_enter Try.func18, Try.ntmps18
  go_wp2_with (go_at_call 21; go_must (refine HS.out.mono ?_; rintro _ w1 ⟨v1, rfl, hB1, hR1⟩; obtain ⟨A1, c1, hv1⟩ := Kd.R_slice hR1; subst hv1))
  go_ret
  exact ⟨rfl, hB1⟩
theorem putsNil_calls (w : World) : Calls Try.prog 21 #[.pointer none] w fun e w' => e = .returned (.slice none 0 0) ∧ w' = w := by
  go_enter Try.func21, Try.ntmps21
  go_wp2
  go_ret
  exact ⟨rfl, rfl⟩
theorem lenNil_calls (w : World) : Calls Try.prog 18 #[.pointer none] w fun e w' => e = .returned (.int .i64 0) ∧ w' = w := by
  go_enter Try.func18, Try.ntmps18
  go_wp2_with (go_at_call 21; go_must (refine (putsNil_calls w).mono ?_; rintro _ w1 ⟨rfl, rfl⟩))
  go_ret
  exact ⟨rfl, rfl⟩
end Go.Proofs.Ytbebihphodafiaa.Iv
