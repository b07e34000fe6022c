/- The walk of joined: extents that rise and do not touch, of any. -/
import Derived.Test.YtbebihphodafiaaProg
import Derived.Below
import Derived.Deep.Draws
import Derived.Deep.AppendLies
import Derived.Maps.AppendAt
import Derived.OwnWalk
import Derived.Laws.BytesArg
import Derived.Laws.MakeOwn
import Derived.Laws.OwnMore
import Derived.Deep.OwnRows
import Derived.Tactics
import Derived.Lib.ConvBytes
import Derived.Laws.Slices
import Derived.WalkKit
import Derived.KernelRfl
import Derived.RowKit3
import Derived.Deep.LoopGhost
import Derived.Deep.QuietTactic
import Derived.BigQuiet
import Derived.WideLaws
import Derived.Deep.DeepCutAuto
import Derived.Deep.CutBlock
import Derived.Deep.RegionHeld3
import Derived.Laws.Rows
import Derived.Lib.AppendStr
import Derived.ArgAppend
import Derived.Laws.IdiomCopy
import Derived.OrdersHeld
import Derived.Laws.BitsLemmas
import Derived.RowKit
import Derived.Test.YtbebihphodafiaaWWords
import Derived.Test.YtbebihphodafiaaWLast
import Derived.Test.YtbebihphodafiaaWTab
import Derived.Test.YtbebihphodafiaaWFour
import Derived.Test.YtbebihphodafiaaWQPut
import Derived.Test.YtbebihphodafiaaWApart
import Derived.Test.YtbebihphodafiaaWArr
import Derived.Test.YtbebihphodafiaaWZeros
import Derived.Test.YtbebihphodafiaaWFoot
import Derived.Test.YtbebihphodafiaaWKept
import Derived.Test.YtbebihphodafiaaWShare
import Derived.Test.YtbebihphodafiaaWN
import Derived.Test.YtbebihphodafiaaWFootNe
import Derived.Test.YtbebihphodafiaaWAt
import Derived.Test.YtbebihphodafiaaWEqStruct
import Derived.Test.YtbebihphodafiaaWRepsOne
import Derived.Test.YtbebihphodafiaaWInv
import Derived.Test.YtbebihphodafiaaWInvWords
import Derived.Test.YtbebihphodafiaaWGuard
import Derived.Test.YtbebihphodafiaaWNEv
import Derived.Test.YtbebihphodafiaaWMore
import Derived.Outline
import Derived.Lib.Hide
import Derived.Deep.DeepMust
import Derived.Deep.RegionHeld3
import Derived.Deep.AppendLies
import Derived.StillTailTactics
import Derived.Test.YtbebihphodafiaaIvD
import Derived.Test.YtbebihphodafiaaIvP
namespace Go.Proofs.Ytbebihphodafiaa.Iv
open Go.RowKit Go.Proofs.YtbebihphodafiaaW.PrintWords Go.Proofs.YtbebihphodafiaaW.PrintLast Go.Proofs.YtbebihphodafiaaW.PrintMore Go.Proofs.Ytbebihphodafiaa.PWb
set_option linter.unusedVariables false
set_option linter.unusedSimpArgs false

attribute [local go_sem] max2_int min2_int   -- for this text's walks alone
theorem joinL_succ (l : List S60) (k : Nat) (h : k < l.length) : joinL (l.take (k + 1)) = jstep (joinL (l.take k)) (rd_T60 l (k : Int)) := by
  have e : rd_T60 l (k : Int) = l[k] := by simp [rd_T60, List.getD_eq_getElem?_getD, List.getElem?_eq_getElem h]
  rw [e, List.take_succ_eq_append_getElem h]
  simp only [joinL, List.foldl_append, List.foldl_cons, List.foldl_nil]
theorem jstep_ok (o : List S60) (e : S60) (ho : ∀ x ∈ o, Okx x) (he : Okx e) : ∀ x ∈ jstep o e, Okx x := by
  rcases List.eq_nil_or_concat o with rfl | ⟨o1, t, rfl⟩
  · intro x hx; rw [jstep_nil] at hx; simp at hx; subst hx; exact he
  · rw [List.concat_eq_append] at *
    rw [jstep_snoc]
    have ht := ho t (by simp)
    split
    · intro x hx
      rcases List.mem_append.1 hx with h | h
      · exact ho x (List.mem_append_left _ h)
      · simp at h; subst h; obtain ⟨a, b, c⟩ := ht; obtain ⟨a', b', c'⟩ := he; exact ⟨a, by simp only; omega, by simp only; omega⟩
    · intro x hx
      rcases List.mem_append.1 hx with h | h
      · exact ho x h
      · simp at h; subst h; exact he
theorem joinL_ok (l : List S60) : ∀ o : List S60, (∀ x ∈ o, Okx x) → (∀ x ∈ l, Okx x) → ∀ x ∈ l.foldl jstep o, Okx x := by
  induction l with
  | nil => intro o ho _; exact ho
  | cons e l ih => intro o ho hl; exact ih _ (jstep_ok o e ho (hl e (by simp))) (fun x hx => hl x (by simp [hx]))
theorem R_setlen {W : World} {base g n cap : Nat} {xs : List S60} (h : Kd.R k60 60 W base (fun _ => True) (.slice (some ⟨g, 0, none⟩) n cap) xs) (i : Nat) (hi : i < n) (x : Int) :
    Kd.R k60 60 (W.setCell ⟨g, i * 2 + 1, none⟩ (.int .i64 x)) base (fun _ => True) (.slice (some ⟨g, 0, none⟩) n cap) (xs.set i ⟨(xs.getD i z60).f0, x⟩) := by
  obtain ⟨c, hcl, hM, hcc, _⟩ := Kd.R_elem h z60 (i : Int) (by omega) (by omega)
  have hc := k60_openM hM
  have := (Kd.R_seg h (i : Int) (by omega) (by omega) (c := c) (seg := [.int .i64 x]) (j := 1) (x' := ⟨(xs.getD i z60).f0, x⟩) (okp := fun k => k ≠ g) hcl hcc (Nat.le_refl 2) (by rw [hc]; exact k60_mkM W base _ _) (fun k hk => ⟨trivial, hk⟩)).1
  have hk : k60.sz = 2 := rfl
  simpa [World.setCells, hk] using this
theorem R_last {W : World} {base g n cap : Nat} {o : List S60} {t : S60} (h : Kd.R k60 60 W base (fun _ => True) (.slice (some ⟨g, 0, none⟩) n cap) (o ++ [t])) :
    n = o.length + 1 ∧ W.cell? ⟨g, o.length * 2, none⟩ = some (.int .i64 t.f0) ∧ W.cell? ⟨g, o.length * 2 + 1, none⟩ = some (.int .i64 t.f1) ∧ W.frozen? ⟨g, o.length * 2 + 1, none⟩ = false := by
  obtain ⟨hn, _, _⟩ := Kd.R_reads' h
  have hn' : n = o.length + 1 := by simpa using hn
  obtain ⟨c, hcl, hM, hcc, hf⟩ := Kd.R_elem h z60 (o.length : Int) (by omega) (by omega)
  have hc := k60_openM hM
  have e : (o ++ [t]).getD ((o.length : Int)).toNat z60 = t := by simp [List.getD_eq_getElem?_getD]
  rw [e] at hc
  subst hc
  have c0 := hcc 0 _ rfl
  have c1 := hcc 1 _ rfl
  have f1 := hf 1
  simp only [Int.toNat_natCast] at c0 c1 f1
  exact ⟨hn', c0, c1, f1⟩
theorem C_one (w : World) (q : S60) : Kd.C k60 (w.alloc (.cells #[.int .i64 q.f0, .int .i64 q.f1] 60)) (some ⟨w.heap.size, 0, none⟩) 1 [q] := by
  refine C_cells _ _ [q] (show 1 ≤ 9223372036854775807 by decide) (fun j hj => ?_)
  obtain rfl : j = 0 := by simp at hj; exact hj
  exact ⟨by rw [World.cell?_alloc_at _ _ _ _ rfl]; rfl, by rw [World.cell?_alloc_at _ _ _ _ rfl]; rfl⟩
set_option maxHeartbeats 4000000 in
set_option maxRecDepth 100000 in
theorem joined_calls (A : Option Addr) (c : Nat) (l : List S60) (w : World) (hr : Kd.C k60 w A l.length l) (hl : l.length * 16 ≤ 140737488355328) (hok : ∀ x ∈ l, Okx x) :
    Calls Try.prog 74 #[.slice A l.length c] w fun e w' => ∃ v l', e = .returned v ∧ RowKit.Below w.heap.size w w' ∧ l'.Perm l ∧ Asc l' ∧ Kd.R k60 60 w' w.heap.size (fun _ => True) v (joinL l') := by
  have HR := Lib.hid hr
  have HOK := Lib.hid hok
  clear hr hok
  go_enter Try.func74, Try.ntmps74
  go_wp2
  go_step3
  go_wp2_with (first
    | (go_at_call 66; go_must (refine (clone_calls A c l w HR.out hl).mono ?_; rintro e w1 ⟨v1, rfl, hB1, hR1⟩))
    | (go_at_call 86; go_must (refine (sort_calls w.heap.size v1 l w1 hR1 hB1.size (by omega)).mono ?_; rintro e w2 ⟨rfl, hB2, l', A2, c2, rfl, hP, hA, hC⟩)))
  have hlen : l'.length = l.length := hP.length_eq
  rw [← hlen] at hC hR1 hl ⊢
  have HB := Lib.hid (Below.trans hB1 hB2)
  have HP := Lib.hid hP
  have HA := Lib.hid hA
  have HC := Lib.hid (fun w' (h : RowKit.Below w2.heap.size w2 w') => Kd.C_below hC h)
  have HOK' := Lib.hid (fun x (hx : x ∈ l') => HOK.out x (hP.mem_iff.1 hx))
  clear hB1 hB2 hP hA hC hR1 HR HOK hlen
  go_step3
  go_wp2
  go_loopw [2, 4, 5, 12] (fun v _ _ i ww => ∃ k : Nat, k ≤ l'.length ∧ i = .int .i64 k ∧ Aside0 (RowKit.Below w2.heap.size w2 ww ∧ Kd.R k60 60 ww w2.heap.size (fun _ => True) v (joinL (l'.take k)))) (fun _ _ _ i _ => l'.length - (intOf i).toNat)
  case atStart => exact ⟨0, Nat.zero_le _, rfl, ⟨Below.refl _ _, by simpa [joinL] using Kd.R_nil _ _ _ _ _⟩⟩
  case round =>
    obtain ⟨k, hk, rfl, HO⟩ := hrel
    by_cases hlt : k < l'.length
    · obtain ⟨ad, rfl, c0, c1⟩ := at_T60 (HC.out _ HO.out.1) (k : Int) (by omega) (by omega)
      simp only [Int.toNat_natCast] at c0 c1
      have hjs := joinL_succ l' k hlt
      have hqm : rd_T60 l' (k : Int) ∈ l' := by
        have e : rd_T60 l' (k : Int) = l'[k] := by simp [rd_T60, List.getD_eq_getElem?_getD, List.getElem?_eq_getElem hlt]
        rw [e]; exact List.getElem_mem hlt
      have hqo := HOK'.out _ hqm
      have hol := joinL_len (l'.take k)
      have hoo := joinL_ok (l'.take k) [] (by simp) (fun x hx => HOK'.out x (List.mem_of_mem_take hx))
      change ∀ x ∈ joinL (l'.take k), Okx x at hoo
      obtain ⟨q, hq⟩ : ∃ q, q = rd_T60 l' (k : Int) := ⟨_, rfl⟩
      rw [← hq] at c0 c1 hjs hqo
      obtain ⟨o, ho⟩ : ∃ o, o = joinL (l'.take k) := ⟨_, rfl⟩
      rw [← ho] at hjs hol hoo HO
      have HJ := Lib.hid hjs
      have HL := Lib.hid (show (o.length + 1) * 16 ≤ 140737488355328 by rw [List.length_take] at hol; omega)
      have HQ := Lib.hid hqo
      have HOO := Lib.hid hoo
      have b2 : (k : Int) < (l'.length : Int) := by omega
      clear hqm hjs hol hqo hoo ho hq
      rcases List.eq_nil_or_concat o with rfl | ⟨o1, t, ho⟩
      · obtain ⟨A5, c5, rfl, _, _⟩ := Kd.R_reads HO.out.2
        go_wp2
        obtain ⟨w5, h5⟩ : ∃ x, x = wr.alloc (.cells #[.int .i64 q.f0, .int .i64 q.f1] 60) := ⟨_, rfl⟩
        have HB5 := Lib.hid (show RowKit.Below w2.heap.size w2 w5 by rw [h5]; exact below_alloc HO.out.1 _)
        have HR5 := Lib.hid (show Kd.R k60 60 w5 w2.heap.size (fun _ => True) (.slice A5 ([] : List S60).length c5) [] by rw [h5]; exact Kd.R_alloc HO.out.2 _)
        have E0 : w5.cell? ⟨wr.heap.size, 0, none⟩ = some (.int .i64 q.f0) := by rw [h5, World.cell?_alloc_at _ _ _ _ rfl]; rfl
        have E1 : w5.cell? ⟨wr.heap.size, 1, none⟩ = some (.int .i64 q.f1) := by rw [h5, World.cell?_alloc_at _ _ _ _ rfl]; rfl
        rw [← h5]
        clear h5 HO
        go_quiet (fail)
        go_wp2_with ((with_reducible refine gate_builtin (b := .append) (xs := #[.tmp 58, .tmp 60]) rfl ?_); at_builtin; go_must (refine app_rows (w0 := w2) w2.heap.size rfl (.tmp 58) (.tmp 60) rfl (.slice A5 ([] : List S60).length c5) [] [q] _ 1 1 rfl rfl (Kd.R_alloc (Kd.R_drewN HR5.out _) _) (C_one _ q) (below_alloc (pw_below_drewN HB5.out _) _) ?aS (by simp) ?_; (case aS => have := HB5.out.size; simp; omega); intro v6 w6 hR6 hB6 hg6; have HR6 := Lib.hid hR6; have HB6 := Lib.hid hB6; clear hR6 hB6 hg6))
        go_roundw
        case rel => exact ⟨k + 1, by omega, by go_num, ⟨HB6.out, by rw [HJ.out, jstep_nil]; exact HR6.out⟩⟩
        case measure => simp [intOf]; omega
      · rw [List.concat_eq_append] at ho
        subst ho
        obtain ⟨g, cap, rfl, hg, _, _⟩ := Kd.R_form HO.out.2 (by simp)
        obtain ⟨n, hn⟩ : ∃ n, n = o1.length := ⟨_, rfl⟩
        have hxl : (o1 ++ [t]).length = n + 1 := by simp [hn]
        rw [hxl] at HO HL ⊢
        have HX := Lib.hid hxl
        have hto := HOO.out t (by simp)
        obtain ⟨t0, t1, t2⟩ := hto
        obtain ⟨q0, q1, q2⟩ := HQ.out
        have hl1 : (n : Int) < 8796093022208 := by have := HL.out; omega
        clear hxl
        have ww1 : wrap64 (((n + 1 : Nat) : Int) - 1) = (n : Int) := by unfold wrap64; omega
        have ww1' : wrap64 (((n : Int) + 1) - 1) = (n : Int) := by unfold wrap64; omega
        have ww2 : wrap64 (t.f0 + t.f1) = t.f0 + t.f1 := by unfold wrap64; omega
        have iw2 : IntKind.i64.wrap (t.f0 + t.f1) = t.f0 + t.f1 := by rw [IntKind.wrap_i64]; omega
        have iw3 : IntKind.i64.wrap (q.f0 + q.f1) = q.f0 + q.f1 := by rw [IntKind.wrap_i64]; omega
        have iw4 : IntKind.i64.wrap (q.f0 + q.f1 - t.f0) = q.f0 + q.f1 - t.f0 := by rw [IntKind.wrap_i64]; omega
        have dn : decide ((0 : Int) ≤ (n : Int)) = true := by simp
        have gn2 : (n : Int) < (n : Int) + 1 := by omega
        have gn1 : (n : Int) < ((n + 1 : Nat) : Int) := by omega
        have HN := Lib.hid hn
        clear t0 t1 t2 q0 q1 q2 hn
        go_wp2
        obtain ⟨w5, h5⟩ : ∃ x, x = wr.alloc (.cells #[.int .i64 q.f0, .int .i64 q.f1] 60) := ⟨_, rfl⟩
        have HB5 := Lib.hid (show RowKit.Below w2.heap.size w2 w5 by rw [h5]; exact below_alloc HO.out.1 _)
        have HR5 := Lib.hid (show Kd.R k60 60 w5 w2.heap.size (fun _ => True) (.slice (some ⟨g, 0, none⟩) (n + 1) cap) (o1 ++ [t]) by rw [h5]; exact Kd.R_alloc HO.out.2 _)
        have E0 : w5.cell? ⟨wr.heap.size, 0, none⟩ = some (.int .i64 q.f0) := by rw [h5, World.cell?_alloc_at _ _ _ _ rfl]; rfl
        have E1 : w5.cell? ⟨wr.heap.size, 1, none⟩ = some (.int .i64 q.f1) := by rw [h5, World.cell?_alloc_at _ _ _ _ rfl]; rfl
        obtain ⟨hrl, F0, F1, F2⟩ := R_last HR5.out
        clear hrl
        rw [← HN.out] at F0 F1 F2
        rw [← h5]
        clear h5 HO
        by_cases hc : q.f0 ≤ t.f0 + t.f1
        · have d1 : decide (q.f0 ≤ t.f0 + t.f1) = true := by simpa using hc
          have HJ2 := Lib.hid (show jstep (o1 ++ [t]) q = o1 ++ [⟨t.f0, max t.f1 (q.f0 + q.f1 - t.f0)⟩] by rw [jstep_snoc, if_pos hc])
          go_quiet (fail)
          go_wp2
          have HB6 : Hid (RowKit.Below w2.heap.size w2 (w5.drewN nq)) := Lib.hid (pw_below_drewN HB5.out _)
          have HR6 : Hid (Kd.R k60 60 (w5.drewN nq) w2.heap.size (fun _ => True) (.slice (some ⟨g, 0, none⟩) (n + 1) cap) (o1 ++ [t])) := Lib.hid (Kd.R_drewN HR5.out _)
          have e0 : (w5.drewN nq).cell? ⟨wr.heap.size, 0, none⟩ = some (.int .i64 q.f0) := E0
          have e1 : (w5.drewN nq).cell? ⟨wr.heap.size, 1, none⟩ = some (.int .i64 q.f1) := E1
          have f0 : (w5.drewN nq).cell? ⟨g, n * 2, none⟩ = some (.int .i64 t.f0) := F0
          have f1 : (w5.drewN nq).cell? ⟨g, n * 2 + 1, none⟩ = some (.int .i64 t.f1) := F1
          have f2 : (w5.drewN nq).frozen? ⟨g, n * 2 + 1, none⟩ = false := F2
          clear E0 E1 F0 F1 F2 HB5 HR5
          generalize w5.drewN nq = w6 at *
          go_still_tail 21, (by kernel_rfl)
          change wpList _ _ _ _ _ w6.drew
          have HB7 : Hid (RowKit.Below w2.heap.size w2 w6.drew) := Lib.hid (below_drew1 HB6.out)
          have HR7 : Hid (Kd.R k60 60 w6.drew w2.heap.size (fun _ => True) (.slice (some ⟨g, 0, none⟩) (n + 1) cap) (o1 ++ [t])) := Lib.hid (Kd.R_drew HR6.out)
          have g1 : w6.drew.cell? ⟨g, n * 2 + 1, none⟩ = some (.int .i64 t.f1) := f1
          have g2 : w6.drew.frozen? ⟨g, n * 2 + 1, none⟩ = false := f2
          clear e0 e1 f0 f1 f2 HB6 HR6
          generalize w6.drew = w7 at *
          have HR8 := Lib.hid (show Kd.R k60 60 (w7.setCell ⟨g, n * 2 + 1, none⟩ (.int .i64 (max t.f1 (q.f0 + q.f1 - t.f0)))) w2.heap.size (fun _ => True) (.slice (some ⟨g, 0, none⟩) (n + 1) cap) (o1 ++ [⟨t.f0, max t.f1 (q.f0 + q.f1 - t.f0)⟩]) by
            have h := R_setlen HR7.out n (by omega) (max t.f1 (q.f0 + q.f1 - t.f0))
            rw [HN.out] at h ⊢
            simpa [List.getD_eq_getElem?_getD] using h)
          have HB8 := Lib.hid (show RowKit.Below w2.heap.size w2 (w7.setCell ⟨g, n * 2 + 1, none⟩ (.int .i64 (max t.f1 (q.f0 + q.f1 - t.f0)))) from HB7.out.setCell (p := ⟨g, n * 2 + 1, none⟩) hg _)
          go_wp2
          go_roundw
          case rel => exact ⟨k + 1, by omega, by go_num, ⟨HB8.out, by rw [HJ.out, HJ2.out]; exact HR8.out⟩⟩
          case measure => simp [intOf]; omega
        · have d1 : decide (q.f0 ≤ t.f0 + t.f1) = false := by simpa using hc
          have HJ2 := Lib.hid (show jstep (o1 ++ [t]) q = (o1 ++ [t]) ++ [q] by rw [jstep_snoc, if_neg hc])
          go_quiet (fail)
          go_wp2_with ((with_reducible refine gate_builtin (b := .append) (xs := #[.tmp 58, .tmp 60]) rfl ?_); at_builtin; go_must (refine app_rows (w0 := w2) w2.heap.size rfl (.tmp 58) (.tmp 60) rfl (.slice (some ⟨g, 0, none⟩) (n + 1) cap) (o1 ++ [t]) [q] _ 1 1 rfl rfl (Kd.R_alloc (Kd.R_drewN HR5.out _) _) (C_one _ q) (below_alloc (pw_below_drewN HB5.out _) _) ?aS (by rw [HX.out]; exact HL.out) ?_; (case aS => have := HB5.out.size; simp; omega); intro v6 w6 hR6 hB6 hg6; have HR6 := Lib.hid hR6; have HB6 := Lib.hid hB6; clear hR6 hB6 hg6))
          go_roundw
          case rel => exact ⟨k + 1, by omega, by go_num, ⟨HB6.out, by rw [HJ.out, HJ2.out]; exact HR6.out⟩⟩
          case measure => simp [intOf]; omega
    · obtain rfl : k = l'.length := by omega
      have hF : l'.take l'.length = l' := List.take_length
      rw [hF] at HO
      have b2 : ¬ (l'.length : Int) < (l'.length : Int) := by omega
      clear hF
      go_wp2
      try rw [Exit.noGoto_ret]
      go_ret
      exact ⟨_, l', rfl, Below.trans HB.out (HO.out.1.mono HB.out.size), HP.out, HA.out, Kd.R_lower HO.out.2 HB.out.size⟩
end Go.Proofs.Ytbebihphodafiaa.Iv
