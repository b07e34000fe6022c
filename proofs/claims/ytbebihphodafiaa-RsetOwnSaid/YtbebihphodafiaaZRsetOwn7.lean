/- Merged texts of this session: The law RsetOwn. What comes in is opened: a value that reads as data holds what its kind says. -/
import Derived.Test.YtbebihphodafiaaProg
import Derived.Below
import Derived.Deep.Draws
import Derived.Deep.AppendLies
import Derived.Maps.AppendAt
import Derived.OwnWalk
import Derived.Laws.BytesArg
import Derived.Laws.MakeOwn
import Derived.Laws.OwnMore
import Derived.Deep.OwnRows
import Derived.Tactics
import Derived.Lib.ConvBytes
import Derived.Laws.Slices
import Derived.WalkKit
import Derived.KernelRfl
import Derived.RowKit3
import Derived.Deep.LoopGhost
import Derived.Deep.QuietTactic
import Derived.BigQuiet
import Derived.WideLaws
import Derived.Deep.DeepCutAuto
import Derived.Deep.CutBlock
import Derived.Deep.RegionHeld3
import Derived.Laws.Rows
import Derived.Lib.AppendStr
import Derived.ArgAppend
import Derived.Laws.IdiomCopy
import Derived.OrdersHeld
import Derived.Laws.BitsLemmas
import Derived.RowKit
import Derived.Test.YtbebihphodafiaaWWords
import Derived.Test.YtbebihphodafiaaWLast
import Derived.Test.YtbebihphodafiaaWTab
import Derived.Test.YtbebihphodafiaaWFour
import Derived.Test.YtbebihphodafiaaWQPut
import Derived.Test.YtbebihphodafiaaWApart
import Derived.Test.YtbebihphodafiaaWArr
import Derived.Test.YtbebihphodafiaaWZeros
import Derived.Test.YtbebihphodafiaaWFoot
import Derived.Test.YtbebihphodafiaaWKept
import Derived.Test.YtbebihphodafiaaWShare
import Derived.Test.YtbebihphodafiaaWN
import Derived.Test.YtbebihphodafiaaWFootNe
import Derived.Test.YtbebihphodafiaaWAt
import Derived.Test.YtbebihphodafiaaWEqStruct
import Derived.Test.YtbebihphodafiaaWRepsOne
import Derived.Test.YtbebihphodafiaaWInv
import Derived.Test.YtbebihphodafiaaWInvWords
import Derived.Test.YtbebihphodafiaaWGuard
import Derived.Test.YtbebihphodafiaaWNEv
import Derived.Test.YtbebihphodafiaaWMore
import Derived.Outline
import Derived.Lib.Hide
import Derived.Deep.DeepMust
import Derived.IntWalk
import Derived.Deep.Slices
import Derived.Test.YtbebihphodafiaaZRsetOwn1
import Derived.Test.YtbebihphodafiaaZRsetOwn2
import Derived.Test.YtbebihphodafiaaZRsetOwn3
import Derived.Test.YtbebihphodafiaaZRsetOwn4
import Derived.Test.YtbebihphodafiaaZRsetOwn5
import Derived.Test.YtbebihphodafiaaZRsetOwn6
namespace Go.Proofs.Ytbebihphodafiaa.Iv
open Go.RowKit Go.Proofs.YtbebihphodafiaaW.PrintWords Go.Proofs.YtbebihphodafiaaW.PrintLast Go.Proofs.YtbebihphodafiaaW.PrintMore Go.Proofs.Ytbebihphodafiaa.PWb Go.Maps
set_option linter.unusedVariables false
set_option linter.unusedSimpArgs false

structure StO (w W : World) (B : Nat) (y : Int) (j : Nat) (M : List S31) (L : List S60) (R : List S77) : Prop where
  l : Live w W B 20 3 5 (V1 y) M L R
  m : M = [] ∨ ∃ d0, M = [⟨y, d0⟩]
  s : L = [] ∨ L = [⟨y, 2⟩]
  n : R.length ≤ 2 * (j + 1)
  d : ∀ p ∈ R, p.f1.length = 40
  c : R.countP (·.f2) = j
theorem StO.step {w W W' : World} {B : Nat} {y : Int} {j : Nat} {M : List S31} {L : List S60} {R : List S77} (h : StO w W B y j M L R) (hb : RowKit.Below W.heap.size W W') : StO w W' B y j M L R :=
  ⟨h.l.step hb, h.m, h.s, h.n, h.d, h.c⟩
theorem StO.more {w W W' : World} {B : Nat} {y : Int} {j : Nat} {M : List S31} {L : List S60} {R : List S77} (h : StO w W B y j M L R) (d : List Int) (hd : d.length = 40) (hl : Live w W' B 20 3 5 (V1 y) [⟨y, d⟩] [⟨y, 2⟩] (R ++ newR (V1 y) [⟨y, d⟩] y 5 2)) : StO w W' B y (j + 1) [⟨y, d⟩] [⟨y, 2⟩] (R ++ newR (V1 y) [⟨y, d⟩] y 5 2) := by
  refine ⟨hl, .inr ⟨d, rfl⟩, .inr rfl, ?_, ?_, ?_⟩
  · rw [own_new, List.length_append]; have := h.n; simp only [List.length_cons, List.length_nil]; omega
  · intro p hp
    rw [own_new] at hp
    rcases List.mem_append.1 hp with hp | hp
    · exact h.d p hp
    · simp at hp
      rcases hp with rfl | rfl
      · exact hd
      · exact dat_len 51
  · rw [own_new, List.countP_append, h.c]; simp

set_option maxHeartbeats 16000000 in
set_option maxRecDepth 100000 in
theorem own_calls (x n : Int) (bf : Bool) (w : World) : Calls Try.prog 9 #[.int .i64 x, .int .i64 n, .bool bf] w fun r w' => r = .returned (.bool true) ∧ RowKit.Below w.heap.size w w' := by
  by_cases h1 : n < 0
  · have d1 : decide (n < 0) = true := by simpa using h1
    go_enter Try.func9, Try.ntmps9
    go_wp2_with (go_at_call 26; go_must (refine (awakeV_calls _).mono ?_; rintro _ w7 ⟨rfl, hB7⟩))
    try rw [Exit.noGoto_ret]
    go_ret
    exact ⟨rfl, hB7⟩
  have d1 : decide (n < 0) = false := by simpa using h1
  by_cases h2 : 10 < n
  · have d2 : decide (10 < n) = true := by simpa using h2
    go_enter Try.func9, Try.ntmps9
    go_wp2_with (go_at_call 26; go_must (refine (awakeV_calls _).mono ?_; rintro _ w7 ⟨rfl, hB7⟩))
    try rw [Exit.noGoto_ret]
    go_ret
    exact ⟨rfl, hB7⟩
  have d2 : decide (10 < n) = false := by simpa using h2
  obtain ⟨y, hy, hy0, hy1⟩ := round_in x 19 (by decide) (by decide)
  have HY := Lib.hid hy
  have HIN := Lib.hid (show inE 20 ⟨y, ((2 : Nat) : Int)⟩ = true by rw [inE_iff]; simp only; omega)
  clear hy
  go_enter Try.func9, Try.ntmps9
  go_upto_region 5 with (first
    | (go_at_call 20; go_must (refine (scarpalike_Round.calls x 19 y _ HY.out).mono ?_; rintro _ _ ⟨rfl, ⟨⟨nq, rfl⟩⟩⟩))
    | (go_at_call 27; go_must (refine (fresh_calls 20 5 _ ⟨by decide, by decide⟩).mono ?_; rintro _ w2 ⟨rfl, hF2⟩; have H2 := Lib.hid (Fresh.live hF2 (pw_below_drewN (Below.refl w.heap.size w) nq)); clear hF2)))
  obtain ⟨B, hB⟩ : ∃ B, B = (w.drewN nq).heap.size := ⟨_, rfl⟩
  have H2' := H2
  rw [← hB] at H2'
  have hB' : w.heap.size = B := hB.symm
  try rw [← hB]
  try rw [hB']
  clear hB hB' H2
  go_cut [48] (fun c wx => c = .bool false ∧ Aside0 (Live w wx B 20 3 5 (V1 y) [] [] []))
  case first =>
    have HP := Lib.hid (show DP w w2.drew B none none from ⟨H2'.out.step (below_drew1 (Below.refl _ _)), (fun v h => by cases h), (fun v h => by cases h)⟩)
    have HL0 := Lib.hid H2'.out.c0
    have wy : IntKind.i64.wrap (y + 1) = y + 1 := IntWalk.i64_in _ (by omega)
    go_region_held3 (fun w' => w'.cell? ⟨B + 9, 0, none⟩ = some (.pointer (some ⟨B + 1, 0, none⟩)))
      (first | exact HL7.out.c0 | exact HP.out.l.c0 | exact (HP.out.step (below_alloc (Below.refl _ _) _)).l.c0 | exact HL0.out)
      (first
        | (go_at_call_of 15 (Value.int .i64 50); refine (data40 50 _).mono ?_; rintro _ w5 ⟨A5, c5, rfl, _, _, hB5, hR5⟩; replace HP := Lib.hid (HP.out.s50 hB5 hR5); clear hB5 hR5)
        | (go_at_call_of 15 (Value.int .i64 51); refine (data40 51 _).mono ?_; rintro _ w6 ⟨A6, c6, rfl, _, _, hB6, hR6⟩; replace HP := Lib.hid (HP.out.s51 hB6 hR6); clear hB6 hR6)
        | (go_at_call 30; refine (HP.out.apply2 y hy0 hy1).mono ?_; rintro _ w7 ⟨rfl, hL7⟩; have HL7 := Lib.hid hL7; clear hL7))
    all_goals (go_wp2_with fail; go_meet; exact ⟨rfl, ⟨HL7.out⟩⟩)
  case rest =>
    obtain ⟨rfl, HO⟩ := hcut
    have HL := Lib.hid HO.out
    clear HO H2'
    obtain ⟨n, rfl⟩ : ∃ k : Nat, n = (k : Int) := ⟨n.toNat, by omega⟩
    have hn10 : n ≤ 10 := by omega
    cases bf with
    | false =>
      have HS0 := Lib.hid (show StO w wc B y 0 [] [] [] from ⟨HL.out, .inl rfl, .inl rfl, Nat.zero_le _, by simp, rfl⟩)
      clear HL
      go_wp2
      go_loopw [11, 12, 13] (fun i _ _ wr => ∃ (j : Nat) (M : List S31) (L : List S60) (R : List S77), j ≤ n ∧ i = .int .i64 j ∧ Aside0 (StO w wr B y j M L R)) (fun i _ _ _ => n - (intOf i).toNat)
      case atStart => exact ⟨0, _, _, _, Nat.zero_le _, rfl, ⟨HS0.out⟩⟩
      case round =>
        clear HS0
        obtain ⟨j, M, L, R, hj, rfl, HO⟩ := hrel
        have HS := Lib.hid HO.out
        clear HO
        by_cases hlt : j < n
        · have b2 : (j : Int) < (n : Int) := by omega
          have HDL := Lib.hid (dat_len (j : Int))
          have HWR := Lib.hid (own_wr y (dat (j : Int)) hy0 hy1 (dat_len (j : Int)) M HS.out.m)
          have HAD := Lib.hid (own_add y hy0 hy1 L HS.out.s)
          have HJ := Lib.hid (show j + 1 ≤ n from hlt)
          have HRB := Lib.hid (show (R.length + 16) * 40 ≤ 140737488355328 by have := HS.out.n; omega)
          have HLB := Lib.hid (show L.length ≤ 1000000 by rcases HS.out.s with h | h <;> rw [h] <;> simp)
          have HC1 := Lib.hid (show wr.cell? ⟨B + 9, 1, none⟩ = some (.pointer (some ⟨B + 3, 0, none⟩)) from HS.out.l.c1)
          go_wp2
          go_region_held3 (fun w' => w'.cell? ⟨B + 9, 1, none⟩ = some (.pointer (some ⟨B + 3, 0, none⟩)))
            (first | exact HL3.out.c1 | exact HL2a.out.c1 | exact HL2.out.c1 | exact HC1.out)
            (first
              | (go_at_call 15; refine (data40 (j : Int) _).mono ?_; rintro _ w2 ⟨A2, c2, rfl, l2, hC2, hB2, _⟩; have HL2 := Lib.hid ((HS.out.l.step (below_drew1 (Below.refl _ _))).step hB2); have HC2 := Lib.hid hC2; have HB2 := Lib.hid l2; have HL2a := Lib.hid (HL2.out.step (below_alloc (Below.refl _ _) (.cells #[.int .i64 y, .slice A2 40 c2] 31))); clear hC2 hB2 l2)
              | (go_at_call 17; refine (HL2a.out.write (some ⟨w2.heap.size, 0, none⟩) 1 [⟨y, dat (j : Int)⟩] (by have h := C31_one w2 w2.heap.size y 0 A2 c2 (dat (j : Int)) rfl (by rw [HDL.out]; exact HB2.out) HC2.out; rw [HDL.out] at h; exact h) (by simp)).mono ?_; rintro _ w3 ⟨rfl, hL3, _⟩; rw [HWR.out.1]; rw [HWR.out.2] at hL3; have HL3 := Lib.hid hL3; clear hL3))
          have c3 := HL3.out.c2
          go_wp2_with (go_at_call 28; go_must (clear c3; refine (HL3.out.read y 2 ⟨by decide, by decide⟩ HIN.out HAD.out HRB.out HLB.out).mono ?_; rintro _ w4 ⟨v4, rfl, hL4, hR4, _, _⟩; rw [own_rd] at hR4; have HS4 := Lib.hid (HS.out.more (dat (j : Int)) HDL.out hL4); obtain ⟨g, cap, hv4, hcap, hcut1, hcut2, hCa, hCb⟩ := halves hR4 HDL.out (dat_len 51); subst hv4; have HCA := Lib.hid hCa; have HCB := Lib.hid hCb; have HCP := Lib.hid hcap; have HK1 := Lib.hid hcut1; have HK2 := Lib.hid hcut2; clear hL4 hR4 hcap hcut1 hcut2 hCa hCb))
          have hk1 := HK1.out
          have hk2 := HK2.out
          have q1 : (0 : Int) ≤ 40 := by decide
          have q2 : (40 : Int) ≤ 80 := by decide
          have q3 : (80 : Nat) ≤ cap := HCP.out
          have T0 : True := trivial
          go_region_held3 (fun w' => True) (exact trivial)
            (first
              | (go_at_call_of 15 (Value.int .i64 51); refine (data40 51 _).mono ?_; rintro _ w7 ⟨A7, c7, rfl, l7, hC7, hB7, _⟩; have HS7 := Lib.hid (HS6.out.step hB7); have HC7 := Lib.hid hC7; have HL7 := Lib.hid l7; have HCB7 := Lib.hid (Kd.C_below HCB6.out hB7); clear hC7 hB7 l7)
              | (go_at_call 15; refine (data40 (j : Int) _).mono ?_; rintro _ w5 ⟨A5, c5, rfl, l5, hC5, hB5, _⟩; have HS5 := Lib.hid (HS4.out.step (below_step (below_drew1 (Below.refl _ _)) hB5)); have HC5 := Lib.hid hC5; have HL5 := Lib.hid l5; have HCA5 := Lib.hid (Kd.C_below HCA.out (below_step (below_drew1 (Below.refl _ _)) hB5)); have HCB5 := Lib.hid (Kd.C_below HCB.out (below_step (below_drew1 (Below.refl _ _)) hB5)); clear hC5 hB5 l5)
              | (go_at_call 25; clear T0; refine (bytes_same (some ⟨g, 0, none⟩) A5 cap c5 (dat (j : Int)) HDL.out _ HCA5.out (by have := HCP.out; omega) HC5.out HL5.out).mono ?_; rintro _ w6 ⟨rfl, hB6⟩; have HS6 := Lib.hid (HS5.out.step hB6); have HCB6 := Lib.hid (Kd.C_below HCB5.out hB6); clear hB6)
              | (go_at_call 25; refine (bytes_same (some ⟨g, 40, none⟩) A7 (cap - 40) c7 (dat 51) (dat_len 51) _ HCB7.out (by have := HCP.out; omega) HC7.out HL7.out).mono ?_; rintro _ w8 ⟨rfl, hB8⟩; have HS8 := Lib.hid (HS7.out.step hB8); clear hB8))
          clear hk1 hk2
          go_wp2
          go_roundw
          case rel => exact ⟨j + 1, _, _, _, HJ.out, by go_num, ⟨HS8.out⟩⟩
          case measure => simp [intOf]; omega
        · obtain rfl : j = n := by omega
          have b2 : ¬ (j : Int) < (j : Int) := by omega
          have c3 := HS.out.l.c2
          have HRL := Lib.hid (show R.length ≤ 22 by have := HS.out.n; omega)
          go_wp2_with (go_at_call 33; go_must (clear c3; refine (readsV_calls (B + 10) (B + 7) B (B + 2) (B + 6) 5 R _ HS.out.l.v.view (by have := HRL.out; omega) HS.out.d).mono ?_; rintro _ w4 ⟨v4, rfl, hB4, hR4⟩; obtain ⟨A4, c4, hv4⟩ := Kd.R_slice hR4; subst hv4; have HC4 := Lib.hid (fun w' (h : RowKit.Below w4.heap.size w4 w') => Kd.C_below (Kd.R_reads' hR4).2.2 h); have HB4 := Lib.hid (below_step HS.out.l.b hB4); have HCT := Lib.hid HS.out.c; clear hB4 hR4))
          have hrl := HRL.out
          go_loopw [15, 16] (fun k i wr => ∃ m : Nat, m ≤ R.length ∧ i = .int .i64 m ∧ k = .int .i64 ((R.take m).countP (·.f2) : Nat) ∧ Aside0 (RowKit.Below w4.heap.size w4 wr)) (fun _ i _ => R.length - (intOf i).toNat)
          case atStart => exact ⟨0, Nat.zero_le _, rfl, by simp, ⟨Below.refl _ _⟩⟩
          case round =>
            obtain ⟨m, hm, rfl, rfl, HO⟩ := hrel
            have HB := Lib.hid HO.out
            clear HO
            by_cases hml : m < R.length
            · obtain ⟨ad, A1, c1, e1, x0, x1, x2, _, _⟩ := at_T77 (HC4.out _ HB.out) (m : Int) (by omega) (by omega)
              rw [rd77_at R m hml] at x0 x1 x2
              simp only [Int.toNat_natCast] at x0 x1 x2
              have HT := Lib.hid (show (R.take (m + 1)).countP (·.f2) = (R.take m).countP (·.f2) + (if R[m].f2 = true then 1 else 0) by rw [List.take_succ_eq_append_getElem hml, List.countP_append, List.countP_singleton])
              obtain ⟨q, hq⟩ : ∃ q, q = R[m] := ⟨_, rfl⟩
              rw [← hq] at x0 x1 x2 HT
              subst e1
              have hcl : (R.take m).countP (·.f2) ≤ 22 := Nat.le_trans List.countP_le_length (by rw [List.length_take]; omega)
              obtain ⟨cn, hcn⟩ : ∃ cn, cn = (R.take m).countP (·.f2) := ⟨_, rfl⟩
              rw [← hcn] at HT hcl ⊢
              clear hq hcn x0 x1
              have HML := Lib.hid hml
              have p1 : (0 : Int) ≤ (m : Int) := by omega
              have p2 : (m : Int) < (R.length : Int) := by omega
              cases hf : q.f2 with
              | true =>
                rw [hf] at x2 HT
                clear hf
                go_wp2
                go_roundw
                case rel => exact ⟨m + 1, HML.out, by go_num, by rw [HT.out]; simp, ⟨HB.out⟩⟩
                case measure => simp [intOf]; omega
              | false =>
                rw [hf] at x2 HT
                clear hf
                go_wp2
                go_roundw
                case rel => exact ⟨m + 1, HML.out, by go_num, by rw [HT.out]; simp, ⟨HB.out⟩⟩
                case measure => simp [intOf]; omega
            · obtain rfl : m = R.length := by omega
              have p2 : ¬ ((R.length : Nat) : Int) < (R.length : Int) := by omega
              have HF := Lib.hid (show R.take R.length = R from List.take_length)
              rw [HF.out, HCT.out]
              go_wp2_with (go_at_call 26; go_must (refine (awakeV_calls _).mono ?_; rintro _ w9 ⟨rfl, hB9⟩; have HB9 := Lib.hid (below_step (Below.trans HB4.out (HB.out.mono HB4.out.size)) hB9); clear hB9))
              try rw [Exit.noGoto_ret]
              go_ret
              exact ⟨rfl, HB9.out⟩

    | true =>
      have HAD := Lib.hid (own_add y hy0 hy1 [] (.inl rfl))
      have c3 := HL.out.c2
      go_wp2_with (go_at_call 28; go_must (clear c3; refine (HL.out.read y 2 ⟨by decide, by decide⟩ HIN.out HAD.out (by decide) (by decide)).mono ?_; rintro _ w4 ⟨v4, rfl, hL4, hR4, _, _⟩; rw [own_rd0] at hR4; have HS4 := Lib.hid (show StO w w4 B y 0 [] [⟨y, 2⟩] _ from ⟨hL4, .inl rfl, .inr rfl, by rw [own_new0]; simp, by rw [own_new0]; intro p hp; simp at hp; rcases hp with rfl | rfl <;> exact dat_len _, by rw [own_new0]; rfl⟩); obtain ⟨g, cap, hv4, hcap, hcut1, hcut2, hCa, hCb⟩ := halves hR4 (dat_len 50) (dat_len 51); subst hv4; have HCA := Lib.hid hCa; have HCP := Lib.hid hcap; have HK1 := Lib.hid hcut1; clear hL4 hR4 hcap hcut1 hcut2 hCa hCb))
      have hk1 := HK1.out
      have q1 : (0 : Int) ≤ 40 := by decide
      have q2 : (40 : Int) ≤ 80 := by decide
      go_region_held3 (fun w' => True) (exact trivial)
        (first
          | (go_at_call 15; refine (data40 50 _).mono ?_; rintro _ w5 ⟨A5, c5, rfl, l5, hC5, hB5, _⟩; have HS5 := Lib.hid (HS4.out.step (below_step (below_drew1 (Below.refl _ _)) hB5)); have HC5 := Lib.hid hC5; have HL5 := Lib.hid l5; have HCA5 := Lib.hid (Kd.C_below HCA.out (below_step (below_drew1 (Below.refl _ _)) hB5)); clear hC5 hB5 l5)
          | (go_at_call 25; refine (bytes_same (some ⟨g, 0, none⟩) A5 cap c5 (dat 50) (dat_len 50) _ HCA5.out (by have := HCP.out; omega) HC5.out HL5.out).mono ?_; rintro _ w6 ⟨rfl, hB6⟩; have HS0 := Lib.hid (HS5.out.step hB6); clear hB6))
      clear hk1 HL
      go_wp2
      go_loopw [11, 12, 13] (fun i _ _ wr => ∃ (j : Nat) (M : List S31) (L : List S60) (R : List S77), j ≤ n ∧ i = .int .i64 j ∧ Aside0 (StO w wr B y j M L R)) (fun i _ _ _ => n - (intOf i).toNat)
      case atStart => exact ⟨0, _, _, _, Nat.zero_le _, rfl, ⟨HS0.out⟩⟩
      case round =>
        clear HS0
        obtain ⟨j, M, L, R, hj, rfl, HO⟩ := hrel
        have HS := Lib.hid HO.out
        clear HO
        by_cases hlt : j < n
        · have b2 : (j : Int) < (n : Int) := by omega
          have HDL := Lib.hid (dat_len (j : Int))
          have HWR := Lib.hid (own_wr y (dat (j : Int)) hy0 hy1 (dat_len (j : Int)) M HS.out.m)
          have HAD := Lib.hid (own_add y hy0 hy1 L HS.out.s)
          have HJ := Lib.hid (show j + 1 ≤ n from hlt)
          have HRB := Lib.hid (show (R.length + 16) * 40 ≤ 140737488355328 by have := HS.out.n; omega)
          have HLB := Lib.hid (show L.length ≤ 1000000 by rcases HS.out.s with h | h <;> rw [h] <;> simp)
          have HC1 := Lib.hid (show wr.cell? ⟨B + 9, 1, none⟩ = some (.pointer (some ⟨B + 3, 0, none⟩)) from HS.out.l.c1)
          go_wp2
          go_region_held3 (fun w' => w'.cell? ⟨B + 9, 1, none⟩ = some (.pointer (some ⟨B + 3, 0, none⟩)))
            (first | exact HL3.out.c1 | exact HL2a.out.c1 | exact HL2.out.c1 | exact HC1.out)
            (first
              | (go_at_call 15; refine (data40 (j : Int) _).mono ?_; rintro _ w2 ⟨A2, c2, rfl, l2, hC2, hB2, _⟩; have HL2 := Lib.hid ((HS.out.l.step (below_drew1 (Below.refl _ _))).step hB2); have HC2 := Lib.hid hC2; have HB2 := Lib.hid l2; have HL2a := Lib.hid (HL2.out.step (below_alloc (Below.refl _ _) (.cells #[.int .i64 y, .slice A2 40 c2] 31))); clear hC2 hB2 l2)
              | (go_at_call 17; refine (HL2a.out.write (some ⟨w2.heap.size, 0, none⟩) 1 [⟨y, dat (j : Int)⟩] (by have h := C31_one w2 w2.heap.size y 0 A2 c2 (dat (j : Int)) rfl (by rw [HDL.out]; exact HB2.out) HC2.out; rw [HDL.out] at h; exact h) (by simp)).mono ?_; rintro _ w3 ⟨rfl, hL3, _⟩; rw [HWR.out.1]; rw [HWR.out.2] at hL3; have HL3 := Lib.hid hL3; clear hL3))
          have c3 := HL3.out.c2
          go_wp2_with (go_at_call 28; go_must (clear c3; refine (HL3.out.read y 2 ⟨by decide, by decide⟩ HIN.out HAD.out HRB.out HLB.out).mono ?_; rintro _ w4 ⟨v4, rfl, hL4, hR4, _, _⟩; rw [own_rd] at hR4; have HS4 := Lib.hid (HS.out.more (dat (j : Int)) HDL.out hL4); obtain ⟨g, cap, hv4, hcap, hcut1, hcut2, hCa, hCb⟩ := halves hR4 HDL.out (dat_len 51); subst hv4; have HCA := Lib.hid hCa; have HCB := Lib.hid hCb; have HCP := Lib.hid hcap; have HK1 := Lib.hid hcut1; have HK2 := Lib.hid hcut2; clear hL4 hR4 hcap hcut1 hcut2 hCa hCb))
          have hk1 := HK1.out
          have hk2 := HK2.out
          have q1 : (0 : Int) ≤ 40 := by decide
          have q2 : (40 : Int) ≤ 80 := by decide
          have q3 : (80 : Nat) ≤ cap := HCP.out
          have T0 : True := trivial
          go_region_held3 (fun w' => True) (exact trivial)
            (first
              | (go_at_call_of 15 (Value.int .i64 51); refine (data40 51 _).mono ?_; rintro _ w7 ⟨A7, c7, rfl, l7, hC7, hB7, _⟩; have HS7 := Lib.hid (HS6.out.step hB7); have HC7 := Lib.hid hC7; have HL7 := Lib.hid l7; have HCB7 := Lib.hid (Kd.C_below HCB6.out hB7); clear hC7 hB7 l7)
              | (go_at_call 15; refine (data40 (j : Int) _).mono ?_; rintro _ w5 ⟨A5, c5, rfl, l5, hC5, hB5, _⟩; have HS5 := Lib.hid (HS4.out.step (below_step (below_drew1 (Below.refl _ _)) hB5)); have HC5 := Lib.hid hC5; have HL5 := Lib.hid l5; have HCA5 := Lib.hid (Kd.C_below HCA.out (below_step (below_drew1 (Below.refl _ _)) hB5)); have HCB5 := Lib.hid (Kd.C_below HCB.out (below_step (below_drew1 (Below.refl _ _)) hB5)); clear hC5 hB5 l5)
              | (go_at_call 25; clear T0; refine (bytes_same (some ⟨g, 0, none⟩) A5 cap c5 (dat (j : Int)) HDL.out _ HCA5.out (by have := HCP.out; omega) HC5.out HL5.out).mono ?_; rintro _ w6 ⟨rfl, hB6⟩; have HS6 := Lib.hid (HS5.out.step hB6); have HCB6 := Lib.hid (Kd.C_below HCB5.out hB6); clear hB6)
              | (go_at_call 25; refine (bytes_same (some ⟨g, 40, none⟩) A7 (cap - 40) c7 (dat 51) (dat_len 51) _ HCB7.out (by have := HCP.out; omega) HC7.out HL7.out).mono ?_; rintro _ w8 ⟨rfl, hB8⟩; have HS8 := Lib.hid (HS7.out.step hB8); clear hB8))
          clear hk1 hk2
          go_wp2
          go_roundw
          case rel => exact ⟨j + 1, _, _, _, HJ.out, by go_num, ⟨HS8.out⟩⟩
          case measure => simp [intOf]; omega
        · obtain rfl : j = n := by omega
          have b2 : ¬ (j : Int) < (j : Int) := by omega
          have c3 := HS.out.l.c2
          have HRL := Lib.hid (show R.length ≤ 22 by have := HS.out.n; omega)
          go_wp2_with (go_at_call 33; go_must (clear c3; refine (readsV_calls (B + 10) (B + 7) B (B + 2) (B + 6) 5 R _ HS.out.l.v.view (by have := HRL.out; omega) HS.out.d).mono ?_; rintro _ w4 ⟨v4, rfl, hB4, hR4⟩; obtain ⟨A4, c4, hv4⟩ := Kd.R_slice hR4; subst hv4; have HC4 := Lib.hid (fun w' (h : RowKit.Below w4.heap.size w4 w') => Kd.C_below (Kd.R_reads' hR4).2.2 h); have HB4 := Lib.hid (below_step HS.out.l.b hB4); have HCT := Lib.hid HS.out.c; clear hB4 hR4))
          have hrl := HRL.out
          go_loopw [15, 16] (fun k i wr => ∃ m : Nat, m ≤ R.length ∧ i = .int .i64 m ∧ k = .int .i64 ((R.take m).countP (·.f2) : Nat) ∧ Aside0 (RowKit.Below w4.heap.size w4 wr)) (fun _ i _ => R.length - (intOf i).toNat)
          case atStart => exact ⟨0, Nat.zero_le _, rfl, by simp, ⟨Below.refl _ _⟩⟩
          case round =>
            obtain ⟨m, hm, rfl, rfl, HO⟩ := hrel
            have HB := Lib.hid HO.out
            clear HO
            by_cases hml : m < R.length
            · obtain ⟨ad, A1, c1, e1, x0, x1, x2, _, _⟩ := at_T77 (HC4.out _ HB.out) (m : Int) (by omega) (by omega)
              rw [rd77_at R m hml] at x0 x1 x2
              simp only [Int.toNat_natCast] at x0 x1 x2
              have HT := Lib.hid (show (R.take (m + 1)).countP (·.f2) = (R.take m).countP (·.f2) + (if R[m].f2 = true then 1 else 0) by rw [List.take_succ_eq_append_getElem hml, List.countP_append, List.countP_singleton])
              obtain ⟨q, hq⟩ : ∃ q, q = R[m] := ⟨_, rfl⟩
              rw [← hq] at x0 x1 x2 HT
              subst e1
              have hcl : (R.take m).countP (·.f2) ≤ 22 := Nat.le_trans List.countP_le_length (by rw [List.length_take]; omega)
              obtain ⟨cn, hcn⟩ : ∃ cn, cn = (R.take m).countP (·.f2) := ⟨_, rfl⟩
              rw [← hcn] at HT hcl ⊢
              clear hq hcn x0 x1
              have HML := Lib.hid hml
              have p1 : (0 : Int) ≤ (m : Int) := by omega
              have p2 : (m : Int) < (R.length : Int) := by omega
              cases hf : q.f2 with
              | true =>
                rw [hf] at x2 HT
                clear hf
                go_wp2
                go_roundw
                case rel => exact ⟨m + 1, HML.out, by go_num, by rw [HT.out]; simp, ⟨HB.out⟩⟩
                case measure => simp [intOf]; omega
              | false =>
                rw [hf] at x2 HT
                clear hf
                go_wp2
                go_roundw
                case rel => exact ⟨m + 1, HML.out, by go_num, by rw [HT.out]; simp, ⟨HB.out⟩⟩
                case measure => simp [intOf]; omega
            · obtain rfl : m = R.length := by omega
              have p2 : ¬ ((R.length : Nat) : Int) < (R.length : Int) := by omega
              have HF := Lib.hid (show R.take R.length = R from List.take_length)
              rw [HF.out, HCT.out]
              go_wp2_with (go_at_call 26; go_must (refine (awakeV_calls _).mono ?_; rintro _ w9 ⟨rfl, hB9⟩; have HB9 := Lib.hid (below_step (Below.trans HB4.out (HB.out.mono HB4.out.size)) hB9); clear hB9))
              try rw [Exit.noGoto_ret]
              go_ret
              exact ⟨rfl, HB9.out⟩

end Go.Proofs.Ytbebihphodafiaa.Iv

namespace Go.Proofs.Ytbebihphodafiaa.Open
open Go.RowKit Go.Proofs.YtbebihphodafiaaW.PrintWords Go.Deep Go.ChangeShapes
section
variable {H : Type} {enc : TypeId × Value → H} {P : Program} {w : World} {α β γ δ : Type}
/-- Whatever reads as data of type t is of this kind. -/
def Opens (enc : TypeId × Value → H) (P : Program) (w : World) (t : TypeId) (d : Kd α) (good : α → Prop) : Prop :=
  d.sz = P.cellsOf t ∧ ∀ fuel cs x, DataW.trod enc P w 0 (fun _ => true) true fuel t cs = some x → ∃ a, d.K w a cs ∧ good a
theorem opens_int {t : TypeId} {k : IntKind} (ht : P.underlying t = some (.int k)) (hc : P.cellsOf t = 1) : Opens enc P w t (Kd.int k) (fun n => (Lit.int k n).wf = true) := by
  refine ⟨hc.symm, fun fuel cs x h => ?_⟩
  obtain ⟨n, rfl, _, hw⟩ := DataW.trod_int ht h
  exact ⟨n, rfl, hw⟩
theorem opens_bool {t : TypeId} (ht : P.underlying t = some .bool) (hc : P.cellsOf t = 1) : Opens enc P w t Kd.bool (fun _ => True) := by
  refine ⟨hc.symm, fun fuel cs x h => ?_⟩
  obtain ⟨n, rfl, _⟩ := DataW.trod_bool ht h
  exact ⟨n, rfl, trivial⟩
theorem opens_slice {t e : TypeId} {d : Kd α} {good : α → Prop} (ht : P.underlying t = some (.slice e)) (hc : P.cellsOf t = 1) (he : Opens enc P w e d good) :
    Opens enc P w t (Kd.slice e d) (fun l => (∀ a ∈ l, good a) ∧ l.length ≤ maxLen) := by
  refine ⟨hc.symm, fun fuel cs x h => ?_⟩
  rcases open_slice ht h with ⟨rfl, _⟩ | ⟨a, len, cap, m, n, D, Pl, rfl, hb, hl, hm, hmm, _, hx⟩
  · exact ⟨[], ⟨none, 0, rfl, Nat.le_refl _, Kd.C_nil d w⟩, by simp, by simp⟩
  · simp only [if_true] at hmm
    subst hmm
    have each : ∀ i, i < len → ∃ y c, d.K w y c ∧ good y ∧ c.length = d.sz ∧ ∀ j u, c[j]? = some u → w.cell? (a.add (i * d.sz + j)) = some u := by
      intro i hi
      obtain ⟨cs', h1, h2⟩ := hx i (by omega)
      obtain ⟨y, k1, k2⟩ := he.2 _ _ _ h2
      obtain ⟨_, hlen, hcell⟩ := World.cells?_some h1
      refine ⟨y, cs', k1, k2, d.K_len k1, fun j u hu => ?_⟩
      have hj : j < P.cellsOf e := by rw [← hlen]; exact (List.getElem?_eq_some_iff.1 hu).1
      have := hcell j hj
      rw [hu] at this
      rw [he.1, ← Addr.add_add]
      exact this
    have hlist : ∀ n, n ≤ len → ∃ l : List α, l.length = n ∧ ∀ j p, l[j]? = some p → good p ∧ ∃ c, c.length = d.sz ∧ d.K w p c ∧ ∀ i u, c[i]? = some u → w.cell? (a.add (j * d.sz + i)) = some u := by
      intro n
      induction n with
      | zero => intro _; exact ⟨[], rfl, by simp⟩
      | succ n ih =>
        intro hn
        obtain ⟨l, hl1, hl2⟩ := ih (by omega)
        obtain ⟨y, c, k1, k2, k3, k4⟩ := each n (by omega)
        refine ⟨l ++ [y], by simp [hl1], fun j p hp => ?_⟩
        by_cases hj : j < n
        · rw [List.getElem?_append_left (by omega)] at hp
          exact hl2 j p hp
        · rw [List.getElem?_append_right (by omega)] at hp
          have hj' : j = n := by
            have := (List.getElem?_eq_some_iff.1 hp).1
            simp at this
            omega
          subst hj'
          rw [hl1, Nat.sub_self] at hp
          obtain rfl : y = p := by simpa using hp
          exact ⟨k2, c, k3, k1, k4⟩
    obtain ⟨l, hl1, hl2⟩ := hlist len (Nat.le_refl _)
    refine ⟨l, ⟨some a, m, by rw [hl1], by omega, ?_⟩, fun p hp => ?_, by unfold maxLen at *; omega⟩
    · refine ⟨rfl, by unfold maxLen at hm; omega, fun _ => ⟨a, rfl, fun j p hp => ?_⟩⟩
      obtain ⟨_, c, c1, c2, c3⟩ := hl2 j p hp
      exact ⟨c, c1, c2, c3⟩
    · obtain ⟨j, hj⟩ := List.mem_iff_getElem?.1 hp
      exact (hl2 j p hj).1
/-- A struct of two fields. -/
theorem opens_two {t : TypeId} {f0 f1 : Field} {d0 : Kd α} {d1 : Kd β} {g0 : α → Prop} {g1 : β → Prop} (ht : P.underlying t = some (.struct #[f0, f1])) (o0 : f0.offset = 0) (o1 : f1.offset = d0.sz) (hc : P.cellsOf t = d0.sz + d1.sz)
    (h0 : Opens enc P w f0.type d0 g0) (h1 : Opens enc P w f1.type d1 g1) : Opens enc P w t (Kd.pair d0 d1) (fun x => g0 x.1 ∧ g1 x.2) := by
  refine ⟨hc.symm, fun fuel cs x h => ?_⟩
  obtain ⟨xs, n, _, _, hlen, hxs, hf⟩ := DataW.trod_struct ht h
  have q0 := hf 0 f0 rfl
  have q1 := hf 1 f1 rfl
  simp only [List.size_toArray, List.length_cons, List.length_nil] at hxs
  rw [List.getElem?_eq_getElem (by omega)] at q0 q1
  obtain ⟨y0, k0, g0'⟩ := h0.2 _ _ _ q0
  obtain ⟨y1, k1, g1'⟩ := h1.2 _ _ _ q1
  refine ⟨(y0, y1), ⟨_, _, ?_, k0, k1⟩, g0', g1'⟩
  rw [o0, o1, ← h0.1, ← h1.1, List.drop_zero]
  have : (cs.drop d0.sz).take d1.sz = cs.drop d0.sz := List.take_of_length_le (by rw [List.length_drop]; omega)
  rw [this, List.take_append_drop]
/-- A struct of four fields. -/
theorem opens_four {t : TypeId} {f0 f1 f2 f3 : Field} {d0 : Kd α} {d1 : Kd β} {d2 : Kd γ} {d3 : Kd δ} {g0 : α → Prop} {g1 : β → Prop} {g2 : γ → Prop} {g3 : δ → Prop} (ht : P.underlying t = some (.struct #[f0, f1, f2, f3])) (o0 : f0.offset = 0) (o1 : f1.offset = d0.sz) (o2 : f2.offset = d0.sz + d1.sz) (o3 : f3.offset = d0.sz + d1.sz + d2.sz) (hc : P.cellsOf t = d0.sz + d1.sz + d2.sz + d3.sz)
    (h0 : Opens enc P w f0.type d0 g0) (h1 : Opens enc P w f1.type d1 g1) (h2 : Opens enc P w f2.type d2 g2) (h3 : Opens enc P w f3.type d3 g3) : Opens enc P w t (Kd.pair d0 (Kd.pair d1 (Kd.pair d2 d3))) (fun x => g0 x.1 ∧ g1 x.2.1 ∧ g2 x.2.2.1 ∧ g3 x.2.2.2) := by
  refine ⟨by rw [hc]; simp only [Kd.pair]; omega, fun fuel cs x h => ?_⟩
  obtain ⟨xs, n, _, _, hlen, hxs, hf⟩ := DataW.trod_struct ht h
  have q0 := hf 0 f0 rfl
  have q1 := hf 1 f1 rfl
  have q2 := hf 2 f2 rfl
  have q3 := hf 3 f3 rfl
  simp only [List.size_toArray, List.length_cons, List.length_nil] at hxs
  rw [List.getElem?_eq_getElem (by omega)] at q0 q1 q2 q3
  obtain ⟨y0, k0, g0'⟩ := h0.2 _ _ _ q0
  obtain ⟨y1, k1, g1'⟩ := h1.2 _ _ _ q1
  obtain ⟨y2, k2, g2'⟩ := h2.2 _ _ _ q2
  obtain ⟨y3, k3, g3'⟩ := h3.2 _ _ _ q3
  refine ⟨(y0, y1, y2, y3), ⟨_, _, ?_, k0, _, _, rfl, k1, _, _, rfl, k2, k3⟩, g0', g1', g2', g3'⟩
  rw [o0, o1, o2, o3, ← h0.1, ← h1.1, ← h2.1, ← h3.1, List.drop_zero]
  have e3 : (cs.drop (d0.sz + d1.sz + d2.sz)).take d3.sz = cs.drop (d0.sz + d1.sz + d2.sz) := List.take_of_length_le (by rw [List.length_drop]; omega)
  rw [e3]
  have e2 : cs.drop (d0.sz + d1.sz + d2.sz) = (cs.drop (d0.sz + d1.sz)).drop d2.sz := by rw [List.drop_drop]
  rw [e2, List.take_append_drop]
  have e1 : cs.drop (d0.sz + d1.sz) = (cs.drop d0.sz).drop d1.sz := by rw [List.drop_drop]
  rw [e1, List.take_append_drop, List.take_append_drop]
end
end Go.Proofs.Ytbebihphodafiaa.Open
namespace Go.Proofs.Ytbebihphodafiaa.Open
open Go.RowKit Go.Proofs.YtbebihphodafiaaW.PrintWords Go.Proofs.Ytbebihphodafiaa.PWb
/-- Rows of writes. -/
theorem C31o {W : World} {A : Option Addr} {n : Nat} {l : List (Int × List Int)} (h : Kd.C (Kd.pair (Kd.int .i64) (Kd.slice 5 (Kd.int .u8))) W A n l) : Kd.C k31 W A n (l.map fun p => (⟨p.1, p.2⟩ : S31)) := by
  refine ⟨by rw [List.length_map]; exact h.1, h.2.1, fun hp => ?_⟩
  obtain ⟨ad, he, hc⟩ := h.2.2 hp
  refine ⟨ad, he, fun j p hj => ?_⟩
  rw [List.getElem?_map] at hj
  obtain ⟨p0, h0, rfl⟩ := Option.map_eq_some_iff.1 hj
  exact hc j p0 h0
theorem C4o {W : World} {A : Option Addr} {n : Nat} {l : List (List (Int × List Int))} (h : Kd.C (Kd.slice 31 (Kd.pair (Kd.int .i64) (Kd.slice 5 (Kd.int .u8)))) W A n l) : Kd.C (Kd.slice 31 k31) W A n (l.map fun r => r.map fun p => (⟨p.1, p.2⟩ : S31)) := by
  refine ⟨by rw [List.length_map]; exact h.1, h.2.1, fun hp => ?_⟩
  obtain ⟨ad, he, hc⟩ := h.2.2 hp
  refine ⟨ad, he, fun j p hj => ?_⟩
  rw [List.getElem?_map] at hj
  obtain ⟨p0, h0, rfl⟩ := Option.map_eq_some_iff.1 hj
  obtain ⟨cs, c1, ⟨A1, n1, e1, e2, e3⟩, c3⟩ := hc j p0 h0
  exact ⟨cs, c1, ⟨A1, n1, by rw [e1, List.length_map], by rw [List.length_map]; exact e2, by rw [List.length_map]; exact C31o e3⟩, c3⟩
end Go.Proofs.Ytbebihphodafiaa.Open
