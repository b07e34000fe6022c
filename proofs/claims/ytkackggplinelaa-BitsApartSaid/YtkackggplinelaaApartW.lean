/- The walk of BitsApart: unlike numbers have unlike bytes, none the other's beginning; a row of them is read one by one. -/
import Derived.Test.YtkackggplinelaaProg
import Derived.Below
import Derived.Deep.Draws
import Derived.Deep.AppendLies
import Derived.Maps.AppendAt
import Derived.OwnWalk
import Derived.Laws.BytesArg
import Derived.Laws.MakeOwn
import Derived.Laws.OwnMore
import Derived.Deep.OwnRows
import Derived.Tactics
import Derived.Lib.ConvBytes
import Derived.Laws.Slices
import Derived.WalkKit
import Derived.KernelRfl
import Derived.RowKit3
import Derived.Deep.LoopGhost
import Derived.Deep.QuietTactic
import Derived.BigQuiet
import Derived.WideLaws
import Derived.Deep.DeepCutAuto
import Derived.Deep.CutBlock
import Derived.Deep.RegionHeld3
import Derived.Laws.Rows
import Derived.Lib.AppendStr
import Derived.ArgAppend
import Derived.Laws.IdiomCopy
import Derived.OrdersHeld
import Derived.Laws.BitsLemmas
import Derived.RowKit
import Derived.Test.YtkackggplinelaaWWords
import Derived.Test.YtkackggplinelaaWLast
import Derived.Test.YtkackggplinelaaWTab
import Derived.Test.YtkackggplinelaaWFour
import Derived.Test.YtkackggplinelaaWQPut
import Derived.Test.YtkackggplinelaaWApart
import Derived.Test.YtkackggplinelaaWArr
import Derived.Test.YtkackggplinelaaWZeros
import Derived.Test.YtkackggplinelaaWFoot
import Derived.Test.YtkackggplinelaaWKept
import Derived.Test.YtkackggplinelaaWShare
import Derived.Test.YtkackggplinelaaWN
import Derived.Test.YtkackggplinelaaWFootNe
import Derived.Test.YtkackggplinelaaWAt
import Derived.Test.YtkackggplinelaaWEqStruct
import Derived.Test.YtkackggplinelaaWRepsOne
import Derived.Test.YtkackggplinelaaWInv
import Derived.Test.YtkackggplinelaaWInvWords
import Derived.Test.YtkackggplinelaaWGuard
import Derived.Test.YtkackggplinelaaWNEv
import Derived.Test.YtkackggplinelaaWMore
import Derived.Lib.Hide
import Derived.Deep.DeepMust
import Derived.Deep.QuietTactic
import Derived.BigQuiet
import Derived.Test.YtkackggplinelaaBackW
namespace Go.Proofs.Ytkackggplinelaa.Apart
open Go.RowKit Go.Proofs.YtkackggplinelaaW.PrintWords Go.Proofs.YtkackggplinelaaW.PrintLast Go.Proofs.YtkackggplinelaaW.PrintMore Go.Proofs.Ytkackggplinelaa.PBits Go.Proofs.Ytkackggplinelaa.Bits Go.Proofs.Ytkackggplinelaa.Back
set_option linter.unusedVariables false
set_option linter.unusedSimpArgs false
attribute [local go_sem] max2_int min2_int   -- for this text's walks alone
theorem byt_calls (A0 A1 : Option Addr) (n0 n1 c0 c1 : Nat) (l0 l1 : List Int) (r : Bool) (w : World) (h0 : l0.length = n0) (h1 : l1.length = n1) (hr0 : Kd.C (Kd.int .u8) w A0 l0.length l0) (hc0 : l0.length ≤ c0) (hr1 : Kd.C (Kd.int .u8) w A1 l1.length l1) (hc1 : l1.length ≤ c1) (hl : l0.length < 2 ^ 62) (h : decide (l0 = l1) = r) :
    Calls Try.prog 27 #[.slice A0 n0 c0, .slice A1 n1 c1] w fun e w' => e = .returned (.bool r) ∧ ∃ m, w' = w.drewN m := by
  subst h0 h1
  exact (scarpalike_Bytes.calls (l0.length + 1) A0 c0 l0 A1 c1 l1 r w hr0 hc0 hr1 hc1 (by rw [bytes_f l0 l1 hl _ (by omega), h])).mono fun _ _ ⟨a, b⟩ => ⟨a, b.out⟩
/-- The numbers' groups, one behind the other. -/
def cat (l : List Int) : List Int := l.flatMap fun x => vb x.toNat
theorem cat_snoc (l : List Int) (x : Int) : cat (l ++ [x]) = cat l ++ vb x.toNat := by simp [cat]
theorem cat_take (l : List Int) (k : Nat) (h : k < l.length) : cat (l.take (k + 1)) = cat (l.take k) ++ vb (rd l (k : Int)).toNat := by
  rw [List.take_succ_eq_append_getElem h, cat_snoc]
  simp [rd, List.getD_eq_getElem?_getD, List.getElem?_eq_getElem h]
theorem cat_drop (l : List Int) (k : Nat) (h : k < l.length) : cat (l.drop k) = vb (rd l (k : Int)).toNat ++ cat (l.drop (k + 1)) := by
  rw [drop_rd l k h]; simp [cat]
theorem cat_len (l : List Int) (hb : ∀ x ∈ l, 0 ≤ x ∧ x < 18446744073709551616) : (cat l).length ≤ 10 * l.length := by
  induction l with
  | nil => simp [cat]
  | cons x l ih =>
    have h1 := vb_len10 x.toNat (by have := hb x (by simp); omega)
    have h2 := ih (fun y hy => hb y (by simp [hy]))
    simp only [cat, List.flatMap_cons, List.length_append, List.length_cons] at h2 ⊢
    omega
theorem cat_byte (l : List Int) (hb : ∀ x ∈ l, 0 ≤ x ∧ x < 18446744073709551616) : AllB (cat l) := by
  intro y hy
  obtain ⟨x, hx, hy⟩ := List.mem_flatMap.1 hy
  have := hb x hx
  exact vb_byte 9 x.toNat (by omega) y hy
/-- None of two is the other one's beginning. -/
theorem prefix_eq (a b : Nat) (ha : a < 2 ^ 64) (hb : b < 2 ^ 64) (n : Nat) (hn : n = (vb a).length ∨ n = (vb b).length) (h1 : n ≤ (vb a).length) (h2 : n ≤ (vb b).length) : ((vb a).take n = (vb b).take n) ↔ a = b := by
  constructor
  · intro h
    have ea := uv_vb0 ((vb a).drop n) a ha
    rcases hn with hn | hn
    · rw [hn, List.take_length] at h
      have e1 := uv_vb0 ((vb b).drop (vb a).length) a ha
      have e2 := uv_vb0 [] b hb
      rw [List.append_nil] at e2
      have e3 : vb a ++ (vb b).drop (vb a).length = vb b := by
        have := List.take_append_drop (vb a).length (vb b)
        rwa [← h] at this
      rw [e3, e2] at e1
      have := (Prod.mk.inj e1).1
      omega
    · rw [hn, List.take_length] at h
      have e1 := uv_vb0 ((vb a).drop (vb b).length) b hb
      have e2 := uv_vb0 [] a ha
      rw [List.append_nil] at e2
      have e3 : vb b ++ (vb a).drop (vb b).length = vb a := by
        have := List.take_append_drop (vb b).length (vb a)
        rwa [h] at this
      rw [e3, e2] at e1
      have := (Prod.mk.inj e1).1
      omega
  · intro h
    rw [h]
theorem rd_u64 {l : List Int} (h : ∀ x ∈ l, 0 ≤ x ∧ x < 18446744073709551616) (i : Nat) (hi : i < l.length) : ∃ v : Nat, rd l (i : Int) = (v : Int) ∧ v < 2 ^ 64 := by
  have e : rd l (i : Int) = l[i] := by simp [rd, List.getD_eq_getElem?_getD, List.getElem?_eq_getElem hi]
  have := h _ (List.getElem_mem hi)
  exact ⟨l[i].toNat, by rw [e]; omega, by omega⟩
set_option maxHeartbeats 4000000 in
set_option maxRecDepth 100000 in
theorem apart_calls (A0 : Option Addr) (c0 : Nat) (l : List Int) (w : World) (hr : Kd.C (Kd.int .u64) w A0 l.length l) (hb : ∀ x ∈ l, 0 ≤ x ∧ x < 18446744073709551616) (hl : l.length ≤ 4611686018427387904) :
    Calls Try.prog 10 #[.slice A0 l.length c0] w fun e w' => e = .returned (.bool true) ∧ Below w.heap.size w w' := by
  have HR := Lib.hid hr
  have HB := Lib.hid hb
  clear hr hb
  by_cases hbig : (60 : Int) < l.length
  · have hbig' : 60 < l.length := by omega
    go_enter Try.func10, Try.ntmps10
    go_wp2_with (go_at_call 14; refine (awake6_calls _).mono ?_; rintro e w' ⟨rfl, hb1⟩)
    go_ret
    exact ⟨rfl, hb1⟩
  · have hsm : ¬ 60 < l.length := by omega
    have hll : l.length ≤ 60 := by omega
    clear hbig
    obtain ⟨i0, hi0', _, hz0, _⟩ := info_parts PBits.info5
    have hi0 := Lib.hid hi0'
    have hsz := Lib.hid hz0
    clear hi0' hz0
    go_enter Try.func10, Try.ntmps10
    go_wp2
    go_loopw [3, 4] (fun b i wr => ∃ k : Nat, k ≤ l.length ∧ i = .int .i64 k ∧ Aside0 (Kd.R (Kd.int .u8) 5 wr w.heap.size (fun _ => True) b (cat (l.take k))) ∧ Aside0 (Below w.heap.size w wr)) (fun _ i _ => l.length - (intOf i).toNat)
    case atStart => exact ⟨0, Nat.zero_le _, rfl, ⟨Kd.R_nil _ _ _ _ _⟩, ⟨Below.refl _ _⟩⟩
    case round =>
      obtain ⟨k, hk, rfl, HO, HW⟩ := hrel
      by_cases hlt : k < l.length
      · obtain ⟨ad1, e1, hx1⟩ := Kd.at_int HR.out (k : Int) (by omega) (by omega)
        cases e1
        obtain ⟨v, hv, hv64⟩ := rd_u64 HB.out k hlt
        rw [hv] at hx1
        simp only [Int.toNat_natCast] at hx1
        have HV := Lib.hid hv
        have HX := Lib.hid (fun w' (h : Below w.heap.size w w') => pw_cell_below h hx1)
        have HV64 := Lib.hid hv64
        have X1 := pw_cell_below HW.out hx1
        have b1 : (0 : Int) ≤ (k : Int) := by omega
        have b2 : (k : Int) < (l.length : Int) := by omega
        have hcl := cat_len (l.take k) (fun x hx => HB.out x (List.mem_of_mem_take hx))
        have hcl2 : (cat (l.take k)).length ≤ 600 := by rw [List.length_take] at hcl; omega
        have HCL := Lib.hid hcl2
        clear hv hv64 hx1 hcl hcl2
        have t1 : True := trivial
        go_wp2_with (first
          | (go_at_call 13; have _t := t1; clear t1; go_must (refine (varint_calls v HV64.out _).mono ?_; rintro e w1 ⟨v1, rfl, hO1, hb1⟩; obtain ⟨A1, c1, rfl, hc1, hC1⟩ := Kd.R_reads hO1; have HC1 := Lib.hid hC1; have HB1 := Lib.hid hb1; clear hC1 hb1 hO1 hc1))
          | ((with_reducible refine gate_builtin (b := .append) (xs := #[.tmp 22, .tmp 27]) rfl ?_); at_builtin; go_must (refine Kd.R_append_row (Value.int .u8) 0 (w0 := w) w.heap.size rfl (.tmp 22) (.tmp 27) 24 5 (.int .u8 0) 1 rfl Try.underlying24 PBits.info5 rfl (by decide) u3 (cat (l.take k)) (vb v) A1 (vb v).length c1 (fun _ => True) rfl rfl (fun _ _ => trivial) (Kd.R_below HO.out HB1.out) HC1.out (below_step HW.out HB1.out) ?aS ?aL ?_; (case aS => exact (below_step HW.out HB1.out).size); (case aL => have := HCL.out; have := (vb_len10 v HV64.out).2; omega); intro v2 w2 hO2 hB2 hg2 hat2; clear hg2 hat2; have HO2 := Lib.hid hO2; have HW2 := Lib.hid hB2; clear hO2 hB2)))
        have EC := Lib.hid (cat_take l k hlt)
        go_loopw [5] (fun j wr2 => ∃ m : Nat, m ≤ k ∧ j = .int .i64 m ∧ Aside0 (Kd.R (Kd.int .u8) 5 wr2 w.heap.size (fun _ => True) v2 (cat (l.take k) ++ vb v)) ∧ Aside0 (Below w.heap.size w wr2)) (fun j _ => k - (intOf j).toNat)
        case atStart => exact ⟨0, Nat.zero_le _, rfl, ⟨HO2.out⟩, ⟨HW2.out⟩⟩
        case round =>
          clear HO2 HW2
          obtain ⟨m, hm, rfl, HO2, HW2⟩ := hrel
          by_cases hmk : m < k
          · obtain ⟨ad2, e2, hx2⟩ := Kd.at_int HR.out (m : Int) (by omega) (by omega)
            cases e2
            obtain ⟨u, hu, hu64⟩ := rd_u64 HB.out m (by omega)
            rw [hu] at hx2
            simp only [Int.toNat_natCast] at hx2
            have HU := Lib.hid hu
            have HX2 := Lib.hid (fun w' (h : Below w.heap.size w w') => pw_cell_below h hx2)
            have HU64 := Lib.hid hu64
            have b3 : (0 : Int) ≤ (m : Int) := by omega
            have b4 : (m : Int) < (l.length : Int) := by omega
            have b5 : (m : Int) < (k : Int) := by omega
            clear hu hu64 hx2
            have X1 := HX.out _ HW2.out
            by_cases hmin : (vb u).length < (vb v).length
            · have hminb : decide ((vb u).length < (vb v).length) = true := by simpa using hmin
              have hminc : decide (((vb u).length : Int) < ((vb v).length : Int)) = true := by simpa using hmin
              have t1 : True := trivial
              go_wp2_with (first
                | (go_at_call 13; have _t := t1; clear t1; go_must (refine (varint_calls v HV64.out _).mono ?_; rintro e w3 ⟨v3, rfl, hO3, hb3⟩; obtain ⟨A3, c3, rfl, hc3, hC3⟩ := Kd.R_reads hO3; have HC3 := Lib.hid hC3; have HK3 := Lib.hid hc3; have HB3 := Lib.hid (below_step HW2.out hb3); have HD3 := Lib.hid (Kd.R_below HO2.out hb3); clear hC3 hb3 hO3 hc3; have X2 := HX2.out _ HB3.out))
                | (go_at_call 13; go_must (refine (varint_calls u HU64.out _).mono ?_; rintro e w4 ⟨v4, rfl, hO4, hb4⟩; obtain ⟨A4, c4, rfl, hc4, hC4⟩ := Kd.R_reads hO4; have HC4 := Lib.hid hC4; have HK4 := Lib.hid hc4; have HE3 := Lib.hid (Kd.C_below HC3.out hb4); have HB4 := Lib.hid (below_step HB3.out hb4); have HD4 := Lib.hid (Kd.R_below HD3.out hb4); clear hC4 hb4 hO4 hc4)))
              have hn1 : (vb u).length ≤ (vb v).length := by omega
              have hn2 : (vb u).length ≤ (vb u).length := by omega
              have hpe := prefix_eq v u HV64.out HU64.out (vb u).length (.inr rfl) hn1 hn2
              have HN1 := Lib.hid hn1
              have HN2 := Lib.hid hn2
              obtain ⟨r0, hr0⟩ : ∃ r0, ((v : Int) == (u : Int)) = r0 := ⟨_, rfl⟩
              have HQ : Hid (decide ((vb v).take (vb u).length = (vb u).take (vb u).length) = r0) := Lib.hid (by rw [← hr0, Bool.eq_iff_iff, decide_eq_true_iff, beq_iff_eq, hpe]; omega)
              have HT1 : Hid (((vb v).take (vb u).length).length = (vb u).length) := Lib.hid (by rw [List.length_take]; omega)
              have HT2 : Hid (((vb u).take (vb u).length).length = (vb u).length) := Lib.hid (by rw [List.length_take]; omega)
              have hcut1 := cut_to (P := Try.prog) 24 5 .i64 Try.underlying24 hi0.out A3 (vb v).length c3 ((vb u).length : Int) (by omega) (by omega) HK3.out
              have hcut2 := cut_to (P := Try.prog) 24 5 .i64 Try.underlying24 hi0.out A4 (vb u).length c4 ((vb u).length : Int) (by omega) (by omega) HK4.out
              simp only [Int.toNat_natCast] at hcut1 hcut2
              have HL := Lib.hid (show (vb u).length < 2 ^ 62 by have := (vb_len10 v HV64.out).2; omega)
              have X1' := HX.out _ HB4.out
              have X2' := HX2.out _ HB4.out
              clear X1 X2 hpe hmin hn1 hn2
              go_quiet ((go_at_call 27; exact Calls.quiet_of (byt_calls A3 A4 (vb u).length (vb u).length c3 c4 ((vb v).take (vb u).length) ((vb u).take (vb u).length) r0 _ HT1.out HT2.out (Kd.C_drewN (Kd.C_take HE3.out HN1.out) _) (by rw [HT1.out]; exact Nat.le_trans HN1.out HK3.out) (Kd.C_drewN (Kd.C_take HC4.out HN2.out) _) (by rw [HT2.out]; exact Nat.le_trans HN2.out HK4.out) (by rw [HT1.out]; exact HL.out) HQ.out)))
              go_wp2
              go_roundw
              case rel => first | exact ⟨m + 1, by omega, by go_num, ⟨Kd.R_drewN HD4.out _⟩, ⟨pw_below_drewN HB4.out _⟩⟩ | ((repeat apply Exists.intro); exact ⟨⟨m + 1, by omega, by go_num, ⟨Kd.R_drewN HD4.out _⟩, ⟨pw_below_drewN HB4.out _⟩⟩, rfl⟩)
              case measure => simp [intOf]; omega
            · have hminb : decide ((vb u).length < (vb v).length) = false := by simpa using hmin
              have hminc : decide (((vb u).length : Int) < ((vb v).length : Int)) = false := by simpa using hmin
              have t1 : True := trivial
              go_wp2_with (first
                | (go_at_call 13; have _t := t1; clear t1; go_must (refine (varint_calls v HV64.out _).mono ?_; rintro e w3 ⟨v3, rfl, hO3, hb3⟩; obtain ⟨A3, c3, rfl, hc3, hC3⟩ := Kd.R_reads hO3; have HC3 := Lib.hid hC3; have HK3 := Lib.hid hc3; have HB3 := Lib.hid (below_step HW2.out hb3); have HD3 := Lib.hid (Kd.R_below HO2.out hb3); clear hC3 hb3 hO3 hc3; have X2 := HX2.out _ HB3.out))
                | (go_at_call 13; go_must (refine (varint_calls u HU64.out _).mono ?_; rintro e w4 ⟨v4, rfl, hO4, hb4⟩; obtain ⟨A4, c4, rfl, hc4, hC4⟩ := Kd.R_reads hO4; have HC4 := Lib.hid hC4; have HK4 := Lib.hid hc4; have HE3 := Lib.hid (Kd.C_below HC3.out hb4); have HB4 := Lib.hid (below_step HB3.out hb4); have HD4 := Lib.hid (Kd.R_below HD3.out hb4); clear hC4 hb4 hO4 hc4)))
              have hn1 : (vb v).length ≤ (vb v).length := by omega
              have hn2 : (vb v).length ≤ (vb u).length := by omega
              have hpe := prefix_eq v u HV64.out HU64.out (vb v).length (.inl rfl) hn1 hn2
              have HN1 := Lib.hid hn1
              have HN2 := Lib.hid hn2
              obtain ⟨r0, hr0⟩ : ∃ r0, ((v : Int) == (u : Int)) = r0 := ⟨_, rfl⟩
              have HQ : Hid (decide ((vb v).take (vb v).length = (vb u).take (vb v).length) = r0) := Lib.hid (by rw [← hr0, Bool.eq_iff_iff, decide_eq_true_iff, beq_iff_eq, hpe]; omega)
              have HT1 : Hid (((vb v).take (vb v).length).length = (vb v).length) := Lib.hid (by rw [List.length_take]; omega)
              have HT2 : Hid (((vb u).take (vb v).length).length = (vb v).length) := Lib.hid (by rw [List.length_take]; omega)
              have hcut1 := cut_to (P := Try.prog) 24 5 .i64 Try.underlying24 hi0.out A3 (vb v).length c3 ((vb v).length : Int) (by omega) (by omega) HK3.out
              have hcut2 := cut_to (P := Try.prog) 24 5 .i64 Try.underlying24 hi0.out A4 (vb u).length c4 ((vb v).length : Int) (by omega) (by omega) HK4.out
              simp only [Int.toNat_natCast] at hcut1 hcut2
              have HL := Lib.hid (show (vb v).length < 2 ^ 62 by have := (vb_len10 v HV64.out).2; omega)
              have X1' := HX.out _ HB4.out
              have X2' := HX2.out _ HB4.out
              clear X1 X2 hpe hmin hn1 hn2
              go_quiet ((go_at_call 27; exact Calls.quiet_of (byt_calls A3 A4 (vb v).length (vb v).length c3 c4 ((vb v).take (vb v).length) ((vb u).take (vb v).length) r0 _ HT1.out HT2.out (Kd.C_drewN (Kd.C_take HE3.out HN1.out) _) (by rw [HT1.out]; exact Nat.le_trans HN1.out HK3.out) (Kd.C_drewN (Kd.C_take HC4.out HN2.out) _) (by rw [HT2.out]; exact Nat.le_trans HN2.out HK4.out) (by rw [HT1.out]; exact HL.out) HQ.out)))
              go_wp2
              go_roundw
              case rel => first | exact ⟨m + 1, by omega, by go_num, ⟨Kd.R_drewN HD4.out _⟩, ⟨pw_below_drewN HB4.out _⟩⟩ | ((repeat apply Exists.intro); exact ⟨⟨m + 1, by omega, by go_num, ⟨Kd.R_drewN HD4.out _⟩, ⟨pw_below_drewN HB4.out _⟩⟩, rfl⟩)
              case measure => simp [intOf]; omega
          · obtain rfl : m = k := by omega
            go_wp2
            go_roundw
            case rel => exact ⟨m + 1, by omega, by go_num, ⟨by rw [EC.out, HV.out, Int.toNat_natCast]; exact HO2.out⟩, ⟨HW2.out⟩⟩
            case measure => simp [intOf]; omega
      · obtain rfl : k = l.length := by omega
        have hO := HO.out
        rw [List.take_length] at hO
        obtain ⟨y0, hy0⟩ : ∃ y, y = cat (l.drop 0) := ⟨_, rfl⟩
        rw [show cat l = y0 by rw [hy0, List.drop_zero]] at hO
        obtain ⟨A5, c5, rfl, hc5, hC5⟩ := Kd.R_reads hO
        have HY0 := Lib.hid hy0
        have HC5 := Lib.hid hC5
        have HK5 := Lib.hid hc5
        clear hO hC5 hc5 hy0 HO
        go_wp2
        go_loopw [3, 9] (fun b i wr => ∃ (q : Nat) (A : Option Addr) (c : Nat) (y : List Int), q ≤ l.length ∧ i = .int .i64 q ∧ b = .slice A y.length c ∧ Aside0 (y = cat (l.drop q)) ∧ Aside0 (y.length ≤ c) ∧ Aside0 (Kd.C (Kd.int .u8) wr A y.length y) ∧ Aside0 (Below w.heap.size w wr)) (fun _ i _ => l.length - (intOf i).toNat)
        case atStart => exact ⟨0, A5, c5, y0, Nat.zero_le _, rfl, rfl, ⟨HY0.out⟩, ⟨HK5.out⟩, ⟨HC5.out⟩, ⟨HW.out⟩⟩
        case round =>
          clear HC5 HK5 HW HY0
          obtain ⟨q, A, c, y, hq, rfl, rfl, HY, HK, HC, HW⟩ := hrel
          by_cases hqt : q < l.length
          · obtain ⟨ad1, e1, hx1⟩ := Kd.at_int HR.out (q : Int) (by omega) (by omega)
            cases e1
            obtain ⟨v, hv, hv64⟩ := rd_u64 HB.out q hqt
            rw [hv] at hx1
            simp only [Int.toNat_natCast] at hx1
            have HX := Lib.hid (fun w' (h : Below w.heap.size w w') => pw_cell_below h hx1)
            obtain ⟨y', hy'⟩ : ∃ y', y' = cat (l.drop (q + 1)) := ⟨_, rfl⟩
            have ey : y = vb v ++ y' := by rw [HY.out, hy', cat_drop l q hqt, hv, Int.toNat_natCast]
            have hyb : AllB y := by rw [HY.out]; exact cat_byte _ (fun x hx => HB.out x (List.mem_of_mem_drop hx))
            have hyl : y.length ≤ 10 * (l.drop q).length := by rw [HY.out]; exact cat_len _ (fun x hx => HB.out x (List.mem_of_mem_drop hx))
            have hvl := vb_len10 v hv64
            have hly : y.length = (vb v).length + y'.length := by rw [ey, List.length_append]
            have P1 := Lib.hid hyb
            have P2 := Lib.hid (show y.length < 2 ^ 62 by rw [List.length_drop] at hyl; omega)
            have P3 := Lib.hid (show uv y 0 0 = ((v : Int), ((vb v).length : Int)) by rw [ey]; exact uv_vb0 y' v hv64)
            obtain ⟨n, hn⟩ : ∃ n, n = (vb v).length := ⟨_, rfl⟩
            rw [← hn] at P3 hvl hly
            have d1 : decide ((n : Int) < 1) = false := by simp; omega
            have d2 : decide ((y.length : Int) < (n : Int)) = false := by simp; omega
            have d3 : decide (y.length < n) = false := by simp; omega
            have hcut := cut_from (P := Try.prog) 24 5 .i64 Try.underlying24 hi0.out 1 hsz.out A y.length c (n : Int) (by omega) (by omega)
            rw [Int.toNat_natCast, show y.length - n = y'.length by omega] at hcut
            obtain ⟨A', hA'⟩ : ∃ A1, A1 = (if c = n then A else A.map (·.add (n * 1))) := ⟨_, rfl⟩
            obtain ⟨c', hc'⟩ : ∃ c1, c1 = c - n := ⟨_, rfl⟩
            rw [← hA', ← hc'] at hcut
            have HK' := Lib.hid (show y'.length ≤ c' by have := HK.out; omega)
            have HD := Lib.hid (fun w' (h : Kd.C (Kd.int .u8) w' A y.length y) => (show Kd.C (Kd.int .u8) w' A' y'.length y' by
              have := Kd.C_drop (m := n) (c := c) h (by omega) HK.out
              rw [show y.drop n = y' by rw [ey, hn, List.drop_left]] at this
              rw [hA']; exact this))
            have HY' := Lib.hid hy'
            have b3 : (0 : Int) ≤ (q : Int) := by omega
            have b4 : (q : Int) < (l.length : Int) := by omega
            clear hv hx1 ey hyb hyl hvl hly hA' hc' hy' hn hv64
            go_wp2_with (go_at_call 28; go_must (refine (unv_calls A y.length c y _ rfl HC.out HK.out P1.out P2.out (v : Int) (n : Int) P3.out).mono ?_; rintro e w6 ⟨rfl, hb6⟩; have HB6 := Lib.hid (below_step HW.out hb6); have HC6 := Lib.hid (Kd.C_below HC.out hb6); clear hb6; have X1 := HX.out _ HB6.out))
            go_roundw
            case rel => exact ⟨q + 1, A', c', y', by omega, by go_num, rfl, ⟨HY'.out⟩, ⟨HK'.out⟩, ⟨HD.out _ HC6.out⟩, ⟨HB6.out⟩⟩
            case measure => simp [intOf]; omega
          · obtain rfl : q = l.length := by omega
            have ey : y = [] := by rw [HY.out, List.drop_length]; rfl
            subst ey
            go_wp2_with (go_at_call 14; go_must (refine (awake6_calls _).mono ?_; rintro e w7 ⟨rfl, hb7⟩))
            go_ret
            exact ⟨rfl, below_step HW.out hb7⟩
theorem u64Range {l : List Int} (h : ∀ x ∈ l, (Lit.int .u64 x).wf = true) : ∀ x ∈ l, 0 ≤ x ∧ x < 18446744073709551616 := fun x hx => by
  have := h x hx
  simp [Lit.wf, IntKind.min, IntKind.max, IntKind.signed, IntKind.bits] at this
  omega
end Go.Proofs.Ytkackggplinelaa.Apart
