/- Walk of a view's Read that is answered. -/
import Derived.Test.YtbebihphodafiaaProg
import Derived.Below
import Derived.Deep.Draws
import Derived.Deep.AppendLies
import Derived.Maps.AppendAt
import Derived.OwnWalk
import Derived.Laws.BytesArg
import Derived.Laws.MakeOwn
import Derived.Laws.OwnMore
import Derived.Deep.OwnRows
import Derived.Tactics
import Derived.Lib.ConvBytes
import Derived.Laws.Slices
import Derived.WalkKit
import Derived.KernelRfl
import Derived.RowKit3
import Derived.Deep.LoopGhost
import Derived.Deep.QuietTactic
import Derived.BigQuiet
import Derived.WideLaws
import Derived.Deep.DeepCutAuto
import Derived.Deep.CutBlock
import Derived.Deep.RegionHeld3
import Derived.Laws.Rows
import Derived.Lib.AppendStr
import Derived.ArgAppend
import Derived.Laws.IdiomCopy
import Derived.OrdersHeld
import Derived.Laws.BitsLemmas
import Derived.RowKit
import Derived.Test.YtbebihphodafiaaWWords
import Derived.Test.YtbebihphodafiaaWLast
import Derived.Test.YtbebihphodafiaaWTab
import Derived.Test.YtbebihphodafiaaWFour
import Derived.Test.YtbebihphodafiaaWQPut
import Derived.Test.YtbebihphodafiaaWApart
import Derived.Test.YtbebihphodafiaaWArr
import Derived.Test.YtbebihphodafiaaWZeros
import Derived.Test.YtbebihphodafiaaWFoot
import Derived.Test.YtbebihphodafiaaWKept
import Derived.Test.YtbebihphodafiaaWShare
import Derived.Test.YtbebihphodafiaaWN
import Derived.Test.YtbebihphodafiaaWFootNe
import Derived.Test.YtbebihphodafiaaWAt
import Derived.Test.YtbebihphodafiaaWEqStruct
import Derived.Test.YtbebihphodafiaaWRepsOne
import Derived.Test.YtbebihphodafiaaWInv
import Derived.Test.YtbebihphodafiaaWInvWords
import Derived.Test.YtbebihphodafiaaWGuard
import Derived.Test.YtbebihphodafiaaWNEv
import Derived.Test.YtbebihphodafiaaWMore
import Derived.Outline
import Derived.Lib.Hide
import Derived.Deep.DeepMust
import Derived.Deep.RegionHeld3
import Derived.Deep.RegionLaw
import Derived.StillTailTactics
import Derived.IntWalk
import Derived.Test.YtbebihphodafiaaRsF
namespace Go.Proofs.Ytbebihphodafiaa.Iv
open Go.RowKit Go.Proofs.YtbebihphodafiaaW.PrintWords Go.Proofs.YtbebihphodafiaaW.PrintLast Go.Proofs.YtbebihphodafiaaW.PrintMore Go.Proofs.Ytbebihphodafiaa.PWb Go.Maps
set_option linter.unusedVariables false
set_option linter.unusedSimpArgs false

def Bx (W : World) (bx : Nat) (f0 n : Int) : Prop := W.heap[bx]? = some (.cells #[.int .i64 f0, .int .i64 n] 60 (0, 0))
theorem Bx.c0 {W : World} {bx : Nat} {f0 n : Int} (h : Bx W bx f0 n) : W.cell? ⟨bx, 0, none⟩ = some (.int .i64 f0) := by rw [cell_of_row W bx 0 _ 60 (0, 0) h]; rfl
theorem Bx.c1 {W : World} {bx : Nat} {f0 n : Int} (h : Bx W bx f0 n) : W.cell? ⟨bx, 1, none⟩ = some (.int .i64 n) := by rw [cell_of_row W bx 1 _ 60 (0, 0) h]; rfl
theorem Bx.below {W W' : World} {bx : Nat} {f0 n : Int} (h : Bx W bx f0 n) (hb : RowKit.Below W.heap.size W W') : Bx W' bx f0 n := (hb.block bx (lt_of_some h)).trans h
theorem Bx.grown {W W' : World} {bx : Nat} {f0 n : Int} (h : Bx W bx f0 n) {row : Option Nat} (hg : W.grownBy W' row) (hr : ∀ k, row = some k → k ≠ bx ∨ ∃ cells t, t ≠ 60 ∧ W.heap[k]? = some (.cells cells t (0, 0))) : Bx W' bx f0 n :=
  (hg.block bx (lt_of_some h) (fun e => by
    rcases hr _ e.symm with h1 | ⟨cells, t, h1, h2⟩
    · exact h1 rfl
    · unfold Bx at h; rw [h] at h2; injection h2 with h2; injection h2 with _ h2; exact h1 h2.symm)).trans h
theorem Bx.mv {W W' : World} {bx b : Nat} {f0 n : Int} (h : Bx W bx f0 n) (hm : Mv b W W') (hne : b ≠ bx) : Bx W' bx f0 n := by
  obtain ⟨w1, hb, rfl | ⟨v, rfl⟩⟩ := hm
  · exact h.below hb
  · exact (h.below hb).grown grown_set (fun k hk => by cases hk; exact .inl hne)

set_option maxHeartbeats 8000000 in
set_option maxRecDepth 100000 in
theorem readOk_calls (fr em mb sb vb : Nat) (blocks most last at_ : Int) (V : Int → List S31) (M : List S31) (L L' : List S60) (R : List S77) (f0 : Int) (n : Nat) (w : World)
    (h : IsW w fr em mb sb vb blocks most last at_ V M L R (fun _ => True)) (hn : 1 ≤ n ∧ n ≤ 16) (hi : inE blocks ⟨f0, n⟩ = true) (ha : addS 64 L [⟨f0, n⟩] = (0, L')) (hR : (R.length + 16) * 40 ≤ 140737488355328) (hL : L.length ≤ 1000000) :
    Calls Try.prog 28 #[.pointer (some ⟨vb, 0, none⟩), .agg #[.int .i64 f0, .int .i64 n]] w fun r w' => ∃ v, r = .returned (.tuple #[v, .int .i64 0]) ∧ IsW w' fr em mb sb vb blocks most last at_ V M L' (R ++ newR V M f0 at_ n) (fun _ => True) ∧ Kept w w' (Sv w fr sb vb) ∧ Same w w' ∧ Kd.R kb 5 w' w.heap.size (fun _ => True) v (rdK V M f0 at_ n) := by
  obtain ⟨n1, n16⟩ := hn
  obtain ⟨i0, i1, i2, i3⟩ := (inE_iff blocks _).1 hi
  simp only at i0 i1 i2 i3
  have hbl := h.ext.bl
  have HF := Lib.hid (show Forty V M from ⟨h.ext.dat, h.buf.srt, fun p hp => (h.buf.rng p hp).2.2⟩)
  have HW := Lib.hid h
  have HI := Lib.hid hi
  have HA := Lib.hid ha
  have HRL := Lib.hid hR
  have HLL := Lib.hid hL
  have hb5 := below_alloc (Below.refl w.heap.size w) (.cells #[.int .i64 f0, .int .i64 n] 60)
  have v0 := pw_cell_below hb5 h.view.c0
  have v2 := pw_cell_below hb5 h.view.c2
  have k0 := World.cell?_alloc_at (w := w) #[.int .i64 f0, .int .i64 n] 60 w.heap.size 0 rfl
  have k1 := World.cell?_alloc_at (w := w) #[.int .i64 f0, .int .i64 n] 60 w.heap.size 1 rfl
  have k0' : (w.alloc (.cells #[.int .i64 f0, .int .i64 n] 60)).cell? ⟨w.heap.size, 0, none⟩ = some (.int .i64 f0) := k0
  have k1' : (w.alloc (.cells #[.int .i64 f0, .int .i64 n] 60)).cell? ⟨w.heap.size, 1, none⟩ = some (.int .i64 n) := k1
  have HB5 := Lib.hid hb5
  have HBX5 := Lib.hid (show Bx (w.alloc (.cells #[.int .i64 f0, .int .i64 n] 60)) w.heap.size f0 n by unfold Bx World.alloc; simp)
  have d1 : decide ((n : Int) < 1) = false := by simp; omega
  have d2 : decide ((16 : Int) < (n : Int)) = false := by simp; omega
  have e1 : ¬ (n : Int) < 1 := by omega
  have e2 : ¬ (16 : Int) < (n : Int) := by omega
  have HX := Lib.hid (show vb < w.heap.size ∧ sb < vb ∧ fr ≤ w.heap.size ∧ vb < fr from ⟨World.block_lt_of_cell? _ _ h.view.c0, h.ord.2.2, h.fits, h.view.lt⟩)
  have HBL := Lib.hid hbl
  clear h hi ha hR hL hb5 k0 k1
  go_enter Try.func28, Try.ntmps28
  go_wp2
  go_step3
  go_wp2
  obtain ⟨w5, h5⟩ : ∃ y, y = w.alloc (.cells #[.int .i64 f0, .int .i64 n] 60) := ⟨_, rfl⟩
  rw [← h5] at v0 v2 k0' k1' HB5 HBX5 ⊢
  clear h5
  have HB5 := Lib.hid (below_drew1 HB5.out)
  have HBX5 := Lib.hid HBX5.out
  obtain ⟨bx, hbx⟩ : ∃ bx, bx = w.heap.size := ⟨_, rfl⟩
  have HBX := Lib.hid hbx
  rw [← hbx] at k0' k1' HBX5 ⊢
  clear hbx
  have HC5 := Lib.hid (show w5.cell? ⟨vb, 0, none⟩ = some (.pointer (some ⟨em + 1, 0, none⟩)) ∧ w5.cell? ⟨vb, 2, none⟩ = some (.int .i64 at_) ∧ w5.cell? ⟨bx, 0, none⟩ = some (.int .i64 f0) ∧ w5.cell? ⟨bx, 1, none⟩ = some (.int .i64 n) from ⟨v0, v2, k0', k1'⟩)
  go_region_held3 (fun w' => w'.cell? ⟨vb, 0, none⟩ = some (.pointer (some ⟨em + 1, 0, none⟩)) ∧ w'.cell? ⟨vb, 2, none⟩ = some (.int .i64 at_) ∧ w'.cell? ⟨bx, 0, none⟩ = some (.int .i64 f0) ∧ w'.cell? ⟨bx, 1, none⟩ = some (.int .i64 n))
    (first | exact HC6.out | exact HC5.out)
    ((go_at_call 56; refine (range_calls fr em blocks last V ⟨f0, n⟩ at_ _ (HW.out.ext.below HB5.out) HI.out).mono ?_; rintro _ w6 ⟨v6, rfl, hB6, hR6⟩; have HC6 := Lib.hid (show w6.cell? ⟨vb, 0, none⟩ = some (.pointer (some ⟨em + 1, 0, none⟩)) ∧ w6.cell? ⟨vb, 2, none⟩ = some (.int .i64 at_) ∧ w6.cell? ⟨bx, 0, none⟩ = some (.int .i64 f0) ∧ w6.cell? ⟨bx, 1, none⟩ = some (.int .i64 n) from ⟨pw_cell_below hB6 HC5.out.1, pw_cell_below hB6 HC5.out.2.1, pw_cell_below hB6 HC5.out.2.2.1, pw_cell_below hB6 HC5.out.2.2.2⟩); have HBX6 := Lib.hid ((HBX5.out.below (below_drew1 (Below.refl _ _))).below hB6); have HB6 := Lib.hid (below_step HB5.out hB6); have HR6 := Lib.hid (Kd.R_lower hR6 HB5.out.size); clear hB6 hR6))
  have hz := rangeK_len HF.out.1 f0 at_ n
  obtain ⟨ob, cap, hv6, hob, hob2, _⟩ := Kd.R_form HR6.out (by simp only [Int.toNat_natCast]; omega)
  simp only [Int.toNat_natCast] at hv6
  have hr0 : rangeK V f0 at_ n = mixK V M f0 at_ 0 n := by simp [mixK, rdK]
  have HR6m := Lib.hid (show Kd.R kb 5 w6 w.heap.size (fun _ => True) (.slice (some ⟨ob, 0, none⟩) (mixK V M f0 at_ 0 n).length cap) (mixK V M f0 at_ 0 n) by rw [← hr0, ← hv6]; simpa using HR6.out)
  obtain ⟨N, hN⟩ : ∃ N, N = (rangeK V f0 at_ n).length := ⟨_, rfl⟩
  have HZ := Lib.hid (fun (k : Nat) (hk : k ≤ n) => show (mixK V M f0 at_ k n).length = N by rw [HF.out.mix_len f0 at_ k n hk, hN, hz])
  have HN := Lib.hid (show 40 * n ≤ N ∧ N ≤ 40 * n by omega)
  have hcap : N ≤ cap := by
    have := (Kd.R_reads' HR6m.out).2.1
    rw [HZ.out 0 (Nat.zero_le _)] at this
    exact this
  have HCAP := Lib.hid hcap
  have HOB := Lib.hid (And.intro hob hob2)
  rw [← hN] at hv6
  subst hv6
  clear hN hz hr0 hcap hob hob2
  go_wp2
  have y3 := pw_cell_below HB6.out HW.out.view.c3
  have z0 := HC6.out.2.2.1
  have z1 := HC6.out.2.2.2
  have HB7 := Lib.hid (below_drew1 HB6.out)
  have HR7 := Lib.hid (Kd.R_below HR6m.out (below_drew1 (Below.refl _ _)))
  have HBX7 := Lib.hid (HBX6.out.below (below_drew1 (Below.refl _ _)))
  have HOB7 := Lib.hid (show w.heap.size ≤ ob ∧ ob < w6.drew.heap.size from HOB.out)
  have HLT7 := Lib.hid (show w.heap.size ≤ w6.drew.heap.size from HB7.out.size)
  have HC7 := Lib.hid (show w6.cell? ⟨vb, 3, none⟩ = some (.pointer (some ⟨sb, 0, none⟩)) ∧ w6.cell? ⟨bx, 0, none⟩ = some (.int .i64 f0) ∧ w6.cell? ⟨bx, 1, none⟩ = some (.int .i64 n) from ⟨y3, z0, z1⟩)
  have HC7a := Lib.hid (show (w6.drew.alloc (.cells #[.int .i64 f0, .int .i64 n] 60)).cell? ⟨vb, 3, none⟩ = some (.pointer (some ⟨sb, 0, none⟩)) ∧ (w6.drew.alloc (.cells #[.int .i64 f0, .int .i64 n] 60)).cell? ⟨bx, 0, none⟩ = some (.int .i64 f0) ∧ (w6.drew.alloc (.cells #[.int .i64 f0, .int .i64 n] 60)).cell? ⟨bx, 1, none⟩ = some (.int .i64 n) from ⟨pw_cell_below (below_drew1 HB6.out |> fun h => below_alloc (Below.refl w6.drew.heap.size w6.drew) _) y3, pw_cell_below (below_alloc (Below.refl w6.drew.heap.size w6.drew) _) z0, pw_cell_below (below_alloc (Below.refl w6.drew.heap.size w6.drew) _) z1⟩)
  go_region_held3 (fun w' => w'.cell? ⟨vb, 3, none⟩ = some (.pointer (some ⟨sb, 0, none⟩)) ∧ w'.cell? ⟨bx, 0, none⟩ = some (.int .i64 f0) ∧ w'.cell? ⟨bx, 1, none⟩ = some (.int .i64 n))
    (first | exact HC8.out | exact HC7.out | exact HC7a.out)
    ((go_at_call 57; refine (add_calls fr sb 64 L (some ⟨w6.drew.heap.size, 0, none⟩) 1 [⟨f0, n⟩] _ (HW.out.set.below (below_step HB7.out (below_alloc (Below.refl _ _) _))) (C60_one _ _ _ _ rfl) (Nat.le_refl 1) (by have := HLL.out; simp; omega) (by have h1 := HX.out; have h2 := HLT7.out; simp at h2 ⊢; omega)).mono ?_; rintro _ w8 ⟨rfl, hI8, hM8⟩; rw [HA.out] at hI8 ⊢; have HS8 := Lib.hid (RdS.start HW.out (below_step HB7.out (below_alloc (Below.refl _ _) _)) hM8 hI8 HOB7.out.1 (Kd.R_below HR7.out (below_alloc (Below.refl _ _) _)) (by have := HOB7.out; simp at this ⊢; omega)); have HBX8 := Lib.hid ((HBX7.out.below (below_alloc (Below.refl _ _) _)).mv hM8 (by have h1 := HX.out; have h2 := HBX.out; omega)); have HC8 := Lib.hid (show w8.cell? ⟨vb, 3, none⟩ = some (.pointer (some ⟨sb, 0, none⟩)) ∧ w8.cell? ⟨bx, 0, none⟩ = some (.int .i64 f0) ∧ w8.cell? ⟨bx, 1, none⟩ = some (.int .i64 n) from ⟨HS8.out.view.c3, HBX8.out.c0, HBX8.out.c1⟩); clear hI8 hM8))
  go_wp2
  have z1 := HBX8.out.c1
  go_step3
  go_wp2
  have H40 := Lib.hid (fun (x : Int) (hx : hasM M x = true) => (show (lookM M x).length = 40 from by
    obtain ⟨p, hp, rfl⟩ := (hasM_iff M x).1 hx
    rw [lookM_mem HF.out.2.1 hp]
    exact HF.out.2.2 p hp))
  have HBLK := Lib.hid (show f0 + (n : Int) ≤ 1048576 ∧ 0 ≤ f0 from ⟨by omega, i0⟩)
  clear z1 v0 v2 k0' k1'
  go_loopw [8, 9, 10, 11, 55] (fun _ _ _ _ i wr => ∃ k : Nat, k ≤ n ∧ i = .int .i64 k ∧ Aside0 (RdS w wr fr em mb sb vb at_ L' (R ++ newR V M f0 at_ k) ob cap (mixK V M f0 at_ k n) ∧ Bx wr bx f0 n)) (fun _ _ _ _ i _ => n - (intOf i).toNat)
  case atStart => exact ⟨0, Nat.zero_le _, rfl, ⟨by simpa [newR] using HS8.out, HBX8.out⟩⟩
  case round =>
    obtain ⟨k, hk, rfl, HO⟩ := hrel
    have HS := Lib.hid HO.out.1
    have HXB := Lib.hid HO.out.2
    clear HO
    by_cases hlt : k < n
    · have HT := Lib.hid (newR_succ V M f0 at_ k)
      have b2 : (k : Int) < (n : Int) := by omega
      have HKN := Lib.hid hlt
      have HMA := Lib.hid (HF.out.mix_at f0 at_ k n hlt)
      have HMO := Lib.hid (HF.out.mix_own f0 at_ k n hlt)
      have HMM := Lib.hid (HF.out.mix_map f0 at_ k n hlt)
      have hzk := HZ.out k hk
      have hzk1 := HZ.out (k + 1) hlt
      have hN := HN.out
      have hC := HCAP.out
      have hBK := HBLK.out
      obtain ⟨A4, c4, y4, hR4⟩ := HS.out.view.c4
      have HR4 := Lib.hid hR4
      have HRK := Lib.hid (show (R ++ newR V M f0 at_ k).length + 1 ≤ R.length + 16 by simp [newR]; omega)
      obtain ⟨x, hx⟩ : ∃ x, x = f0 + (k : Int) := ⟨_, rfl⟩
      have hxr : 0 ≤ x ∧ x < 1048576 := by omega
      have wx : IntKind.i64.wrap (f0 + (k : Int)) = x := by rw [hx]; exact IntWalk.i64_in _ (by omega)
      obtain ⟨lo, hlo⟩ : ∃ lo, lo = 40 * k := ⟨_, rfl⟩
      obtain ⟨hi2, hhi⟩ : ∃ hi2, hi2 = 40 * k + 40 := ⟨_, rfl⟩
      obtain ⟨k1, hk1⟩ : ∃ k1, k1 = k + 1 := ⟨_, rfl⟩
      have wl : IntKind.i64.wrap ((k : Int) * 40) = (lo : Int) := by rw [hlo, IntWalk.i64_in _ (by omega)]; omega
      have wk : IntKind.i64.wrap ((k : Int) + 1) = (k1 : Int) := by rw [hk1, IntWalk.i64_in _ (by omega)]; omega
      have wh : IntKind.i64.wrap ((k1 : Int) * 40) = (hi2 : Int) := by rw [hhi, hk1, IntWalk.i64_in _ (by omega)]; omega
      have hcut := cut_out ob N cap lo hi2 (by omega) (by omega) (by omega) wr
      have e40 : hi2 - lo = 40 := by omega
      rw [e40] at hcut
      have HK1 := Lib.hid (show k1 = k + 1 ∧ lo = 40 * k ∧ hi2 = 40 * k + 40 from ⟨hk1, hlo, hhi⟩)
      rw [← hhi, ← hlo] at HMA
      rw [← hhi, ← hlo] at HMO
      rw [← hx] at HMA HMO HMM HT
      obtain ⟨RK, hRK⟩ : ∃ RK, RK = R ++ newR V M f0 at_ k := ⟨_, rfl⟩
      have HRK' := Lib.hid (show R ++ newR V M f0 at_ (k + 1) = RK ++ [⟨x, rdB V M at_ x, hasM M x⟩] by rw [HT.out, hRK, List.append_assoc])
      rw [← hRK] at y4 HR4 HRK HS
      obtain ⟨Z, hZ⟩ : ∃ Z, Z = mixK V M f0 at_ k n := ⟨_, rfl⟩
      rw [← hZ] at HMA HMO HMM HS hzk
      obtain ⟨Z1, hZ1⟩ : ∃ Z, Z = mixK V M f0 at_ (k + 1) n := ⟨_, rfl⟩
      rw [← hZ1] at HMO HMM hzk1
      have HZ1 := Lib.hid hZ1
      have HZK := Lib.hid (And.intro hzk hzk1)
      have HLO := Lib.hid (show lo + 40 ≤ N by omega)
      have y1 := HS.out.view.c1
      have z0 := HXB.out.c0
      have HXR := Lib.hid hxr
      clear hk1 hlo hhi hx hRK hZ hZ1 hzk hzk1 hN hC hBK hR4 e40 hlt HT hxr
      cases hm : hasM M x with
      | true =>
        have HM := Lib.hid hm
        have HLL40 := Lib.hid (H40.out x hm)
        have HZE := Lib.hid (HMO.out hm)
        have HRB := Lib.hid (show rdB V M at_ x = lookM M x by unfold rdB; rw [if_pos hm])
        clear hm
        have HBUF := Lib.hid ((HW.out.buf.keep HS.out.kept (by have h1 := HW.out.ord; have h2 := HX.out; omega)).below (below_drew1 (Below.refl wr.heap.size wr)))
        have HSIZ := Lib.hid (show fr ≤ wr.drew.heap.size ∧ ob < wr.drew.heap.size from ⟨Nat.le_trans HS.out.frs.1 HS.out.kept.1, HS.out.ge.2⟩)
        go_wp2
        go_region_held3 (fun w' => w'.cell? ⟨vb, 1, none⟩ = some (.pointer (some ⟨mb + 1, 0, none⟩)) ∧ w'.cell? ⟨bx, 0, none⟩ = some (.int .i64 f0))
          (first | exact HC9.out | exact ⟨y1, z0⟩)
          ((go_at_call 24; refine (get_calls fr mb blocks most M x _ HBUF.out (wf_small x HXR.out.1 (by have := HXR.out.2; omega))).mono ?_; rintro _ w9 ⟨v9, rfl, hB9, hR9⟩; rw [HM.out]; have HS9 := Lib.hid ((HS.out.below (below_drew1 (Below.refl _ _))).below hB9); have HXB9 := Lib.hid ((HXB.out.below (below_drew1 (Below.refl _ _))).below hB9); have HR49 := Lib.hid (Kd.R_below (Kd.R_below HR4.out (below_drew1 (Below.refl _ _))) hB9); have HR9 := Lib.hid (show Kd.R kb 5 w9 fr (fun k => (fr ≤ k ∧ k ≠ ob) ∧ some k ≠ (Value.slice A4 RK.length c4).ownBlock) v9 (lookM M x) from Kd.R_lower (Kd.R_mono (Kd.R_bound hR9) (fun j hj => ⟨⟨Nat.le_trans HSIZ.out.1 hj.2.1, by have h1 := hj.2.1; have h2 := HSIZ.out.2; omega⟩, fun e => by have h1 := Kd.R_lt HR4.out j e.symm; have h2 := hj.2.1; have h3 : wr.drew.heap.size = wr.heap.size := rfl; omega⟩)) HSIZ.out.1); have Y49 := Lib.hid (show w9.cell? ⟨vb, 4, none⟩ = some (.slice A4 RK.length c4) from pw_cell_below hB9 y4); have HC9 := Lib.hid (show w9.cell? ⟨vb, 1, none⟩ = some (.pointer (some ⟨mb + 1, 0, none⟩)) ∧ w9.cell? ⟨bx, 0, none⟩ = some (.int .i64 f0) from ⟨HS9.out.view.c1, HXB9.out.c0⟩); clear hB9 hR9))
        clear y1 z0 y4
        obtain ⟨A9, c9, hv9, hl9, hC9⟩ := Kd.R_reads HR9.out
        have HR9v := Lib.hid HR9.out
        rw [HLL40.out] at hv9 hl9 hC9
        rw [hv9] at HR9v ⊢
        have HC9r := Lib.hid hC9
        clear hl9 hC9
        go_wp2_with ((with_reducible refine gate_builtin (b := .copy) (xs := #[.tmp 78, .tmp 79]) rfl ?_); go_must (refine cp_mid (base := w.heap.size) (ok := fun _ => True) (g := ob) (lo := lo) (cap := cap) (cap2 := cap - lo) (m := 40) (c := c9) (xs := Z) rfl (.tmp 78) (.tmp 79) rfl rfl rfl HS9.out.out HC9r.out (by decide) (by have := HLO.out; have := HZK.out; omega) ?_; intro w10 hR10 hg10; have HS10 := Lib.hid (HS9.out.cpy (Z' := Z1) hg10 (by have := HZK.out; omega) (by have := HLO.out; have := HZK.out; omega) (by have h1 := HZE.out; have h2 := HK1.out; rw [show hi2 = lo + 40 by omega] at h1; rw [← h1]; exact hR10)); have HXB10 := Lib.hid (HXB9.out.grown hg10 (fun j hj => by cases hj; exact (Kd.R_typed HS9.out.out ob rfl).elim fun cells e => .inr ⟨cells, 5, by decide, e⟩)); have Y410 := Lib.hid (hg10.cell Y49.out (fun e => by have e' : vb = ob := (by injection e); have h1 := HX.out; have h2 := HOB.out; omega)); have HR410 := Lib.hid (Kd.R_grown HR49.out hg10 (fun k hk e => by injection e with e; exact hk.2 e)); have HO10 := Lib.hid (Kd.R_grown HR9v.out hg10 (fun k hk e => by injection e with e; exact hk.1.2 e)); clear hR10 hg10))
        have p4 : w10.drew.cell? ⟨vb, 4, none⟩ = some (.slice A4 RK.length c4) := Y410.out
        have p5 : w10.drew.frozen? ⟨vb, 4, none⟩ = false := HS10.out.view.f4
        have p0 : w10.drew.cell? ⟨bx, 0, none⟩ = some (.int .i64 f0) := HXB10.out.c0
        have p4a : (w10.drew.alloc (.cells #[.int .i64 x, .slice A9 40 c9, .bool true] 77)).cell? ⟨vb, 4, none⟩ = some (.slice A4 RK.length c4) := pw_cell_below (below_alloc (Below.refl w10.drew.heap.size w10.drew) _) p4
        have p0a : (w10.drew.alloc (.cells #[.int .i64 x, .slice A9 40 c9, .bool true] 77)).cell? ⟨bx, 0, none⟩ = some (.int .i64 f0) := pw_cell_below (below_alloc (Below.refl w10.drew.heap.size w10.drew) _) p0
        have p4b : (w10.alloc (.cells #[.int .i64 x, .slice A9 40 c9, .bool true] 77)).cell? ⟨vb, 4, none⟩ = some (.slice A4 RK.length c4) := p4a
        have p0b : (w10.alloc (.cells #[.int .i64 x, .slice A9 40 c9, .bool true] 77)).cell? ⟨bx, 0, none⟩ = some (.int .i64 f0) := p0a
        have p4c : w10.cell? ⟨vb, 4, none⟩ = some (.slice A4 RK.length c4) := p4
        have p0c : w10.cell? ⟨bx, 0, none⟩ = some (.int .i64 f0) := p0
        have HS10d := Lib.hid (HS10.out.below (below_drew1 (Below.refl _ _)))
        have HXB10d := Lib.hid (HXB10.out.below (below_drew1 (Below.refl _ _)))
        have HR410d := Lib.hid (Kd.R_below HR410.out (below_drew1 (Below.refl _ _)))
        have HO10d := Lib.hid (Kd.R_below HO10.out (below_drew1 (Below.refl _ _)))
        have HNE := Lib.hid (show some vb ≠ (Value.slice A4 RK.length c4).ownBlock from fun e => by have h1 := Kd.R_base HR410.out vb e.symm; have h2 := HX.out; omega)
        have HVL := Lib.hid (World.block_lt_of_cell? _ _ p4)
        have HP5 := Lib.hid p5
        have HP4 := Lib.hid p4
        have HSD := Lib.hid (show fr ≤ w10.drew.heap.size ∧ ∀ k, w10.drew.heap.size ≤ k → (fr ≤ k ∧ k ≠ ob) from ⟨Nat.le_trans HS10d.out.frs.1 HS10d.out.kept.1, fun k hk => ⟨Nat.le_trans (Nat.le_trans HS10d.out.frs.1 HS10d.out.kept.1) hk, by have := HS10d.out.ge; omega⟩⟩)
        have HLR := Lib.hid (show (RK.length + 1) * 40 ≤ 140737488355328 from by have h1 := HRK.out; have h2 := HRL.out; omega)
        go_region_law (first | (refine app_read_step fr (fun k => fr ≤ k ∧ k ≠ ob) (by rfl) (.tmp 85) (.tmp 92) rfl (.slice A4 RK.length c4) RK ⟨x, lookM M x, true⟩ (.slice A9 40 c9) rfl (by rfl) HO10d.out HR410d.out HSD.out.1 HSD.out.2 HLR.out ?_; intro v11 w11 hR11 hg11; obtain ⟨A11, c11, hv11⟩ := Kd.R_slice hR11; subst hv11; have q4 := hg11.cell HP4.out HNE.out; have q5 := (frozen_grown (j := 4) hg11 HVL.out HNE.out).trans HP5.out; have HS11 := Lib.hid (HS10d.out.app HR410d.out hR11 hg11); have HXB11 := Lib.hid (HXB10d.out.grown hg11 (fun j hj => (Kd.R_typed HR410d.out j hj).elim fun cells e => .inr ⟨cells, 77, by decide, e⟩)); clear hR11 hg11))
        all_goals go_wp2
        all_goals
          refine ⟨⟨k1, by have h1 := HK1.out; have h2 := HKN.out; omega, by go_num, ⟨by rw [HK1.out.1, HRK'.out, HRB.out, HM.out, ← HZ1.out]; (have h := HS11.out; simp only [List.length_append, List.length_cons, List.length_nil, Nat.zero_add] at h; exact h), HXB11.out.grown grown_set (fun j hj => by cases hj; exact .inl (by have h1 := HX.out; have h2 := HBX.out; omega))⟩⟩, ?_⟩
          have h1 := HK1.out
          have h2 := HKN.out
          simp [intOf]
          omega
      | false =>
        have HM := Lib.hid hm
        have HG40 := Lib.hid (getE_len HF.out.1 x at_)
        have HZE := Lib.hid (HMM.out hm)
        have HRB := Lib.hid (show rdB V M at_ x = getE V x at_ by unfold rdB; rw [if_neg (by rw [hm]; decide)])
        clear hm
        have HBUF := Lib.hid ((HW.out.buf.keep HS.out.kept (by have h1 := HW.out.ord; have h2 := HX.out; omega)).below (below_drew1 (Below.refl wr.heap.size wr)))
        go_wp2
        go_region_held3 (fun w' => w'.cell? ⟨vb, 1, none⟩ = some (.pointer (some ⟨mb + 1, 0, none⟩)) ∧ w'.cell? ⟨bx, 0, none⟩ = some (.int .i64 f0))
          (first | exact HC9.out | exact ⟨y1, z0⟩)
          ((go_at_call 24; refine (get_calls fr mb blocks most M x _ HBUF.out (wf_small x HXR.out.1 (by have := HXR.out.2; omega))).mono ?_; rintro _ w9 ⟨v9, rfl, hB9, hR9⟩; rw [HM.out]; have HS9 := Lib.hid ((HS.out.below (below_drew1 (Below.refl _ _))).below hB9); have HXB9 := Lib.hid ((HXB.out.below (below_drew1 (Below.refl _ _))).below hB9); have HR49 := Lib.hid (Kd.R_below (Kd.R_below HR4.out (below_drew1 (Below.refl _ _))) hB9); have Y49 := Lib.hid (show w9.cell? ⟨vb, 4, none⟩ = some (.slice A4 RK.length c4) from pw_cell_below hB9 y4); have HC9 := Lib.hid (show w9.cell? ⟨vb, 1, none⟩ = some (.pointer (some ⟨mb + 1, 0, none⟩)) ∧ w9.cell? ⟨bx, 0, none⟩ = some (.int .i64 f0) from ⟨HS9.out.view.c1, HXB9.out.c0⟩); clear hB9 hR9))
        clear y1 z0 y4
        have HCE := Lib.hid (show Kd.C kb w9.drew (some ⟨ob, lo, none⟩) 40 (getE V x at_) from by
          have h1 := (Kd.R_reads' (Kd.R_below HS9.out.out (below_drew1 (Below.refl _ _)))).2
          have h2 := Kd.C_mid (lo := lo) (hi := hi2) h1.2 (by have := HK1.out; omega) (by have h3 := HK1.out; have h4 := HLO.out; have h5 := HZK.out; omega) h1.1
          have h6 : ¬ cap = lo := by have h3 := HK1.out; have h4 := HLO.out; have h5 := HCAP.out; omega
          rw [HMA.out, HG40.out, if_neg h6] at h2
          simpa [add_plain, kb, show (Kd.int IntKind.u8).sz = 1 from rfl] using h2)
        have HCL := Lib.hid (fun W (h : Kd.C kb W (some ⟨ob, lo, none⟩) 40 (getE V x at_)) => (show Calls Try.prog 49 #[.slice (some ⟨ob, lo, none⟩) 40 (cap - lo)] W _ from by
          have h1 := cloneB_calls (some ⟨ob, lo, none⟩) (cap - lo) (getE V x at_) W (by rw [HG40.out]; exact h) (by rw [HG40.out]; decide)
          rw [HG40.out] at h1
          exact h1))
        have p4 : w9.drew.cell? ⟨vb, 4, none⟩ = some (.slice A4 RK.length c4) := Y49.out
        have p0 : w9.drew.cell? ⟨bx, 0, none⟩ = some (.int .i64 f0) := HXB9.out.c0
        have p4c : w9.cell? ⟨vb, 4, none⟩ = some (.slice A4 RK.length c4) := p4
        have p0c : w9.cell? ⟨bx, 0, none⟩ = some (.int .i64 f0) := p0
        have HS9d := Lib.hid (HS9.out.below (below_drew1 (Below.refl _ _)))
        have HXB9d := Lib.hid (HXB9.out.below (below_drew1 (Below.refl _ _)))
        have HR49d := Lib.hid (Kd.R_below HR49.out (below_drew1 (Below.refl _ _)))
        have HP4 := Lib.hid p4
        have HNE := Lib.hid (show some vb ≠ (Value.slice A4 RK.length c4).ownBlock from fun e => by have h1 := Kd.R_base HR49.out vb e.symm; have h2 := HX.out; omega)
        have HSD := Lib.hid (show fr ≤ w9.drew.heap.size ∧ ob < w9.drew.heap.size from ⟨Nat.le_trans HS9d.out.frs.1 HS9d.out.kept.1, HS9d.out.ge.2⟩)
        have HLR := Lib.hid (show (RK.length + 1) * 40 ≤ 140737488355328 from by have h1 := HRK.out; have h2 := HRL.out; omega)
        go_wp2
        go_region_law (first
          | (refine app_read_step fr (fun k => fr ≤ k ∧ k ≠ ob) (by rfl) (.tmp 100) (.tmp 108) rfl (.slice A4 RK.length c4) RK ⟨x, getE V x at_, false⟩ (.slice A10 40 c10) rfl (by rfl) HO10.out HR410.out HSD10.out.1 HSD10.out.2 HLR.out ?_; intro v11 w11 hR11 hg11; obtain ⟨A11, c11, hv11⟩ := Kd.R_slice hR11; subst hv11; have q4 := hg11.cell HP410.out HNE.out; have q5 := (frozen_grown (j := 4) hg11 (World.block_lt_of_cell? _ _ HP410.out) HNE.out).trans HS10.out.view.f4; have HS11 := Lib.hid (HS10.out.app HR410.out hR11 hg11); have HXB11 := Lib.hid (HXB10.out.grown hg11 (fun j hj => (Kd.R_typed HR410.out j hj).elim fun cells e => .inr ⟨cells, 77, by decide, e⟩)); clear hR11 hg11)
          | (go_simp; go_at_call 49; refine (HCL.out _ HCE.out).mono ?_; rintro _ w10 ⟨v10, rfl, hB10, hR10⟩; obtain ⟨A10, c10, hv10, _, _⟩ := Kd.R_reads hR10; rw [HG40.out] at hv10; subst hv10; have HS10 := Lib.hid (HS9d.out.below hB10); have HXB10 := Lib.hid (HXB9d.out.below hB10); have HR410 := Lib.hid (Kd.R_below HR49d.out hB10); have HSD10 := Lib.hid (show fr ≤ w10.heap.size ∧ ∀ k, w10.heap.size ≤ k → (fr ≤ k ∧ k ≠ ob) from ⟨Nat.le_trans HSD.out.1 hB10.size, fun k hk => ⟨Nat.le_trans (Nat.le_trans HSD.out.1 hB10.size) hk, by have h1 := HSD.out.2; have h2 := hB10.size; omega⟩⟩); have HO10 := Lib.hid (show Kd.R kb 5 w10 fr (fun k => (fr ≤ k ∧ k ≠ ob) ∧ some k ≠ (Value.slice A4 RK.length c4).ownBlock) (.slice A10 40 c10) (getE V x at_) from Kd.R_lower (Kd.R_mono (Kd.R_bound hR10) (fun j hj => ⟨⟨Nat.le_trans HSD.out.1 hj.2.1, by have h1 := hj.2.1; have h2 := HSD.out.2; omega⟩, fun e => by have h1 := Kd.R_lt HR49d.out j e.symm; have h2 := hj.2.1; omega⟩)) HSD.out.1); have HP410 := Lib.hid (pw_cell_below hB10 HP4.out); have r4 : w10.cell? ⟨vb, 4, none⟩ = some (.slice A4 RK.length c4) := HP410.out; have r0 : w10.cell? ⟨bx, 0, none⟩ = some (.int .i64 f0) := HXB10.out.c0; have s4 : (w10.alloc (.cells #[.int .i64 x, .slice A10 40 c10, .bool false] 77)).cell? ⟨vb, 4, none⟩ = some (.slice A4 RK.length c4) := pw_cell_below (below_alloc (Below.refl w10.heap.size w10) _) r4; have s0 : (w10.alloc (.cells #[.int .i64 x, .slice A10 40 c10, .bool false] 77)).cell? ⟨bx, 0, none⟩ = some (.int .i64 f0) := pw_cell_below (below_alloc (Below.refl w10.heap.size w10) _) r0; clear hB10 hR10))
        all_goals go_wp2
        all_goals
          refine ⟨⟨k1, by have h1 := HK1.out; have h2 := HKN.out; omega, by go_num, ⟨by rw [HK1.out.1, HRK'.out, HRB.out, HM.out, ← HZ1.out, HZE.out]; (have h := HS11.out; simp only [List.length_append, List.length_cons, List.length_nil, Nat.zero_add] at h; exact h), HXB11.out.grown grown_set (fun j hj => by cases hj; exact .inl (by have h1 := HX.out; have h2 := HBX.out; omega))⟩⟩, ?_⟩
          have h1 := HK1.out
          have h2 := HKN.out
          simp [intOf]
          omega
    · obtain rfl : k = n := by omega
      have b2 : ¬ (k : Int) < (k : Int) := by omega
      have HZF := Lib.hid (show mixK V M f0 at_ k k = rdK V M f0 at_ k by unfold mixK; rw [List.drop_of_length_le (by rw [rangeK_len HF.out.1]; omega), List.append_nil])
      have HZN := Lib.hid (HZ.out k hk)
      have HB5 := HB5
      go_wp2
      try rw [Exit.noGoto_ret]
      go_ret2
      have HR := HS.out.out
      rw [HZN.out] at HR
      exact ⟨_, rfl, RdS.isW HW.out HS.out, HS.out.kept, HS.out.sm, by rw [← HZF.out]; exact HR⟩
end Go.Proofs.Ytbebihphodafiaa.Iv
