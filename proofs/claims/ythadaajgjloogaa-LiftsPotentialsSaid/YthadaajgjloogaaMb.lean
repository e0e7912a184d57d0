import Derived.Test.YthadaajgjloogaaMa
namespace Go.Proofs.Ythadaajgjloogaa.L
open Go.RowKit Go.Shelf Go.Proofs.YthadaajgjloogaaW.PrintWords Go.Proofs.YthadaajgjloogaaW.PrintLast Go.Proofs.YthadaajgjloogaaW.PrintMore
attribute [local go_sem] max2_int min2_int max_two min_two max_three min_three max_four min_four
attribute [local go_sem] Oper.semAt_some

/-! ### the reference's Potential (22) -/
set_option maxHeartbeats 4000000 in
theorem refPot_calls (A B : Option Addr) (ca cb : Nat) (a b : List Int) (w : World) (hr : Kd.C (Kd.int .i64) w A a.length a) (hca : a.length ≤ ca) (hq : Kd.C (Kd.int .i64) w B b.length b) (hcb : b.length ≤ cb) (hh : potB a b = true) :
    Calls Try.prog 22 #[.slice A a.length ca, .slice B b.length cb] w fun e w' => e = .returned (.int .i64 (potF a b)) ∧ Below w.heap.size w w' := by
  simp only [potB, Bool.and_eq_true, decide_eq_true_eq] at hh
  obtain ⟨⟨hpa, hpb⟩, hl⟩ := hh
  have PA := Aside0.mk (posB_pos hpa)
  have PB := Aside0.mk (posB_pos hpb)
  have h3 := PA.out.2.2
  have HDC := Aside0.mk (distRef_calls A B ca cb a b w hr hca hq hcb PA.out.1.all PB.out.1.all (by omega) (by omega))
  have HR := Aside0.mk hr
  have HL := Aside0.mk hl
  have HD := Aside0.mk (distF_range PA.out.1 (by have := PB.out.1; rwa [← HL.out] at this) PA.out.2.2)
  obtain ⟨d0, d1⟩ := HD.out
  have hn1 : (0 : Int) ≤ a.length := by omega
  have hn3 : (a.length : Int) ≤ 3 := by omega
  have hm0 : 0 ≤ (a.length : Int) * distF a b := Int.mul_nonneg hn1 d0
  have hm1 : (a.length : Int) * distF a b ≤ 270 := by
    have := Int.mul_le_mul hn3 d1 d0 (by omega)
    omega
  have hwr : IntKind.i64.wrap ((a.length : Int) * distF a b) = (a.length : Int) * distF a b := IntWalk.i64_in _ (by omega)
  clear hr hq hpa hpb hl hca hcb
  go_enter Try.func22, Try.ntmps22
  go_upto_region 2 with ((with_reducible refine HDC.out.mono ?_); rintro e W ⟨rfl, hb⟩; have HB := Aside0.mk hb; clear hb)
  have HPF : Aside0 (potF a b = (a.length : Int) * distF a b + pS a a.length) := ⟨rfl⟩
  generalize (a.length : Int) * distF a b = K0 at *
  clear hwr HDC HD d0 d1
  go_wp2
  go_loopw [5, 6, 7] (fun v5 v6 _ wr => ∃ m : Nat, m ≤ a.length ∧ v6 = .int .i64 m ∧ v5 = .int .i64 (K0 + pS a m) ∧ Aside0 (Below w.heap.size w wr)) (fun _ v6 _ _ => a.length - (intOf v6).toNat)
  case atStart => exact ⟨0, Nat.zero_le _, rfl, by simp [pS], HB⟩
  case round =>
    clear HB
    obtain ⟨m, hm, rfl, rfl, HB⟩ := hrel
    have hpr := pS_range PA.out.1.fl m (by omega)
    by_cases hlt : m < a.length
    · have HPS : Aside0 (pS a (m + 1) = pS a m + qS a m m) := ⟨rfl⟩
      go_wp2
      go_loopw [5, 7] (fun v5 v7 wr => ∃ j : Nat, j ≤ m ∧ v7 = .int .i64 j ∧ v5 = .int .i64 (K0 + pS a m + qS a m j) ∧ Aside0 (Below w.heap.size w wr)) (fun _ v7 _ => m - (intOf v7).toNat)
      case atStart => exact ⟨0, Nat.zero_le _, rfl, by simp [qS], HB⟩
      case round =>
        clear HB
        obtain ⟨j, hj, rfl, rfl, HB⟩ := hrel
        have hqr := qS_range PA.out.1.fl m (by omega) j (by omega)
        have HCA := Kd.C_below HR.out HB.out
        by_cases hjl : j < m
        · obtain ⟨ad, rfl, hx⟩ := Kd.at_int HCA (m : Int) (by omega) (by omega)
          obtain ⟨ad', e', hy⟩ := Kd.at_int HCA (j : Int) (by omega) (by omega)
          cases e'
          rw [Int.toNat_natCast] at hx hy
          clear HCA
          obtain ⟨p0, p1⟩ := PA.out.1.fl m (by omega)
          obtain ⟨y0, y1⟩ := PA.out.1.fl j (by omega)
          have HQS : Aside0 (qS a m (j + 1) = qS a m j + (rd a m - rd a j)) := ⟨rfl⟩
          have hw1 : IntKind.i64.wrap (K0 + pS a m + qS a m j + rd a m) = K0 + pS a m + qS a m j + rd a m := IntWalk.i64_in _ (by omega)
          have hw2 : IntKind.i64.wrap (K0 + pS a m + qS a m j + rd a m - rd a j) = K0 + pS a m + qS a m j + rd a m - rd a j := IntWalk.i64_in _ (by omega)
          go_wp2
          go_quiet (fail)
          go_wp2
          go_roundw
          case rel => exact ⟨j + 1, by omega, by go_num, by rw [HQS.out]; congr 1; omega, ⟨pw_below_drewN HB.out _⟩⟩
          case measure => simp [intOf]; omega
        · obtain rfl : j = m := by omega
          go_wp2
          go_roundw
          case rel => exact ⟨j + 1, by omega, by go_num, by rw [HPS.out]; congr 1; omega, HB⟩
          case measure => simp [intOf]; omega
    · obtain rfl : m = a.length := by omega
      go_wp2
      go_ret
      exact ⟨by rw [HPF.out]; rfl, HB.out⟩
end Go.Proofs.Ythadaajgjloogaa.L
