import Derived.Test.YthadaajgjloogaaQg
namespace Go.Proofs.Ythadaajgjloogaa.L
open Go.RowKit Go.Shelf Go.Proofs.YthadaajgjloogaaW.PrintWords Go.Proofs.YthadaajgjloogaaW.PrintLast Go.Proofs.YthadaajgjloogaaW.PrintMore
attribute [local go_sem] max2_int min2_int max_two min_two max_three min_three max_four min_four
attribute [local go_sem] Oper.semAt_some

/-! ### LiftsCompetes (5) -/
theorem pot_range {k : Nat} (h1 : 1 ≤ k) (h3 : k ≤ 3) {p q : List Int} (hp : p ∈ allP k) (hq : q ∈ allP k) : 0 ≤ potF p q ∧ potF p q ≤ 1000 := by
  have hd := distF_range (allP_pos hp) (allP_pos hq) h3
  refine ⟨pot_nn h1 h3 hp hq, ?_⟩
  have hs := pS_range (allP_pos hp).fl p.length (by rw [allP_len hp]; omega)
  have hl := allP_len hp
  unfold potF
  have h4 : (p.length : Int) * distF p q ≤ 270 := by
    have := Int.mul_le_mul (show (p.length : Int) ≤ 3 by omega) hd.2 hd.1 (by omega)
    omega
  have : (p.length : Int) ≤ 3 := by omega
  omega
theorem row_at {W : World} {A : Option Addr} {l : List (List Int)} (h : Kd.C (Kd.slice 3 (Kd.int .i64)) W A l.length l) {k j : Nat} (hj : j < l.length) (hk : (rL l j).length = k) :
    ∃ ad A0 c0, A = some ad ∧ W.cell? (ad.add j) = some (.slice A0 k c0) ∧ k ≤ c0 ∧ Kd.C (Kd.int .i64) W A0 k (rL l j) := by
  obtain ⟨ad, A0, c0, h1, h2, h3, h4⟩ := PLiftsWorks.at_L1 h (j : Int) (by omega) (by omega)
  rw [Int.toNat_natCast] at h2
  have e : PLiftsWorks.rd_L1 l (j : Int) = rL l j := rfl
  rw [e, hk] at h2 h3 h4
  exact ⟨ad, A0, c0, h1, h2, h3, h4⟩
set_option maxRecDepth 100000 in
set_option maxHeartbeats 8000000 in
theorem competesLaw (A C D : Option Addr) (ca cc cd : Nat) (l0 l1 : List Int) (l2 : List (List Int)) (w : World) (hr : Kd.C (Kd.int .i64) w A l0.length l0) (hca : l0.length ≤ ca) (hq : Kd.C (Kd.int .i64) w C l1.length l1) (hcc : l1.length ≤ cc) (hd : Kd.C (Kd.slice 3 (Kd.int .i64)) w D l2.length l2) (hcd : l2.length ≤ cd) :
    Calls Try.prog 5 #[.slice A l0.length ca, .slice C l1.length cc, .slice D l2.length cd] w fun e w' => e = .returned (.bool true) ∧ Below w.heap.size w w' := by
  have HR := Aside0.mk hr
  have HQ := Aside0.mk hq
  have HD := Aside0.mk hd
  have HCA := Aside0.mk hca
  have HCC := Aside0.mk hcc
  have HCD := Aside0.mk hcd
  have HB := Aside0.mk (Below.refl w.heap.size w)
  have HK := Aside0.mk (liftedF_range l0)
  have hmx := Kd.C_max hr
  clear hr hq hd hca hcc hcd
  go_enter Try.func5, Try.ntmps5
  go_upto_region 2 with ((with_reducible refine (lifted_calls A ca l0 _ HR.out HCA.out).mono ?_); rintro e W1 ⟨rfl, hb⟩; have HR' := Aside0.mk (Kd.C_below HR.out hb); clear HR; have HR := HR'; clear HR'; have HQ' := Aside0.mk (Kd.C_below HQ.out hb); clear HQ; have HQ := HQ'; clear HQ'; have HD' := Aside0.mk (Kd.C_below HD.out hb); clear HD; have HD := HD'; clear HD'; have HB' := Aside0.mk (below_step HB.out hb); clear HB; have HB := HB'; clear HB'; clear hb )
  have hk1 := HK.out.1
  have hk3 := HK.out.2
  generalize liftedF l0 = k at *
  go_upto_region 3 with (first
    | ((with_reducible refine (tame_calls A ca l0 k hk3 _ HR.out HCA.out).mono ?_); rintro e W2 ⟨A2, c2, rfl, hc2, hr2, hb⟩; have HR' := Aside0.mk (Kd.C_below HR.out hb); clear HR; have HR := HR'; clear HR'; have HQ' := Aside0.mk (Kd.C_below HQ.out hb); clear HQ; have HQ := HQ'; clear HQ'; have HD' := Aside0.mk (Kd.C_below HD.out hb); clear HD; have HD := HD'; clear HD'; have HB' := Aside0.mk (below_step HB.out hb); clear HB; have HB := HB'; clear HB'; have HC2 := Aside0.mk (Kd.R_reads' hr2).2.2; have _HcA := Aside0.mk hc2; clear hb hr2 hc2)
    | ((with_reducible refine (calls25_calls C cc l1 20 20 rfl (by omega) _ HQ.out HCC.out).mono ?_); rintro e W3 ⟨B2, d2, rfl, hd2, hr2, hb⟩; have HR' := Aside0.mk (Kd.C_below HR.out hb); clear HR; have HR := HR'; clear HR'; have HQ' := Aside0.mk (Kd.C_below HQ.out hb); clear HQ; have HQ := HQ'; clear HQ'; have HD' := Aside0.mk (Kd.C_below HD.out hb); clear HD; have HD := HD'; clear HD'; have HC2' := Aside0.mk (Kd.C_below HC2.out hb); clear HC2; have HC2 := HC2'; clear HC2'; have HB' := Aside0.mk (below_step HB.out hb); clear HB; have HB := HB'; clear HB'; have HD2 := Aside0.mk (Kd.R_reads' hr2).2.2; have _HcB := Aside0.mk hd2; clear hb hr2 hd2))
  have HH := Aside0.mk (hall_tame l0 l1 hk1 hk3 (m := 20) (by omega))
  have HP := Aside0.mk (tameF_allP l0 hk3)
  have HCL := Aside0.mk (callsF_len l1 20)
  have HCR := Aside0.mk (callsF_range l1 20)
  generalize tameF l0 k = s at *
  generalize callsF l1 20 = c at *
  obtain rfl : s.length = k := allP_len HP.out
  have HS1 := Aside0.mk (careful_sched HH.out)
  have HS4 : Aside0 (schedB s.length c (servedF l2 s.length c) = true) := ⟨served_sched l2 hk1 hk3 HCR.out⟩
  have HXL : Aside0 ((runL cS s c).length = c.length) := ⟨run_len cS s c⟩
  have HYL : Aside0 ((servedF l2 s.length c).length = c.length) := ⟨(sched_rows HS4.out).1⟩
  have HYR := Aside0.mk (sched_rows HS4.out).2
  clear HR HQ
  have HF1 : Aside0 (∀ V, Kd.C (Kd.int .i64) V A2 s.length s → Kd.C (Kd.int .i64) V B2 c.length c → Calls Try.prog 27 #[.slice A2 s.length c2, .slice B2 c.length d2] V (Sched V (runL cS s c) (runC cS s c))) := ⟨fun V h1 h2 => Careful_s A2 B2 c2 d2 s c V HH.out h1 h2⟩
  have HK4 : Aside0 (∀ V (E : Option Addr) (ce : Nat), Kd.C (Kd.int .i64) V A2 s.length s → Kd.C (Kd.int .i64) V B2 c.length c → Kd.C (Kd.slice 3 (Kd.int .i64)) V E (servedF l2 s.length c).length (servedF l2 s.length c) → Calls Try.prog 28 #[.slice A2 s.length c2, .slice B2 c.length d2, .slice E (servedF l2 s.length c).length ce] V fun e w' => e = .returned (.tuple #[.int .i64 (costTo s (servedF l2 s.length c) c.length), .int .i64 0]) ∧ Below V.heap.size V w') := ⟨fun V E ce h1 h2 h3 => Cost_s A2 B2 c2 d2 s c V HH.out h1 h2 E ce _ _ HS4.out rfl h3⟩
  have HSV : Aside0 (∀ V, Kd.C (Kd.slice 3 (Kd.int .i64)) V D l2.length l2 → Kd.C (Kd.int .i64) V B2 c.length c → Calls Try.prog 26 #[.slice D l2.length cd, .int .i64 s.length, .slice B2 c.length d2] V (Rowed V (servedF l2 s.length c))) := ⟨fun V h1 h2 => served_calls D B2 cd d2 l2 s.length hk1 hk3 c (by have := HCL.out; omega) V h1 HCD.out h2 _HcB.out⟩
  have HCP : Aside0 (∀ j, j < c.length → distF (stepS cS () s c j).2.1 (rL (runL cS s c) j) + potF (rL (runL cS s c) j) (rL (servedF l2 s.length c) j) - potF (stepS cS () s c j).2.1 (nowAt s (servedF l2 s.length c) j) ≤ s.length * distF (nowAt s (servedF l2 s.length c) j) (rL (servedF l2 s.length c) j)) := ⟨fun j hj => by
    rw [show rL (runL cS s c) j = carefulF (stepS cS () s c j).2.1 (rd c j) from stepS_rL cS () s c c.length j hj]
    have hy := row_allP (HYR.out j hj)
    exact comp_step hk1 hk3 (cS_ok HH.out j (by omega)) (now_allP HH.out j (fun i hi => HYR.out i (by omega))) hy.1 (HCR.out _ (rd_mem hj)) hy.2⟩
  have HNX : Aside0 (∀ j, j < c.length → (stepS cS () s c (j + 1)).2.1 = rL (runL cS s c) j ∧ (stepS cS () s c (j + 1)).2.2.2 = (stepS cS () s c j).2.2.2 + distF (stepS cS () s c j).2.1 (rL (runL cS s c) j)) := ⟨fun j hj => by
    rw [show rL (runL cS s c) j = (stepS cS () s c (j + 1)).2.1 from stepS_rL cS () s c c.length j hj]
    exact ⟨rfl, rfl⟩⟩
  have HXA : Aside0 (∀ j, j < c.length → rL (runL cS s c) j ∈ allP s.length) := ⟨fun j hj => (row_allP ((sched_rows HS1.out).2 j hj)).1⟩
  have HYA : Aside0 (∀ j, j < c.length → rL (servedF l2 s.length c) j ∈ allP s.length) := ⟨fun j hj => (row_allP (HYR.out j hj)).1⟩
  have HWA : Aside0 (∀ j, j ≤ c.length → nowAt s (servedF l2 s.length c) j ∈ allP s.length) := ⟨fun j hj => now_allP HH.out j (fun i hi => HYR.out i (by omega))⟩
  have HNA : Aside0 (∀ j, j ≤ c.length → (stepS cS () s c j).2.1 ∈ allP s.length) := ⟨fun j hj => cS_ok HH.out j hj⟩
  have HCO : Aside0 (∀ j, j ≤ c.length → 0 ≤ (stepS cS () s c j).2.2.2 ∧ (stepS cS () s c j).2.2.2 ≤ 90 * (j : Int)) := ⟨fun j hj => stepS_cost2 cS () s c hk3 (fun i hi => allP_pos (cS_ok HH.out i hi)) j hj⟩
  have HALL := Aside0.mk (comp_all HH.out HS4.out)
  have HYC : Aside0 (0 ≤ costTo s (servedF l2 s.length c) c.length ∧ costTo s (servedF l2 s.length c) c.length ≤ 90 * (c.length : Int)) := ⟨costTo_range hk3 (allP_pos HP.out) c.length (fun i hi => HYR.out i hi)⟩
  have HRC : Aside0 ((stepS cS () s c c.length).2.2.2 = runC cS s c) := ⟨rfl⟩
  have HNW : Aside0 (∀ j, nowAt s (servedF l2 s.length c) (j + 1) = rL (servedF l2 s.length c) j) := ⟨fun j => rfl⟩
  have HCM := Aside0.mk (Kd.C_max HD2.out)
  go_upto_region 4 with ((with_reducible refine (HSV.out _ HD.out HD2.out).mono ?_); rintro e W4 ⟨E4, e4, rfl, he4, hx4, hb⟩; have HD' := Aside0.mk (Kd.C_below HD.out hb); clear HD; have HD := HD'; clear HD'; have HC2' := Aside0.mk (Kd.C_below HC2.out hb); clear HC2; have HC2 := HC2'; clear HC2'; have HD2' := Aside0.mk (Kd.C_below HD2.out hb); clear HD2; have HD2 := HD2'; clear HD2'; have HB' := Aside0.mk (below_step HB.out hb); clear HB; have HB := HB'; clear HB'; have HX4 := Aside0.mk hx4; have _HE4 := Aside0.mk he4; clear hb he4 hx4)
  go_upto_region 5 with ((with_reducible refine (HF1.out _ HC2.out HD2.out).mono ?_); rintro e W5 ⟨E1, e1, rfl, he1, hx1, hb⟩; have HD' := Aside0.mk (Kd.C_below HD.out hb); clear HD; have HD := HD'; clear HD'; have HC2' := Aside0.mk (Kd.C_below HC2.out hb); clear HC2; have HC2 := HC2'; clear HC2'; have HD2' := Aside0.mk (Kd.C_below HD2.out hb); clear HD2; have HD2 := HD2'; clear HD2'; have HX4' := Aside0.mk (Kd.C_below HX4.out hb); clear HX4; have HX4 := HX4'; clear HX4'; have HB' := Aside0.mk (below_step HB.out hb); clear HB; have HB := HB'; clear HB'; have HX1 := Aside0.mk hx1; have _HE1 := Aside0.mk he1; clear hb he1 hx1)
  go_upto_region 6 with ((with_reducible refine (HK4.out _ E4 e4 HC2.out HD2.out HX4.out).mono ?_); rintro e W6 ⟨rfl, hb⟩; have HD' := Aside0.mk (Kd.C_below HD.out hb); clear HD; have HD := HD'; clear HD'; have HC2' := Aside0.mk (Kd.C_below HC2.out hb); clear HC2; have HC2 := HC2'; clear HC2'; have HD2' := Aside0.mk (Kd.C_below HD2.out hb); clear HD2; have HD2 := HD2'; clear HD2'; have HX4' := Aside0.mk (Kd.C_below HX4.out hb); clear HX4; have HX4 := HX4'; clear HX4'; have HX1' := Aside0.mk (Kd.C_below HX1.out hb); clear HX1; have HX1 := HX1'; clear HX1'; have HB' := Aside0.mk (below_step HB.out hb); clear HB; have HB := HB'; clear HB'; clear hb )
  clear HF1 HK4 HSV HS1 HS4 HK
  generalize servedF l2 s.length c = Y at *
  generalize runL cS s c = X at *
  rw [HXL.out] at HX1 ⊢
  rw [HYL.out] at HX4 ⊢
  have hcl : c.length ≤ 20 := HCL.out
  have hcm := HCM.out
  go_wp2
  obtain ⟨Wb, rfl⟩ : ∃ Wb, Wb = W6 := ⟨W6, rfl⟩
  have HBw := HB
  clear HB
  go_loopw [16, 17, 18, 19, 20, 21, 22, 23, 24] (fun v16 v17 v18 v19 _ _ _ _ _ wr => ∃ (j : Nat) (An Aw : Option Addr) (cn cw : Nat), j ≤ c.length ∧ v19 = .int .i64 j ∧ v16 = .slice An s.length cn ∧ v17 = .slice Aw s.length cw ∧ v18 = .int .i64 (stepS cS () s c j).2.2.2 ∧ Aside0 (s.length ≤ cn ∧ Kd.C (Kd.int .i64) wr An s.length (stepS cS () s c j).2.1) ∧ Aside0 (s.length ≤ cw ∧ Kd.C (Kd.int .i64) wr Aw s.length (nowAt s Y j)) ∧ Aside0 (Below Wb.heap.size Wb wr)) (fun _ _ _ v19 _ _ _ _ _ _ => c.length - (intOf v19).toNat)
  case atStart => exact ⟨0, A2, A2, c2, c2, Nat.zero_le _, rfl, rfl, rfl, rfl, ⟨_HcA.out, HC2.out⟩, ⟨_HcA.out, HC2.out⟩, ⟨Below.refl _ _⟩⟩
  case round =>
    obtain ⟨j, An, Aw, cn, cw, hj, rfl, rfl, rfl, rfl, HN, HV, HU⟩ := hrel
    by_cases hlt : j < c.length
    · have HPX := Aside0.mk (HXA.out j hlt)
      have HPY := Aside0.mk (HYA.out j hlt)
      have HPN := Aside0.mk (HNA.out j hj)
      have HPW := Aside0.mk (HWA.out j hj)
      have HC := Aside0.mk (HCP.out j hlt)
      have hco := HCO.out j hj
      have HNx := Aside0.mk (HNX.out j hlt)
      have HNw := Aside0.mk (HNW.out j)
      obtain ⟨ax, A0, c0, eX, hx, hc0, hC0⟩ := row_at (Kd.C_below (show Kd.C _ Wb E1 X.length X by rw [HXL.out]; exact HX1.out) HU.out) (k := s.length) (j := j) (by rw [HXL.out]; exact hlt) (allP_len HPX.out)
      obtain ⟨ay, B0, d0, eY, hy, hd0, hD0⟩ := row_at (Kd.C_below (show Kd.C _ Wb E4 Y.length Y by rw [HYL.out]; exact HX4.out) HU.out) (k := s.length) (j := j) (by rw [HYL.out]; exact hlt) (allP_len HPY.out)
      subst eX
      subst eY
      have HCX := Aside0.mk (And.intro hc0 hC0)
      have HCY := Aside0.mk (And.intro hd0 hD0)
      clear hc0 hC0 hd0 hD0
      have hdn := distF_range (allP_pos HPN.out) (allP_pos HPX.out) hk3
      have hdw := distF_range (allP_pos HPW.out) (allP_pos HPY.out) hk3
      have hp1 := pot_range hk1 hk3 HPN.out HPW.out
      have hp2 := pot_range hk1 hk3 HPX.out HPY.out
      have hsl3 : (s.length : Int) ≤ 3 := by omega
      have hsl1 : (1 : Int) ≤ s.length := by omega
      have hm0 : 0 ≤ (s.length : Int) * distF (nowAt s Y j) (rL Y j) := Int.mul_nonneg (by omega) hdw.1
      have hm1 : (s.length : Int) * distF (nowAt s Y j) (rL Y j) ≤ 270 := by
        have := Int.mul_le_mul hsl3 hdw.2 hdw.1 (by omega)
        omega
      have HQ15 : Aside0 (∀ V, Below wr.heap.size wr V → Calls Try.prog 15 #[.slice A0 s.length c0] V fun e w' => e = .returned (.bool true) ∧ Below V.heap.size V w') := ⟨fun V hV => by
        have h := posRef_calls A0 c0 (rL X j) V (by rw [allP_len HPX.out]; exact Kd.C_below HCX.out.2 hV) (by rw [allP_len HPX.out]; exact HCX.out.1) (by rw [allP_len HPX.out]; omega)
        rw [allP_len HPX.out, posB_of_allP hk1 hk3 HPX.out] at h
        exact h.mono fun e w' h => ⟨h.1, h.2.below⟩⟩
      have HQ1 : Aside0 (∀ V, Below wr.heap.size wr V → Calls Try.prog 21 #[.slice An s.length cn, .slice Aw s.length cw] V fun e w' => e = .returned (.tuple #[.int .i64 (potF (stepS cS () s c j).2.1 (nowAt s Y j)), .int .i64 0]) ∧ Below V.heap.size V w') := ⟨fun V hV => by
        have h := Pot_s hk1 hk3 An Aw cn cw _ _ V HPN.out HPW.out (by rw [allP_len HPN.out]; exact Kd.C_below HN.out.2 hV) (by rw [allP_len HPN.out]; exact HN.out.1) (by rw [allP_len HPW.out]; exact Kd.C_below HV.out.2 hV)
        rw [allP_len HPN.out, allP_len HPW.out] at h
        exact h⟩
      have HQ2 : Aside0 (∀ V, Below wr.heap.size wr V → Calls Try.prog 21 #[.slice A0 s.length c0, .slice B0 s.length d0] V fun e w' => e = .returned (.tuple #[.int .i64 (potF (rL X j) (rL Y j)), .int .i64 0]) ∧ Below V.heap.size V w') := ⟨fun V hV => by
        have h := Pot_s hk1 hk3 A0 B0 c0 d0 _ _ V HPX.out HPY.out (by rw [allP_len HPX.out]; exact Kd.C_below HCX.out.2 hV) (by rw [allP_len HPX.out]; exact HCX.out.1) (by rw [allP_len HPY.out]; exact Kd.C_below HCY.out.2 hV)
        rw [allP_len HPX.out, allP_len HPY.out] at h
        exact h⟩
      have HQ3 : Aside0 (∀ V, Below wr.heap.size wr V → Calls Try.prog 29 #[.slice An s.length cn, .slice A0 s.length c0] V fun e w' => e = .returned (.int .i64 (distF (stepS cS () s c j).2.1 (rL X j))) ∧ Below V.heap.size V w') := ⟨fun V hV => by
        have h := refDistQ_calls hk3 An A0 cn c0 _ _ V (by rw [allP_len HPN.out]; exact Kd.C_below HN.out.2 hV) (by rw [allP_len HPX.out]; exact Kd.C_below HCX.out.2 hV) (allP_pos HPN.out) (allP_pos HPX.out)
        rw [allP_len HPN.out, allP_len HPX.out] at h
        exact h.mono fun e w' h => ⟨h.1, h.2.below⟩⟩
      have HQ4 : Aside0 (∀ V, Below wr.heap.size wr V → Calls Try.prog 29 #[.slice Aw s.length cw, .slice B0 s.length d0] V fun e w' => e = .returned (.int .i64 (distF (nowAt s Y j) (rL Y j))) ∧ Below V.heap.size V w') := ⟨fun V hV => by
        have h := refDistQ_calls hk3 Aw B0 cw d0 _ _ V (by rw [allP_len HPW.out]; exact Kd.C_below HV.out.2 hV) (by rw [allP_len HPY.out]; exact Kd.C_below HCY.out.2 hV) (allP_pos HPW.out) (allP_pos HPY.out)
        rw [allP_len HPW.out, allP_len HPY.out] at h
        exact h.mono fun e w' h => ⟨h.1, h.2.below⟩⟩
      have HXc := Aside0.mk hx
      have HYc := Aside0.mk hy
      generalize (stepS cS () s c j).2.1 = now at *
      generalize (stepS cS () s c j).2.2.2 = cost at *
      generalize nowAt s Y j = was at *
      generalize rL X j = p at *
      generalize rL Y j = q at *
      generalize distF now p = d1 at *
      generalize distF was q = d2 at *
      generalize potF now was = f1 at *
      generalize potF p q = f2 at *
      obtain ⟨K, hK⟩ : ∃ K, (s.length : Int) * d2 = K := ⟨_, rfl⟩
      have HC' := HC.out
      rw [hK] at hm0 hm1 HC'
      have hmul : IntKind.i64.wrap ((s.length : Int) * d2) = K := by rw [IntWalk.i64_in _ (by omega), hK]
      have hmul2 : wrap64 ((s.length : Int) * d2) = K := by rw [w64 _ (by omega), hK]
      clear hK
      have hg1 : decide (K < d1 + f2 - f1) = false := decide_eq_false (by omega)
      have HB := Aside0.mk (Below.refl wr.heap.size wr)
      go_upto_region 16 with (first
        | ((with_reducible refine (HQ15.out _ HB.out).mono ?_); rintro e V ⟨rfl, hb⟩; have hx := (hb.cell (World.block_lt_of_cell? _ _ hx)).trans hx; have hy := (hb.cell (World.block_lt_of_cell? _ _ hy)).trans hy; have HB' := Aside0.mk (below_step HB.out hb); clear HB hb; have HB := HB'; clear HB')
        | ((with_reducible refine (HQ1.out _ HB.out).mono ?_); rintro e V ⟨rfl, hb⟩; have hx := (hb.cell (World.block_lt_of_cell? _ _ hx)).trans hx; have hy := (hb.cell (World.block_lt_of_cell? _ _ hy)).trans hy; have HB' := Aside0.mk (below_step HB.out hb); clear HB hb; have HB := HB'; clear HB'))
      go_region_held3 (fun U => U.cell? (ax.add j) = some (.slice A0 s.length c0) ∧ U.cell? (ay.add j) = some (.slice B0 s.length d0)) (go_keep)
        ((go_at_call 21; refine (HQ2.out _ (below_step HB.out (below_drew1 (Below.refl _ _)))).mono ?_; rintro e V3 ⟨rfl, hb0⟩; have HB3 := Aside0.mk (below_step HB.out (below_step (below_drew1 (Below.refl _ _)) hb0)); clear HB hb0; have hx := (HB3.out.cell (World.block_lt_of_cell? _ _ HXc.out)).trans HXc.out; have hy := (HB3.out.cell (World.block_lt_of_cell? _ _ HYc.out)).trans HYc.out))
      have HB := HB3
      clear HB3
      have HDx := Aside0.mk (HXc.out)
      go_upto_region 21 with (first
        | ((with_reducible refine (HQ3.out _ HB.out).mono ?_); rintro e V ⟨rfl, hb⟩; have hx := (hb.cell (World.block_lt_of_cell? _ _ hx)).trans hx; have hy := (hb.cell (World.block_lt_of_cell? _ _ hy)).trans hy; have HB' := Aside0.mk (below_step HB.out hb); clear HB hb; have HB := HB'; clear HB')
        | ((with_reducible refine (HQ4.out _ HB.out).mono ?_); rintro e V ⟨rfl, hb⟩; have hx := (hb.cell (World.block_lt_of_cell? _ _ hx)).trans hx; have hy := (hb.cell (World.block_lt_of_cell? _ _ hy)).trans hy; have HB' := Aside0.mk (below_step HB.out hb); clear HB hb; have HB := HB'; clear HB'))
      go_quiet (fail)
      clear hmul hmul2 hg1
      go_wp2
      go_roundw
      case rel =>
        refine ⟨j + 1, A0, B0, c0, d0, by omega, by go_num, rfl, rfl, by rw [HNx.out.2], ⟨HCX.out.1, ?_⟩, ⟨HCY.out.1, ?_⟩, ⟨pw_below_drewN (below_step HU.out HB.out) _⟩⟩
        · rw [HNx.out.1]; exact Kd.C_below HCX.out.2 (pw_below_drewN HB.out _)
        · rw [HNw.out]; exact Kd.C_below HCY.out.2 (pw_below_drewN HB.out _)
      case measure => simp [intOf]; omega
    · obtain rfl : j = c.length := by omega
      have HQ1 : Aside0 (∀ V, Below Wb.heap.size Wb V → Calls Try.prog 21 #[.slice A2 s.length c2, .slice A2 s.length c2] V fun e w' => e = .returned (.tuple #[.int .i64 (potF s s), .int .i64 0]) ∧ Below V.heap.size V w') := ⟨fun V hV => Pot_s hk1 hk3 A2 A2 c2 c2 s s V HP.out HP.out (Kd.C_below HC2.out hV) _HcA.out (Kd.C_below HC2.out hV)⟩
      have hp1 := pot_range hk1 hk3 HP.out HP.out
      have hall := HALL.out
      have hyc := HYC.out
      rw [HRC.out]
      have hrc : 0 ≤ runC cS s c ∧ runC cS s c ≤ 90 * (c.length : Int) := by rw [← HRC.out]; exact HCO.out c.length (Nat.le_refl _)
      clear HRC
      generalize potF s s = f0 at *
      generalize runC cS s c = n at *
      generalize costTo s Y c.length = m at *
      have hm0 : 0 ≤ (s.length : Int) * m := Int.mul_nonneg (by omega) hyc.1
      have hm1 : (s.length : Int) * m ≤ 10000 := by
        have := Int.mul_le_mul (show (s.length : Int) ≤ 3 by omega) hyc.2 hyc.1 (by omega)
        omega
      obtain ⟨K, hK⟩ : ∃ K, (s.length : Int) * m = K := ⟨_, rfl⟩
      rw [hK] at hm0 hm1 hall
      have hmul : IntKind.i64.wrap ((s.length : Int) * m) = K := by rw [IntWalk.i64_in _ (by omega), hK]
      have hmul2 : wrap64 ((s.length : Int) * m) = K := by rw [w64 _ (by omega), hK]
      clear hK
      have hg1 := decide_eq_true hall
      have HB := HU
      go_wp2_with (first
        | ((with_reducible refine (HQ1.out _ HB.out).mono ?_); rintro e V ⟨rfl, hb⟩; have HB' := Aside0.mk (below_step HB.out hb); clear HB hb; have HB := HB'; clear HB')
        | ((with_reducible refine (awake_calls _).mono ?_); rintro e V ⟨rfl, hb⟩; have HB' := Aside0.mk (below_step HB.out hb); clear HB hb; have HB := HB'; clear HB'))
      go_ret
      exact ⟨rfl, below_step HBw.out HB.out⟩
end Go.Proofs.Ythadaajgjloogaa.L
