import Derived.Test.YthadaajgjloogaaQd
namespace Go.Proofs.Ythadaajgjloogaa.L
open Go.RowKit Go.Shelf Go.Proofs.YthadaajgjloogaaW.PrintWords Go.Proofs.YthadaajgjloogaaW.PrintLast Go.Proofs.YthadaajgjloogaaW.PrintMore
attribute [local go_sem] max2_int min2_int max_two min_two max_three min_three max_four min_four
attribute [local go_sem] Oper.semAt_some

/-! ### LiftsWorks (3) -/
set_option maxHeartbeats 8000000 in
theorem worksLaw (A C E : Option Addr) (ca cc ce : Nat) (l0 l1 l2 : List Int) (w : World) (hr : Kd.C (Kd.int .i64) w A l0.length l0) (hca : l0.length ≤ ca) (hq : Kd.C (Kd.int .i64) w C l1.length l1) (hcc : l1.length ≤ cc) (hp : Kd.C (Kd.int .i64) w E l2.length l2) (hce : l2.length ≤ ce) :
    Calls Try.prog 3 #[.slice A l0.length ca, .slice C l1.length cc, .slice E l2.length ce] w fun e w' => e = .returned (.bool true) ∧ Below w.heap.size w w' := by
  have HR := Aside0.mk (list_calls A ca l0 w hr hca)
  have HQ := Aside0.mk hq
  have HQ2 := Aside0.mk hp
  have HCC := Aside0.mk hcc
  have HCE := Aside0.mk hce
  clear hr hca hq hcc hp hce
  have L0 : Aside0 ((l0.take 41).length ≤ 1000) := ⟨by rw [List.length_take]; omega⟩
  have L1 : Aside0 ((l1.take 41).length ≤ 1000) := ⟨by rw [List.length_take]; omega⟩
  have L2 : Aside0 ((l2.take 41).length ≤ 1000) := ⟨by rw [List.length_take]; omega⟩
  go_enter Try.func3, Try.ntmps3
  go_upto_region 2 with (first
    | ((with_reducible refine HR.out.mono ?_); rintro e W ⟨v, rfl, hv, hb⟩; have HV := Aside0.mk hv; have HB0 := Aside0.mk hb; have HR2 := Aside0.mk (list_calls C cc l1 _ (Kd.C_below HQ.out hb) HCC.out); clear hv hb HR)
    | ((with_reducible refine HR2.out.mono ?_); rintro e W1 ⟨v1, rfl, hv1, hb1⟩; have HV1 := Aside0.mk (Kd.R_below HV.out hb1); have HU1 := Aside0.mk hv1; have HB1 := Aside0.mk (below_step HB0.out hb1); have HR3 := Aside0.mk (list_calls E ce l2 _ (Kd.C_below HQ2.out HB1.out) HCE.out); clear hv1 hb1 HR2)
    | ((with_reducible refine HR3.out.mono ?_); rintro e W2 ⟨v2, rfl, hv2, hb2⟩; have HV2 := Aside0.mk (Kd.R_below HV1.out hb2); have HU2 := Aside0.mk (Kd.R_below HU1.out hb2); have HT2 := Aside0.mk hv2; have HB2 := Aside0.mk (below_step HB1.out hb2); clear hv2 hb2 HR3))
  clear HV HB0 HQ HQ2 HCC HCE HV1 HU1 HB1
  obtain ⟨A2, c2, rfl, hc2, hC2⟩ := Kd.R_reads HV2.out
  obtain ⟨B2, d2, rfl, hd2, hD2⟩ := Kd.R_reads HU2.out
  obtain ⟨E2, e2, rfl, he2, hE2⟩ := Kd.R_reads HT2.out
  have HC2 := Aside0.mk hC2
  have HD2 := Aside0.mk hD2
  have HE2 := Aside0.mk hE2
  have HcA := Aside0.mk hc2
  have HcB := Aside0.mk hd2
  have HcE := Aside0.mk he2
  clear HV2 HU2 HT2 hC2 hD2 hE2 hc2 hd2 he2
  generalize l0.take 41 = s at *
  generalize l1.take 41 = c at *
  generalize l2.take 41 = t at *
  have l0 := Kd.C_max HC2.out
  have l1 := Kd.C_max HD2.out
  have l2 := Kd.C_max HE2.out
  have HPA : Aside0 (∀ u, posB s = u → ∀ V, Below W2.heap.size W2 V → Calls Try.prog 15 #[.slice A2 s.length c2] V fun e w' => e = .returned (.bool u) ∧ Below V.heap.size V w') := ⟨fun u hu V hV => by subst hu; exact (posRef_calls A2 c2 s V (Kd.C_below HC2.out hV) HcA.out L0.out).mono fun e w' h => ⟨h.1, h.2.below⟩⟩
  have HPB : Aside0 (∀ u, posB t = u → ∀ V, Below W2.heap.size W2 V → Calls Try.prog 15 #[.slice E2 t.length e2] V fun e w' => e = .returned (.bool u) ∧ Below V.heap.size V w') := ⟨fun u hu V hV => by subst hu; exact (posRef_calls E2 e2 t V (Kd.C_below HE2.out hV) HcE.out L2.out).mono fun e w' h => ⟨h.1, h.2.below⟩⟩
  have HCB : Aside0 (∀ u, callsB c = u → ∀ V, Below W2.heap.size W2 V → Calls Try.prog 16 #[.slice B2 c.length d2] V fun e w' => e = .returned (.bool u) ∧ Below V.heap.size V w') := ⟨fun u hu V hV => by subst hu; exact (callsRef_calls B2 d2 c V (Kd.C_below HD2.out hV) HcB.out L1.out).mono fun e w' h => ⟨h.1, h.2.below⟩⟩
  cases hh : workB s c t
  · have HP := Aside0.mk (Work_no A2 B2 E2 c2 d2 e2 s c t W2 HC2.out HD2.out HE2.out hh)
    go_upto_region 3 with ((with_reducible refine HP.out.mono ?_); rintro e W3 ⟨rfl, hb3⟩; have HB := Aside0.mk hb3; clear hb3 HP)
    cases ha : posB s
    · have HPA := Aside0.mk (HPA.out _ ha)
      go_wp2_with (first
        | ((with_reducible refine (HPA.out _ HB.out).mono ?_); rintro e V ⟨rfl, hb⟩; have HB' := Aside0.mk (below_step HB.out hb); clear HB hb; have HB := HB'; clear HB')
        | ((with_reducible refine (HPB.out _ HB.out).mono ?_); rintro e V ⟨rfl, hb⟩; have HB' := Aside0.mk (below_step HB.out hb); clear HB hb; have HB := HB'; clear HB')
        | ((with_reducible refine (HCB.out _ HB.out).mono ?_); rintro e V ⟨rfl, hb⟩; have HB' := Aside0.mk (below_step HB.out hb); clear HB hb; have HB := HB'; clear HB')
        | ((with_reducible refine (awake_calls _).mono ?_); rintro e V ⟨rfl, hb⟩; have HB' := Aside0.mk (below_step HB.out hb); clear HB hb; have HB := HB'; clear HB'))
      go_ret
      exact ⟨rfl, below_step HB2.out HB.out⟩
    cases hb : posB t
    · have HPA := Aside0.mk (HPA.out _ ha)
      have HPB := Aside0.mk (HPB.out _ hb)
      go_wp2_with (first
        | ((with_reducible refine (HPA.out _ HB.out).mono ?_); rintro e V ⟨rfl, hb⟩; have HB' := Aside0.mk (below_step HB.out hb); clear HB hb; have HB := HB'; clear HB')
        | ((with_reducible refine (HPB.out _ HB.out).mono ?_); rintro e V ⟨rfl, hb⟩; have HB' := Aside0.mk (below_step HB.out hb); clear HB hb; have HB := HB'; clear HB')
        | ((with_reducible refine (HCB.out _ HB.out).mono ?_); rintro e V ⟨rfl, hb⟩; have HB' := Aside0.mk (below_step HB.out hb); clear HB hb; have HB := HB'; clear HB')
        | ((with_reducible refine (awake_calls _).mono ?_); rintro e V ⟨rfl, hb⟩; have HB' := Aside0.mk (below_step HB.out hb); clear HB hb; have HB := HB'; clear HB'))
      go_ret
      exact ⟨rfl, below_step HB2.out HB.out⟩
    have HPA := Aside0.mk (HPA.out _ ha)
    have HPB := Aside0.mk (HPB.out _ hb)
    by_cases hl : s.length = t.length
    · have hl' : (s.length != t.length) = false := by rw [hl]; simp
      have hl2 : ((s.length : Int) != (t.length : Int)) = false := by rw [hl]; simp
      cases hc : callsB c
      · have HCB := Aside0.mk (HCB.out _ hc)
        clear hl
        go_wp2_with (first
        | ((with_reducible refine (HPA.out _ HB.out).mono ?_); rintro e V ⟨rfl, hb⟩; have HB' := Aside0.mk (below_step HB.out hb); clear HB hb; have HB := HB'; clear HB')
        | ((with_reducible refine (HPB.out _ HB.out).mono ?_); rintro e V ⟨rfl, hb⟩; have HB' := Aside0.mk (below_step HB.out hb); clear HB hb; have HB := HB'; clear HB')
        | ((with_reducible refine (HCB.out _ HB.out).mono ?_); rintro e V ⟨rfl, hb⟩; have HB' := Aside0.mk (below_step HB.out hb); clear HB hb; have HB := HB'; clear HB')
        | ((with_reducible refine (awake_calls _).mono ?_); rintro e V ⟨rfl, hb⟩; have HB' := Aside0.mk (below_step HB.out hb); clear HB hb; have HB := HB'; clear HB'))
        go_ret
        exact ⟨rfl, below_step HB2.out HB.out⟩
      · exfalso
        simp [workB, hallB, ha, hb, hc, hl] at hh
    · have hl' : (s.length != t.length) = true := by rw [bne_iff_ne]; exact hl
      have hl2 : ((s.length : Int) != (t.length : Int)) = true := by rw [bne_iff_ne]; omega
      clear hl
      go_wp2_with (first
        | ((with_reducible refine (HPA.out _ HB.out).mono ?_); rintro e V ⟨rfl, hb⟩; have HB' := Aside0.mk (below_step HB.out hb); clear HB hb; have HB := HB'; clear HB')
        | ((with_reducible refine (HPB.out _ HB.out).mono ?_); rintro e V ⟨rfl, hb⟩; have HB' := Aside0.mk (below_step HB.out hb); clear HB hb; have HB := HB'; clear HB')
        | ((with_reducible refine (HCB.out _ HB.out).mono ?_); rintro e V ⟨rfl, hb⟩; have HB' := Aside0.mk (below_step HB.out hb); clear HB hb; have HB := HB'; clear HB')
        | ((with_reducible refine (awake_calls _).mono ?_); rintro e V ⟨rfl, hb⟩; have HB' := Aside0.mk (below_step HB.out hb); clear HB hb; have HB := HB'; clear HB'))
      go_ret
      exact ⟨rfl, below_step HB2.out HB.out⟩
  · have HP := Aside0.mk (Work_yes A2 B2 E2 c2 d2 e2 s c t W2 HC2.out HD2.out HE2.out hh)
    have hp : (hallB s c = true ∧ posB t = true) ∧ s.length = t.length := by simpa [workB] using hh
    obtain ⟨⟨hall, hb⟩, hl⟩ := hp
    have hp2 : posB s = true ∧ callsB c = true := by simpa [hallB] using hall
    obtain ⟨⟨_, hk1, hk3⟩, _, _⟩ := hallB_parts hall
    have HPA := Aside0.mk (HPA.out _ hp2.1)
    have HPB := Aside0.mk (HPB.out _ hb)
    have HCB := Aside0.mk (HCB.out _ hp2.2)
    have hl' : (s.length != t.length) = false := by rw [hl]; simp
    have hl2 : ((s.length : Int) != (t.length : Int)) = false := by rw [hl]; simp
    have HTA : Aside0 (t ∈ allP s.length) := ⟨by rw [hl]; exact posB_allP hb⟩
    have HTP := Aside0.mk (allP_pos HTA.out)
    have HTC := Aside0.mk (codeF_range hk3 HTP.out)
    have HHA := Aside0.mk hall
    clear hl hb hh hall hp2
    go_upto_region 3 with ((with_reducible refine HP.out.mono ?_); rintro e W3 ⟨rfl, hb3⟩; have HB := Aside0.mk hb3; clear hb3 HP)
    go_wp2_with (first
        | ((with_reducible refine (HPA.out _ HB.out).mono ?_); rintro e V ⟨rfl, hb⟩; have HB' := Aside0.mk (below_step HB.out hb); clear HB hb; have HB := HB'; clear HB')
        | ((with_reducible refine (HPB.out _ HB.out).mono ?_); rintro e V ⟨rfl, hb⟩; have HB' := Aside0.mk (below_step HB.out hb); clear HB hb; have HB := HB'; clear HB')
        | ((with_reducible refine (HCB.out _ HB.out).mono ?_); rintro e V ⟨rfl, hb⟩; have HB' := Aside0.mk (below_step HB.out hb); clear HB hb; have HB := HB'; clear HB')
        | ((with_reducible refine (awake_calls _).mono ?_); rintro e V ⟨rfl, hb⟩; have HB' := Aside0.mk (below_step HB.out hb); clear HB hb; have HB := HB'; clear HB')
        | (go_at_call 19; refine (refAll_calls s.length hk3 _).mono ?_; rintro e V ⟨Aa, cca, rfl, hCa, hb⟩; have HAll := Aside0.mk hCa; have HB' := Aside0.mk (below_step HB.out hb); clear HB hb hCa; have HB := HB'; clear HB')
        | (go_at_call 18; refine (refWorks_calls s c Aa A2 B2 cca c2 d2 _ HHA.out HAll.out (Kd.C_below HC2.out HB.out) HcA.out (Kd.C_below HD2.out HB.out)).mono ?_; rintro e V ⟨vt, tab, rfl, hRt, hTt, hb⟩; obtain ⟨At, ct, rfl, _, hCt⟩ := Kd.R_reads hRt; have HTb := Aside0.mk hCt; have HTt := Aside0.mk hTt; have HTl := Aside0.mk hTt.len; have HB' := Aside0.mk (below_step HB.out hb); clear HB hb hRt hCt hTt; have HB := HB'; clear HB'; rw [HTl.out] at HTb ⊢)
        | (go_at_call 20; refine (codeRef_calls hk3 E2 e2 t _ (Kd.C_below HE2.out HB.out) HcE.out HTP.out).mono ?_; rintro e V ⟨rfl, hd⟩; obtain ⟨at_, eat, hy⟩ := Kd.at_int (Kd.C_below HTb.out hd.below) (codeF t) HTC.out.1 (by have := HTC.out.2; omega); subst eat; rw [HTt.out.all HTA.out] at hy; obtain ⟨q0, q1⟩ := HTC.out; have HWF : Aside0 (workF s c t = workAt s c c.length t) := ⟨rfl⟩; rw [← HWF.out] at hy; have HB' := Aside0.mk (below_step HB.out hd.below); clear HB hd; have HB := HB'; clear HB'))
    go_ret
    exact ⟨rfl, below_step HB2.out HB.out⟩
end Go.Proofs.Ythadaajgjloogaa.L
