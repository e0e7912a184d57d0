import Derived.Test.YthadaajgjloogaaQf
import Derived.Test.YthadaajgjloogaaQe
namespace Go.Proofs.Ythadaajgjloogaa.L
open Go.RowKit Go.Shelf Go.Proofs.YthadaajgjloogaaW.PrintWords Go.Proofs.YthadaajgjloogaaW.PrintLast Go.Proofs.YthadaajgjloogaaW.PrintMore
attribute [local go_sem] max2_int min2_int max_two min_two max_three min_three max_four min_four
attribute [local go_sem] Oper.semAt_some

/-! ### LiftsForesees (8) -/
theorem row_len2 {s c : List Int} {l : List (List Int)} (hh : hallB s c = true) (hl : schedB s.length c l = true) : ∀ p ∈ l, p.length ≤ 3 := by
  obtain ⟨⟨_, _, hk3⟩, _, _⟩ := hallB_parts hh
  obtain ⟨hlen, hr⟩ := sched_rows hl
  intro p hp
  obtain ⟨i, hi, rfl⟩ := List.mem_iff_getElem.1 hp
  have h := allP_len (row_allP (hr i (by omega))).1
  rw [rL_get l i hi] at h
  omega
set_option maxRecDepth 100000 in
set_option maxHeartbeats 8000000 in
theorem foreseesLaw (A C : Option Addr) (ca cc : Nat) (l0 l1 : List Int) (w : World) (hr : Kd.C (Kd.int .i64) w A l0.length l0) (hca : l0.length ≤ ca) (hq : Kd.C (Kd.int .i64) w C l1.length l1) (hcc : l1.length ≤ cc) :
    Calls Try.prog 8 #[.slice A l0.length ca, .slice C l1.length cc] w fun e w' => e = .returned (.bool true) ∧ Below w.heap.size w w' := by
  have HR := Aside0.mk (list_calls A ca l0 w hr hca)
  have HQ := Aside0.mk hq
  have HCC := Aside0.mk hcc
  clear hr hca hq hcc
  have L0 : Aside0 ((l0.take 41).length ≤ 1000) := ⟨by rw [List.length_take]; omega⟩
  have L1 : Aside0 ((l1.take 41).length ≤ 1000) := ⟨by rw [List.length_take]; omega⟩
  go_enter Try.func8, Try.ntmps8
  go_upto_region 2 with (first
    | ((with_reducible refine HR.out.mono ?_); rintro e W ⟨v, rfl, hv, hb⟩; have HV := Aside0.mk hv; have HB0 := Aside0.mk hb; have HR2 := Aside0.mk (list_calls C cc l1 _ (Kd.C_below HQ.out hb) HCC.out); clear hv hb HR)
    | ((with_reducible refine HR2.out.mono ?_); rintro e W2 ⟨v1, rfl, hv1, hb1⟩; have HV2 := Aside0.mk (Kd.R_below HV.out hb1); have HU2 := Aside0.mk hv1; have HB2 := Aside0.mk (below_step HB0.out hb1); clear hv1 hb1 HR2))
  clear HV HB0 HQ HCC
  obtain ⟨A2, c2, rfl, hc2, hC2⟩ := Kd.R_reads HV2.out
  obtain ⟨B2, d2, rfl, hd2, hD2⟩ := Kd.R_reads HU2.out
  have HC2 := Aside0.mk hC2
  have HD2 := Aside0.mk hD2
  have HcA := Aside0.mk hc2
  have HcB := Aside0.mk hd2
  clear HV2 HU2 hC2 hD2 hc2 hd2
  generalize l0.take 41 = s at *
  generalize l1.take 41 = c at *
  have l0 := Kd.C_max HC2.out
  have l1 := Kd.C_max HD2.out
  have HPA : Aside0 (∀ u, posB s = u → ∀ V, Below W2.heap.size W2 V → Calls Try.prog 15 #[.slice A2 s.length c2] V fun e w' => e = .returned (.bool u) ∧ Below V.heap.size V w') := ⟨fun u hu V hV => by subst hu; exact (posRef_calls A2 c2 s V (Kd.C_below HC2.out hV) HcA.out L0.out).mono fun e w' h => ⟨h.1, h.2.below⟩⟩
  have HCB : Aside0 (∀ u, callsB c = u → ∀ V, Below W2.heap.size W2 V → Calls Try.prog 16 #[.slice B2 c.length d2] V fun e w' => e = .returned (.bool u) ∧ Below V.heap.size V w') := ⟨fun u hu V hV => by subst hu; exact (callsRef_calls B2 d2 c V (Kd.C_below HD2.out hV) HcB.out L1.out).mono fun e w' h => ⟨h.1, h.2.below⟩⟩
  cases hh : hallB s c
  · have HH := Aside0.mk hh
    have HP := Aside0.mk (Foresee_no A2 B2 c2 d2 s c W2 HC2.out HD2.out hh)
    clear hh
    go_upto_region 3 with ((with_reducible refine HP.out.mono ?_); rintro e W3 ⟨rfl, hb3⟩; have HB := Aside0.mk hb3; clear hb3 HP)
    cases ha : posB s
    · have HPA := Aside0.mk (HPA.out _ ha)
      go_wp2_with (first
        | ((with_reducible refine (HPA.out _ HB.out).mono ?_); rintro e V ⟨rfl, hb⟩; have HB' := Aside0.mk (below_step HB.out hb); clear HB hb; have HB := HB'; clear HB')
        | ((with_reducible refine (HCB.out _ HB.out).mono ?_); rintro e V ⟨rfl, hb⟩; have HB' := Aside0.mk (below_step HB.out hb); clear HB hb; have HB := HB'; clear HB')
        | ((with_reducible refine (awake_calls _).mono ?_); rintro e V ⟨rfl, hb⟩; have HB' := Aside0.mk (below_step HB.out hb); clear HB hb; have HB := HB'; clear HB'))
      go_ret
      exact ⟨rfl, below_step HB2.out HB.out⟩
    · have HPA := Aside0.mk (HPA.out _ ha)
      cases hc : callsB c
      · have HCB := Aside0.mk (HCB.out _ hc)
        go_wp2_with (first
        | ((with_reducible refine (HPA.out _ HB.out).mono ?_); rintro e V ⟨rfl, hb⟩; have HB' := Aside0.mk (below_step HB.out hb); clear HB hb; have HB := HB'; clear HB')
        | ((with_reducible refine (HCB.out _ HB.out).mono ?_); rintro e V ⟨rfl, hb⟩; have HB' := Aside0.mk (below_step HB.out hb); clear HB hb; have HB := HB'; clear HB')
        | ((with_reducible refine (awake_calls _).mono ?_); rintro e V ⟨rfl, hb⟩; have HB' := Aside0.mk (below_step HB.out hb); clear HB hb; have HB := HB'; clear HB'))
        go_ret
        exact ⟨rfl, below_step HB2.out HB.out⟩
      · exfalso
        have := HH.out
        simp [hallB, ha, hc] at this
  · have HH := Aside0.mk hh
    have hp2 : posB s = true ∧ callsB c = true := by simpa [hallB] using hh
    have HPA := Aside0.mk (HPA.out _ hp2.1)
    have HCB := Aside0.mk (HCB.out _ hp2.2)
    have HS1 := Aside0.mk (foresee_sched hh)
    have HP := Aside0.mk (Foresee_yes A2 B2 c2 d2 s c W2 HC2.out HD2.out hh)
    have HC1 : Aside0 (∀ V (D : Option Addr) (cd : Nat), Below W2.heap.size W2 V → Kd.C (Kd.slice 3 (Kd.int .i64)) V D (forL s c).length (forL s c) → (forL s c).length ≤ cd → Calls Try.prog 35 #[.slice A2 s.length c2, .slice D (forL s c).length cd] V fun e w' => e = .returned (.int .i64 (forC s c)) ∧ Below V.heap.size V w') := ⟨fun V D cd hV hD hcd => by
      have := refCost_calls A2 D c2 cd s c (forL s c) V HH.out HS1.out (Kd.C_below HC2.out hV) HcA.out hD hcd
      rw [show costTo s (forL s c) (forL s c).length = forC s c from by rw [for_len, forC_cost]] at this
      exact this⟩
    have hlc : (forL s c).length ≤ 1000 := by rw [for_len]; have := L1.out; omega
    have HLC := Aside0.mk hlc
    have HR1 := Aside0.mk (row_len2 hh (foresee_sched hh))
    have HF1 : Aside0 (∀ V, Below W2.heap.size W2 V → Calls Try.prog 33 #[.slice A2 s.length c2, .slice B2 c.length d2] V (Rowed V (forL s c))) := ⟨fun V hV => refForesee_calls A2 B2 c2 d2 s c V HH.out (Kd.C_below HC2.out hV) HcA.out (Kd.C_below HD2.out hV)⟩
    clear hh hp2
    generalize forL s c = X at *
    generalize forC s c = nX at *
    go_upto_region 3 with ((with_reducible refine HP.out.mono ?_); rintro e W4 ⟨v3, rfl, hr3, hb3⟩; have HBW := Aside0.mk hb3; obtain ⟨A3, c3, rfl, hc3, hC3⟩ := Kd.R_reads hr3; have HCX4 := Aside0.mk hC3; have HKX := Aside0.mk hc3; clear hb3 hr3 hc3 hC3 HP)
    have HCX := Aside0.mk (fun V (h : Below W4.heap.size W4 V) => Kd.C_below HCX4.out h)
    have HB := Aside0.mk (Below.refl W4.heap.size W4)
    clear HCX4
    go_wp2_with (first
        | ((with_reducible refine (HPA.out _ (below_step HBW.out HB.out)).mono ?_); rintro e V ⟨rfl, hb⟩; have HB' := Aside0.mk (below_step HB.out hb); clear HB hb; have HB := HB'; clear HB')
        | ((with_reducible refine (HCB.out _ (below_step HBW.out HB.out)).mono ?_); rintro e V ⟨rfl, hb⟩; have HB' := Aside0.mk (below_step HB.out hb); clear HB hb; have HB := HB'; clear HB')
        | ((with_reducible refine (awake_calls _).mono ?_); rintro e V ⟨rfl, hb⟩; have HB' := Aside0.mk (below_step HB.out hb); clear HB hb; have HB := HB'; clear HB')
        | ((with_reducible refine (HF1.out _ (below_step HBW.out HB.out)).mono ?_); rintro e V ⟨A5, c5, rfl, hc5, hC5, hb⟩; have HC5 := Aside0.mk hC5; have HK5 := Aside0.mk hc5; have HB5 := Aside0.mk (Below.refl V.heap.size V); have HB' := Aside0.mk (below_step HB.out hb); clear HB hb hC5 hc5; have HB := HB'; clear HB')
        | ((with_reducible refine (refSame_calls A3 A5 c3 c5 X _ HLC.out HR1.out (HCX.out _ HB.out) HKX.out HC5.out HK5.out).mono ?_); rintro e V ⟨rfl, hb⟩; have HC5' := Aside0.mk (Kd.C_below HC5.out hb); clear HC5; have HC5 := HC5'; clear HC5'; have HB' := Aside0.mk (below_step HB.out hb); clear HB hb; have HB := HB'; clear HB')
        | ((with_reducible refine (HC1.out _ A5 c5 (below_step HBW.out HB.out) HC5.out HK5.out).mono ?_); rintro e V ⟨rfl, hb⟩; have HB' := Aside0.mk (below_step HB.out hb); clear HB hb; have HB := HB'; clear HB'))
    go_ret
    exact ⟨rfl, below_step (below_step HB2.out HBW.out) HB.out⟩
end Go.Proofs.Ythadaajgjloogaa.L
