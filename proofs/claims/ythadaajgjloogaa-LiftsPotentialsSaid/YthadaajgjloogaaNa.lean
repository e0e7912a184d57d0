import Derived.Test.YthadaajgjloogaaMb
namespace Go.Proofs.Ythadaajgjloogaa.L
open Go.RowKit Go.Shelf Go.Proofs.YthadaajgjloogaaW.PrintWords Go.Proofs.YthadaajgjloogaaW.PrintLast Go.Proofs.YthadaajgjloogaaW.PrintMore
attribute [local go_sem] max2_int min2_int max_two min_two max_three min_three max_four min_four
attribute [local go_sem] Oper.semAt_some

/-! ### LiftsPotentials (4) -/
set_option maxHeartbeats 4000000 in
theorem potLaw_tail (A B : Option Addr) (ca cb : Nat) (l0 l1 : List Int) (w : World) (hr : Kd.C (Kd.int .i64) w A l0.length l0) (hca : l0.length ≤ ca) (hq : Kd.C (Kd.int .i64) w B l1.length l1) (hcb : l1.length ≤ cb) :
    Calls Try.prog 4 #[.slice A l0.length ca, .slice B l1.length cb] w fun e w' => e = .returned (.bool true) ∧ Below w.heap.size w w' := by
  have HR := Aside0.mk (list_calls A ca l0 w hr hca)
  have HQ := Aside0.mk hq
  have HCB := Aside0.mk hcb
  clear hr hca hq hcb
  have L0 : Aside0 ((l0.take 41).length ≤ 1000) := ⟨by rw [List.length_take]; omega⟩
  have L1 : Aside0 ((l1.take 41).length ≤ 1000) := ⟨by rw [List.length_take]; omega⟩
  go_enter Try.func4, Try.ntmps4
  go_upto_region 2 with (first
    | ((with_reducible refine HR.out.mono ?_); rintro e W ⟨v, rfl, hv, hb⟩; have HV := Aside0.mk hv; have HB := Aside0.mk hb; clear hv hb HR)
    | (go_at_call 13; refine (list_calls B cb l1 _ (Kd.C_below HQ.out HB.out) HCB.out).mono ?_; rintro e W2 ⟨v2, rfl, hv2, hb2⟩; have HV2 := Aside0.mk (Kd.R_below HV.out hb2); have HU2 := Aside0.mk hv2; have HB2 := Aside0.mk (below_step HB.out hb2); clear hv2 hb2))
  clear HV HB HQ HCB
  obtain ⟨A2, c2, rfl, hc2, hC2⟩ := Kd.R_reads HV2.out
  obtain ⟨B2, d2, rfl, hd2, hD2⟩ := Kd.R_reads HU2.out
  have HC2 := Aside0.mk hC2
  have HD2 := Aside0.mk hD2
  have HcA := Aside0.mk hc2
  have HcB := Aside0.mk hd2
  clear HV2 HU2 hC2 hD2 hc2 hd2
  generalize l0.take 41 = a at *
  generalize l1.take 41 = b at *
  have l0 := Kd.C_max HC2.out
  have l1 := Kd.C_max HD2.out
  have HRP : Aside0 (True → potB a b = true → ∀ V, Below W2.heap.size W2 V → Calls Try.prog 22 #[.slice A2 a.length c2, .slice B2 b.length d2] V fun e w' => e = .returned (.int .i64 (potF a b)) ∧ Below V.heap.size V w') := ⟨fun _ hh V hV => refPot_calls A2 B2 c2 d2 a b V (Kd.C_below HC2.out hV) HcA.out (Kd.C_below HD2.out hV) HcB.out hh⟩
  have HPA : Aside0 (∀ u, posB a = u → ∀ V, Below W2.heap.size W2 V → Calls Try.prog 15 #[.slice A2 a.length c2] V fun e w' => e = .returned (.bool u) ∧ Below V.heap.size V w') := ⟨fun u hu V hV => by subst hu; exact (posRef_calls A2 c2 a V (Kd.C_below HC2.out hV) HcA.out L0.out).mono fun e w' h => ⟨h.1, h.2.below⟩⟩
  have HPB : Aside0 (∀ u, posB b = u → ∀ V, Below W2.heap.size W2 V → Calls Try.prog 15 #[.slice B2 b.length d2] V fun e w' => e = .returned (.bool u) ∧ Below V.heap.size V w') := ⟨fun u hu V hV => by subst hu; exact (posRef_calls B2 d2 b V (Kd.C_below HD2.out hV) HcB.out L1.out).mono fun e w' h => ⟨h.1, h.2.below⟩⟩
  cases hh : potB a b
  · have HP := Aside0.mk (Potential_no A2 B2 c2 d2 a b W2 HC2.out HD2.out hh)
    go_upto_region 3 with ((with_reducible refine HP.out.mono ?_); rintro e W3 ⟨rfl, hb3⟩; have HB := Aside0.mk hb3; clear hb3 HP)
    clear HRP
    have HRP := Aside0.mk True.intro
    cases ha : posB a
    · have HPA := Aside0.mk (HPA.out _ ha)
      go_wp2_with (first
        | ((with_reducible refine (HPA.out _ HB.out).mono ?_); rintro e V ⟨rfl, hb⟩; have HB' := Aside0.mk (below_step HB.out hb); clear HB hb; have HB := HB'; clear HB')
        | ((with_reducible refine (HPB.out _ HB.out).mono ?_); rintro e V ⟨rfl, hb⟩; have HB' := Aside0.mk (below_step HB.out hb); clear HB hb; have HB := HB'; clear HB')
        | ((with_reducible refine (HRP.out _ HB.out).mono ?_); rintro e V ⟨rfl, hb⟩; have HB' := Aside0.mk (below_step HB.out hb); clear HB hb; have HB := HB'; clear HB')
        | ((with_reducible refine (awake_calls _).mono ?_); rintro e V ⟨rfl, hb⟩; have HB' := Aside0.mk (below_step HB.out hb); clear HB hb; have HB := HB'; clear HB'))
      go_ret
      exact ⟨rfl, below_step HB2.out HB.out⟩
    cases hb : posB b
    · have HPA := Aside0.mk (HPA.out _ ha)
      have HPB := Aside0.mk (HPB.out _ hb)
      go_wp2_with (first
        | ((with_reducible refine (HPA.out _ HB.out).mono ?_); rintro e V ⟨rfl, hb⟩; have HB' := Aside0.mk (below_step HB.out hb); clear HB hb; have HB := HB'; clear HB')
        | ((with_reducible refine (HPB.out _ HB.out).mono ?_); rintro e V ⟨rfl, hb⟩; have HB' := Aside0.mk (below_step HB.out hb); clear HB hb; have HB := HB'; clear HB')
        | ((with_reducible refine (HRP.out _ HB.out).mono ?_); rintro e V ⟨rfl, hb⟩; have HB' := Aside0.mk (below_step HB.out hb); clear HB hb; have HB := HB'; clear HB')
        | ((with_reducible refine (awake_calls _).mono ?_); rintro e V ⟨rfl, hb⟩; have HB' := Aside0.mk (below_step HB.out hb); clear HB hb; have HB := HB'; clear HB'))
      go_ret
      exact ⟨rfl, below_step HB2.out HB.out⟩
    · have HPA := Aside0.mk (HPA.out _ ha)
      have HPB := Aside0.mk (HPB.out _ hb)
      have hl : a.length ≠ b.length := by simpa [potB, ha, hb] using hh
      have hl' : (a.length != b.length) = true := by rw [bne_iff_ne]; exact hl
      have hl2 : ((a.length : Int) != (b.length : Int)) = true := by rw [bne_iff_ne]; omega
      clear hl
      go_wp2_with (first
        | ((with_reducible refine (HPA.out _ HB.out).mono ?_); rintro e V ⟨rfl, hb⟩; have HB' := Aside0.mk (below_step HB.out hb); clear HB hb; have HB := HB'; clear HB')
        | ((with_reducible refine (HPB.out _ HB.out).mono ?_); rintro e V ⟨rfl, hb⟩; have HB' := Aside0.mk (below_step HB.out hb); clear HB hb; have HB := HB'; clear HB')
        | ((with_reducible refine (HRP.out _ HB.out).mono ?_); rintro e V ⟨rfl, hb⟩; have HB' := Aside0.mk (below_step HB.out hb); clear HB hb; have HB := HB'; clear HB')
        | ((with_reducible refine (awake_calls _).mono ?_); rintro e V ⟨rfl, hb⟩; have HB' := Aside0.mk (below_step HB.out hb); clear HB hb; have HB := HB'; clear HB'))
      go_ret
      exact ⟨rfl, below_step HB2.out HB.out⟩
  · have HP := Aside0.mk (Potential_yes A2 B2 c2 d2 a b W2 HC2.out HD2.out HcA.out hh)
    have HRP := Aside0.mk (HRP.out trivial hh)
    have hp : (posB a = true ∧ posB b = true) ∧ a.length = b.length := by simpa [potB] using hh
    obtain ⟨⟨ha, hb⟩, hl⟩ := hp
    have HPA := Aside0.mk (HPA.out _ ha)
    have HPB := Aside0.mk (HPB.out _ hb)
    have hl' : (a.length != b.length) = false := by rw [hl]; simp
    have hl2 : ((a.length : Int) != (b.length : Int)) = false := by rw [hl]; simp
    clear hl ha hb hh
    go_upto_region 3 with ((with_reducible refine HP.out.mono ?_); rintro e W3 ⟨rfl, hb3⟩; have HB := Aside0.mk hb3; clear hb3 HP)
    go_wp2_with (first
        | ((with_reducible refine (HPA.out _ HB.out).mono ?_); rintro e V ⟨rfl, hb⟩; have HB' := Aside0.mk (below_step HB.out hb); clear HB hb; have HB := HB'; clear HB')
        | ((with_reducible refine (HPB.out _ HB.out).mono ?_); rintro e V ⟨rfl, hb⟩; have HB' := Aside0.mk (below_step HB.out hb); clear HB hb; have HB := HB'; clear HB')
        | ((with_reducible refine (HRP.out _ HB.out).mono ?_); rintro e V ⟨rfl, hb⟩; have HB' := Aside0.mk (below_step HB.out hb); clear HB hb; have HB := HB'; clear HB')
        | ((with_reducible refine (awake_calls _).mono ?_); rintro e V ⟨rfl, hb⟩; have HB' := Aside0.mk (below_step HB.out hb); clear HB hb; have HB := HB'; clear HB'))
    go_ret
    exact ⟨rfl, below_step HB2.out HB.out⟩
end Go.Proofs.Ythadaajgjloogaa.L
