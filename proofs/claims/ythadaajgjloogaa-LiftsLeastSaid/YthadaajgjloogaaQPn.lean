import Derived.Test.YthadaajgjloogaaQg
namespace Go.Proofs.Ythadaajgjloogaa.L
open Go.RowKit Go.Shelf Go.Proofs.YthadaajgjloogaaW.PrintWords Go.Proofs.YthadaajgjloogaaW.PrintLast Go.Proofs.YthadaajgjloogaaW.PrintMore
attribute [local go_sem] max2_int min2_int max_two min_two max_three min_three max_four min_four
attribute [local go_sem] Oper.semAt_some

/-! ### LiftsLeast (11) -/
set_option maxRecDepth 100000 in
set_option maxHeartbeats 8000000 in
theorem leastLaw (A C D : Option Addr) (ca cc cd : Nat) (l0 l1 : List Int) (l2 : List (List Int)) (w : World) (hr : Kd.C (Kd.int .i64) w A l0.length l0) (hca : l0.length ≤ ca) (hq : Kd.C (Kd.int .i64) w C l1.length l1) (hcc : l1.length ≤ cc) (hd : Kd.C (Kd.slice 3 (Kd.int .i64)) w D l2.length l2) (hcd : l2.length ≤ cd) :
    Calls Try.prog 11 #[.slice A l0.length ca, .slice C l1.length cc, .slice D l2.length cd] w fun e w' => e = .returned (.bool true) ∧ Below w.heap.size w w' := by
  have HR := Aside0.mk hr
  have HQ := Aside0.mk hq
  have HD := Aside0.mk hd
  have HCA := Aside0.mk hca
  have HCC := Aside0.mk hcc
  have HCD := Aside0.mk hcd
  have HB := Aside0.mk (Below.refl w.heap.size w)
  have HK := Aside0.mk (liftedF_range l0)
  have hmx := Kd.C_max hr
  clear hr hq hd hca hcc hcd
  go_enter Try.func11, Try.ntmps11
  go_upto_region 2 with ((with_reducible refine (lifted_calls A ca l0 _ HR.out HCA.out).mono ?_); rintro e W1 ⟨rfl, hb⟩; have HR' := Aside0.mk (Kd.C_below HR.out hb); clear HR; have HR := HR'; clear HR'; have HQ' := Aside0.mk (Kd.C_below HQ.out hb); clear HQ; have HQ := HQ'; clear HQ'; have HD' := Aside0.mk (Kd.C_below HD.out hb); clear HD; have HD := HD'; clear HD'; have HB' := Aside0.mk (below_step HB.out hb); clear HB; have HB := HB'; clear HB'; clear hb )
  have hk1 := HK.out.1
  have hk3 := HK.out.2
  generalize liftedF l0 = k at *
  go_upto_region 3 with (first
    | ((with_reducible refine (tame_calls A ca l0 k hk3 _ HR.out HCA.out).mono ?_); rintro e W2 ⟨A2, c2, rfl, hc2, hr2, hb⟩; have HR' := Aside0.mk (Kd.C_below HR.out hb); clear HR; have HR := HR'; clear HR'; have HQ' := Aside0.mk (Kd.C_below HQ.out hb); clear HQ; have HQ := HQ'; clear HQ'; have HD' := Aside0.mk (Kd.C_below HD.out hb); clear HD; have HD := HD'; clear HD'; have HB' := Aside0.mk (below_step HB.out hb); clear HB; have HB := HB'; clear HB'; have HC2 := Aside0.mk (Kd.R_reads' hr2).2.2; have _HcA := Aside0.mk hc2; clear hb hr2 hc2)
    | ((with_reducible refine (calls25_calls C cc l1 20 20 rfl (by omega) _ HQ.out HCC.out).mono ?_); rintro e W3 ⟨B2, d2, rfl, hd2, hr2, hb⟩; have HR' := Aside0.mk (Kd.C_below HR.out hb); clear HR; have HR := HR'; clear HR'; have HQ' := Aside0.mk (Kd.C_below HQ.out hb); clear HQ; have HQ := HQ'; clear HQ'; have HD' := Aside0.mk (Kd.C_below HD.out hb); clear HD; have HD := HD'; clear HD'; have HC2' := Aside0.mk (Kd.C_below HC2.out hb); clear HC2; have HC2 := HC2'; clear HC2'; have HB' := Aside0.mk (below_step HB.out hb); clear HB; have HB := HB'; clear HB'; have HD2 := Aside0.mk (Kd.R_reads' hr2).2.2; have _HcB := Aside0.mk hd2; clear hb hr2 hd2))
  have HH := Aside0.mk (hall_tame l0 l1 hk1 hk3 (m := 20) (by omega))
  have HP := Aside0.mk (tameF_allP l0 hk3)
  have HCL := Aside0.mk (callsF_len l1 20)
  have HCR := Aside0.mk (callsF_range l1 20)
  generalize tameF l0 k = s at *
  generalize callsF l1 20 = c at *
  have HSL : Aside0 (s.length = k) := ⟨allP_len HP.out⟩
  have HS0 := Aside0.mk (best_sched HH.out)
  have HS1 := Aside0.mk (careful_sched HH.out)
  have HS2 := Aside0.mk (nearest_sched HH.out)
  have HS3 := Aside0.mk (foresee_sched HH.out)
  have HS4 : Aside0 (schedB s.length c (servedF l2 k c) = true) := ⟨by rw [HSL.out]; exact served_sched l2 hk1 hk3 HCR.out⟩
  have HN0 := Aside0.mk (best_costTo s c)
  have HN1 := Aside0.mk (runC_cost cS s c)
  have HN2 := Aside0.mk (runC_cost nS s c)
  have HN3 := Aside0.mk (forC_cost s c)
  have h1 : bestC s c ≤ runC cS s c := by rw [← HN1.out]; exact bestC_least HH.out HS1.out
  have h2 : bestC s c ≤ runC nS s c := by rw [← HN2.out]; exact bestC_least HH.out HS2.out
  have h3 : bestC s c ≤ forC s c := by rw [← HN3.out]; exact bestC_least HH.out HS3.out
  have h4 : bestC s c ≤ costTo s (servedF l2 k c) c.length := bestC_least HH.out HS4.out
  clear HR HQ
  have HF0 : Aside0 (∀ V, Kd.C (Kd.int .i64) V A2 s.length s → Kd.C (Kd.int .i64) V B2 c.length c → Calls Try.prog 30 #[.slice A2 s.length c2, .slice B2 c.length d2] V (Sched V (bestL s c) (bestC s c))) := ⟨fun V h1 h2 => Best_s A2 B2 c2 d2 s c V HH.out h1 h2⟩
  have HF1 : Aside0 (∀ V, Kd.C (Kd.int .i64) V A2 s.length s → Kd.C (Kd.int .i64) V B2 c.length c → Calls Try.prog 27 #[.slice A2 s.length c2, .slice B2 c.length d2] V (Sched V (runL cS s c) (runC cS s c))) := ⟨fun V h1 h2 => Careful_s A2 B2 c2 d2 s c V HH.out h1 h2⟩
  have HF2 : Aside0 (∀ V, Kd.C (Kd.int .i64) V A2 s.length s → Kd.C (Kd.int .i64) V B2 c.length c → Calls Try.prog 38 #[.slice A2 s.length c2, .slice B2 c.length d2] V (Sched V (runL nS s c) (runC nS s c))) := ⟨fun V h1 h2 => Nearest_s A2 B2 c2 d2 s c V HH.out h1 h2⟩
  have HF3 : Aside0 (∀ V, Kd.C (Kd.int .i64) V A2 s.length s → Kd.C (Kd.int .i64) V B2 c.length c → Calls Try.prog 32 #[.slice A2 s.length c2, .slice B2 c.length d2] V (Sched V (forL s c) (forC s c))) := ⟨fun V h1 h2 => Foresee_s A2 B2 c2 d2 s c V HH.out h1 h2⟩
  have HK0 : Aside0 (∀ V (E : Option Addr) (ce : Nat), Kd.C (Kd.int .i64) V A2 s.length s → Kd.C (Kd.int .i64) V B2 c.length c → Kd.C (Kd.slice 3 (Kd.int .i64)) V E (bestL s c).length (bestL s c) → Calls Try.prog 28 #[.slice A2 s.length c2, .slice B2 c.length d2, .slice E (bestL s c).length ce] V fun e w' => e = .returned (.tuple #[.int .i64 (bestC s c), .int .i64 0]) ∧ Below V.heap.size V w') := ⟨fun V E ce h1 h2 h3 => Cost_s A2 B2 c2 d2 s c V HH.out h1 h2 E ce _ _ HS0.out HN0.out h3⟩
  have HK1 : Aside0 (∀ V (E : Option Addr) (ce : Nat), Kd.C (Kd.int .i64) V A2 s.length s → Kd.C (Kd.int .i64) V B2 c.length c → Kd.C (Kd.slice 3 (Kd.int .i64)) V E (runL cS s c).length (runL cS s c) → Calls Try.prog 28 #[.slice A2 s.length c2, .slice B2 c.length d2, .slice E (runL cS s c).length ce] V fun e w' => e = .returned (.tuple #[.int .i64 (runC cS s c), .int .i64 0]) ∧ Below V.heap.size V w') := ⟨fun V E ce h1 h2 h3 => Cost_s A2 B2 c2 d2 s c V HH.out h1 h2 E ce _ _ HS1.out HN1.out h3⟩
  have HK2 : Aside0 (∀ V (E : Option Addr) (ce : Nat), Kd.C (Kd.int .i64) V A2 s.length s → Kd.C (Kd.int .i64) V B2 c.length c → Kd.C (Kd.slice 3 (Kd.int .i64)) V E (runL nS s c).length (runL nS s c) → Calls Try.prog 28 #[.slice A2 s.length c2, .slice B2 c.length d2, .slice E (runL nS s c).length ce] V fun e w' => e = .returned (.tuple #[.int .i64 (runC nS s c), .int .i64 0]) ∧ Below V.heap.size V w') := ⟨fun V E ce h1 h2 h3 => Cost_s A2 B2 c2 d2 s c V HH.out h1 h2 E ce _ _ HS2.out HN2.out h3⟩
  have HK3 : Aside0 (∀ V (E : Option Addr) (ce : Nat), Kd.C (Kd.int .i64) V A2 s.length s → Kd.C (Kd.int .i64) V B2 c.length c → Kd.C (Kd.slice 3 (Kd.int .i64)) V E (forL s c).length (forL s c) → Calls Try.prog 28 #[.slice A2 s.length c2, .slice B2 c.length d2, .slice E (forL s c).length ce] V fun e w' => e = .returned (.tuple #[.int .i64 (forC s c), .int .i64 0]) ∧ Below V.heap.size V w') := ⟨fun V E ce h1 h2 h3 => Cost_s A2 B2 c2 d2 s c V HH.out h1 h2 E ce _ _ HS3.out HN3.out h3⟩
  have HK4 : Aside0 (∀ V (E : Option Addr) (ce : Nat), Kd.C (Kd.int .i64) V A2 s.length s → Kd.C (Kd.int .i64) V B2 c.length c → Kd.C (Kd.slice 3 (Kd.int .i64)) V E (servedF l2 k c).length (servedF l2 k c) → Calls Try.prog 28 #[.slice A2 s.length c2, .slice B2 c.length d2, .slice E (servedF l2 k c).length ce] V fun e w' => e = .returned (.tuple #[.int .i64 (costTo s (servedF l2 k c) c.length), .int .i64 0]) ∧ Below V.heap.size V w') := ⟨fun V E ce h1 h2 h3 => Cost_s A2 B2 c2 d2 s c V HH.out h1 h2 E ce _ _ HS4.out rfl h3⟩
  have HSV : Aside0 (∀ V, Kd.C (Kd.slice 3 (Kd.int .i64)) V D l2.length l2 → Kd.C (Kd.int .i64) V B2 c.length c → Calls Try.prog 26 #[.slice D l2.length cd, .int .i64 k, .slice B2 c.length d2] V (Rowed V (servedF l2 k c))) := ⟨fun V h1 h2 => served_calls D B2 cd d2 l2 k hk1 hk3 c (by have := HCL.out; omega) V h1 HCD.out h2 _HcB.out⟩
  clear HS0 HS1 HS2 HS3 HS4 HN0 HN1 HN2 HN3 HK
  generalize costTo s (servedF l2 k c) c.length = n4 at *
  generalize servedF l2 k c = X4 at *
  generalize bestL s c = X0 at *
  generalize runL cS s c = X1 at *
  generalize runL nS s c = X2 at *
  generalize forL s c = X3 at *
  generalize bestC s c = n0 at *
  generalize runC cS s c = n1 at *
  generalize runC nS s c = n2 at *
  generalize forC s c = n3 at *
  have g1 := decide_eq_true h1
  have g2 := decide_eq_true h2
  have g3 := decide_eq_true h3
  have g4 := decide_eq_true h4
  go_upto_region 4 with ((with_reducible refine (HF0.out _ HC2.out HD2.out).mono ?_); rintro e W4 ⟨E0, e0, rfl, he0, hx0, hb⟩; have HD' := Aside0.mk (Kd.C_below HD.out hb); clear HD; have HD := HD'; clear HD'; have HC2' := Aside0.mk (Kd.C_below HC2.out hb); clear HC2; have HC2 := HC2'; clear HC2'; have HD2' := Aside0.mk (Kd.C_below HD2.out hb); clear HD2; have HD2 := HD2'; clear HD2'; have HB' := Aside0.mk (below_step HB.out hb); clear HB; have HB := HB'; clear HB'; have HX0 := Aside0.mk hx0; clear hb he0 hx0)
  go_upto_region 5 with ((with_reducible refine (HK0.out _ E0 e0 HC2.out HD2.out HX0.out).mono ?_); rintro e W5 ⟨rfl, hb⟩; have HD' := Aside0.mk (Kd.C_below HD.out hb); clear HD; have HD := HD'; clear HD'; have HC2' := Aside0.mk (Kd.C_below HC2.out hb); clear HC2; have HC2 := HC2'; clear HC2'; have HD2' := Aside0.mk (Kd.C_below HD2.out hb); clear HD2; have HD2 := HD2'; clear HD2'; have HX0' := Aside0.mk (Kd.C_below HX0.out hb); clear HX0; have HX0 := HX0'; clear HX0'; have HB' := Aside0.mk (below_step HB.out hb); clear HB; have HB := HB'; clear HB'; clear hb )
  go_upto_region 8 with ((with_reducible refine (HF1.out _ HC2.out HD2.out).mono ?_); rintro e W6 ⟨E1, e1, rfl, he1, hx1, hb⟩; have HD' := Aside0.mk (Kd.C_below HD.out hb); clear HD; have HD := HD'; clear HD'; have HC2' := Aside0.mk (Kd.C_below HC2.out hb); clear HC2; have HC2 := HC2'; clear HC2'; have HD2' := Aside0.mk (Kd.C_below HD2.out hb); clear HD2; have HD2 := HD2'; clear HD2'; have HX0' := Aside0.mk (Kd.C_below HX0.out hb); clear HX0; have HX0 := HX0'; clear HX0'; have HB' := Aside0.mk (below_step HB.out hb); clear HB; have HB := HB'; clear HB'; have HX1 := Aside0.mk hx1; clear hb he1 hx1)
  go_upto_region 9 with ((with_reducible refine (HF2.out _ HC2.out HD2.out).mono ?_); rintro e W7 ⟨E2, e2, rfl, he2, hx2, hb⟩; have HD' := Aside0.mk (Kd.C_below HD.out hb); clear HD; have HD := HD'; clear HD'; have HC2' := Aside0.mk (Kd.C_below HC2.out hb); clear HC2; have HC2 := HC2'; clear HC2'; have HD2' := Aside0.mk (Kd.C_below HD2.out hb); clear HD2; have HD2 := HD2'; clear HD2'; have HX0' := Aside0.mk (Kd.C_below HX0.out hb); clear HX0; have HX0 := HX0'; clear HX0'; have HX1' := Aside0.mk (Kd.C_below HX1.out hb); clear HX1; have HX1 := HX1'; clear HX1'; have HB' := Aside0.mk (below_step HB.out hb); clear HB; have HB := HB'; clear HB'; have HX2 := Aside0.mk hx2; clear hb he2 hx2)
  go_upto_region 10 with ((with_reducible refine (HF3.out _ HC2.out HD2.out).mono ?_); rintro e W8 ⟨E3, e3, rfl, he3, hx3, hb⟩; have HD' := Aside0.mk (Kd.C_below HD.out hb); clear HD; have HD := HD'; clear HD'; have HC2' := Aside0.mk (Kd.C_below HC2.out hb); clear HC2; have HC2 := HC2'; clear HC2'; have HD2' := Aside0.mk (Kd.C_below HD2.out hb); clear HD2; have HD2 := HD2'; clear HD2'; have HX0' := Aside0.mk (Kd.C_below HX0.out hb); clear HX0; have HX0 := HX0'; clear HX0'; have HX1' := Aside0.mk (Kd.C_below HX1.out hb); clear HX1; have HX1 := HX1'; clear HX1'; have HX2' := Aside0.mk (Kd.C_below HX2.out hb); clear HX2; have HX2 := HX2'; clear HX2'; have HB' := Aside0.mk (below_step HB.out hb); clear HB; have HB := HB'; clear HB'; have HX3 := Aside0.mk hx3; clear hb he3 hx3)
  go_upto_region 13 with ((with_reducible refine (HK1.out _ E1 e1 HC2.out HD2.out HX1.out).mono ?_); rintro e W9 ⟨rfl, hb⟩; have HD' := Aside0.mk (Kd.C_below HD.out hb); clear HD; have HD := HD'; clear HD'; have HC2' := Aside0.mk (Kd.C_below HC2.out hb); clear HC2; have HC2 := HC2'; clear HC2'; have HD2' := Aside0.mk (Kd.C_below HD2.out hb); clear HD2; have HD2 := HD2'; clear HD2'; have HX0' := Aside0.mk (Kd.C_below HX0.out hb); clear HX0; have HX0 := HX0'; clear HX0'; have HX1' := Aside0.mk (Kd.C_below HX1.out hb); clear HX1; have HX1 := HX1'; clear HX1'; have HX2' := Aside0.mk (Kd.C_below HX2.out hb); clear HX2; have HX2 := HX2'; clear HX2'; have HX3' := Aside0.mk (Kd.C_below HX3.out hb); clear HX3; have HX3 := HX3'; clear HX3'; have HB' := Aside0.mk (below_step HB.out hb); clear HB; have HB := HB'; clear HB'; clear hb )
  go_upto_region 14 with ((with_reducible refine (HK2.out _ E2 e2 HC2.out HD2.out HX2.out).mono ?_); rintro e W10 ⟨rfl, hb⟩; have HD' := Aside0.mk (Kd.C_below HD.out hb); clear HD; have HD := HD'; clear HD'; have HC2' := Aside0.mk (Kd.C_below HC2.out hb); clear HC2; have HC2 := HC2'; clear HC2'; have HD2' := Aside0.mk (Kd.C_below HD2.out hb); clear HD2; have HD2 := HD2'; clear HD2'; have HX0' := Aside0.mk (Kd.C_below HX0.out hb); clear HX0; have HX0 := HX0'; clear HX0'; have HX1' := Aside0.mk (Kd.C_below HX1.out hb); clear HX1; have HX1 := HX1'; clear HX1'; have HX2' := Aside0.mk (Kd.C_below HX2.out hb); clear HX2; have HX2 := HX2'; clear HX2'; have HX3' := Aside0.mk (Kd.C_below HX3.out hb); clear HX3; have HX3 := HX3'; clear HX3'; have HB' := Aside0.mk (below_step HB.out hb); clear HB; have HB := HB'; clear HB'; clear hb )
  go_upto_region 15 with ((with_reducible refine (HK3.out _ E3 e3 HC2.out HD2.out HX3.out).mono ?_); rintro e W11 ⟨rfl, hb⟩; have HD' := Aside0.mk (Kd.C_below HD.out hb); clear HD; have HD := HD'; clear HD'; have HC2' := Aside0.mk (Kd.C_below HC2.out hb); clear HC2; have HC2 := HC2'; clear HC2'; have HD2' := Aside0.mk (Kd.C_below HD2.out hb); clear HD2; have HD2 := HD2'; clear HD2'; have HX0' := Aside0.mk (Kd.C_below HX0.out hb); clear HX0; have HX0 := HX0'; clear HX0'; have HX1' := Aside0.mk (Kd.C_below HX1.out hb); clear HX1; have HX1 := HX1'; clear HX1'; have HX2' := Aside0.mk (Kd.C_below HX2.out hb); clear HX2; have HX2 := HX2'; clear HX2'; have HX3' := Aside0.mk (Kd.C_below HX3.out hb); clear HX3; have HX3 := HX3'; clear HX3'; have HB' := Aside0.mk (below_step HB.out hb); clear HB; have HB := HB'; clear HB'; clear hb )
  go_upto_region 16 with (first
    | ((with_reducible refine (HSV.out _ HD.out HD2.out).mono ?_); rintro e W12 ⟨E4, e4, rfl, he4, hx4, hb⟩; have HD' := Aside0.mk (Kd.C_below HD.out hb); clear HD; have HD := HD'; clear HD'; have HC2' := Aside0.mk (Kd.C_below HC2.out hb); clear HC2; have HC2 := HC2'; clear HC2'; have HD2' := Aside0.mk (Kd.C_below HD2.out hb); clear HD2; have HD2 := HD2'; clear HD2'; have HX0' := Aside0.mk (Kd.C_below HX0.out hb); clear HX0; have HX0 := HX0'; clear HX0'; have HX1' := Aside0.mk (Kd.C_below HX1.out hb); clear HX1; have HX1 := HX1'; clear HX1'; have HX2' := Aside0.mk (Kd.C_below HX2.out hb); clear HX2; have HX2 := HX2'; clear HX2'; have HX3' := Aside0.mk (Kd.C_below HX3.out hb); clear HX3; have HX3 := HX3'; clear HX3'; have HB' := Aside0.mk (below_step HB.out hb); clear HB; have HB := HB'; clear HB'; have HX4 := Aside0.mk hx4; clear hb he4 hx4)
    | ((with_reducible refine (HK4.out _ E4 e4 HC2.out HD2.out HX4.out).mono ?_); rintro e W13 ⟨rfl, hb⟩; have HD' := Aside0.mk (Kd.C_below HD.out hb); clear HD; have HD := HD'; clear HD'; have HC2' := Aside0.mk (Kd.C_below HC2.out hb); clear HC2; have HC2 := HC2'; clear HC2'; have HD2' := Aside0.mk (Kd.C_below HD2.out hb); clear HD2; have HD2 := HD2'; clear HD2'; have HX0' := Aside0.mk (Kd.C_below HX0.out hb); clear HX0; have HX0 := HX0'; clear HX0'; have HX1' := Aside0.mk (Kd.C_below HX1.out hb); clear HX1; have HX1 := HX1'; clear HX1'; have HX2' := Aside0.mk (Kd.C_below HX2.out hb); clear HX2; have HX2 := HX2'; clear HX2'; have HX3' := Aside0.mk (Kd.C_below HX3.out hb); clear HX3; have HX3 := HX3'; clear HX3'; have HX4' := Aside0.mk (Kd.C_below HX4.out hb); clear HX4; have HX4 := HX4'; clear HX4'; have HB' := Aside0.mk (below_step HB.out hb); clear HB; have HB := HB'; clear HB'; clear hb ))
  go_wp2_with ((with_reducible refine (awake_calls _).mono ?_); rintro e W14 ⟨rfl, hb⟩; have HB' := Aside0.mk (below_step HB.out hb); clear HB; have HB := HB'; clear HB'; clear hb )
  go_ret
  exact ⟨rfl, HB.out⟩
end Go.Proofs.Ythadaajgjloogaa.L
