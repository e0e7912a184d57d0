import Derived.Test.YthadaajgjloogaaQg
namespace Go.Proofs.Ythadaajgjloogaa.L
open Go.RowKit Go.Shelf Go.Proofs.YthadaajgjloogaaW.PrintWords Go.Proofs.YthadaajgjloogaaW.PrintLast Go.Proofs.YthadaajgjloogaaW.PrintMore
attribute [local go_sem] max2_int min2_int max_two min_two max_three min_three max_four min_four
attribute [local go_sem] Oper.semAt_some

/-! ### LiftsSmooth (6) -/
theorem workAt_more (s c : List Int) (x : Int) : ∀ j, j ≤ c.length → workAt s (c ++ [x]) j = workAt s c j
  | 0, _ => rfl
  | j + 1, h => by
    have e : rd (c ++ [x]) (j : Int) = rd c j := by simp [rd, List.getD, List.getElem?_append_left (show j < c.length by omega)]
    simp only [workAt]
    rw [workAt_more s c x j (by omega), e]
theorem workF_more (s c : List Int) (x : Int) (p : List Int) : workF s (c ++ [x]) p = aftF s.length (workAt s c c.length) x p := by
  unfold workF
  rw [List.length_append, List.length_singleton]
  have e : rd (c ++ [x]) (c.length : Int) = x := by simp [rd, List.getD]
  simp only [workAt]
  rw [workAt_more s c x c.length (Nat.le_refl _), e]
theorem hall_more {s c : List Int} (h : hallB s c = true) (hl : c.length ≤ 39) {x : Int} (hx : 0 ≤ x ∧ x ≤ 30) : hallB s (c ++ [x]) = true := by
  simp only [hallB, Bool.and_eq_true] at h ⊢
  refine ⟨h.1, (callsB_iff _).2 ⟨by simp; omega, fun y hy => ?_⟩⟩
  rcases List.mem_append.1 hy with hy | hy
  · exact ((callsB_iff _).1 h.2).2 y hy
  · simp at hy; omega
theorem below_of_rowS {w U X : World} {row : Option Nat} (h1 : Below w.heap.size w U) (h2 : U.grownBy X row) (hb : ∀ b, row = some b → w.heap.size ≤ b) : Below w.heap.size w X :=
  ⟨h2.os.trans h1.os, h2.tape.trans h1.tape, h2.output.trans h1.output, Nat.le_trans h1.size h2.size, fun i hi => (h2.block i (Nat.lt_of_lt_of_le hi h1.size) (fun e => by have := hb i e.symm; omega)).trans (h1.block i hi)⟩
set_option maxRecDepth 100000 in
set_option maxHeartbeats 8000000 in
theorem smoothLaw (A C D E : Option Addr) (ca cc cd ce : Nat) (l0 l1 l2 l3 : List Int) (w : World) (hr : Kd.C (Kd.int .i64) w A l0.length l0) (hca : l0.length ≤ ca) (hq : Kd.C (Kd.int .i64) w C l1.length l1) (hcc : l1.length ≤ cc) (hd : Kd.C (Kd.int .i64) w D l2.length l2) (hcd : l2.length ≤ cd) (he : Kd.C (Kd.int .i64) w E l3.length l3) (hce : l3.length ≤ ce) :
    Calls Try.prog 6 #[.slice A l0.length ca, .slice C l1.length cc, .agg #[.slice D l2.length cd, .slice E l3.length ce]] w fun e w' => e = .returned (.bool true) ∧ Below w.heap.size w w' := by
  have HR := Aside0.mk hr
  have HQ := Aside0.mk hq
  have HD := Aside0.mk hd
  have HE := Aside0.mk he
  have HCA := Aside0.mk hca
  have HCC := Aside0.mk hcc
  have HCD := Aside0.mk hcd
  have HCE := Aside0.mk hce
  have HK := Aside0.mk (liftedF_range l0)
  have hmx := Kd.C_max hr
  clear hr hq hd he hca hcc hcd hce
  go_enter Try.func6, Try.ntmps6
  go_upto_region 1 with (fail)
  refine wpc_world (fun V => Aside0 (V.heap[w.heap.size]? = some (.cells #[.slice D l2.length cd, .slice E l3.length ce] 43 (0, 0))) ∧ Aside0 (Below w.heap.size w V)) ⟨⟨aln _ _⟩, ⟨below_alloc (Below.refl _ _) _⟩⟩ ?_
  rintro V0 ⟨HBox, HB⟩
  have HR' := Aside0.mk (Kd.C_below HR.out HB.out); clear HR; have HR := HR'; clear HR'
  have HQ' := Aside0.mk (Kd.C_below HQ.out HB.out); clear HQ; have HQ := HQ'; clear HQ'
  have HD' := Aside0.mk (Kd.C_below HD.out HB.out); clear HD; have HD := HD'; clear HD'
  have HE' := Aside0.mk (Kd.C_below HE.out HB.out); clear HE; have HE := HE'; clear HE'
  go_upto_region 2 with ((with_reducible refine (lifted_calls A ca l0 _ HR.out HCA.out).mono ?_); rintro e W1 ⟨rfl, hb⟩; have HR' := Aside0.mk (Kd.C_below HR.out hb); clear HR; have HR := HR'; clear HR'; have HQ' := Aside0.mk (Kd.C_below HQ.out hb); clear HQ; have HQ := HQ'; clear HQ'; have HD' := Aside0.mk (Kd.C_below HD.out hb); clear HD; have HD := HD'; clear HD'; have HE' := Aside0.mk (Kd.C_below HE.out hb); clear HE; have HE := HE'; clear HE'; have HB' := Aside0.mk (below_step HB.out hb); clear HB; have HB := HB'; clear HB'; have HBox' := Aside0.mk ((hb.block _ (blk_lt HBox.out)).trans HBox.out); clear HBox; have HBox := HBox'; clear HBox'; clear hb )
  have hk1 := HK.out.1
  have hk3 := HK.out.2
  generalize liftedF l0 = k at *
  go_upto_region 3 with (first
    | ((with_reducible refine (tame_calls A ca l0 k hk3 _ HR.out HCA.out).mono ?_); rintro e W2 ⟨A2, c2, rfl, hc2, hr2, hb⟩; have HR' := Aside0.mk (Kd.C_below HR.out hb); clear HR; have HR := HR'; clear HR'; have HQ' := Aside0.mk (Kd.C_below HQ.out hb); clear HQ; have HQ := HQ'; clear HQ'; have HD' := Aside0.mk (Kd.C_below HD.out hb); clear HD; have HD := HD'; clear HD'; have HE' := Aside0.mk (Kd.C_below HE.out hb); clear HE; have HE := HE'; clear HE'; have HB' := Aside0.mk (below_step HB.out hb); clear HB; have HB := HB'; clear HB'; have HC2 := Aside0.mk (Kd.R_reads' hr2).2.2; have _HcA := Aside0.mk hc2; have HBox' := Aside0.mk ((hb.block _ (blk_lt HBox.out)).trans HBox.out); clear HBox; have HBox := HBox'; clear HBox'; clear hb hr2 hc2)
    | ((with_reducible refine (calls25_calls C cc l1 10 10 rfl (by omega) _ HQ.out HCC.out).mono ?_); rintro e W3 ⟨B2, d2, rfl, hd2, hr2, hb⟩; have HR' := Aside0.mk (Kd.C_below HR.out hb); clear HR; have HR := HR'; clear HR'; have HQ' := Aside0.mk (Kd.C_below HQ.out hb); clear HQ; have HQ := HQ'; clear HQ'; have HD' := Aside0.mk (Kd.C_below HD.out hb); clear HD; have HD := HD'; clear HD'; have HE' := Aside0.mk (Kd.C_below HE.out hb); clear HE; have HE := HE'; clear HE'; have HC2' := Aside0.mk (Kd.C_below HC2.out hb); clear HC2; have HC2 := HC2'; clear HC2'; have HB' := Aside0.mk (below_step HB.out hb); clear HB; have HB := HB'; clear HB'; have HD2 := Aside0.mk (Kd.R_reads' hr2).2.2; have _HcB := Aside0.mk hd2; have HBox' := Aside0.mk ((hb.block _ (blk_lt HBox.out)).trans HBox.out); clear HBox; have HBox := HBox'; clear HBox'; clear hb hr2 hd2))
  have b0 := blk_cell HBox.out 0
  have b1 := blk_cell HBox.out 1
  simp only [List.getElem?_toArray, List.getElem?_cons_zero, List.getElem?_cons_succ] at b0 b1
  have B0 := Aside0.mk b0
  have B1 := Aside0.mk b1
  have HTa : Aside0 (∀ V, Below W3.heap.size W3 V → Calls Try.prog 24 #[.slice D l2.length cd, .int .i64 k] V (Made V (tameF l2 k))) := ⟨fun V h => tame_calls D cd l2 k hk3 V (Kd.C_below HD.out h) HCD.out⟩
  have HTb : Aside0 (∀ V, Below W3.heap.size W3 V → Calls Try.prog 24 #[.slice E l3.length ce, .int .i64 k] V (Made V (tameF l3 k))) := ⟨fun V h => tame_calls E ce l3 k hk3 V (Kd.C_below HE.out h) HCE.out⟩
  have HBv := Aside0.mk (Below.refl W3.heap.size W3)
  go_region_held3 (fun U => U.cell? ⟨w.heap.size, 0, none⟩ = some (.slice D l2.length cd) ∧ U.cell? ⟨w.heap.size, 1, none⟩ = some (.slice E l3.length ce)) (go_keep)
    ((first
      | (go_at_call 24; (with_reducible refine (HTa.out _ (below_step HBv.out (by first | exact below_drew1 (Below.refl _ _) | exact Below.refl _ _))).mono ?_); rintro e V5 ⟨A5, c5, rfl, hc5, hr5, hb5⟩; have HBv' := Aside0.mk (below_step HBv.out (below_step (by first | exact below_drew1 (Below.refl _ _) | exact Below.refl _ _) hb5)); have HC5 := Aside0.mk (Kd.R_reads' hr5).2.2; have HK5 := Aside0.mk hc5; clear HBv hc5 hr5 hb5; have HBv := HBv'; clear HBv'; have b0 := (HBv.out.cell (World.block_lt_of_cell? _ _ B0.out)).trans B0.out; have b1 := (HBv.out.cell (World.block_lt_of_cell? _ _ B1.out)).trans B1.out)
      | (go_at_call 24; (with_reducible refine (HTb.out _ (below_step HBv.out (by first | exact below_drew1 (Below.refl _ _) | exact Below.refl _ _))).mono ?_); rintro e V6 ⟨A6, c6, rfl, hc6, hr6, hb6⟩; have HC5' := Aside0.mk (Kd.C_below HC5.out (below_step (by first | exact below_drew1 (Below.refl _ _) | exact Below.refl _ _) hb6)); have HBv' := Aside0.mk (below_step HBv.out (below_step (by first | exact below_drew1 (Below.refl _ _) | exact Below.refl _ _) hb6)); have HC6 := Aside0.mk (Kd.R_reads' hr6).2.2; have HK6 := Aside0.mk hc6; clear HBv HC5 hc6 hr6 hb6; have HBv := HBv'; clear HBv'; have HC5 := HC5'; clear HC5'; have b0 := (HBv.out.cell (World.block_lt_of_cell? _ _ B0.out)).trans B0.out; have b1 := (HBv.out.cell (World.block_lt_of_cell? _ _ B1.out)).trans B1.out)))
  have HC2' := Aside0.mk (Kd.C_below HC2.out HBv.out); clear HC2; have HC2 := HC2'; clear HC2'
  have HD2' := Aside0.mk (Kd.C_below HD2.out HBv.out); clear HD2; have HD2 := HD2'; clear HD2'
  have HBs := Aside0.mk (below_step HB.out HBv.out)
  clear HB HBv HR HQ HD HE HBox b0 b1 B0 B1 HTa HTb
  have HB := HBs
  clear HBs
  have HH := Aside0.mk (hall_tame l0 l1 hk1 hk3 (m := 10) (by omega))
  have HP := Aside0.mk (tameF_allP l0 hk3)
  have HPa := Aside0.mk (tameF_allP l2 hk3)
  have HPb := Aside0.mk (tameF_allP l3 hk3)
  have HCL := Aside0.mk (callsF_len l1 10)
  generalize tameF l0 k = s at *
  generalize callsF l1 10 = c at *
  generalize tameF l2 k = a at *
  generalize tameF l3 k = b at *
  obtain rfl : s.length = k := allP_len HP.out
  have hcl := HCL.out
  have hal : a.length = s.length := allP_len HPa.out
  have HAL := Aside0.mk hal
  obtain ⟨ad, eA, hx0⟩ := Kd.at_int HC5.out 0 (by omega) (by omega)
  subst eA
  rw [Int.toNat_zero, show ad.add 0 = ad from by simp [Addr.add]] at hx0
  have HX0 := Aside0.mk hx0
  have hal1 : (0 : Int) < a.length := by omega
  have hal2 : 0 < a.length := by omega
  have hfl := (allP_pos HPa.out).all (rd a 0) (rd_mem (i := 0) (by omega))
  have hfa : rd a 0 ∈ a := rd_mem (i := 0) (by omega)
  clear hal hx0
  have hpp := hallB_parts HH.out
  have HWL := Aside0.mk (workAt_lip HH.out c.length (Nat.le_refl _))
  have HWR := Aside0.mk (workAt_range hk1 hk3 hpp.1.1 hpp.2.2 c.length (Nat.le_refl _))
  clear hpp
  have HH2 := Aside0.mk (hall_more HH.out (by omega) hfl)
  have hx := HWR.out a HPa.out
  have hy := HWR.out b HPb.out
  have hz : workF s (c ++ [rd a 0]) a = workF s c a := by rw [workF_more]; exact aft_has hk1 HWL.out hfl HPa.out hfa
  have hw1 : workF s c b ≤ workF s (c ++ [rd a 0]) b := by rw [workF_more]; exact aft_ge hk1 HWL.out hfl HPb.out
  have hw2 : workF s (c ++ [rd a 0]) b ≤ 10000 := by rw [workF_more]; have := aftF_range hk1 HWR.out hfl HPb.out; omega
  have hb1 := bestC_le HH.out HPa.out
  have hb2 := bestC_le HH.out HPb.out
  have hd1 := HWL.out a HPa.out b HPb.out
  have hd2 := HWL.out b HPb.out a HPa.out
  rw [dR_comm b a] at hd2
  rw [← distF_dR a b (by rw [allP_len HPa.out, allP_len HPb.out])] at hd1 hd2
  have hdr := distF_range (allP_pos HPa.out) (allP_pos HPb.out) hk3
  have HWa : Aside0 (∀ V, Kd.C (Kd.int .i64) V A2 s.length s → Kd.C (Kd.int .i64) V B2 c.length c → Kd.C (Kd.int .i64) V (some ad) a.length a → Calls Try.prog 14 #[.slice A2 s.length c2, .slice B2 c.length d2, .slice (some ad) a.length c5] V fun e w' => e = .returned (.tuple #[.int .i64 (workAt s c c.length a), .int .i64 0]) ∧ Below V.heap.size V w') := ⟨fun V h1 h2 h3 => Work_s A2 B2 c2 d2 s c V HH.out h1 h2 (some ad) c5 a HPa.out h3⟩
  have HWb : Aside0 (∀ V, Kd.C (Kd.int .i64) V A2 s.length s → Kd.C (Kd.int .i64) V B2 c.length c → Kd.C (Kd.int .i64) V A6 b.length b → Calls Try.prog 14 #[.slice A2 s.length c2, .slice B2 c.length d2, .slice A6 b.length c6] V fun e w' => e = .returned (.tuple #[.int .i64 (workAt s c c.length b), .int .i64 0]) ∧ Below V.heap.size V w') := ⟨fun V h1 h2 h3 => Work_s A2 B2 c2 d2 s c V HH.out h1 h2 A6 c6 b HPb.out h3⟩
  have HWa2 : Aside0 (∀ V (F : Option Addr) (cf : Nat), Kd.C (Kd.int .i64) V A2 s.length s → Kd.C (Kd.int .i64) V F (c ++ [rd a 0]).length (c ++ [rd a 0]) → Kd.C (Kd.int .i64) V (some ad) a.length a → Calls Try.prog 14 #[.slice A2 s.length c2, .slice F (c ++ [rd a 0]).length cf, .slice (some ad) a.length c5] V fun e w' => e = .returned (.tuple #[.int .i64 (workAt s c c.length a), .int .i64 0]) ∧ Below V.heap.size V w') := ⟨fun V F cf h1 h2 h3 => by have h := Work_s A2 F c2 cf s (c ++ [rd a 0]) V HH2.out h1 h2 (some ad) c5 a HPa.out h3; rw [hz] at h; exact h⟩
  have HWb2 : Aside0 (∀ V (F : Option Addr) (cf : Nat), Kd.C (Kd.int .i64) V A2 s.length s → Kd.C (Kd.int .i64) V F (c ++ [rd a 0]).length (c ++ [rd a 0]) → Kd.C (Kd.int .i64) V A6 b.length b → Calls Try.prog 14 #[.slice A2 s.length c2, .slice F (c ++ [rd a 0]).length cf, .slice A6 b.length c6] V fun e w' => e = .returned (.tuple #[.int .i64 (workF s (c ++ [rd a 0]) b), .int .i64 0]) ∧ Below V.heap.size V w') := ⟨fun V F cf h1 h2 h3 => Work_s A2 F c2 cf s (c ++ [rd a 0]) V HH2.out h1 h2 A6 c6 b HPb.out h3⟩
  have HBst : Aside0 (∀ V, Kd.C (Kd.int .i64) V A2 s.length s → Kd.C (Kd.int .i64) V B2 c.length c → Calls Try.prog 30 #[.slice A2 s.length c2, .slice B2 c.length d2] V (Sched V (bestL s c) (bestC s c))) := ⟨fun V h1 h2 => Best_s A2 B2 c2 d2 s c V HH.out h1 h2⟩
  have HT2 : Aside0 (c.take 41 = c) := ⟨List.take_of_length_le (by omega)⟩
  have HLs : Aside0 (∀ V, Kd.C (Kd.int .i64) V B2 c.length c → Calls Try.prog 13 #[.slice B2 c.length d2] V (Made V c)) := ⟨fun V h => by have := list_made B2 d2 c V h _HcB.out; rw [HT2.out] at this; exact this⟩
  have HDs : Aside0 (∀ V, Kd.C (Kd.int .i64) V (some ad) a.length a → Kd.C (Kd.int .i64) V A6 b.length b → Calls Try.prog 29 #[.slice (some ad) a.length c5, .slice A6 b.length c6] V fun e w' => e = .returned (.int .i64 (distF a b)) ∧ Below V.heap.size V w') := ⟨fun V h1 h2 => (refDistQ_calls hk3 (some ad) A6 c5 c6 a b V h1 h2 (allP_pos HPa.out) (allP_pos HPb.out)).mono fun e w' h => ⟨h.1, h.2.below⟩⟩
  rw [show workF s c b = workAt s c c.length b from rfl] at hw1
  clear hz HT2 hfa
  generalize hce : c ++ [rd a 0] = ce at *
  have HCEq := Aside0.mk hce
  clear hce
  generalize workAt s c c.length a = xa at *
  generalize workAt s c c.length b = xb at *
  generalize workF s ce b = xw at *
  generalize bestC s c = n0 at *
  generalize bestL s c = X0 at *
  generalize distF a b = dd at *
  have hcx : 90 + 30 * (c.length : Int) ≤ 390 := by omega
  have hx2 : xa ≤ 390 := by omega
  have hy2 : xb ≤ 390 := by omega
  obtain ⟨hx1, _⟩ := hx
  obtain ⟨hy1, _⟩ := hy
  obtain ⟨hdr0, hdr1⟩ := hdr
  obtain ⟨hf0, hf1⟩ := hfl
  generalize rd a 0 = fl0 at *
  go_upto_region 5 with ((with_reducible refine (HWa.out _ HC2.out HD2.out HC5.out).mono ?_); rintro e W4 ⟨rfl, hb⟩; have HC2' := Aside0.mk (Kd.C_below HC2.out hb); clear HC2; have HC2 := HC2'; clear HC2'; have HD2' := Aside0.mk (Kd.C_below HD2.out hb); clear HD2; have HD2 := HD2'; clear HD2'; have HC5' := Aside0.mk (Kd.C_below HC5.out hb); clear HC5; have HC5 := HC5'; clear HC5'; have HC6' := Aside0.mk (Kd.C_below HC6.out hb); clear HC6; have HC6 := HC6'; clear HC6'; have HB' := Aside0.mk (below_step HB.out hb); clear HB; have HB := HB'; clear HB'; have HX0' := Aside0.mk ((hb.cell (World.block_lt_of_cell? _ _ HX0.out)).trans HX0.out); clear HX0; have HX0 := HX0'; clear HX0'; clear hb )
  go_upto_region 6 with ((with_reducible refine (HWb.out _ HC2.out HD2.out HC6.out).mono ?_); rintro e W5 ⟨rfl, hb⟩; have HC2' := Aside0.mk (Kd.C_below HC2.out hb); clear HC2; have HC2 := HC2'; clear HC2'; have HD2' := Aside0.mk (Kd.C_below HD2.out hb); clear HD2; have HD2 := HD2'; clear HD2'; have HC5' := Aside0.mk (Kd.C_below HC5.out hb); clear HC5; have HC5 := HC5'; clear HC5'; have HC6' := Aside0.mk (Kd.C_below HC6.out hb); clear HC6; have HC6 := HC6'; clear HC6'; have HB' := Aside0.mk (below_step HB.out hb); clear HB; have HB := HB'; clear HB'; have HX0' := Aside0.mk ((hb.cell (World.block_lt_of_cell? _ _ HX0.out)).trans HX0.out); clear HX0; have HX0 := HX0'; clear HX0'; clear hb )
  go_upto_region 7 with ((with_reducible refine (HBst.out _ HC2.out HD2.out).mono ?_); rintro e W6 ⟨E0, e0, rfl, he0, hx0, hb⟩; have HC2' := Aside0.mk (Kd.C_below HC2.out hb); clear HC2; have HC2 := HC2'; clear HC2'; have HD2' := Aside0.mk (Kd.C_below HD2.out hb); clear HD2; have HD2 := HD2'; clear HD2'; have HC5' := Aside0.mk (Kd.C_below HC5.out hb); clear HC5; have HC5 := HC5'; clear HC5'; have HC6' := Aside0.mk (Kd.C_below HC6.out hb); clear HC6; have HC6 := HC6'; clear HC6'; have HB' := Aside0.mk (below_step HB.out hb); clear HB; have HB := HB'; clear HB'; have HX0' := Aside0.mk ((hb.cell (World.block_lt_of_cell? _ _ HX0.out)).trans HX0.out); clear HX0; have HX0 := HX0'; clear HX0'; clear hb he0 hx0)
  have hx0 := HX0.out
  go_upto_region 8 with (fail)
  clear hx0 HX0
  obtain ⟨Wp8, rfl⟩ : ∃ Wp, Wp = W6 := ⟨W6, rfl⟩
  go_upto_region 9 with (first
    | ((with_reducible refine (HLs.out _ HD2.out).mono ?_); rintro e Wl8 ⟨Al8, cl8, rfl, _, hrl, hbl⟩; have HRl := Aside0.mk hrl; have HBl := Aside0.mk hbl; clear hrl hbl)
    | ((with_reducible refine gate_builtin (b := .append) (xs := #[.tmp 67, .tmp 69]) rfl ?_); at_builtin; refine Kd.R_append (Kd.int .i64) (w0 := Wl8) (W := Wl8) Wp8.heap.size rfl (.tmp 67) (.tmp 69) 22 3 (.int .i64 0) 8 rfl Try.underlying22 info3 rfl (by decide) (by omega) (.slice Al8 c.length cl8) c fl0 [.int .i64 fl0] (fun _ => True) (fun _ => False) rfl rfl rfl (fun _ h => h.elim) (fun _ _ => trivial) HRl.out (Below.refl _ _) HBl.out.size (by omega) ?_; intro v8 x8 hR hBx hg hat; rw [HCEq.out] at hR; have HBn := Aside0.mk (below_of_rowS HBl.out hg (fun b e => by obtain ⟨_, ho⟩ := Kd.R_own HRl.out; exact own_base ho b e)); have HC2' := Aside0.mk (Kd.C_below HC2.out HBn.out); clear HC2; have HC2 := HC2'; clear HC2'; have HD2' := Aside0.mk (Kd.C_below HD2.out HBn.out); clear HD2; have HD2 := HD2'; clear HD2'; have HC5' := Aside0.mk (Kd.C_below HC5.out HBn.out); clear HC5; have HC5 := HC5'; clear HC5'; have HC6' := Aside0.mk (Kd.C_below HC6.out HBn.out); clear HC6; have HC6 := HC6'; clear HC6'; have HB' := Aside0.mk (below_step HB.out HBn.out); clear HB; have HB := HB'; clear HB'; have HRn := Aside0.mk hR; clear hR hBx hg hat HRl HBl; obtain ⟨An8, cn8, ev, _, hCn⟩ := Kd.R_reads HRn.out; subst ev; have HCn := Aside0.mk hCn; clear hCn HRn HBn)
    | ((with_reducible refine (HWa2.out _ An8 cn8 HC2.out HCn.out HC5.out).mono ?_); rintro e W7 ⟨rfl, hb⟩; have HC2' := Aside0.mk (Kd.C_below HC2.out hb); clear HC2; have HC2 := HC2'; clear HC2'; have HD2' := Aside0.mk (Kd.C_below HD2.out hb); clear HD2; have HD2 := HD2'; clear HD2'; have HC5' := Aside0.mk (Kd.C_below HC5.out hb); clear HC5; have HC5 := HC5'; clear HC5'; have HC6' := Aside0.mk (Kd.C_below HC6.out hb); clear HC6; have HC6 := HC6'; clear HC6'; have HCn' := Aside0.mk (Kd.C_below HCn.out hb); clear HCn; have HCn := HCn'; clear HCn'; have HB' := Aside0.mk (below_step HB.out hb); clear HB; have HB := HB'; clear HB'; clear hb ))
  clear HCn
  obtain ⟨Wp9, rfl⟩ : ∃ Wp, Wp = W7 := ⟨W7, rfl⟩
  go_upto_region 10 with (first
    | ((with_reducible refine (HLs.out _ HD2.out).mono ?_); rintro e Wl9 ⟨Al9, cl9, rfl, _, hrl, hbl⟩; have HRl := Aside0.mk hrl; have HBl := Aside0.mk hbl; clear hrl hbl)
    | ((with_reducible refine gate_builtin (b := .append) (xs := #[.tmp 78, .tmp 80]) rfl ?_); at_builtin; refine Kd.R_append (Kd.int .i64) (w0 := Wl9) (W := Wl9) Wp9.heap.size rfl (.tmp 78) (.tmp 80) 22 3 (.int .i64 0) 8 rfl Try.underlying22 info3 rfl (by decide) (by omega) (.slice Al9 c.length cl9) c fl0 [.int .i64 fl0] (fun _ => True) (fun _ => False) rfl rfl rfl (fun _ h => h.elim) (fun _ _ => trivial) HRl.out (Below.refl _ _) HBl.out.size (by omega) ?_; intro v9 x9 hR hBx hg hat; rw [HCEq.out] at hR; have HBn := Aside0.mk (below_of_rowS HBl.out hg (fun b e => by obtain ⟨_, ho⟩ := Kd.R_own HRl.out; exact own_base ho b e)); have HC2' := Aside0.mk (Kd.C_below HC2.out HBn.out); clear HC2; have HC2 := HC2'; clear HC2'; have HD2' := Aside0.mk (Kd.C_below HD2.out HBn.out); clear HD2; have HD2 := HD2'; clear HD2'; have HC5' := Aside0.mk (Kd.C_below HC5.out HBn.out); clear HC5; have HC5 := HC5'; clear HC5'; have HC6' := Aside0.mk (Kd.C_below HC6.out HBn.out); clear HC6; have HC6 := HC6'; clear HC6'; have HB' := Aside0.mk (below_step HB.out HBn.out); clear HB; have HB := HB'; clear HB'; have HRn := Aside0.mk hR; clear hR hBx hg hat HRl HBl; obtain ⟨An9, cn9, ev, _, hCn⟩ := Kd.R_reads HRn.out; subst ev; have HCn := Aside0.mk hCn; clear hCn HRn HBn)
    | ((with_reducible refine (HWb2.out _ An9 cn9 HC2.out HCn.out HC6.out).mono ?_); rintro e W8 ⟨rfl, hb⟩; have HC2' := Aside0.mk (Kd.C_below HC2.out hb); clear HC2; have HC2 := HC2'; clear HC2'; have HD2' := Aside0.mk (Kd.C_below HD2.out hb); clear HD2; have HD2 := HD2'; clear HD2'; have HC5' := Aside0.mk (Kd.C_below HC5.out hb); clear HC5; have HC5 := HC5'; clear HC5'; have HC6' := Aside0.mk (Kd.C_below HC6.out hb); clear HC6; have HC6 := HC6'; clear HC6'; have HCn' := Aside0.mk (Kd.C_below HCn.out hb); clear HCn; have HCn := HCn'; clear HCn'; have HB' := Aside0.mk (below_step HB.out hb); clear HB; have HB := HB'; clear HB'; clear hb ))
  clear HCn
  have hk1' := decide_eq_true hw1
  go_upto_region 13 with ((with_reducible refine (HDs.out _ HC5.out HC6.out).mono ?_); rintro e W9 ⟨rfl, hb⟩; have HC5' := Aside0.mk (Kd.C_below HC5.out hb); clear HC5; have HC5 := HC5'; clear HC5'; have HC6' := Aside0.mk (Kd.C_below HC6.out hb); clear HC6; have HC6 := HC6'; clear HC6'; have HB' := Aside0.mk (below_step HB.out hb); clear HB; have HB := HB'; clear HB'; clear hb )
  have g1 : decide (xa - xb ≤ dd) = true := decide_eq_true (by omega)
  have g2 : decide (xb - xa ≤ dd) = true := decide_eq_true (by omega)
  go_wp2_with ((with_reducible refine (awake_calls _).mono ?_); rintro e W10 ⟨rfl, hb⟩; have HB' := Aside0.mk (below_step HB.out hb); clear HB; have HB := HB'; clear HB'; clear hb )
  go_ret
  exact ⟨rfl, HB.out⟩
end Go.Proofs.Ythadaajgjloogaa.L
