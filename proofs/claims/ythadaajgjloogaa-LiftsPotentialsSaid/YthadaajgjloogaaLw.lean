import Derived.Test.YthadaajgjloogaaLv
namespace Go.Proofs.Ythadaajgjloogaa.L
open Go.RowKit Go.Shelf Go.Proofs.YthadaajgjloogaaW.PrintWords Go.Proofs.YthadaajgjloogaaW.PrintLast Go.Proofs.YthadaajgjloogaaW.PrintMore
attribute [local go_sem] max2_int min2_int max_two min_two max_three min_three max_four min_four
attribute [local go_sem] Oper.semAt_some

/-! ### Best (30) -/
theorem bestL_len (s c : List Int) : (bestL s c).length = c.length := outJ_len s c _
theorem rL_get (l : List (List Int)) (i : Nat) (h : i < l.length) : rL l i = l[i] := by simp [rL, PLiftsWorks.rd_L1, List.getD, h]
theorem bestL_get (s c : List Int) (i : Nat) (h : i < c.length) : rL (bestL s c) i = bps s c (c.length - 1 - i) := by
  rw [rL_get _ _ (by rw [bestL_len]; exact h)]
  simp [bestL, outJ]
theorem gen_sorted : ∀ (d : Nat) (p : List Int) (f : Nat) (x : List Int), x ∈ gen d p f → ∃ r, x = p ++ r ∧ r.Pairwise (· ≤ ·) ∧ ∀ y ∈ r, (f : Int) ≤ y
  | 0, p, f, x, h => by
    simp only [gen, List.mem_singleton] at h
    exact ⟨[], by simp [h], List.Pairwise.nil, by simp⟩
  | d + 1, p, f, x, h => by
    simp only [gen, List.mem_flatMap, List.mem_range] at h
    obtain ⟨i, hi, hx⟩ := h
    obtain ⟨r, rfl, hr, hb⟩ := gen_sorted d _ _ x hx
    refine ⟨((f + i : Nat) : Int) :: r, by simp, List.pairwise_cons.2 ⟨hb, hr⟩, fun y hy => ?_⟩
    rcases List.mem_cons.1 hy with rfl | hy
    · omega
    · have := hb y hy; omega
theorem allP_sorted {k : Nat} {x : List Int} (h : x ∈ allP k) : x.Pairwise (· ≤ ·) := by
  obtain ⟨r, rfl, hr, _⟩ := gen_sorted k [] 0 x h
  simpa using hr
theorem posB_of_allP {k : Nat} (hk : 1 ≤ k) (hk3 : k ≤ 3) {p : List Int} (h : p ∈ allP k) : posB p = true := by
  have hp := allP_pos h
  rw [posB_iff, hp.len]
  refine ⟨⟨hk, hk3⟩, fun i hi => ?_⟩
  have hs := allP_sorted h
  have hb := hp.all _ (rd_mem (i := i) (by rw [hp.len]; exact hi))
  refine ⟨hb.1, hb.2, fun h0 => ?_⟩
  rw [List.pairwise_iff_getElem] at hs
  have hl := hp.len
  have := hs (i - 1) i (by omega) (by omega) (by omega)
  rw [show (i : Int) - 1 = ((i - 1 : Nat) : Int) by omega]
  simpa [rd, List.getD, show i - 1 < p.length by omega, show i < p.length by omega] using this
theorem best_sched {s c : List Int} (hh : hallB s c = true) : schedB s.length c (bestL s c) = true := by
  obtain ⟨⟨hpos, hk1, hk3⟩, h40, hcs⟩ := hallB_parts hh
  simp only [schedB, Bool.and_eq_true, decide_eq_true_eq, bestL_len, true_and]
  intro j hj
  have h := bps_spec hk1 hk3 hpos hcs h40 (j := c.length - 1 - j) (by omega)
  rw [show c.length - 1 - (c.length - 1 - j) = j by omega] at h
  simp only [rowB, Bool.and_eq_true, decide_eq_true_eq, bestL_get s c j hj]
  exact ⟨⟨posB_of_allP hk1 hk3 h.1, (allP_pos h.1).len⟩, h.2.1⟩
def bestC (s c : List Int) : Int := costTo s (bestL s c) c.length
theorem ansK_best {s c : List Int} (hh : hallB s c = true) : ansK s c (bestL s c) = .tuple #[.int .i64 (bestC s c), .int .i64 0] := by
  simp [ansK, hh, best_sched hh, bestL_len, bestC]

set_option maxHeartbeats 2000000 in
theorem Best_no (A B : Option Addr) (ca cb : Nat) (s c : List Int) (w : World) (hr : Kd.C (Kd.int .i64) w A s.length s) (hq : Kd.C (Kd.int .i64) w B c.length c) (hh : hallB s c = false) :
    Calls Try.prog 30 #[.slice A s.length ca, .slice B c.length cb] w fun e w' => e = .returned (.tuple #[.slice none 0 0, .int .i64 0, .int .i64 2]) ∧ Below w.heap.size w w' := by
  have HH := Aside0.mk (ansH_no (s := s) (c := c) (cv := .slice B c.length cb) hh)
  have HN := Aside0.mk (newHall_calls A B ca cb s c w hr hq)
  clear hr hq hh
  go_enter Try.func30, Try.ntmps30
  go_wp2_with (go_at_call 47; refine HN.out.mono ?_; rintro e W ⟨rfl, hb⟩; rw [HH.out]; have HB := Aside0.mk hb; clear hb)
  go_ret3
  exact ⟨rfl, HB.out.alloc HB.out.size _⟩
set_option maxHeartbeats 2000000 in
theorem Best_yes (A B : Option Addr) (ca cb : Nat) (s c : List Int) (w : World) (hr : Kd.C (Kd.int .i64) w A s.length s) (hq : Kd.C (Kd.int .i64) w B c.length c) (hh : hallB s c = true) :
    Calls Try.prog 30 #[.slice A s.length ca, .slice B c.length cb] w fun e w' => ∃ v, e = .returned (.tuple #[v, .int .i64 (bestC s c), .int .i64 0]) ∧ Rows w' w.heap.size v (bestL s c) ∧ Below w.heap.size w w' := by
  have HH := Aside0.mk (ansH_yes (s := s) (c := c) (cv := .slice B c.length cb) hh)
  have HN := Aside0.mk (newHall_calls A B ca cb s c w hr hq)
  have HT := Aside0.mk hh
  have HQ := Aside0.mk hq
  have HR := Aside0.mk hr
  have HAK := Aside0.mk (ansK_best hh)
  clear hr hq hh
  go_enter Try.func30, Try.ntmps30
  go_upto_region 4 with (go_at_call 47; refine HN.out.mono ?_; rintro e W ⟨rfl, hb⟩; rw [HH.out]; have HB := Aside0.mk hb; clear hb)
  refine wpc_world (fun V => Aside0 (V.heap[W.heap.size]? = some (.cells (hl s.length s (.slice B c.length cb)) 62 (0, 0))) ∧ Aside0 (Below w.heap.size w V)) ⟨⟨aln _ _⟩, ⟨below_alloc HB.out _⟩⟩ ?_
  rintro V ⟨H8, HBV⟩
  obtain ⟨⟨c0, c1, c2, c3, c4⟩, _⟩ := hl_read H8.out
  go_wp2_with (first
    | (go_at_call 59; refine (best_calls s c B cb _ HT.out (Kd.C_below HQ.out HBV.out)).mono ?_; rintro e W2 ⟨v, rfl, hr2, hb2⟩; have HR2 := Aside0.mk hr2; have HB2 := Aside0.mk hb2; clear hr2 hb2; obtain ⟨A2, c2', rfl, _, hC2⟩ := Kd.R_reads HR2.out; have HC2 := Aside0.mk hC2; clear hC2)
    | (go_at_call 28; refine (Cost_calls A B A2 ca cb c2' s c (bestL s c) _ (Kd.C_below HR.out (below_step HBV.out HB2.out)) (Kd.C_below HQ.out (below_step HBV.out HB2.out)) HC2.out).mono ?_; rintro e W3 ⟨rfl, hb3⟩; rw [HAK.out]; have HB3 := Aside0.mk hb3; clear hb3))
  go_ret3
  exact ⟨_, rfl, Kd.R_mono (Kd.R_lower (Kd.R_below HR2.out HB3.out) HBV.out.size) (fun q hq => Nat.le_trans HBV.out.size hq), below_step (below_step HBV.out HB2.out) HB3.out⟩
end Go.Proofs.Ythadaajgjloogaa.L
