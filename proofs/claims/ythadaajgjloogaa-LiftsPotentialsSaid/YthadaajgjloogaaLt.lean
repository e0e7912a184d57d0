import Derived.Test.YthadaajgjloogaaLs
namespace Go.Proofs.Ythadaajgjloogaa.L
open Go.RowKit Go.Shelf Go.Proofs.YthadaajgjloogaaW.PrintWords Go.Proofs.YthadaajgjloogaaW.PrintLast Go.Proofs.YthadaajgjloogaaW.PrintMore
attribute [local go_sem] max2_int min2_int max_two min_two max_three min_three max_four min_four
attribute [local go_sem] Oper.semAt_some

/-! ### Work (14) -/
/-- The works after j calls. -/
def workAt (s c : List Int) : Nat → List Int → Int
  | 0 => distF s
  | j + 1 => aftF s.length (workAt s c j) (rd c j)
def workF (s c e : List Int) : Int := workAt s c c.length e
def workB (s c e : List Int) : Bool := hallB s c && posB e && decide (s.length = e.length)
theorem posB_sorted {s : List Int} (h : posB s = true) : s.Pairwise (· ≤ ·) := by
  obtain ⟨⟨h1, h3⟩, ha⟩ := (posB_iff s).1 h
  match s, h3, ha with
  | [], _, _ => simp
  | [a], _, _ => simp
  | [a, b], _, ha =>
    have := ha 1 (by simp)
    simp [okAt, rd] at this ⊢
    exact this.2.2
  | [a, b, c], _, ha =>
    have h1 := ha 1 (by simp)
    have h2 := ha 2 (by simp)
    simp [okAt, rd] at h1 h2 ⊢
    omega
  | _ :: _ :: _ :: _ :: _, h, _ => simp at h
theorem posB_allP {s : List Int} (h : posB s = true) : s ∈ allP s.length := allP_of_sorted (posB_pos h).1 (posB_sorted h)
theorem workAt_range {s c : List Int} (h1 : 1 ≤ s.length) (h3 : s.length ≤ 3) (hs : Pos s.length s) (hc : ∀ x ∈ c, 0 ≤ x ∧ x ≤ 30) : ∀ j, j ≤ c.length → ∀ p ∈ allP s.length, 0 ≤ workAt s c j p ∧ workAt s c j p ≤ 90 + 30 * j
  | 0, _, p, hp => by have := distF_range hs (allP_pos hp) h3; simp only [workAt]; omega
  | j + 1, h, p, hp => by
    have := aftF_range h1 (workAt_range h1 h3 hs hc j (by omega)) (hc (rd c j) (rd_mem (by omega))) hp
    simp only [workAt]; omega

set_option maxHeartbeats 4000000 in
theorem Work_no (A B E : Option Addr) (ca cb ce : Nat) (s c t : List Int) (w : World) (hr : Kd.C (Kd.int .i64) w A s.length s) (hq : Kd.C (Kd.int .i64) w B c.length c) (he : Kd.C (Kd.int .i64) w E t.length t) (hh : workB s c t = false) :
    Calls Try.prog 14 #[.slice A s.length ca, .slice B c.length cb, .slice E t.length ce] w fun e w' => e = .returned (.tuple #[.int .i64 0, .int .i64 2]) ∧ Below w.heap.size w w' := by
  have HN := Aside0.mk (newHall_calls A B ca cb s c w hr hq)
  have HQ := Aside0.mk he
  have l1 := Kd.C_max hr
  have l2 := Kd.C_max he
  obtain ⟨k, s0, A', n', c', eh⟩ : ∃ k s0 A' n' c', ansH s c (.slice B c.length cb) = .tuple #[.agg (hl k s0 (.slice A' n' c')), .bool (hallB s c)] := by
    cases h : hallB s c
    · exact ⟨_, _, _, _, _, ansH_no h⟩
    · exact ⟨_, _, _, _, _, ansH_yes h⟩
  obtain ⟨t0, et, _⟩ := ansP_form t
  have EH := Aside0.mk eh
  have ET := Aside0.mk et
  have key : ∀ (ub vb : Bool), hallB s c = ub → posB t = vb → (ub = true → vb = true → ((s.length : Int) != (t.length : Int)) = true) → Calls Try.prog 14 #[.slice A s.length ca, .slice B c.length cb, .slice E t.length ce] w fun e w' => e = .returned (.tuple #[.int .i64 0, .int .i64 2]) ∧ Below w.heap.size w w' := by
    intro ub vb hu hv hw
    rw [hu] at eh
    rw [hv] at et
    have EH := Aside0.mk eh
    have ET := Aside0.mk et
    clear hu hv eh et hh hr hq he
    cases ub
    · go_enter Try.func14, Try.ntmps14
      go_wp2_with (first
        | ((with_reducible refine HN.out.mono ?_); rintro e W ⟨rfl, hb⟩; rw [EH.out]; have HB := Aside0.mk (below_alloc hb (.cells (hl k s0 (.slice A' n' c')) 62)); have HBB := Aside0.mk (spotsOf_calls E ce t _ (Kd.C_below HQ.out HB.out)); clear hb HN)
        | ((with_reducible refine HBB.out.mono ?_); rintro e W2 ⟨rfl, hb⟩; rw [ET.out]; have HB2 := Aside0.mk hb; clear hb))
      go_ret2
      exact ⟨rfl, below_alloc (below_step HB.out HB2.out) _⟩
    · cases vb
      · go_enter Try.func14, Try.ntmps14
        go_wp2_with (first
          | ((with_reducible refine HN.out.mono ?_); rintro e W ⟨rfl, hb⟩; rw [EH.out]; have HB := Aside0.mk (below_alloc hb (.cells (hl k s0 (.slice A' n' c')) 62)); have HBB := Aside0.mk (spotsOf_calls E ce t _ (Kd.C_below HQ.out HB.out)); clear hb HN)
          | ((with_reducible refine HBB.out.mono ?_); rintro e W2 ⟨rfl, hb⟩; rw [ET.out]; have HB2 := Aside0.mk hb; clear hb))
        go_ret2
        exact ⟨rfl, below_alloc (below_step HB.out HB2.out) _⟩
      · have hw' := hw rfl rfl
        go_enter Try.func14, Try.ntmps14
        go_wp2_with (first
          | ((with_reducible refine HN.out.mono ?_); rintro e W ⟨rfl, hb⟩; rw [EH.out]; have HB := Aside0.mk (below_alloc hb (.cells (hl k s0 (.slice A' n' c')) 62)); have HBB := Aside0.mk (spotsOf_calls E ce t _ (Kd.C_below HQ.out HB.out)); clear hb HN)
          | ((with_reducible refine HBB.out.mono ?_); rintro e W2 ⟨rfl, hb⟩; rw [ET.out]; have HB2 := Aside0.mk hb; clear hb))
        go_ret2
        exact ⟨rfl, below_alloc (below_step HB.out HB2.out) _⟩
  refine key _ _ rfl rfl fun h1 h2 => ?_
  rw [bne_iff_ne]
  intro h3
  simp [workB, h1, h2] at hh
  omega

set_option maxHeartbeats 4000000 in
theorem Work_yes (A B E : Option Addr) (ca cb ce : Nat) (s c t : List Int) (w : World) (hr : Kd.C (Kd.int .i64) w A s.length s) (hq : Kd.C (Kd.int .i64) w B c.length c) (he : Kd.C (Kd.int .i64) w E t.length t) (hh : workB s c t = true) :
    Calls Try.prog 14 #[.slice A s.length ca, .slice B c.length cb, .slice E t.length ce] w fun e w' => e = .returned (.tuple #[.int .i64 (workF s c t), .int .i64 0]) ∧ Below w.heap.size w w' := by
  simp only [workB, Bool.and_eq_true, decide_eq_true_eq] at hh
  obtain ⟨⟨hh, hpt⟩, hl⟩ := hh
  have HN := Aside0.mk (newHall_calls A B ca cb s c w hr hq)
  have HQ := Aside0.mk he
  have HC := Aside0.mk hq
  have l1 := Kd.C_max hr
  have l2 := Kd.C_max he
  have l3 := Kd.C_max hq
  have EH := Aside0.mk (ansH_yes (s := s) (c := c) (cv := .slice B c.length cb) hh)
  have ET : Aside0 (ansP t = .tuple #[.agg #[.int .i64 (rd t 0), .int .i64 (rd t 1), .int .i64 (rd t 2)], .bool true]) := ⟨ansP_yes hpt⟩
  have HP := Aside0.mk (hallB_parts hh)
  have HT := Aside0.mk (posB_allP hpt)
  rw [← hl] at HT
  have hl2 : ((s.length : Int) != (t.length : Int)) = false := by rw [hl]; simp
  clear hr hq he hh hpt hl
  obtain ⟨⟨hpos, hk1, hk3⟩, h40, hcs⟩ := HP.out
  have HCS := Aside0.mk hcs
  clear hcs
  go_enter Try.func14, Try.ntmps14
  go_upto_region 5 with (first
    | ((with_reducible refine HN.out.mono ?_); rintro e W ⟨rfl, hb⟩; rw [EH.out]; have HB := Aside0.mk (below_alloc hb (.cells (hl s.length s (.slice B c.length cb)) 62)); have HBB := Aside0.mk (spotsOf_calls E ce t _ (Kd.C_below HQ.out HB.out)); clear hb HN)
    | ((with_reducible refine HBB.out.mono ?_); rintro e W2 ⟨rfl, hb⟩; rw [ET.out]; have HB2 := Aside0.mk hb; clear hb))
  refine wpc_world (fun V => Aside0 (V.heap[W.heap.size]? = some (.cells (hl s.length s (.slice B c.length cb)) 62 (0, 0))) ∧ Aside0 (V.heap[W2.heap.size]? = some (.cells (sp t) 60 (0, 0))) ∧ Aside0 (Below w.heap.size w V) ∧ Aside0 (W.heap.size < W2.heap.size ∧ W2.heap.size < V.heap.size))
    ⟨⟨alo ((HB2.out.block _ (by simp)).trans (aln _ _)) _⟩, ⟨aln _ _⟩, ⟨below_alloc (below_step HB.out HB2.out) _⟩, ⟨by have := HB2.out.size; simp at this ⊢; omega⟩⟩ ?_
  clear HB HB2
  rintro V ⟨H8, H10, HB, HZ⟩
  obtain ⟨⟨c0, c1, c2, c3, c4⟩, _⟩ := hl_read H8.out
  go_upto_region 6 with (go_at_call 49; refine (first_calls s.length s _ V hk3 hpos).mono ?_; rintro e V2 ⟨rfl, hm, hb⟩; have HM := Aside0.mk (first_MapF hk3 s hm); have HB2 := Aside0.mk hb; clear hm hb)
  refine wpc_world (fun U => Aside0 (MapF U (V.heap.size + 1) s.length (workAt s c 0)) ∧ Aside0 (U.heap[W.heap.size]? = some (.cells (hl s.length s (.slice B c.length cb)) 62 (0, 0))) ∧ Aside0 (U.heap[W2.heap.size]? = some (.cells (sp t) 60 (0, 0))) ∧ Aside0 (Below w.heap.size w U)) ⟨HM, ⟨(HB2.out.block _ (by have := HZ.out; omega)).trans H8.out⟩, ⟨(HB2.out.block _ (by have := HZ.out; omega)).trans H10.out⟩, ⟨below_step HB.out HB2.out⟩⟩ ?_
  clear HM HB2 H8 H10 HB c0 c1 c2 c3 c4
  rintro U ⟨HM, H8, H10, HB⟩
  go_wp2
  go_loopw [12, 14, 43] (fun v12 _ v43 wr => ∃ (j mb : Nat), j ≤ c.length ∧ v43 = .int .i64 j ∧ v12 = .map (some mb) ∧ Aside0 (MapF wr mb s.length (workAt s c j)) ∧ Aside0 (wr.heap[W.heap.size]? = some (.cells (hl s.length s (.slice B c.length cb)) 62 (0, 0))) ∧ Aside0 (wr.heap[W2.heap.size]? = some (.cells (sp t) 60 (0, 0))) ∧ Aside0 (Below w.heap.size w wr)) (fun _ _ v43 _ => c.length - (intOf v43).toNat)
  case atStart => exact ⟨0, _, Nat.zero_le _, rfl, rfl, HM, H8, H10, HB⟩
  case round =>
    clear HM H8 H10 HB
    obtain ⟨j, mb, hj, rfl, rfl, HM, H8, H10, HB⟩ := hrel
    obtain ⟨⟨c0, c1, c2, c3, c4⟩, _⟩ := hl_read H8.out
    by_cases hlt : j < c.length
    · have HC1 := Kd.C_below HC.out HB.out
      obtain ⟨ad, rfl, hx⟩ := Kd.at_int HC1 (j : Int) (by omega) (by omega)
      rw [Int.toNat_natCast] at hx
      clear HC1
      have HX := Aside0.mk (HCS.out (rd c j) (rd_mem hlt))
      have HR := Aside0.mk (workAt_range hk1 hk3 hpos HCS.out j hj)
      go_wp2_with (go_at_call 50; refine (after_calls s.length s _ mb (workAt s c j) (90 + 30 * (j : Int)) (rd c j) _ hk1 hk3 HX.out HM.out HR.out (by omega)).mono ?_; rintro e V2 ⟨rfl, hm, hb⟩; have HM2 : Aside0 (MapF V2 (wr.heap.size + 1) s.length (workAt s c (j + 1))) := ⟨hm⟩; have HB2 := Aside0.mk hb; clear hm hb)
      go_roundw
      case rel => exact ⟨j + 1, _, by omega, by go_num, rfl, HM2, ⟨(HB2.out.block _ (blk_lt H8.out)).trans H8.out⟩, ⟨(HB2.out.block _ (blk_lt H10.out)).trans H10.out⟩, ⟨below_step HB.out HB2.out⟩⟩
      case measure => simp [intOf]; omega
    · obtain rfl : j = c.length := by omega
      obtain ⟨r0, r1, r2, _, _, _⟩ := sp_read H10.out
      obtain ⟨l, hl1, _, hl2⟩ := HM.out
      have hlk : (Instr.lookup 68 (.map (some mb)) (.agg #[.int .i64 (rd t 0), .int .i64 (rd t 1), .int .i64 (rd t 2)]) false).run Try.prog wr = .ok (.int .i64 (workF s c t)) wr := by
        have h := lookup_run l _ mb t wr hl1
        rw [hl2 _ HT.out] at h
        exact h
      clear hl1 hl2
      go_wp2
      go_ret2
      exact ⟨rfl, HB.out⟩
end Go.Proofs.Ythadaajgjloogaa.L
