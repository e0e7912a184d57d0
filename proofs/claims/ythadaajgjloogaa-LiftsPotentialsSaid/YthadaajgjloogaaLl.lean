import Derived.Test.YthadaajgjloogaaLk
namespace Go.Proofs.Ythadaajgjloogaa.L
open Go.RowKit Go.Proofs.YthadaajgjloogaaW.PrintWords Go.Proofs.YthadaajgjloogaaW.PrintLast Go.Proofs.YthadaajgjloogaaW.PrintMore
attribute [local go_sem] max2_int min2_int max_two min_two max_three min_three max_four min_four

/-! ### Cost (28) -/
def rL (l : List (List Int)) (j : Nat) : List Int := PLiftsWorks.rd_L1 l j
/-- Row j of a schedule serves its call. -/
def rowB (k : Nat) (c : List Int) (l : List (List Int)) (j : Nat) : Bool := posB (rL l j) && decide ((rL l j).length = k) && decide (rd c j ∈ rL l j)
def nowAt (start : List Int) (l : List (List Int)) : Nat → List Int
  | 0 => start
  | j + 1 => rL l j
def costTo (start : List Int) (l : List (List Int)) : Nat → Int
  | 0 => 0
  | j + 1 => costTo start l j + distF (nowAt start l j) (rL l j)
def schedB (k : Nat) (c : List Int) (l : List (List Int)) : Bool := decide (l.length = c.length) && decide (∀ j, j < l.length → rowB k c l j = true)
def ansK (s c : List Int) (l : List (List Int)) : Value :=
  if hallB s c then if schedB s.length c l then .tuple #[.int .i64 (costTo s l l.length), .int .i64 0] else .tuple #[.int .i64 0, .int .i64 10] else .tuple #[.int .i64 0, .int .i64 2]
theorem nowAt_pos {k : Nat} {start c : List Int} {l : List (List Int)} (h0 : Pos k start) : ∀ j, (∀ i, i < j → rowB k c l i = true) → Pos k (nowAt start l j)
  | 0, _ => h0
  | j + 1, h => by
    have := h j (by omega)
    simp only [rowB, Bool.and_eq_true, decide_eq_true_eq] at this
    have h2 := (posB_pos this.1.1).1
    rw [this.1.2] at h2
    exact h2
theorem costTo_range {k : Nat} {start c : List Int} {l : List (List Int)} (hk : k ≤ 3) (h0 : Pos k start) : ∀ j, (∀ i, i < j → rowB k c l i = true) → 0 ≤ costTo start l j ∧ costTo start l j ≤ 90 * j
  | 0, _ => by simp [costTo]
  | j + 1, h => by
    have h1 := costTo_range hk h0 j (fun i hi => h i (by omega))
    have h2 : 0 ≤ distF (nowAt start l j) (rL l j) ∧ distF (nowAt start l j) (rL l j) ≤ 90 := distF_range (nowAt_pos h0 j (fun i hi => h i (by omega))) (nowAt_pos h0 (j + 1) h) hk
    simp only [costTo]
    omega

structure Kw (w W : World) (g k : Nat) (start : List Int) (cv : Value) (now : List Int) : Prop where
  h8 : W.heap[g]? = some (.cells (hl k start cv) 62 (0, 0))
  h11 : W.heap[g + 1]? = some (.cells (sp now) 60 (0, 0))
  hg : w.heap.size ≤ g
  hb : Below w.heap.size w W
theorem Kw.below {w W W2 : World} {g k : Nat} {start : List Int} {cv : Value} {now : List Int} (h : Kw w W g k start cv now) (hb : Below W.heap.size W W2) : Kw w W2 g k start cv now :=
  ⟨(hb.block _ (blk_lt h.h8)).trans h.h8, (hb.block _ (blk_lt h.h11)).trans h.h11, h.hg, below_step h.hb hb⟩

set_option maxHeartbeats 4000000 in
theorem Cost_no (A B D : Option Addr) (ca cb cd : Nat) (s c : List Int) (l : List (List Int)) (w : World) (hr : Kd.C (Kd.int .i64) w A s.length s) (hq : Kd.C (Kd.int .i64) w B c.length c) (hh : hallB s c = false) :
    Calls Try.prog 28 #[.slice A s.length ca, .slice B c.length cb, .slice D l.length cd] w fun e w' => e = .returned (.tuple #[.int .i64 0, .int .i64 2]) ∧ Below w.heap.size w w' := by
  have HH := Aside0.mk (ansH_no (s := s) (c := c) (cv := .slice B c.length cb) hh)
  have HN := Aside0.mk (newHall_calls A B ca cb s c w hr hq)
  clear hr hq hh
  go_enter Try.func28, Try.ntmps28
  go_wp2_with (go_at_call 47; refine HN.out.mono ?_; rintro e W ⟨rfl, hb⟩; rw [HH.out]; have HB := Aside0.mk hb; clear hb)
  go_ret2
  exact ⟨rfl, HB.out.alloc HB.out.size _⟩
set_option maxHeartbeats 4000000 in
theorem Cost_len (A B D : Option Addr) (ca cb cd : Nat) (s c : List Int) (l : List (List Int)) (w : World) (hr : Kd.C (Kd.int .i64) w A s.length s) (hq : Kd.C (Kd.int .i64) w B c.length c) (hl1 : l.length ≤ 9223372036854775807) (hh : hallB s c = true) (hne : l.length ≠ c.length) :
    Calls Try.prog 28 #[.slice A s.length ca, .slice B c.length cb, .slice D l.length cd] w fun e w' => e = .returned (.tuple #[.int .i64 0, .int .i64 10]) ∧ Below w.heap.size w w' := by
  have HH := Aside0.mk (ansH_yes (s := s) (c := c) (cv := .slice B c.length cb) hh)
  have HN := Aside0.mk (newHall_calls A B ca cb s c w hr hq)
  have hc1 := Kd.C_max hq
  have e1 : (l.length != c.length) = true := by rw [bne_iff_ne]; exact hne
  have e2 : ((l.length : Int) != (c.length : Int)) = true := by rw [bne_iff_ne]; omega
  clear hr hq hh hne
  go_enter Try.func28, Try.ntmps28
  go_wp2_with (go_at_call 47; refine HN.out.mono ?_; rintro e W ⟨rfl, hb⟩; rw [HH.out]; have HB := Aside0.mk hb; clear hb)
  go_ret2
  exact ⟨rfl, HB.out.alloc HB.out.size _⟩
set_option maxHeartbeats 8000000 in
theorem Cost_run (A B D : Option Addr) (ca cb cd : Nat) (s c : List Int) (l : List (List Int)) (w : World) (hr : Kd.C (Kd.int .i64) w A s.length s) (hq : Kd.C (Kd.int .i64) w B c.length c) (hd : Kd.C (Kd.slice 3 (Kd.int .i64)) w D l.length l) (hh : hallB s c = true) (hln : l.length = c.length) :
    Calls Try.prog 28 #[.slice A s.length ca, .slice B c.length cb, .slice D l.length cd] w fun e w' => e = .returned (ansK s c l) ∧ Below w.heap.size w w' := by
  have HH := Aside0.mk (ansH_yes (s := s) (c := c) (cv := .slice B c.length cb) hh)
  have HN := Aside0.mk (newHall_calls A B ca cb s c w hr hq)
  have HP := Aside0.mk (hallB_parts hh)
  have HQ := Aside0.mk hq
  have HD := Aside0.mk hd
  have HLN := Aside0.mk hln
  have hc1 := Kd.C_max hq
  have hl1 := Kd.C_max hd
  have e1 : (l.length != c.length) = false := by rw [hln]; simp
  have e2 : ((l.length : Int) != (c.length : Int)) = false := by rw [hln]; simp
  have AK : Aside0 (ansK s c l = if schedB s.length c l then .tuple #[.int .i64 (costTo s l l.length), .int .i64 0] else .tuple #[.int .i64 0, .int .i64 10]) := ⟨by simp [ansK, hh]⟩
  have h40 := HP.out.2.1
  have h3 := HP.out.1.2.2
  clear hr hq hd hh hln
  go_enter Try.func28, Try.ntmps28
  go_upto_region 8 with (go_at_call 47; refine HN.out.mono ?_; rintro e W ⟨rfl, hb⟩; rw [HH.out]; have HB := Aside0.mk hb; clear hb)
  refine wpc_world (fun V => Aside0 (Kw w V W.heap.size s.length s (.slice B c.length cb) s)) ⟨⟨alo (aln _ _) _, aln' _ _ (by simp), HB.out.size, below_alloc (below_alloc HB.out _) _⟩⟩ ?_
  clear HB
  rintro V HV
  go_wp2
  go_loopw [10, 12, 13, 14, 15, 33] (fun v10 _ _ _ _ v33 wr => ∃ j : Nat, j ≤ l.length ∧ v33 = .int .i64 j ∧ v10 = .int .i64 (costTo s l j) ∧ Aside0 (∀ i, i < j → rowB s.length c l i = true) ∧
      Aside0 (Kw w wr W.heap.size s.length s (.slice B c.length cb) (nowAt s l j))) (fun _ _ _ _ _ v33 _ => l.length - (intOf v33).toNat)
  case atStart => exact ⟨0, Nat.zero_le _, rfl, rfl, ⟨fun i hi => by omega⟩, HV⟩
  case round =>
    clear HV
    obtain ⟨j, hj, rfl, rfl, HO, HK⟩ := hrel
    by_cases hlt : j < l.length
    · obtain ⟨ad, A0, c0, rfl, hx, hlc, hrow⟩ := PLiftsWorks.at_L1 (Kd.C_below HD.out HK.out.hb) (j : Int) (by omega) (by omega)
      rw [Int.toNat_natCast] at hx
      have HROW := Aside0.mk hrow
      obtain ⟨t, et, ht⟩ := ansP_form (rL l j)
      have ET := Aside0.mk et
      have HS := Aside0.mk (spotsOf_calls A0 c0 (rL l j) wr hrow)
      clear hrow et
      have hrn : PLiftsWorks.rd_L1 l j = rL l j := rfl
      rw [hrn] at hx
      have HRN := Aside0.mk hrn
      clear hrn
      have hrl := Kd.C_max HROW.out
      rw [HRN.out] at hrl
      go_upto_region 12 with ((with_reducible refine HS.out.mono ?_); rintro e W3 ⟨rfl, hb⟩; rw [ET.out]; have HK3 := Aside0.mk (HK.out.below hb); clear hb)
      refine wpc_world (fun V => Aside0 (Kw w V W.heap.size s.length s (.slice B c.length cb) (nowAt s l j)) ∧ Aside0 (V.heap[W3.heap.size]? = some (.cells (sp t) 60 (0, 0)))) ⟨⟨HK3.out.below ((Below.refl _ _).alloc (Nat.le_refl _) _)⟩, ⟨aln _ _⟩⟩ ?_
      clear HK HK3 HROW HS
      rintro V2 ⟨HK, HN3⟩
      cases hpb : posB (rL l j)
      · have HSB : Aside0 (schedB s.length c l = false) := ⟨by
          cases h : schedB s.length c l
          · rfl
          · simp only [schedB, Bool.and_eq_true, decide_eq_true_eq] at h
            have := h.2 j hlt
            simp only [rowB, hpb, Bool.false_and] at this
            cases this⟩
        clear ht hpb
        go_quiet (fail)
        go_wp2
        go_ret2
        exact ⟨by rw [AK.out, HSB.out]; rfl, pw_below_drewN HK.out.hb nq⟩
      · obtain rfl := ht hpb
        have hpb2 := (posB_pos hpb)
        clear ht
        by_cases hlk : (rL l j).length = s.length
        · have n1 : ((rL l j).length != s.length) = false := by rw [hlk]; simp
          have n2 : (((rL l j).length : Int) != (s.length : Int)) = false := by rw [hlk]; simp
          obtain ⟨⟨c0, c1, c2, c3, c4⟩, _⟩ := hl_read HK.out.h8
          obtain ⟨r0, r1, r2, _, _, _⟩ := sp_read HN3.out
          obtain ⟨bd, rfl, hcx⟩ := Kd.at_int (Kd.C_below HQ.out HK.out.hb) (j : Int) (by omega) (by have := HLN.out; omega)
          rw [Int.toNat_natCast] at hcx
          have hjc : (j : Int) < (c.length : Int) := by have := HLN.out; omega
          have hj0 : (0 : Int) ≤ (j : Int) := by omega
          have hnb := Aside0.mk hcx
          have PT := Aside0.mk hpb2.1
          have HLK := Aside0.mk hlk
          clear hlk hpb2
          have hsl : (rL l j).length ≤ 9223372036854775807 := hrl
          by_cases hmem : rd c j ∈ rL l j
          · have HM := Aside0.mk (decide_eq_true hmem)
            have HO1 : Aside0 (∀ i, i < j + 1 → rowB s.length c l i = true) := ⟨fun i hi => by
              rcases Nat.lt_or_ge i j with h | h
              · exact HO.out i h
              · obtain rfl : i = j := by omega
                simp [rowB, hpb, HLK.out, hmem]⟩
            clear hpb hmem
            go_region_held3 (fun w' => w'.cell? ⟨W.heap.size, 0, none⟩ = some (.int .i64 s.length) ∧ w'.cell? ⟨W.heap.size, 1, none⟩ = some (.int .i64 (rd s 0)) ∧ w'.cell? ⟨W.heap.size, 2, none⟩ = some (.int .i64 (rd s 1)) ∧ w'.cell? ⟨W.heap.size, 3, none⟩ = some (.int .i64 (rd s 2)) ∧ w'.cell? ⟨W.heap.size, 4, none⟩ = some (.slice (some bd) c.length cb) ∧
                w'.cell? ⟨W3.heap.size, 0, none⟩ = some (.int .i64 (rd (rL l j) 0)) ∧ w'.cell? ⟨W3.heap.size, 1, none⟩ = some (.int .i64 (rd (rL l j) 1)) ∧ w'.cell? ⟨W3.heap.size, 2, none⟩ = some (.int .i64 (rd (rL l j) 2)) ∧ w'.cell? (bd.add j) = some (.int .i64 (rd c j))) (go_keep)
              (first
                | (go_at_call 57; refine (has_calls s.length s (.slice (some bd) c.length cb) (rL l j) (rd c j) _ h3 HLK.out).mono ?_; rintro e W4 ⟨rfl, hb⟩; rw [HM.out]; have HK4 := Aside0.mk (HK.out.below (below_step (below_drew1 (Below.refl _ _)) hb)); have HN4 := Aside0.mk ((hb.block _ (blk_lt HN3.out)).trans HN3.out); have hcx4 := pw_cell_below (below_step (below_drew1 (Below.refl _ V2)) hb) hcx; clear hb; obtain ⟨⟨c0, c1, c2, c3, c4⟩, _⟩ := hl_read HK4.out.h8; obtain ⟨r0, r1, r2, _, _, _⟩ := sp_read HN4.out))
            clear c0 c1 c2 c3 c4 r0 r1 r2 hcx hcx4
            go_upto_region 14 with (fail)
            refine wpc_world (fun V => Aside0 (Kw w V W.heap.size s.length s (.slice (some bd) c.length cb) (nowAt s l j)) ∧ Aside0 (V.heap[W3.heap.size]? = some (.cells (sp (rL l j)) 60 (0, 0)))) ⟨HK4, HN4⟩ ?_
            clear HK HN3 HK4 HN4
            rintro V3 ⟨HK, HN3⟩
            have PN := Aside0.mk (nowAt_pos HP.out.1.1 j HO.out)
            have PT1 : Aside0 (Pos s.length (rL l j)) := ⟨by have := PT.out; rwa [HLK.out] at this⟩
            obtain ⟨d0, d1⟩ := distF_range PN.out PT1.out h3
            obtain ⟨k0, k1⟩ := costTo_range h3 HP.out.1.1 j HO.out
            have HDF : Aside0 (sumI (dl (nowAt s l j) (rL l j) s.length) = distF (nowAt s l j) (rL l j)) := ⟨by unfold distF; rw [PN.out.len]⟩
            have HCT : Aside0 (costTo s l j + distF (nowAt s l j) (rL l j) = costTo s l (j + 1)) := ⟨rfl⟩
            obtain ⟨⟨c0, c1, c2, c3, c4⟩, _⟩ := hl_read HK.out.h8
            obtain ⟨r0, r1, r2, f0, f1, f2⟩ := sp_read HK.out.h11
            obtain ⟨t0, t1, t2, _, _, _⟩ := sp_read HN3.out
            go_upto_region 15 with (first
              | (go_at_call 54; refine (distance_calls s.length s (.slice (some bd) c.length cb) (nowAt s l j) (rL l j) _ h3 PN.out.fl PT1.out.fl).mono ?_; rintro e V4 ⟨rfl, hb⟩; rw [HDF.out]; have HK5 := Aside0.mk (HK.out.below hb); have HN5 := Aside0.mk ((hb.block _ (blk_lt HN3.out)).trans HN3.out); clear hb)
              | (go_at_call 58; refine (total2_calls (costTo s l j) (distF (nowAt s l j) (rL l j)) V4.heap.size _ (aln _ _) (by omega) (by omega)).mono ?_; rintro e V5 ⟨rfl, rfl⟩; rw [HCT.out]))
            clear c0 c1 c2 c3 c4 r0 r1 r2 f0 f1 f2 t0 t1 t2 HK HN3
            refine wpc_world (fun V => Aside0 (Kw w V W.heap.size s.length s (.slice (some bd) c.length cb) (nowAt s l j)) ∧ Aside0 (V.heap[W3.heap.size]? = some (.cells (sp (rL l j)) 60 (0, 0)))) ⟨⟨HK5.out.below ((Below.refl _ _).alloc (Nat.le_refl _) _)⟩, ⟨alo HN5.out _⟩⟩ ?_
            clear HK5 HN5
            rintro V6 ⟨HK, HN3⟩
            obtain ⟨r0, r1, r2, f0, f1, f2⟩ := sp_read HK.out.h11
            obtain ⟨t0, t1, t2, _, _, _⟩ := sp_read HN3.out
            have HKn : Aside0 (Kw w (((V6.setCell ⟨W.heap.size + 1, 0, none⟩ (.int .i64 (rd (rL l j) 0))).setCell ⟨W.heap.size + 1, 1, none⟩ (.int .i64 (rd (rL l j) 1))).setCell ⟨W.heap.size + 1, 2, none⟩ (.int .i64 (rd (rL l j) 2))) W.heap.size s.length s (.slice (some bd) c.length cb) (nowAt s l (j + 1))) :=
              ⟨blk_far (blk_far (blk_far HK.out.h8 (by simp) _) (by simp) _) (by simp) _, sp_store3 (rL l j) HK.out.h11, HK.out.hg, by
                have h1 : w.heap.size ≤ W.heap.size + 1 := Nat.le_succ_of_le HK.out.hg
                exact ((HK.out.hb.setCell h1 _).setCell h1 _).setCell h1 _⟩
            go_wp2
            go_roundw
            case rel => exact ⟨j + 1, by omega, by go_num, rfl, HO1, HKn⟩
            case measure => simp [intOf]; omega
          · have HM := Aside0.mk (decide_eq_false hmem)
            have HSB : Aside0 (schedB s.length c l = false) := ⟨by
              cases h : schedB s.length c l
              · rfl
              · simp only [schedB, Bool.and_eq_true, decide_eq_true_eq] at h
                have := h.2 j hlt
                simp only [rowB, Bool.and_eq_true, decide_eq_true_eq] at this
                exact absurd this.2 hmem⟩
            clear hpb hmem
            go_region_held3 (fun w' => w'.cell? ⟨W.heap.size, 0, none⟩ = some (.int .i64 s.length) ∧ w'.cell? ⟨W.heap.size, 1, none⟩ = some (.int .i64 (rd s 0)) ∧ w'.cell? ⟨W.heap.size, 2, none⟩ = some (.int .i64 (rd s 1)) ∧ w'.cell? ⟨W.heap.size, 3, none⟩ = some (.int .i64 (rd s 2)) ∧ w'.cell? ⟨W.heap.size, 4, none⟩ = some (.slice (some bd) c.length cb) ∧
                w'.cell? ⟨W3.heap.size, 0, none⟩ = some (.int .i64 (rd (rL l j) 0)) ∧ w'.cell? ⟨W3.heap.size, 1, none⟩ = some (.int .i64 (rd (rL l j) 1)) ∧ w'.cell? ⟨W3.heap.size, 2, none⟩ = some (.int .i64 (rd (rL l j) 2)) ∧ w'.cell? (bd.add j) = some (.int .i64 (rd c j))) (go_keep)
              (first
                | (go_at_call 57; refine (has_calls s.length s (.slice (some bd) c.length cb) (rL l j) (rd c j) _ h3 HLK.out).mono ?_; rintro e W4 ⟨rfl, hb⟩; rw [HM.out]; have HK4 := Aside0.mk (HK.out.below (below_step (below_drew1 (Below.refl _ _)) hb)); have HN4 := Aside0.mk ((hb.block _ (blk_lt HN3.out)).trans HN3.out); have hcx4 := pw_cell_below (below_step (below_drew1 (Below.refl _ V2)) hb) hcx; clear hb; obtain ⟨⟨c0, c1, c2, c3, c4⟩, _⟩ := hl_read HK4.out.h8; obtain ⟨r0, r1, r2, _, _, _⟩ := sp_read HN4.out))
            go_wp2
            go_ret2
            exact ⟨by rw [AK.out, HSB.out]; rfl, HK4.out.hb⟩
        · have HSB : Aside0 (schedB s.length c l = false) := ⟨by
            cases h : schedB s.length c l
            · rfl
            · simp only [schedB, Bool.and_eq_true, decide_eq_true_eq] at h
              have := h.2 j hlt
              simp only [rowB, Bool.and_eq_true, decide_eq_true_eq] at this
              exact absurd this.1.2 hlk⟩
          have n1 : ((rL l j).length != s.length) = true := by rw [bne_iff_ne]; exact hlk
          have n2 : (((rL l j).length : Int) != (s.length : Int)) = true := by rw [bne_iff_ne]; omega
          obtain ⟨⟨c0, c1, c2, c3, c4⟩, _⟩ := hl_read HK.out.h8
          clear hlk hpb hpb2
          go_quiet (fail)
          go_wp2
          go_ret2
          exact ⟨by rw [AK.out, HSB.out]; rfl, pw_below_drewN HK.out.hb nq⟩
    · obtain rfl : j = l.length := by omega
      have HSB : Aside0 (schedB s.length c l = true) := ⟨by simp only [schedB, Bool.and_eq_true, decide_eq_true_eq]; exact ⟨HLN.out, HO.out⟩⟩
      go_wp2
      go_ret2
      exact ⟨by rw [AK.out, HSB.out]; rfl, HK.out.hb⟩
theorem Cost_calls (A B D : Option Addr) (ca cb cd : Nat) (s c : List Int) (l : List (List Int)) (w : World) (hr : Kd.C (Kd.int .i64) w A s.length s) (hq : Kd.C (Kd.int .i64) w B c.length c) (hd : Kd.C (Kd.slice 3 (Kd.int .i64)) w D l.length l) :
    Calls Try.prog 28 #[.slice A s.length ca, .slice B c.length cb, .slice D l.length cd] w fun e w' => e = .returned (ansK s c l) ∧ Below w.heap.size w w' := by
  cases hh : hallB s c
  · rw [show ansK s c l = .tuple #[.int .i64 0, .int .i64 2] from by simp [ansK, hh]]
    exact Cost_no A B D ca cb cd s c l w hr hq hh
  by_cases hl : l.length = c.length
  · exact Cost_run A B D ca cb cd s c l w hr hq hd hh hl
  · rw [show ansK s c l = .tuple #[.int .i64 0, .int .i64 10] from by simp [ansK, hh, schedB, hl]]
    exact Cost_len A B D ca cb cd s c l w hr hq (Kd.C_max hd) hh hl
end Go.Proofs.Ythadaajgjloogaa.L
