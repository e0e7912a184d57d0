import Derived.Test.YthadaajgjloogaaLf
namespace Go.Proofs.Ythadaajgjloogaa.L
open Go.RowKit Go.Proofs.YthadaajgjloogaaW.PrintWords Go.Proofs.YthadaajgjloogaaW.PrintLast Go.Proofs.YthadaajgjloogaaW.PrintMore
attribute [local go_sem] max2_int min2_int max_two min_two max_three min_three max_four min_four

/-! ### careful (56) -/
/-- The first lift above a floor, and what it and the one below it move by. -/
def upI (s : List Int) (x : Int) : Int := idxP (fun n => decide (x < n)) s
def stepI (s : List Int) (x : Int) : Int := if rd s (upI s x) - x ≤ x - rd s (upI s x - 1) then rd s (upI s x) - x else x - rd s (upI s x - 1)
def carefulF (s : List Int) (x : Int) : List Int :=
  if x ∈ s then s else if x < rd s 0 then s.set 0 x else if rd s ((s.length : Int) - 1) < x then s.set (s.length - 1) x
  else (s.set (upI s x).toNat (rd s (upI s x) - stepI s x)).set ((upI s x).toNat - 1) (rd s (upI s x - 1) + stepI s x)

structure Cw (w W : World) (k : Nat) (s0 : List Int) (cv : Value) (s : List Int) (x : Int) : Prop where
  h3 : W.heap[w.heap.size]? = some (.cells (hl k s0 cv) 62 (0, 0))
  h4 : W.heap[w.heap.size + 1]? = some (.cells (sp s) 60 (0, 0))
  h5 : W.heap[w.heap.size + 1 + 1]? = some (.cells #[.int .i64 x] 3 (0, 0))
  h6 : W.heap[w.heap.size + 1 + 1 + 1]? = some (.cells (sp []) 60 (0, 0))
  hb : Below w.heap.size w W
theorem Cw.below {w W W2 : World} {k : Nat} {s0 : List Int} {cv : Value} {s : List Int} {x : Int} (h : Cw w W k s0 cv s x) (hb : Below W.heap.size W W2) : Cw w W2 k s0 cv s x :=
  ⟨(hb.block _ (blk_lt h.h3)).trans h.h3, (hb.block _ (blk_lt h.h4)).trans h.h4, (hb.block _ (blk_lt h.h5)).trans h.h5, (hb.block _ (blk_lt h.h6)).trans h.h6, below_then h.hb h.hb.size hb⟩
theorem Cw.first (w : World) (k : Nat) (s0 : List Int) (cv : Value) (s : List Int) (x : Int) :
    Cw w ((((w.alloc (.cells (hl k s0 cv) 62)).alloc (.cells (sp s) 60)).alloc (.cells #[.int .i64 x] 3)).alloc (.cells (sp []) 60)) k s0 cv s x :=
  ⟨alo (alo (alo (aln _ _) _) _) _, alo (alo (aln' _ _ (by simp)) _) _, alo (aln' _ _ (by simp)) _, aln' _ _ (by simp), ((((Below.refl _ _).alloc (Nat.le_refl _) _).alloc (by simp) _).alloc (by simp; omega) _).alloc (by simp; omega) _⟩

set_option maxHeartbeats 2000000 in
theorem careful_has (k : Nat) (s0 : List Int) (cv : Value) (s : List Int) (x : Int) (w : World) (hk1 : 1 ≤ k) (hk3 : k ≤ 3) (hs : s.length = k) (hx : x ∈ s) :
    Calls Try.prog 56 #[.agg (hl k s0 cv), .agg (sp s), .int .i64 x] w fun e w' => e = .returned (.agg (sp (carefulF s x))) ∧ Below w.heap.size w w' := by
  have HF : Aside0 (carefulF s x = s) := ⟨by simp [carefulF, hx]⟩
  have HS := Aside0.mk hs
  have HX := Aside0.mk (decide_eq_true hx)
  clear hs hx
  go_enter Try.func56, Try.ntmps56
  go_upto_region 1 with (fail)
  refine wpc_world (fun W => Aside0 (Cw w W k s0 cv s x)) ⟨Cw.first w k s0 cv s x⟩ ?_
  rintro W HW
  obtain ⟨⟨c0, c1, c2, c3, c4⟩, _⟩ := hl_read HW.out.h3
  obtain ⟨r0, r1, r2, _⟩ := sp_read HW.out.h4
  have x0 := blk_cell HW.out.h5 0
  simp only [List.getElem?_toArray, List.getElem?_cons_zero] at x0
  go_wp2_with (go_at_call 57; refine (has_calls k s0 cv s x _ hk3 HS.out).mono ?_; rintro e W2 ⟨rfl, hb⟩; rw [HX.out]; have HW2 := Aside0.mk (HW.out.below hb); clear hb; obtain ⟨r0, r1, r2, _⟩ := sp_read HW2.out.h4; obtain ⟨t0, t1, t2, f0, f1, f2⟩ := sp_read HW2.out.h6)
  refine bodyPost_ret (results_single rfl (.cell (w.heap.size + 1 + 1 + 1) 60 (sp s) (0, 0) _ rfl (sp_store3 s HW2.out.h6) Try.underlying60 rfl size60 .nil)) rfl ⟨by rw [HF.out] <;> rfl, ?_⟩
  exact ((HW2.out.hb.setCell (show w.heap.size ≤ w.heap.size + 1 + 1 + 1 by omega) _).setCell (show w.heap.size ≤ w.heap.size + 1 + 1 + 1 by omega) _).setCell (show w.heap.size ≤ w.heap.size + 1 + 1 + 1 by omega) _

theorem Cw.set {w W : World} {k : Nat} {s0 : List Int} {cv : Value} {s : List Int} {x : Int} (h : Cw w W k s0 cv s x) (hs3 : s.length ≤ 3) (i : Nat) (hi : i < s.length) (y : Int) : Cw w (W.setCell ⟨w.heap.size + 1, i, none⟩ (.int .i64 y)) k s0 cv (s.set i y) x :=
  ⟨blk_far h.h3 (by simp) _, by rw [blk_set h.h4, sp_set s i y hi hs3], blk_far h.h5 (show w.heap.size + 1 + 1 ≠ w.heap.size + 1 by omega) _, blk_far h.h6 (show w.heap.size + 1 + 1 + 1 ≠ w.heap.size + 1 by omega) _, h.hb.setCell (by simp) _⟩

set_option maxHeartbeats 2000000 in
theorem careful_low (k : Nat) (s0 : List Int) (cv : Value) (s : List Int) (x : Int) (w : World) (hk1 : 1 ≤ k) (hk3 : k ≤ 3) (hs : s.length = k) (hx : x ∉ s) (hlo : x < rd s 0) :
    Calls Try.prog 56 #[.agg (hl k s0 cv), .agg (sp s), .int .i64 x] w fun e w' => e = .returned (.agg (sp (carefulF s x))) ∧ Below w.heap.size w w' := by
  have HF : Aside0 (carefulF s x = s.set 0 x) := ⟨by simp [carefulF, hx, hlo]⟩
  have HS := Aside0.mk hs
  have HX := Aside0.mk (decide_eq_false hx)
  have hlo' := decide_eq_true hlo
  clear hs hx hlo
  go_enter Try.func56, Try.ntmps56
  go_upto_region 1 with (fail)
  refine wpc_world (fun W => Aside0 (Cw w W k s0 cv s x)) ⟨Cw.first w k s0 cv s x⟩ ?_
  rintro W HW
  obtain ⟨⟨c0, c1, c2, c3, c4⟩, _⟩ := hl_read HW.out.h3
  obtain ⟨r0, r1, r2, _⟩ := sp_read HW.out.h4
  have x0 := blk_cell HW.out.h5 0
  simp only [List.getElem?_toArray, List.getElem?_cons_zero] at x0
  go_upto_region 11 with (go_at_call 57; refine (has_calls k s0 cv s x _ hk3 HS.out).mono ?_; rintro e W2 ⟨rfl, hb⟩; rw [HX.out]; have HW2 := Aside0.mk (HW.out.below hb); clear hb; obtain ⟨⟨c0, c1, c2, c3, c4⟩, _⟩ := hl_read HW2.out.h3; obtain ⟨r0, r1, r2, e0, e1, e2⟩ := sp_read HW2.out.h4; have x0 := blk_cell HW2.out.h5 0; simp only [List.getElem?_toArray, List.getElem?_cons_zero] at x0; have cq := sp_cell HW2.out.h4 (k - 1) (by omega); have fq := blk_frozen HW2.out.h4 (k - 1); rw [show ((k - 1 : Nat) : Int) = (k : Int) - 1 from by omega] at cq)
  refine wpc_world (fun W => Aside0 (Cw w W k s0 cv (s.set 0 x) x)) ⟨HW2.out.set (by have := HS.out; omega) 0 (by have := HS.out; omega) x⟩ ?_
  clear r0 r1 r2 e0 e1 e2 x0 cq fq
  rintro W3 HW3
  obtain ⟨r0, r1, r2, _, _, _⟩ := sp_read HW3.out.h4
  obtain ⟨t0, t1, t2, f0, f1, f2⟩ := sp_read HW3.out.h6
  go_wp2
  refine bodyPost_ret (results_single rfl (.cell (w.heap.size + 1 + 1 + 1) 60 (sp (s.set 0 x)) (0, 0) _ rfl (sp_store3 (s.set 0 x) HW3.out.h6) Try.underlying60 rfl size60 .nil)) rfl ⟨by rw [HF.out] <;> rfl, ?_⟩
  exact ((HW3.out.hb.setCell (show w.heap.size ≤ w.heap.size + 1 + 1 + 1 by omega) _).setCell (show w.heap.size ≤ w.heap.size + 1 + 1 + 1 by omega) _).setCell (show w.heap.size ≤ w.heap.size + 1 + 1 + 1 by omega) _

set_option maxHeartbeats 2000000 in
theorem careful_high (k : Nat) (s0 : List Int) (cv : Value) (s : List Int) (x : Int) (w : World) (hk1 : 1 ≤ k) (hk3 : k ≤ 3) (hs : s.length = k) (hx : x ∉ s) (hlo : ¬ x < rd s 0) (hhi : rd s ((k : Int) - 1) < x) :
    Calls Try.prog 56 #[.agg (hl k s0 cv), .agg (sp s), .int .i64 x] w fun e w' => e = .returned (.agg (sp (carefulF s x))) ∧ Below w.heap.size w w' := by
  have HF : Aside0 (carefulF s x = s.set (k - 1) x) := ⟨by simp [carefulF, hx, hlo, hs, hhi]⟩
  have HS := Aside0.mk hs
  have HX := Aside0.mk (decide_eq_false hx)
  have hlo' := decide_eq_false hlo
  have hhi' := decide_eq_true hhi
  have b0 : (0 : Int) ≤ (k : Int) - 1 := by omega
  have b3 : (k : Int) - 1 < 3 := by omega
  have bz : ((k : Int) - 1).toNat = k - 1 := by omega
  clear hs hx hlo hhi
  go_enter Try.func56, Try.ntmps56
  go_upto_region 1 with (fail)
  refine wpc_world (fun W => Aside0 (Cw w W k s0 cv s x)) ⟨Cw.first w k s0 cv s x⟩ ?_
  rintro W HW
  obtain ⟨⟨c0, c1, c2, c3, c4⟩, _⟩ := hl_read HW.out.h3
  obtain ⟨r0, r1, r2, _⟩ := sp_read HW.out.h4
  have x0 := blk_cell HW.out.h5 0
  simp only [List.getElem?_toArray, List.getElem?_cons_zero] at x0
  go_upto_region 9 with (go_at_call 57; refine (has_calls k s0 cv s x _ hk3 HS.out).mono ?_; rintro e W2 ⟨rfl, hb⟩; rw [HX.out]; have HW2 := Aside0.mk (HW.out.below hb); clear hb; obtain ⟨⟨c0, c1, c2, c3, c4⟩, _⟩ := hl_read HW2.out.h3; obtain ⟨r0, r1, r2, e0, e1, e2⟩ := sp_read HW2.out.h4; have x0 := blk_cell HW2.out.h5 0; simp only [List.getElem?_toArray, List.getElem?_cons_zero] at x0; have cq := sp_cell HW2.out.h4 (k - 1) (by omega); have fq := blk_frozen HW2.out.h4 (k - 1); rw [show ((k - 1 : Nat) : Int) = (k : Int) - 1 from by omega] at cq)
  go_quiet (fail)
  go_upto_region 11 with (fail)
  refine wpc_world (fun W => Aside0 (Cw w W k s0 cv (s.set (k - 1) x) x)) ⟨(HW2.out.below (pw_below_drewN (Below.refl _ _) nq)).set (by have := HS.out; omega) (k - 1) (by have := HS.out; omega) x⟩ ?_
  clear r0 r1 r2 e0 e1 e2 x0 cq fq
  rintro W3 HW3
  obtain ⟨r0, r1, r2, _, _, _⟩ := sp_read HW3.out.h4
  obtain ⟨t0, t1, t2, f0, f1, f2⟩ := sp_read HW3.out.h6
  go_wp2
  refine bodyPost_ret (results_single rfl (.cell (w.heap.size + 1 + 1 + 1) 60 (sp (s.set (k - 1) x)) (0, 0) _ rfl (sp_store3 (s.set (k - 1) x) HW3.out.h6) Try.underlying60 rfl size60 .nil)) rfl ⟨by rw [HF.out] <;> rfl, ?_⟩
  exact ((HW3.out.hb.setCell (show w.heap.size ≤ w.heap.size + 1 + 1 + 1 by omega) _).setCell (show w.heap.size ≤ w.heap.size + 1 + 1 + 1 by omega) _).setCell (show w.heap.size ≤ w.heap.size + 1 + 1 + 1 by omega) _

/-! the floor lies between two lifts -/
theorem above_calls (b : Nat) (n x : Int) (w : World) (h : w.cell? ⟨b, 0, none⟩ = some (.int .i64 x)) :
    Calls Try.prog 88 #[.int .i64 n, .pointer (some ⟨b, 0, none⟩)] w fun e w' => e = .returned (.bool (decide (x < n))) ∧ w = w' := by
  go_enter Try.func88, Try.ntmps88
  go_wp2
  go_ret
  exact ⟨rfl, rfl⟩
set_option maxHeartbeats 1000000 in
theorem indexAbove_calls (A : Option Addr) (c : Nat) (l : List Int) (b : Nat) (x : Int) (w : World) (hr : Kd.C (Kd.int .i64) w A l.length l) (hx : w.cell? ⟨b, 0, none⟩ = some (.int .i64 x)) :
    Calls Try.prog 87 #[.slice A l.length c, .func (.func 88) #[] #[.pointer (some ⟨b, 0, none⟩)]] w fun e w' => e = .returned (.int .i64 (upI l x)) ∧ w = w' := by
  have HR := Aside0.mk hr
  have HX := Aside0.mk hx
  have hmx := Kd.C_max hr
  clear hr hx
  go_enter Try.func87, Try.ntmps87
  go_wp2
  go_loop [8] (fun v8 => ∃ j : Nat, j ≤ l.length ∧ v8 = .int .i64 j ∧ Aside0 (∀ i, i < j → decide (x < rd l i) = false)) (fun v8 => l.length - (intOf v8).toNat)
  case atStart => exact ⟨0, Nat.zero_le _, rfl, ⟨fun i hi => by omega⟩⟩
  case round =>
    obtain ⟨j, hj, rfl, HN⟩ := hrel
    by_cases hlt : j < l.length
    · obtain ⟨ad, rfl, hx⟩ := Kd.at_int HR.out (j : Int) (by omega) (by omega)
      rw [Int.toNat_natCast] at hx
      have hc := above_calls b (rd l j) x w HX.out
      have HC := Aside0.mk hc
      clear hc
      cases hb : decide (x < rd l j)
      · have HB := Aside0.mk hb
        have HN1 : Aside0 (∀ i, i < j + 1 → decide (x < rd l i) = false) := ⟨fun i hi => by
          rcases Nat.lt_or_ge i j with h | h
          · exact HN.out i h
          · obtain rfl : i = j := by omega
            exact HB.out⟩
        clear hb
        go_wp2_with (go_at_call 88; refine HC.out.mono ?_; rintro e w' ⟨rfl, rfl⟩; rw [HB.out])
        go_round
        case rel => exact ⟨j + 1, by omega, by go_num, HN1⟩
        case measure => simp [intOf]; omega
      · have HB := Aside0.mk hb
        have HI : Aside0 (upI l x = j) := ⟨idxP_at _ l j hlt HN.out hb⟩
        clear hb
        go_wp2_with (go_at_call 88; refine HC.out.mono ?_; rintro e w' ⟨rfl, rfl⟩; rw [HB.out])
        go_ret
        exact ⟨by rw [HI.out]; rfl, rfl⟩
    · have HI : Aside0 (upI l x = -1) := ⟨idxP_none _ l (fun i hi => HN.out i (by omega))⟩
      go_wp2
      go_ret
      exact ⟨by rw [HI.out]; rfl, rfl⟩
theorem sp_C {w : World} {g : Nat} {s : List Int} (h : w.heap[g]? = some (.cells (sp s) 60 (0, 0))) (h3 : s.length ≤ 3) (h1 : 1 ≤ s.length) : Kd.C (Kd.int .i64) w (some ⟨g, 0, none⟩) s.length s := by
  refine Kd.C_of_reads (d := (0 : Int)) (h1 := fun _ => rfl) ⟨rfl, by omega, fun _ => ⟨_, rfl, fun j hj => ?_⟩⟩
  rw [add_plain, sp_cell h j (by omega)]
  rfl

theorem indexAbove_sp (g k : Nat) (s : List Int) (b : Nat) (x : Int) (w : World) (h : w.heap[g]? = some (.cells (sp s) 60 (0, 0))) (hs : s.length = k) (hk1 : 1 ≤ k) (hk3 : k ≤ 3) (hx : w.cell? ⟨b, 0, none⟩ = some (.int .i64 x)) :
    Calls Try.prog 87 #[.slice (some ⟨g, 0, none⟩) k 3, .func (.func 88) #[] #[.pointer (some ⟨b, 0, none⟩)]] w fun e w' => e = .returned (.int .i64 (upI s x)) ∧ w = w' := by
  subst hs
  exact indexAbove_calls _ 3 s b x w (sp_C h hk3 hk1) hx

theorem rd_set_ne {s : List Int} {i j : Nat} (h : j ≠ i) (y : Int) : rd (s.set i y) j = rd s j := by
  simp [rd, List.getElem?_set, Ne.symm h]
set_option maxHeartbeats 2000000 in
theorem careful_midA (k : Nat) (s0 : List Int) (cv : Value) (s : List Int) (x : Int) (w : World) (hk1 : 1 ≤ k) (hk3 : k ≤ 3) (hs : s.length = k) (hfl : fl s) (hx0 : 0 ≤ x ∧ x ≤ 30) (hx : x ∉ s) (hlo : ¬ x < rd s 0) (hhi : ¬ rd s ((k : Int) - 1) < x)
    (u : Nat) (hu : upI s x = u) (hu1 : 1 ≤ u) (huk : u < k) (hA : rd s u - x ≤ x - rd s ((u : Int) - 1)) :
    Calls Try.prog 56 #[.agg (hl k s0 cv), .agg (sp s), .int .i64 x] w fun e w' => e = .returned (.agg (sp (carefulF s x))) ∧ Below w.heap.size w w' := by
  have HD : stepI s x = rd s u - x := by simp [stepI, hu, hA]
  have HF : Aside0 (carefulF s x = (s.set u (rd s u - (rd s u - x))).set (u - 1) (rd s ((u : Int) - 1) + (rd s u - x))) := ⟨by simp [carefulF, hx, hlo, hs, hhi, hu, HD]⟩
  have HS := Aside0.mk hs
  have HX := Aside0.mk (decide_eq_false hx)
  have HU := Aside0.mk hu
  have hlo' := decide_eq_false hlo
  have hhi' := decide_eq_false hhi
  have b0 : (0 : Int) ≤ (k : Int) - 1 := by omega
  have b3 : (k : Int) - 1 < 3 := by omega
  have bz : ((k : Int) - 1).toNat = k - 1 := by omega
  have bu0 : (0 : Int) ≤ (u : Int) - 1 := by omega
  have bu3 : (u : Int) - 1 < 3 := by omega
  have buz : ((u : Int) - 1).toNat = u - 1 := by omega
  have bu3' : (u : Int) < 3 := by omega
  obtain ⟨p0, p1⟩ := hfl u (by omega)
  have hq := hfl (u - 1) (by omega)
  rw [show ((u - 1 : Nat) : Int) = (u : Int) - 1 from by omega] at hq
  obtain ⟨q0, q1⟩ := hq
  obtain ⟨x0', x1'⟩ := hx0
  have hmin := decide_eq_false (Int.not_lt.2 hA)
  have hmin2 := Int.not_lt.2 hA
  clear hs hx hlo hhi hu HD hfl hA
  go_enter Try.func56, Try.ntmps56
  go_upto_region 1 with (fail)
  refine wpc_world (fun W => Aside0 (Cw w W k s0 cv s x)) ⟨Cw.first w k s0 cv s x⟩ ?_
  rintro W HW
  obtain ⟨⟨c0, c1, c2, c3, c4⟩, _⟩ := hl_read HW.out.h3
  obtain ⟨r0, r1, r2, _⟩ := sp_read HW.out.h4
  have x0 := blk_cell HW.out.h5 0
  simp only [List.getElem?_toArray, List.getElem?_cons_zero] at x0
  go_upto_region 9 with (go_at_call 57; refine (has_calls k s0 cv s x _ hk3 HS.out).mono ?_; rintro e W2 ⟨rfl, hb⟩; rw [HX.out]; have HW2 := Aside0.mk (HW.out.below hb); clear hb; obtain ⟨⟨c0, c1, c2, c3, c4⟩, _⟩ := hl_read HW2.out.h3; obtain ⟨r0, r1, r2, e0, e1, e2⟩ := sp_read HW2.out.h4; have x0 := blk_cell HW2.out.h5 0; simp only [List.getElem?_toArray, List.getElem?_cons_zero] at x0; have cq := sp_cell HW2.out.h4 (k - 1) (by omega); have fq := blk_frozen HW2.out.h4 (k - 1); rw [show ((k - 1 : Nat) : Int) = (k : Int) - 1 from by omega] at cq)
  go_quiet (fail)
  have hk' : (k : Int) ≤ 3 := by omega
  go_upto_region 3 with (go_at_call 87; refine (indexAbove_sp (w.heap.size + 1) k s (w.heap.size + 1 + 1) x (W2.drewN nq) HW2.out.h4 HS.out hk1 hk3 x0).mono ?_; rintro e W3 ⟨rfl, rfl⟩; rw [HU.out])
  have cu := sp_cell HW2.out.h4 u (by omega)
  have cv1 := sp_cell HW2.out.h4 (u - 1) (by omega)
  have fu := blk_frozen HW2.out.h4 u
  rw [show ((u - 1 : Nat) : Int) = (u : Int) - 1 from by omega] at cv1
  go_quiet (fail)
  go_upto_region 5 with (fail)
  refine wpc_world (fun W => Aside0 (Cw w W k s0 cv (s.set u (rd s u - (rd s u - x))) x)) ⟨(HW2.out.below (pw_below_drewN (Below.refl _ _) _)).set (by have := HS.out; omega) u (by have := HS.out; omega) _⟩ ?_
  clear r0 r1 r2 e0 e1 e2 x0 cq fq cu cv1 fu
  rintro W4 HW4
  have cv1 := sp_cell HW4.out.h4 (u - 1) (by omega)
  have fu := blk_frozen HW4.out.h4 (u - 1)
  rw [rd_set_ne (by omega), show ((u - 1 : Nat) : Int) = (u : Int) - 1 from by omega] at cv1
  go_upto_region 11 with (fail)
  refine wpc_world (fun W => Aside0 (Cw w W k s0 cv ((s.set u (rd s u - (rd s u - x))).set (u - 1) (rd s ((u : Int) - 1) + (rd s u - x))) x)) ⟨HW4.out.set (by have := HS.out; simp; omega) (u - 1) (by have := HS.out; simp; omega) _⟩ ?_
  clear cv1 fu
  rintro W3 HW3
  obtain ⟨r0, r1, r2, _, _, _⟩ := sp_read HW3.out.h4
  obtain ⟨t0, t1, t2, f0, f1, f2⟩ := sp_read HW3.out.h6
  go_wp2
  refine bodyPost_ret (results_single rfl (.cell (w.heap.size + 1 + 1 + 1) 60 (sp _) (0, 0) _ rfl (sp_store3 _ HW3.out.h6) Try.underlying60 rfl size60 .nil)) rfl ⟨by rw [HF.out] <;> rfl, ?_⟩
  exact ((HW3.out.hb.setCell (show w.heap.size ≤ w.heap.size + 1 + 1 + 1 by omega) _).setCell (show w.heap.size ≤ w.heap.size + 1 + 1 + 1 by omega) _).setCell (show w.heap.size ≤ w.heap.size + 1 + 1 + 1 by omega) _

set_option maxHeartbeats 2000000 in
theorem careful_midB (k : Nat) (s0 : List Int) (cv : Value) (s : List Int) (x : Int) (w : World) (hk1 : 1 ≤ k) (hk3 : k ≤ 3) (hs : s.length = k) (hfl : fl s) (hx0 : 0 ≤ x ∧ x ≤ 30) (hx : x ∉ s) (hlo : ¬ x < rd s 0) (hhi : ¬ rd s ((k : Int) - 1) < x)
    (u : Nat) (hu : upI s x = u) (hu1 : 1 ≤ u) (huk : u < k) (hA : ¬ rd s u - x ≤ x - rd s ((u : Int) - 1)) :
    Calls Try.prog 56 #[.agg (hl k s0 cv), .agg (sp s), .int .i64 x] w fun e w' => e = .returned (.agg (sp (carefulF s x))) ∧ Below w.heap.size w w' := by
  have HD : stepI s x = x - rd s ((u : Int) - 1) := by simp [stepI, hu, hA]
  have HF : Aside0 (carefulF s x = (s.set u (rd s u - (x - rd s ((u : Int) - 1)))).set (u - 1) (rd s ((u : Int) - 1) + (x - rd s ((u : Int) - 1)))) := ⟨by simp [carefulF, hx, hlo, hs, hhi, hu, HD]⟩
  have HS := Aside0.mk hs
  have HX := Aside0.mk (decide_eq_false hx)
  have HU := Aside0.mk hu
  have hlo' := decide_eq_false hlo
  have hhi' := decide_eq_false hhi
  have b0 : (0 : Int) ≤ (k : Int) - 1 := by omega
  have b3 : (k : Int) - 1 < 3 := by omega
  have bz : ((k : Int) - 1).toNat = k - 1 := by omega
  have bu0 : (0 : Int) ≤ (u : Int) - 1 := by omega
  have bu3 : (u : Int) - 1 < 3 := by omega
  have buz : ((u : Int) - 1).toNat = u - 1 := by omega
  have bu3' : (u : Int) < 3 := by omega
  obtain ⟨p0, p1⟩ := hfl u (by omega)
  have hq := hfl (u - 1) (by omega)
  rw [show ((u - 1 : Nat) : Int) = (u : Int) - 1 from by omega] at hq
  obtain ⟨q0, q1⟩ := hq
  obtain ⟨x0', x1'⟩ := hx0
  have hmin := decide_eq_true (Int.not_le.1 hA)
  have hmin2 := Int.not_le.1 hA
  clear hs hx hlo hhi hu HD hfl hA
  go_enter Try.func56, Try.ntmps56
  go_upto_region 1 with (fail)
  refine wpc_world (fun W => Aside0 (Cw w W k s0 cv s x)) ⟨Cw.first w k s0 cv s x⟩ ?_
  rintro W HW
  obtain ⟨⟨c0, c1, c2, c3, c4⟩, _⟩ := hl_read HW.out.h3
  obtain ⟨r0, r1, r2, _⟩ := sp_read HW.out.h4
  have x0 := blk_cell HW.out.h5 0
  simp only [List.getElem?_toArray, List.getElem?_cons_zero] at x0
  go_upto_region 9 with (go_at_call 57; refine (has_calls k s0 cv s x _ hk3 HS.out).mono ?_; rintro e W2 ⟨rfl, hb⟩; rw [HX.out]; have HW2 := Aside0.mk (HW.out.below hb); clear hb; obtain ⟨⟨c0, c1, c2, c3, c4⟩, _⟩ := hl_read HW2.out.h3; obtain ⟨r0, r1, r2, e0, e1, e2⟩ := sp_read HW2.out.h4; have x0 := blk_cell HW2.out.h5 0; simp only [List.getElem?_toArray, List.getElem?_cons_zero] at x0; have cq := sp_cell HW2.out.h4 (k - 1) (by omega); have fq := blk_frozen HW2.out.h4 (k - 1); rw [show ((k - 1 : Nat) : Int) = (k : Int) - 1 from by omega] at cq)
  go_quiet (fail)
  have hk' : (k : Int) ≤ 3 := by omega
  go_upto_region 3 with (go_at_call 87; refine (indexAbove_sp (w.heap.size + 1) k s (w.heap.size + 1 + 1) x (W2.drewN nq) HW2.out.h4 HS.out hk1 hk3 x0).mono ?_; rintro e W3 ⟨rfl, rfl⟩; rw [HU.out])
  have cu := sp_cell HW2.out.h4 u (by omega)
  have cv1 := sp_cell HW2.out.h4 (u - 1) (by omega)
  have fu := blk_frozen HW2.out.h4 u
  rw [show ((u - 1 : Nat) : Int) = (u : Int) - 1 from by omega] at cv1
  go_quiet (fail)
  go_upto_region 5 with (fail)
  refine wpc_world (fun W => Aside0 (Cw w W k s0 cv (s.set u (rd s u - (x - rd s ((u : Int) - 1)))) x)) ⟨(HW2.out.below (pw_below_drewN (Below.refl _ _) _)).set (by have := HS.out; omega) u (by have := HS.out; omega) _⟩ ?_
  clear r0 r1 r2 e0 e1 e2 x0 cq fq cu cv1 fu
  rintro W4 HW4
  have cv1 := sp_cell HW4.out.h4 (u - 1) (by omega)
  have fu := blk_frozen HW4.out.h4 (u - 1)
  rw [rd_set_ne (by omega), show ((u - 1 : Nat) : Int) = (u : Int) - 1 from by omega] at cv1
  go_upto_region 11 with (fail)
  refine wpc_world (fun W => Aside0 (Cw w W k s0 cv ((s.set u (rd s u - (x - rd s ((u : Int) - 1)))).set (u - 1) (rd s ((u : Int) - 1) + (x - rd s ((u : Int) - 1)))) x)) ⟨HW4.out.set (by have := HS.out; simp; omega) (u - 1) (by have := HS.out; simp; omega) _⟩ ?_
  clear cv1 fu
  rintro W3 HW3
  obtain ⟨r0, r1, r2, _, _, _⟩ := sp_read HW3.out.h4
  obtain ⟨t0, t1, t2, f0, f1, f2⟩ := sp_read HW3.out.h6
  go_wp2
  refine bodyPost_ret (results_single rfl (.cell (w.heap.size + 1 + 1 + 1) 60 (sp _) (0, 0) _ rfl (sp_store3 _ HW3.out.h6) Try.underlying60 rfl size60 .nil)) rfl ⟨by rw [HF.out] <;> rfl, ?_⟩
  exact ((HW3.out.hb.setCell (show w.heap.size ≤ w.heap.size + 1 + 1 + 1 by omega) _).setCell (show w.heap.size ≤ w.heap.size + 1 + 1 + 1 by omega) _).setCell (show w.heap.size ≤ w.heap.size + 1 + 1 + 1 by omega) _

theorem idxP_spec (p : Int → Bool) : ∀ (l : List Int), (∃ i : Nat, i < l.length ∧ p (rd l i) = true) → ∃ j : Nat, j < l.length ∧ idxP p l = j ∧ p (rd l j) = true ∧ ∀ i, i < j → p (rd l i) = false
  | l, ⟨i, hi, hp⟩ => by
    induction i using Nat.strongRecOn with
    | _ i ih =>
      by_cases h : ∃ j, j < i ∧ p (rd l j) = true
      · obtain ⟨j, hj, hpj⟩ := h
        exact ih j hj (by omega) hpj
      · have hn : ∀ j, j < i → p (rd l j) = false := fun j hj => by
          cases hb : p (rd l j)
          · rfl
          · exact absurd ⟨j, hj, hb⟩ h
        exact ⟨i, hi, idxP_at p l i hi hn hp, hp, hn⟩
/-- Between two lifts: which one is the first above. -/
theorem up_spec {k : Nat} {s : List Int} {x : Int} (hk1 : 1 ≤ k) (hs : s.length = k) (hx : x ∉ s) (hlo : ¬ x < rd s 0) (hhi : ¬ rd s ((k : Int) - 1) < x) :
    ∃ u : Nat, upI s x = u ∧ 1 ≤ u ∧ u < k ∧ x < rd s u ∧ rd s ((u : Int) - 1) < x := by
  have hne : ∀ i : Nat, i < k → rd s i ≠ x := fun i hi e => hx (e ▸ rd_mem (by omega))
  have h1 := hne (k - 1) (by omega)
  rw [show ((k - 1 : Nat) : Int) = (k : Int) - 1 from by omega] at h1
  obtain ⟨u, hu, he, hp, hn⟩ := idxP_spec (fun n => decide (x < n)) s ⟨k - 1, by omega, by rw [show ((k - 1 : Nat) : Int) = (k : Int) - 1 from by omega]; exact decide_eq_true (by omega)⟩
  have hp' : x < rd s u := of_decide_eq_true hp
  have hu1 : 1 ≤ u := by
    rcases Nat.eq_zero_or_pos u with rfl | h
    · exact absurd hp' hlo
    · exact h
  refine ⟨u, he, hu1, by omega, hp', ?_⟩
  have h2 := of_decide_eq_false (hn (u - 1) (by omega))
  have h3 := hne (u - 1) (by omega)
  rw [show ((u - 1 : Nat) : Int) = (u : Int) - 1 from by omega] at h2 h3
  omega
theorem careful_calls (k : Nat) (s0 : List Int) (cv : Value) (s : List Int) (x : Int) (w : World) (hk1 : 1 ≤ k) (hk3 : k ≤ 3) (hs : s.length = k) (hfl : fl s) (hx0 : 0 ≤ x ∧ x ≤ 30) :
    Calls Try.prog 56 #[.agg (hl k s0 cv), .agg (sp s), .int .i64 x] w fun e w' => e = .returned (.agg (sp (carefulF s x))) ∧ Below w.heap.size w w' := by
  by_cases hx : x ∈ s
  · exact careful_has k s0 cv s x w hk1 hk3 hs hx
  by_cases hlo : x < rd s 0
  · exact careful_low k s0 cv s x w hk1 hk3 hs hx hlo
  by_cases hhi : rd s ((k : Int) - 1) < x
  · exact careful_high k s0 cv s x w hk1 hk3 hs hx hlo hhi
  obtain ⟨u, hu, hu1, huk, _⟩ := up_spec hk1 hs hx hlo hhi
  by_cases hA : rd s u - x ≤ x - rd s ((u : Int) - 1)
  · exact careful_midA k s0 cv s x w hk1 hk3 hs hfl hx0 hx hlo hhi u hu hu1 huk hA
  · exact careful_midB k s0 cv s x w hk1 hk3 hs hfl hx0 hx hlo hhi u hu hu1 huk hA
end Go.Proofs.Ythadaajgjloogaa.L
