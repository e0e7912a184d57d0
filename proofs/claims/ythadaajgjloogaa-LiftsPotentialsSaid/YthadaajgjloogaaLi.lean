import Derived.Test.YthadaajgjloogaaLh
namespace Go.Proofs.Ythadaajgjloogaa.L
open Go.RowKit Go.Proofs.YthadaajgjloogaaW.PrintWords Go.Proofs.YthadaajgjloogaaW.PrintLast Go.Proofs.YthadaajgjloogaaW.PrintMore
attribute [local go_sem] max2_int min2_int max_two min_two max_three min_three max_four min_four

/-! ### slices.Clone (86) of a part of an array; total (58) of two numbers -/
theorem clone_sp (g k : Nat) (s : List Int) (w : World) (h : w.heap[g]? = some (.cells (sp s) 60 (0, 0))) (hs : s.length = k) (hk3 : k ≤ 3) :
    Calls Try.prog 86 #[.slice (some ⟨g, 0, none⟩) k 3] w fun e w' => ∃ v, e = .returned v ∧ Kd.R (Kd.int .i64) 3 w' w.heap.size (fun x => w.heap.size ≤ x) v s ∧ Below w.heap.size w w' := by
  subst hs
  refine (Try.slices_Clone_int g 0 s.length 3 s w (Nat.le_refl _) (by omega) (fun j hj => ?_)).mono ?_
  · rw [Nat.zero_add, sp_cell h j (by omega)]; simp [rd]
  · rintro e w' ⟨v, rfl, hown, _, hb⟩
    refine ⟨v, rfl, Kd.R_of_own (enc := Value.int .i64) (h1 := fun _ => rfl) ?_ (fun q hq => own_base hown q hq), hb⟩
    rw [List.take_length] at hown
    exact hown
theorem total2_calls (a b : Int) (g : Nat) (w : World) (h : w.heap[g]? = some (.cells #[.int .i64 a, .int .i64 b] 3 (0, 0))) (ha : -1000000000 ≤ a ∧ a ≤ 1000000000) (hb : -1000000000 ≤ b ∧ b ≤ 1000000000) :
    Calls Try.prog 58 #[.slice (some ⟨g, 0, none⟩) 2 2] w fun e w' => e = .returned (.int .i64 (a + b)) ∧ w = w' := by
  have hC : Kd.C (Kd.int .i64) w (some ⟨g, 0, none⟩) [a, b].length [a, b] := by
    refine Kd.C_of_reads (d := (0 : Int)) (h1 := fun _ => rfl) ⟨rfl, by simp, fun _ => ⟨_, rfl, fun j hj => ?_⟩⟩
    rw [add_plain, blk_cell h j]
    match j, hj with
    | 0, _ => rfl
    | 1, _ => rfl
  have := total_calls (some ⟨g, 0, none⟩) 2 [a, b] w hC (by simp) (by simp) (by intro x hx; simp at hx; rcases hx with rfl | rfl <;> assumption)
  simpa [sumI] using this

/-! ### schedule (55) -/
def distF (a b : List Int) : Int := sumI (dl a b a.length)
section
variable {σ : Type} (serve : σ → List Int → Int → σ × List Int)
/-- After j calls: the state, where the lifts are, the schedule, its cost. -/
def stepS (st0 : σ) (start c : List Int) : Nat → σ × List Int × List (List Int) × Int
  | 0 => (st0, start, [], 0)
  | j + 1 =>
    let r := serve (stepS st0 start c j).1 (stepS st0 start c j).2.1 (rd c j)
    (r.1, r.2, (stepS st0 start c j).2.2.1 ++ [r.2], (stepS st0 start c j).2.2.2 + distF (stepS st0 start c j).2.1 r.2)
end
theorem stepS_pos {σ : Type} {serve : σ → List Int → Int → σ × List Int} {k : Nat} (hp : ∀ st p x, Pos k p → 0 ≤ x ∧ x ≤ 30 → Pos k (serve st p x).2) (st0 : σ) (start c : List Int) (h0 : Pos k start) (hc : ∀ x ∈ c, 0 ≤ x ∧ x ≤ 30) :
    ∀ j, j ≤ c.length → Pos k (stepS serve st0 start c j).2.1
  | 0, _ => h0
  | j + 1, h => hp _ _ _ (stepS_pos hp st0 start c h0 hc j (by omega)) (hc _ (rd_mem (by omega)))
theorem distF_range {k : Nat} {a b : List Int} (ha : Pos k a) (hb : Pos k b) (hk : k ≤ 3) : 0 ≤ distF a b ∧ distF a b ≤ 90 := by
  unfold distF
  rw [ha.len]
  have : ∀ j : Nat, j ≤ 3 → 0 ≤ sumI (dl a b j) ∧ sumI (dl a b j) ≤ 30 * j := by
    intro j hj
    induction j with
    | zero => simp [dl, sumI]
    | succ j ih =>
      have h1 := ih (by omega)
      have h2 := ab_range (ha.fl j (by omega)) (hb.fl j (by omega))
      rw [dl_succ, sumI_append]
      simp only [sumI]
      omega
  have := this k hk
  omega
theorem stepS_cost {σ : Type} {serve : σ → List Int → Int → σ × List Int} {k : Nat} (hk : k ≤ 3) (hp : ∀ st p x, Pos k p → 0 ≤ x ∧ x ≤ 30 → Pos k (serve st p x).2) (st0 : σ) (start c : List Int) (h0 : Pos k start) (hc : ∀ x ∈ c, 0 ≤ x ∧ x ≤ 30) :
    ∀ j, j ≤ c.length → 0 ≤ (stepS serve st0 start c j).2.2.2 ∧ (stepS serve st0 start c j).2.2.2 ≤ 90 * j
  | 0, _ => by simp [stepS]
  | j + 1, h => by
    have h1 := stepS_cost hk hp st0 start c h0 hc j (by omega)
    have h2 := distF_range (stepS_pos hp st0 start c h0 hc j (by omega)) (stepS_pos hp st0 start c h0 hc (j + 1) h) hk
    simp only [stepS] at h2 ⊢
    omega

theorem info22 : (Try.prog.info? 22).map (fun i => (i.zero, i.size, i.bytes)) = some (some (.slice none 0 0), 1, 24) := by kernel_rfl
/-- A schedule in memory of the call's own. -/
abbrev Rows (w : World) (B : Nat) (v : Value) (l : List (List Int)) : Prop := Kd.R (Kd.slice 3 (Kd.int .i64)) 22 w B (fun x => B ≤ x) v l

theorem grownBy_trans' {a b c : World} {row : Option Nat} (h : a.grownBy b row) (k : b.grownBy c row) : a.grownBy c row :=
  ⟨k.os.trans h.os, k.tape.trans h.tape, k.output.trans h.output, Nat.le_trans h.size k.size, fun i hi hne => (k.block i (Nat.lt_of_lt_of_le hi h.size) hne).trans (h.block i hi hne)⟩
theorem grown_far {a w : World} {row : Option Nat} (h : a.grownBy w row) {p : Addr} (hp : a.heap.size ≤ p.block) (u : Value) : a.grownBy (w.setCell p u) row :=
  ⟨h.os, h.tape, h.output, by simpa [World.setCell] using h.size, fun i hi hne => (Below.heap_setCell w p u i (by omega)).trans (h.block i hi hne)⟩
theorem stepS_len {σ : Type} (serve : σ → List Int → Int → σ × List Int) (st0 : σ) (start c : List Int) : ∀ j, (stepS serve st0 start c j).2.2.1.length = j
  | 0 => rfl
  | j + 1 => by simp [stepS, stepS_len serve st0 start c j]
theorem grown_below {a w w2 : World} {row : Option Nat} {B : Nat} (h : a.grownBy w row) (hb : Below B w w2) (hB : a.heap.size ≤ B) : a.grownBy w2 row :=
  ⟨hb.os.trans h.os, hb.tape.trans h.tape, hb.output.trans h.output, Nat.le_trans h.size hb.size, fun i hi hne => (hb.block i (by omega)).trans (h.block i hi hne)⟩
structure Sw (w W : World) (row : Option Nat) (k : Nat) (start : List Int) (cv : Value) (now : List Int) (v : Value) (out : List (List Int)) : Prop where
  h2 : W.heap[w.heap.size]? = some (.cells (hl k start cv) 62 (0, 0))
  h8 : W.heap[w.heap.size + 1]? = some (.cells (sp now) 60 (0, 0))
  ho : Rows W (w.heap.size + 2) v out
  hg : w.grownBy W row
theorem Sw.grown {w W W2 : World} {row : Option Nat} {k : Nat} {start : List Int} {cv : Value} {now : List Int} {v : Value} {out : List (List Int)} (h : Sw w W row k start cv now v out) (hr : ∀ r, row = some r → r < w.heap.size) (hg : W.grownBy W2 row) : Sw w W2 row k start cv now v out :=
  ⟨blk_grown h.h2 hg (fun e => by have := hr _ e.symm; omega), blk_grown h.h8 hg (fun e => by have := hr _ e.symm; omega), Kd.R_grown h.ho hg (fun q hq e => by have := hr _ e.symm; omega), grownBy_trans' h.hg hg⟩
theorem Sw.below {w W W2 : World} {row : Option Nat} {k : Nat} {start : List Int} {cv : Value} {now : List Int} {v : Value} {out : List (List Int)} (h : Sw w W row k start cv now v out) (hb : Below W.heap.size W W2) : Sw w W2 row k start cv now v out :=
  ⟨(hb.block _ (blk_lt h.h2)).trans h.h2, (hb.block _ (blk_lt h.h8)).trans h.h8, Kd.R_below h.ho hb, grownBy_trans' h.hg (grown_of_below hb _)⟩
theorem Sw.lt {w W : World} {row : Option Nat} {k : Nat} {start : List Int} {cv : Value} {now : List Int} {v : Value} {out : List (List Int)} (h : Sw w W row k start cv now v out) : w.heap.size + 2 ≤ W.heap.size := by have := blk_lt h.h8; omega
set_option maxHeartbeats 4000000 in
theorem schedule_calls {σ : Type} (serve : σ → List Int → Int → σ × List Int) (st0 : σ) (g : Nat) (first caps : Array Value) (k : Nat) (start c : List Int) (A : Option Addr) (cc : Nat) (row : Option Nat) (J : σ → World → Prop) (w : World)
    (hcf : ∀ (args : Array Value) (W : World), (callFunc g args).run Try.prog W = .ok (.enter g args) W)
    (hJ : ∀ st W W', J st W → Below w.heap.size W W' → J st W')
    (hp : ∀ st p x, Pos k p → 0 ≤ x ∧ x ≤ 30 → Pos k (serve st p x).2)
    (hstep : ∀ st p x W, J st W → Pos k p → 0 ≤ x ∧ x ≤ 30 → w.grownBy W row → Calls Try.prog g (first ++ (#[.agg (sp p), .int .i64 x] ++ caps)) W fun e W' => e = .returned (.agg (sp (serve st p x).2)) ∧ J (serve st p x).1 W' ∧ W.grownBy W' row)
    (hk1 : 1 ≤ k) (hk3 : k ≤ 3) (h0 : Pos k start) (hc : ∀ x ∈ c, 0 ≤ x ∧ x ≤ 30) (hcl : c.length ≤ 1000)
    (hC : ∀ W, w.grownBy W row → Kd.C (Kd.int .i64) W A c.length c) (hrow : ∀ r, row = some r → r < w.heap.size) (hJ0 : J st0 w) :
    Calls Try.prog 55 #[.agg (hl k start (.slice A c.length cc)), .func (.func g) first caps] w fun e w' => ∃ v, e = .returned (.tuple #[v, .int .i64 (stepS serve st0 start c c.length).2.2.2]) ∧
      Rows w' (w.heap.size + 2) v (stepS serve st0 start c c.length).2.2.1 ∧ J (stepS serve st0 start c c.length).1 w' ∧ w.grownBy w' row := by
  have HJ := Aside0.mk hJ
  have HP := Aside0.mk hp
  have HT := Aside0.mk hstep
  have H0 := Aside0.mk h0
  have HC := Aside0.mk hc
  have HCC := Aside0.mk hC
  have HR := Aside0.mk hrow
  have HJ0 := Aside0.mk hJ0
  clear hJ hp hstep h0 hc hC hrow hJ0
  go_enter Try.func55, Try.ntmps55
  go_upto_region 4 with (fail)
  refine wpc_world (fun W => Aside0 (Sw w W row k start (.slice A c.length cc) start (.slice none 0 0) [] ∧ J st0 W))
    ⟨⟨⟨alo (aln _ _) _, aln' _ _ (by simp), Kd.R_nil _ _ _ _ _, ?_⟩, ?_⟩⟩ ?_
  · exact grown_of_below (((Below.refl _ _).alloc (Nat.le_refl _) _).alloc (by simp) _) _
  · exact HJ.out _ _ _ HJ0.out (((Below.refl _ _).alloc (Nat.le_refl _) _).alloc (by simp) _)
  rintro W HW
  obtain ⟨⟨c0, c1, c2, c3, c4⟩, _⟩ := hl_read HW.out.1.h2
  go_wp2
  go_loopw [6, 7, 10, 11, 17] (fun v6 v7 _ _ v17 wr => ∃ j : Nat, j ≤ c.length ∧ v17 = .int .i64 j ∧ v7 = .int .i64 (stepS serve st0 start c j).2.2.2 ∧
      Aside0 (Sw w wr row k start (.slice A c.length cc) (stepS serve st0 start c j).2.1 v6 (stepS serve st0 start c j).2.2.1 ∧ J (stepS serve st0 start c j).1 wr)) (fun _ _ _ _ v17 _ => c.length - (intOf v17).toNat)
  case atStart => exact ⟨0, Nat.zero_le _, rfl, rfl, HW⟩
  case round =>
    clear HW c0 c1 c2 c3 c4
    obtain ⟨j, hj, rfl, rfl, HS⟩ := hrel
    by_cases hlt : j < c.length
    · have HC1 := HCC.out _ HS.out.1.hg
      obtain ⟨ad, rfl, hx⟩ := Kd.at_int HC1 (j : Int) (by omega) (by omega)
      rw [Int.toNat_natCast] at hx
      clear HC1
      have HX := Aside0.mk (HC.out _ (rd_mem hlt))
      have PN := Aside0.mk (stepS_pos HP.out st0 start c H0.out HC.out j hj)
      have PN1 := Aside0.mk (stepS_pos HP.out st0 start c H0.out HC.out (j + 1) hlt)
      have hco := stepS_cost hk3 HP.out st0 start c H0.out HC.out j hj
      have hdi := distF_range PN.out PN1.out hk3
      have HE1 : Aside0 ((stepS serve st0 start c (j + 1)).2.2.2 = (stepS serve st0 start c j).2.2.2 + distF (stepS serve st0 start c j).2.1 (stepS serve st0 start c (j + 1)).2.1) := ⟨rfl⟩
      have HE2 : Aside0 ((stepS serve st0 start c (j + 1)).2.2.1 = (stepS serve st0 start c j).2.2.1 ++ [(stepS serve st0 start c (j + 1)).2.1]) := ⟨rfl⟩
      have HG0 := Aside0.mk (HT.out (stepS serve st0 start c j).1 (stepS serve st0 start c j).2.1 (rd c j) wr HS.out.2 PN.out HX.out HS.out.1.hg)
      have HG : Aside0 (Calls Try.prog g (first ++ (#[.agg #[.int .i64 (rd (stepS serve st0 start c j).2.1 0), .int .i64 (rd (stepS serve st0 start c j).2.1 1), .int .i64 (rd (stepS serve st0 start c j).2.1 2)], .int .i64 (rd c j)] ++ caps)) wr fun e W' => e = .returned (.agg (sp (stepS serve st0 start c (j + 1)).2.1)) ∧ J (stepS serve st0 start c (j + 1)).1 W' ∧ wr.grownBy W' row) := HG0
      clear HG0
      have HLo : Aside0 ((stepS serve st0 start c j).2.2.1.length = j) := ⟨stepS_len serve st0 start c j⟩
      generalize (stepS serve st0 start c j).2.1 = now at *
      generalize hnxt : (stepS serve st0 start c (j + 1)).2.1 = nxt at *
      have Enxt := Aside0.mk hnxt
      clear hnxt
      generalize (stepS serve st0 start c j).2.2.2 = cost at *
      generalize hcost1 : (stepS serve st0 start c (j + 1)).2.2.2 = cost1 at *
      have Ecost1 := Aside0.mk hcost1
      clear hcost1
      generalize (stepS serve st0 start c j).2.2.1 = out at *
      generalize hout1 : (stepS serve st0 start c (j + 1)).2.2.1 = out1 at *
      have Eout1 := Aside0.mk hout1
      clear hout1
      generalize (stepS serve st0 start c j).1 = st at *
      generalize hst1 : (stepS serve st0 start c (j + 1)).1 = st1 at *
      have Est1 := Aside0.mk hst1
      clear hst1
      obtain ⟨r0, r1, r2, _, _, _⟩ := sp_read HS.out.1.h8
      go_upto_region 8 with ((with_reducible refine HG.out.mono ?_); rintro e W1 ⟨rfl, hj1, hg1⟩; rw [spv nxt]; have HS1 := Aside0.mk (And.intro (HS.out.1.grown HR.out hg1) hj1); clear hj1 hg1)
      clear r0 r1 r2 hx
      refine wpc_world (fun W => Aside0 (Sw w W row k start (.slice (some ad) c.length cc) now u6 out ∧ J st1 W) ∧ Aside0 (W.heap[W1.heap.size]? = some (.cells (sp nxt) 60 (0, 0)))) ⟨⟨HS1.out.1.below ((Below.refl _ _).alloc (Nat.le_refl _) _), HJ.out _ _ _ HS1.out.2 ((Below.refl _ _).alloc (by have := HS1.out.1.lt; omega) _)⟩, ⟨aln _ _⟩⟩ ?_
      have hsz : w.heap.size + 2 ≤ W1.heap.size := HS1.out.1.lt
      clear HS1 HS HG
      rintro W2 ⟨HS, HN⟩
      obtain ⟨⟨c0, c1, c2, c3, c4⟩, _⟩ := hl_read HS.out.1.h2
      obtain ⟨r0, r1, r2, _, _, _⟩ := sp_read HS.out.1.h8
      obtain ⟨n0, n1, n2, _, _, _⟩ := sp_read HN.out
      go_upto_region 9 with (go_at_call 54; refine (distance_calls k start (.slice (some ad) c.length cc) now nxt _ hk3 PN.out.fl PN1.out.fl).mono ?_; rintro e W3 ⟨rfl, hb⟩; have HS3 := Aside0.mk (And.intro (HS.out.1.below hb) (HJ.out _ _ _ HS.out.2 (hb.mono (by have := HS.out.1.lt; omega)))); have HN3 := Aside0.mk ((hb.block _ (blk_lt HN.out)).trans HN.out); clear hb)
      have HDF : Aside0 (distF now nxt = sumI (dl now nxt k)) := ⟨by unfold distF; rw [PN.out.len]⟩
      rw [HDF.out] at hdi HE1
      have hco1 : cost ≤ 90000 := by omega
      go_upto_region 9 with (go_at_call 58; refine (total2_calls cost (sumI (dl now nxt k)) W3.heap.size _ (aln _ _) (by omega) (by omega)).mono ?_; rintro e W4 ⟨rfl, rfl⟩; rw [← HE1.out])
      clear c0 c1 c2 c3 c4 r0 r1 r2 n0 n1 n2
      refine wpc_world (fun W => Aside0 (Sw w W row k start (.slice (some ad) c.length cc) now u6 out ∧ J st1 W) ∧ Aside0 (W.heap[W1.heap.size]? = some (.cells (sp nxt) 60 (0, 0)))) ⟨⟨HS3.out.1.below ((Below.refl _ _).alloc (Nat.le_refl _) _), HJ.out _ _ _ HS3.out.2 ((Below.refl _ _).alloc (by have := HS3.out.1.lt; omega) _)⟩, ⟨alo HN3.out _⟩⟩ ?_
      clear HS3 HN3 HS HN
      rintro W2 ⟨HS, HN⟩
      obtain ⟨n0, n1, n2, _, _, _⟩ := sp_read HN.out
      obtain ⟨r0, r1, r2, f0, f1, f2⟩ := sp_read HS.out.1.h8
      go_upto_region 10 with (fail)
      clear n0 n1 n2 r0 r1 r2 f0 f1 f2
      refine wpc_world (fun W => Aside0 (Sw w W row k start (.slice (some ad) c.length cc) nxt u6 out ∧ J st1 W)) ⟨⟨blk_far (blk_far (blk_far HS.out.1.h2 (by simp) _) (by simp) _) (by simp) _, sp_store3 nxt HS.out.1.h8, ?_, ?_⟩, ?_⟩ ?_
      · exact Kd.R_far (Kd.R_far (Kd.R_far HS.out.1.ho (fun q hq => by simp; omega) _) (fun q hq => by simp; omega) _) (fun q hq => by simp; omega) _
      · exact grown_far (grown_far (grown_far HS.out.1.hg (by simp) _) (by simp) _) (by simp) _
      · exact HJ.out _ _ _ HS.out.2 ((((Below.refl _ _).setCell (by simp) _).setCell (by simp) _).setCell (by simp) _)
      clear HS HN
      rintro W5 HS
      obtain ⟨⟨c0, c1, c2, c3, c4⟩, _⟩ := hl_read HS.out.1.h2
      have hkI : (k : Int) ≤ 3 := by omega
      have hlo : (out.length + 1) * 24 ≤ 140737488355328 := by rw [HLo.out]; omega
      go_wp2_with (first
        | (go_at_call 86; refine (clone_sp (w.heap.size + 1) k nxt _ HS.out.1.h8 PN1.out.len hk3).mono ?_; rintro e W6 ⟨vr, rfl, hr6, hb6⟩; have HS6 := Aside0.mk (And.intro (HS.out.1.below hb6) (HJ.out _ _ _ HS.out.2 (hb6.mono (by have := HS.out.1.lt; omega)))); have HR6 := Aside0.mk hr6; have HZ6 := Aside0.mk hb6.size; clear hb6; obtain ⟨Ar, cr, rfl⟩ := Kd.R_slice hr6; clear hr6)
        | ((with_reducible refine gate_builtin (b := .append) (xs := #[.tmp 33, .tmp 38]) rfl ?_); at_builtin; refine Kd.R_append (Kd.slice 3 (Kd.int .i64)) (w0 := W6) (W := W6) (w.heap.size + 2) rfl (.tmp 33) (.tmp 38) 30 22 (.slice none 0 0) 24 rfl Try.underlying30 info22 rfl (by decide) (by omega) u6 out nxt [.slice Ar nxt.length cr] (fun x => w.heap.size + 2 ≤ x) (fun x => W5.heap.size ≤ x) rfl rfl (Kd.M_row (Kd.R_lower HR6.out HS.out.1.lt)) (fun q hq => ⟨Nat.le_trans HS.out.1.lt hq, fun e => Nat.lt_irrefl _ (Nat.lt_of_lt_of_le (Kd.R_lt HS.out.1.ho q e.symm) hq)⟩) (fun q hq => Nat.le_trans HS6.out.1.lt hq) HS6.out.1.ho (Below.refl _ _) HS6.out.1.lt hlo ?_; intro v1 w1 hR1 hB1 hg1 hat1; have HS7 : Aside0 (Sw w w1 row k start (.slice (some ad) c.length cc) nxt v1 (out ++ [nxt]) ∧ J st1 w1) := ⟨⟨blk_grown HS6.out.1.h2 hg1 (fun e => by have := HS.out.1.ho.1 _ e.symm; omega), blk_grown HS6.out.1.h8 hg1 (fun e => by have := HS.out.1.ho.1 _ e.symm; omega), hR1, grown_below HS6.out.1.hg hB1 (by omega)⟩, HJ.out _ _ _ HS6.out.2 (hB1.mono (by omega))⟩; clear hR1 hB1 hg1 hat1))
      go_roundw
      case rel => exact ⟨j + 1, by omega, by go_num, by rw [Ecost1.out], ⟨by rw [Enxt.out, Eout1.out, Est1.out, HE2.out]; exact HS7.out⟩⟩
      case measure => simp [intOf]; omega
    · obtain rfl : j = c.length := by omega
      go_wp2
      go_ret2
      exact ⟨u6, rfl, HS.out.1.ho, HS.out.2, HS.out.1.hg⟩
end Go.Proofs.Ythadaajgjloogaa.L
