import Derived.Test.YthadaajgjloogaaQa
import Derived.RangeFuncNested
import Derived.RangeFuncBound
import Derived.RangeFuncCalls
import Derived.RangeFuncLeaves
import Derived.Shelf.Abstract
import Derived.Shelf.RegionOpen
import Derived.OwnWalkIn
import Derived.TacticsInMore
import Derived.LoopNIn
import Derived.LoopIn
import Derived.Laws.EntriesVeiled
import Derived.Maps.OwnIn
import Derived.Stop.RegionWithIn
import Derived.Deep.RegionHeld3
namespace Go.Proofs.Ythadaajgjloogaa.L
open Go.RowKit Go.Proofs.YthadaajgjloogaaW.PrintWords Go.Proofs.YthadaajgjloogaaW.PrintLast Go.Proofs.YthadaajgjloogaaW.PrintMore
attribute [local go_sem] max2_int min2_int max_two min_two max_three min_three max_four min_four

/-! ### slices.Clone (86) of a part of an array; total (58) of two numbers -/
theorem clone_sp (g k : Nat) (s : List Int) (w : World) (h : w.heap[g]? = some (.cells (sp s) 60 (0, 0))) (hs : s.length = k) (hk3 : k ≤ 3) :
    Calls Try.prog 86 #[.slice (some ⟨g, 0, none⟩) k 3] w fun e w' => ∃ v, e = .returned v ∧ Kd.R (Kd.int .i64) 3 w' w.heap.size (fun x => w.heap.size ≤ x) v s ∧ Below w.heap.size w w' := by
  subst hs
  refine (Try.slices_Clone_int g 0 s.length 3 s w (Nat.le_refl _) (by omega) (fun j hj => ?_)).mono ?_
  · rw [Nat.zero_add, sp_cell h j (by omega)]; simp [rd]
  · rintro e w' ⟨v, rfl, hown, _, hb⟩
    refine ⟨v, rfl, Kd.R_of_own (enc := Value.int .i64) (h1 := fun _ => rfl) ?_ (fun q hq => own_base hown q hq), hb⟩
    rw [List.take_length] at hown
    exact hown
theorem total2_calls (a b : Int) (g : Nat) (w : World) (h : w.heap[g]? = some (.cells #[.int .i64 a, .int .i64 b] 3 (0, 0))) (ha : -1000000000 ≤ a ∧ a ≤ 1000000000) (hb : -1000000000 ≤ b ∧ b ≤ 1000000000) :
    Calls Try.prog 58 #[.slice (some ⟨g, 0, none⟩) 2 2] w fun e w' => e = .returned (.int .i64 (a + b)) ∧ w = w' := by
  have hC : Kd.C (Kd.int .i64) w (some ⟨g, 0, none⟩) [a, b].length [a, b] := by
    refine Kd.C_of_reads (d := (0 : Int)) (h1 := fun _ => rfl) ⟨rfl, by simp, fun _ => ⟨_, rfl, fun j hj => ?_⟩⟩
    rw [add_plain, blk_cell h j]
    match j, hj with
    | 0, _ => rfl
    | 1, _ => rfl
  have := total_calls (some ⟨g, 0, none⟩) 2 [a, b] w hC (by simp) (by simp) (by intro x hx; simp at hx; rcases hx with rfl | rfl <;> assumption)
  simpa [sumI] using this

/-! ### schedule (55) -/
def distF (a b : List Int) : Int := sumI (dl a b a.length)
section
variable {σ : Type} (serve : σ → List Int → Int → σ × List Int)
/-- After j calls: the state, where the lifts are, the schedule, its cost. -/
def stepS (st0 : σ) (start c : List Int) : Nat → σ × List Int × List (List Int) × Int
  | 0 => (st0, start, [], 0)
  | j + 1 =>
    let r := serve (stepS st0 start c j).1 (stepS st0 start c j).2.1 (rd c j)
    (r.1, r.2, (stepS st0 start c j).2.2.1 ++ [r.2], (stepS st0 start c j).2.2.2 + distF (stepS st0 start c j).2.1 r.2)
end
theorem stepS_pos {σ : Type} {serve : σ → List Int → Int → σ × List Int} {k : Nat} (hp : ∀ st p x, Pos k p → 0 ≤ x ∧ x ≤ 30 → Pos k (serve st p x).2) (st0 : σ) (start c : List Int) (h0 : Pos k start) (hc : ∀ x ∈ c, 0 ≤ x ∧ x ≤ 30) :
    ∀ j, j ≤ c.length → Pos k (stepS serve st0 start c j).2.1
  | 0, _ => h0
  | j + 1, h => hp _ _ _ (stepS_pos hp st0 start c h0 hc j (by omega)) (hc _ (rd_mem (by omega)))
theorem distF_range {k : Nat} {a b : List Int} (ha : Pos k a) (hb : Pos k b) (hk : k ≤ 3) : 0 ≤ distF a b ∧ distF a b ≤ 90 := by
  unfold distF
  rw [ha.len]
  have : ∀ j : Nat, j ≤ 3 → 0 ≤ sumI (dl a b j) ∧ sumI (dl a b j) ≤ 30 * j := by
    intro j hj
    induction j with
    | zero => simp [dl, sumI]
    | succ j ih =>
      have h1 := ih (by omega)
      have h2 := ab_range (ha.fl j (by omega)) (hb.fl j (by omega))
      rw [dl_succ, sumI_append]
      simp only [sumI]
      omega
  have := this k hk
  omega
theorem stepS_cost {σ : Type} {serve : σ → List Int → Int → σ × List Int} {k : Nat} (hk : k ≤ 3) (hp : ∀ st p x, Pos k p → 0 ≤ x ∧ x ≤ 30 → Pos k (serve st p x).2) (st0 : σ) (start c : List Int) (h0 : Pos k start) (hc : ∀ x ∈ c, 0 ≤ x ∧ x ≤ 30) :
    ∀ j, j ≤ c.length → 0 ≤ (stepS serve st0 start c j).2.2.2 ∧ (stepS serve st0 start c j).2.2.2 ≤ 90 * j
  | 0, _ => by simp [stepS]
  | j + 1, h => by
    have h1 := stepS_cost hk hp st0 start c h0 hc j (by omega)
    have h2 := distF_range (stepS_pos hp st0 start c h0 hc j (by omega)) (stepS_pos hp st0 start c h0 hc (j + 1) h) hk
    simp only [stepS] at h2 ⊢
    omega

theorem info22 : (Try.prog.info? 22).map (fun i => (i.zero, i.size, i.bytes)) = some (some (.slice none 0 0), 1, 24) := by kernel_rfl
/-- A schedule in memory of the call's own. -/
abbrev Rows (w : World) (B : Nat) (v : Value) (l : List (List Int)) : Prop := Kd.R (Kd.slice 3 (Kd.int .i64)) 22 w B (fun x => B ≤ x) v l

theorem grownBy_trans' {a b c : World} {row : Option Nat} (h : a.grownBy b row) (k : b.grownBy c row) : a.grownBy c row :=
  ⟨k.os.trans h.os, k.tape.trans h.tape, k.output.trans h.output, Nat.le_trans h.size k.size, fun i hi hne => (k.block i (Nat.lt_of_lt_of_le hi h.size) hne).trans (h.block i hi hne)⟩
theorem grown_far {a w : World} {row : Option Nat} (h : a.grownBy w row) {p : Addr} (hp : a.heap.size ≤ p.block) (u : Value) : a.grownBy (w.setCell p u) row :=
  ⟨h.os, h.tape, h.output, by simpa [World.setCell] using h.size, fun i hi hne => (Below.heap_setCell w p u i (by omega)).trans (h.block i hi hne)⟩
theorem stepS_len {σ : Type} (serve : σ → List Int → Int → σ × List Int) (st0 : σ) (start c : List Int) : ∀ j, (stepS serve st0 start c j).2.2.1.length = j
  | 0 => rfl
  | j + 1 => by simp [stepS, stepS_len serve st0 start c j]
theorem grown_below {a w w2 : World} {row : Option Nat} {B : Nat} (h : a.grownBy w row) (hb : Below B w w2) (hB : a.heap.size ≤ B) : a.grownBy w2 row :=
  ⟨hb.os.trans h.os, hb.tape.trans h.tape, hb.output.trans h.output, Nat.le_trans h.size hb.size, fun i hi hne => (hb.block i (by omega)).trans (h.block i hi hne)⟩
structure Sw (w W : World) (row : Option Nat) (k : Nat) (start : List Int) (cv : Value) (now : List Int) (v : Value) (out : List (List Int)) : Prop where
  h2 : W.heap[w.heap.size]? = some (.cells (hl k start cv) 62 (0, 0))
  h8 : W.heap[w.heap.size + 1]? = some (.cells (sp now) 60 (0, 0))
  ho : Rows W (w.heap.size + 2) v out
  hg : w.grownBy W row
theorem Sw.grown {w W W2 : World} {row : Option Nat} {k : Nat} {start : List Int} {cv : Value} {now : List Int} {v : Value} {out : List (List Int)} (h : Sw w W row k start cv now v out) (hr : ∀ r, row = some r → r < w.heap.size) (hg : W.grownBy W2 row) : Sw w W2 row k start cv now v out :=
  ⟨blk_grown h.h2 hg (fun e => by have := hr _ e.symm; omega), blk_grown h.h8 hg (fun e => by have := hr _ e.symm; omega), Kd.R_grown h.ho hg (fun q hq e => by have := hr _ e.symm; omega), grownBy_trans' h.hg hg⟩
theorem Sw.below {w W W2 : World} {row : Option Nat} {k : Nat} {start : List Int} {cv : Value} {now : List Int} {v : Value} {out : List (List Int)} (h : Sw w W row k start cv now v out) (hb : Below W.heap.size W W2) : Sw w W2 row k start cv now v out :=
  ⟨(hb.block _ (blk_lt h.h2)).trans h.h2, (hb.block _ (blk_lt h.h8)).trans h.h8, Kd.R_below h.ho hb, grownBy_trans' h.hg (grown_of_below hb _)⟩
theorem Sw.lt {w W : World} {row : Option Nat} {k : Nat} {start : List Int} {cv : Value} {now : List Int} {v : Value} {out : List (List Int)} (h : Sw w W row k start cv now v out) : w.heap.size + 2 ≤ W.heap.size := by have := blk_lt h.h8; omega
set_option maxHeartbeats 4000000 in
theorem schedule_calls {σ : Type} (serve : σ → List Int → Int → σ × List Int) (st0 : σ) (g : Nat) (first caps : Array Value) (k : Nat) (start c : List Int) (A : Option Addr) (cc : Nat) (row : Option Nat) (J : σ → World → Prop) (w : World)
    (hcf : ∀ (args : Array Value) (W : World), (callFunc g args).run Try.prog W = .ok (.enter g args) W)
    (hJ : ∀ st W W', J st W → Below w.heap.size W W' → J st W')
    (hp : ∀ st p x, Pos k p → 0 ≤ x ∧ x ≤ 30 → Pos k (serve st p x).2)
    (hstep : ∀ st p x W, J st W → Pos k p → 0 ≤ x ∧ x ≤ 30 → w.grownBy W row → Calls Try.prog g (first ++ (#[.agg (sp p), .int .i64 x] ++ caps)) W fun e W' => e = .returned (.agg (sp (serve st p x).2)) ∧ J (serve st p x).1 W' ∧ W.grownBy W' row)
    (hk1 : 1 ≤ k) (hk3 : k ≤ 3) (h0 : Pos k start) (hc : ∀ x ∈ c, 0 ≤ x ∧ x ≤ 30) (hcl : c.length ≤ 1000)
    (hC : ∀ W, w.grownBy W row → Kd.C (Kd.int .i64) W A c.length c) (hrow : ∀ r, row = some r → r < w.heap.size) (hJ0 : J st0 w) :
    Calls Try.prog 55 #[.agg (hl k start (.slice A c.length cc)), .func (.func g) first caps] w fun e w' => ∃ v, e = .returned (.tuple #[v, .int .i64 (stepS serve st0 start c c.length).2.2.2]) ∧
      Rows w' (w.heap.size + 2) v (stepS serve st0 start c c.length).2.2.1 ∧ J (stepS serve st0 start c c.length).1 w' ∧ w.grownBy w' row := by
  have HJ := Aside0.mk hJ
  have HP := Aside0.mk hp
  have HT := Aside0.mk hstep
  have H0 := Aside0.mk h0
  have HC := Aside0.mk hc
  have HCC := Aside0.mk hC
  have HR := Aside0.mk hrow
  have HJ0 := Aside0.mk hJ0
  clear hJ hp hstep h0 hc hC hrow hJ0
  go_enter Try.func55, Try.ntmps55
  go_upto_region 4 with (fail)
  refine wpc_world (fun W => Aside0 (Sw w W row k start (.slice A c.length cc) start (.slice none 0 0) [] ∧ J st0 W))
    ⟨⟨⟨alo (aln _ _) _, aln' _ _ (by simp), Kd.R_nil _ _ _ _ _, ?_⟩, ?_⟩⟩ ?_
  · exact grown_of_below (((Below.refl _ _).alloc (Nat.le_refl _) _).alloc (by simp) _) _
  · exact HJ.out _ _ _ HJ0.out (((Below.refl _ _).alloc (Nat.le_refl _) _).alloc (by simp) _)
  rintro W HW
  obtain ⟨⟨c0, c1, c2, c3, c4⟩, _⟩ := hl_read HW.out.1.h2
  go_wp2
  go_loopw [6, 7, 10, 11, 17] (fun v6 v7 _ _ v17 wr => ∃ j : Nat, j ≤ c.length ∧ v17 = .int .i64 j ∧ v7 = .int .i64 (stepS serve st0 start c j).2.2.2 ∧
      Aside0 (Sw w wr row k start (.slice A c.length cc) (stepS serve st0 start c j).2.1 v6 (stepS serve st0 start c j).2.2.1 ∧ J (stepS serve st0 start c j).1 wr)) (fun _ _ _ _ v17 _ => c.length - (intOf v17).toNat)
  case atStart => exact ⟨0, Nat.zero_le _, rfl, rfl, HW⟩
  case round =>
    clear HW c0 c1 c2 c3 c4
    obtain ⟨j, hj, rfl, rfl, HS⟩ := hrel
    by_cases hlt : j < c.length
    · have HC1 := HCC.out _ HS.out.1.hg
      obtain ⟨ad, rfl, hx⟩ := Kd.at_int HC1 (j : Int) (by omega) (by omega)
      rw [Int.toNat_natCast] at hx
      clear HC1
      have HX := Aside0.mk (HC.out _ (rd_mem hlt))
      have PN := Aside0.mk (stepS_pos HP.out st0 start c H0.out HC.out j hj)
      have PN1 := Aside0.mk (stepS_pos HP.out st0 start c H0.out HC.out (j + 1) hlt)
      have hco := stepS_cost hk3 HP.out st0 start c H0.out HC.out j hj
      have hdi := distF_range PN.out PN1.out hk3
      have HE1 : Aside0 ((stepS serve st0 start c (j + 1)).2.2.2 = (stepS serve st0 start c j).2.2.2 + distF (stepS serve st0 start c j).2.1 (stepS serve st0 start c (j + 1)).2.1) := ⟨rfl⟩
      have HE2 : Aside0 ((stepS serve st0 start c (j + 1)).2.2.1 = (stepS serve st0 start c j).2.2.1 ++ [(stepS serve st0 start c (j + 1)).2.1]) := ⟨rfl⟩
      have HG0 := Aside0.mk (HT.out (stepS serve st0 start c j).1 (stepS serve st0 start c j).2.1 (rd c j) wr HS.out.2 PN.out HX.out HS.out.1.hg)
      have HG : Aside0 (Calls Try.prog g (first ++ (#[.agg #[.int .i64 (rd (stepS serve st0 start c j).2.1 0), .int .i64 (rd (stepS serve st0 start c j).2.1 1), .int .i64 (rd (stepS serve st0 start c j).2.1 2)], .int .i64 (rd c j)] ++ caps)) wr fun e W' => e = .returned (.agg (sp (stepS serve st0 start c (j + 1)).2.1)) ∧ J (stepS serve st0 start c (j + 1)).1 W' ∧ wr.grownBy W' row) := HG0
      clear HG0
      have HLo : Aside0 ((stepS serve st0 start c j).2.2.1.length = j) := ⟨stepS_len serve st0 start c j⟩
      generalize (stepS serve st0 start c j).2.1 = now at *
      generalize hnxt : (stepS serve st0 start c (j + 1)).2.1 = nxt at *
      have Enxt := Aside0.mk hnxt
      clear hnxt
      generalize (stepS serve st0 start c j).2.2.2 = cost at *
      generalize hcost1 : (stepS serve st0 start c (j + 1)).2.2.2 = cost1 at *
      have Ecost1 := Aside0.mk hcost1
      clear hcost1
      generalize (stepS serve st0 start c j).2.2.1 = out at *
      generalize hout1 : (stepS serve st0 start c (j + 1)).2.2.1 = out1 at *
      have Eout1 := Aside0.mk hout1
      clear hout1
      generalize (stepS serve st0 start c j).1 = st at *
      generalize hst1 : (stepS serve st0 start c (j + 1)).1 = st1 at *
      have Est1 := Aside0.mk hst1
      clear hst1
      obtain ⟨r0, r1, r2, _, _, _⟩ := sp_read HS.out.1.h8
      go_upto_region 8 with ((with_reducible refine HG.out.mono ?_); rintro e W1 ⟨rfl, hj1, hg1⟩; rw [spv nxt]; have HS1 := Aside0.mk (And.intro (HS.out.1.grown HR.out hg1) hj1); clear hj1 hg1)
      clear r0 r1 r2 hx
      refine wpc_world (fun W => Aside0 (Sw w W row k start (.slice (some ad) c.length cc) now u6 out ∧ J st1 W) ∧ Aside0 (W.heap[W1.heap.size]? = some (.cells (sp nxt) 60 (0, 0)))) ⟨⟨HS1.out.1.below ((Below.refl _ _).alloc (Nat.le_refl _) _), HJ.out _ _ _ HS1.out.2 ((Below.refl _ _).alloc (by have := HS1.out.1.lt; omega) _)⟩, ⟨aln _ _⟩⟩ ?_
      have hsz : w.heap.size + 2 ≤ W1.heap.size := HS1.out.1.lt
      clear HS1 HS HG
      rintro W2 ⟨HS, HN⟩
      obtain ⟨⟨c0, c1, c2, c3, c4⟩, _⟩ := hl_read HS.out.1.h2
      obtain ⟨r0, r1, r2, _, _, _⟩ := sp_read HS.out.1.h8
      obtain ⟨n0, n1, n2, _, _, _⟩ := sp_read HN.out
      go_upto_region 9 with (go_at_call 54; refine (distance_calls k start (.slice (some ad) c.length cc) now nxt _ hk3 PN.out.fl PN1.out.fl).mono ?_; rintro e W3 ⟨rfl, hb⟩; have HS3 := Aside0.mk (And.intro (HS.out.1.below hb) (HJ.out _ _ _ HS.out.2 (hb.mono (by have := HS.out.1.lt; omega)))); have HN3 := Aside0.mk ((hb.block _ (blk_lt HN.out)).trans HN.out); clear hb)
      have HDF : Aside0 (distF now nxt = sumI (dl now nxt k)) := ⟨by unfold distF; rw [PN.out.len]⟩
      rw [HDF.out] at hdi HE1
      have hco1 : cost ≤ 90000 := by omega
      go_upto_region 9 with (go_at_call 58; refine (total2_calls cost (sumI (dl now nxt k)) W3.heap.size _ (aln _ _) (by omega) (by omega)).mono ?_; rintro e W4 ⟨rfl, rfl⟩; rw [← HE1.out])
      clear c0 c1 c2 c3 c4 r0 r1 r2 n0 n1 n2
      refine wpc_world (fun W => Aside0 (Sw w W row k start (.slice (some ad) c.length cc) now u6 out ∧ J st1 W) ∧ Aside0 (W.heap[W1.heap.size]? = some (.cells (sp nxt) 60 (0, 0)))) ⟨⟨HS3.out.1.below ((Below.refl _ _).alloc (Nat.le_refl _) _), HJ.out _ _ _ HS3.out.2 ((Below.refl _ _).alloc (by have := HS3.out.1.lt; omega) _)⟩, ⟨alo HN3.out _⟩⟩ ?_
      clear HS3 HN3 HS HN
      rintro W2 ⟨HS, HN⟩
      obtain ⟨n0, n1, n2, _, _, _⟩ := sp_read HN.out
      obtain ⟨r0, r1, r2, f0, f1, f2⟩ := sp_read HS.out.1.h8
      go_upto_region 10 with (fail)
      clear n0 n1 n2 r0 r1 r2 f0 f1 f2
      refine wpc_world (fun W => Aside0 (Sw w W row k start (.slice (some ad) c.length cc) nxt u6 out ∧ J st1 W)) ⟨⟨blk_far (blk_far (blk_far HS.out.1.h2 (by simp) _) (by simp) _) (by simp) _, sp_store3 nxt HS.out.1.h8, ?_, ?_⟩, ?_⟩ ?_
      · exact Kd.R_far (Kd.R_far (Kd.R_far HS.out.1.ho (fun q hq => by simp; omega) _) (fun q hq => by simp; omega) _) (fun q hq => by simp; omega) _
      · exact grown_far (grown_far (grown_far HS.out.1.hg (by simp) _) (by simp) _) (by simp) _
      · exact HJ.out _ _ _ HS.out.2 ((((Below.refl _ _).setCell (by simp) _).setCell (by simp) _).setCell (by simp) _)
      clear HS HN
      rintro W5 HS
      obtain ⟨⟨c0, c1, c2, c3, c4⟩, _⟩ := hl_read HS.out.1.h2
      have hkI : (k : Int) ≤ 3 := by omega
      have hlo : (out.length + 1) * 24 ≤ 140737488355328 := by rw [HLo.out]; omega
      go_wp2_with (first
        | (go_at_call 86; refine (clone_sp (w.heap.size + 1) k nxt _ HS.out.1.h8 PN1.out.len hk3).mono ?_; rintro e W6 ⟨vr, rfl, hr6, hb6⟩; have HS6 := Aside0.mk (And.intro (HS.out.1.below hb6) (HJ.out _ _ _ HS.out.2 (hb6.mono (by have := HS.out.1.lt; omega)))); have HR6 := Aside0.mk hr6; have HZ6 := Aside0.mk hb6.size; clear hb6; obtain ⟨Ar, cr, rfl⟩ := Kd.R_slice hr6; clear hr6)
        | ((with_reducible refine gate_builtin (b := .append) (xs := #[.tmp 33, .tmp 38]) rfl ?_); at_builtin; refine Kd.R_append (Kd.slice 3 (Kd.int .i64)) (w0 := W6) (W := W6) (w.heap.size + 2) rfl (.tmp 33) (.tmp 38) 30 22 (.slice none 0 0) 24 rfl Try.underlying30 info22 rfl (by decide) (by omega) u6 out nxt [.slice Ar nxt.length cr] (fun x => w.heap.size + 2 ≤ x) (fun x => W5.heap.size ≤ x) rfl rfl (Kd.M_row (Kd.R_lower HR6.out HS.out.1.lt)) (fun q hq => ⟨Nat.le_trans HS.out.1.lt hq, fun e => Nat.lt_irrefl _ (Nat.lt_of_lt_of_le (Kd.R_lt HS.out.1.ho q e.symm) hq)⟩) (fun q hq => Nat.le_trans HS6.out.1.lt hq) HS6.out.1.ho (Below.refl _ _) HS6.out.1.lt hlo ?_; intro v1 w1 hR1 hB1 hg1 hat1; have HS7 : Aside0 (Sw w w1 row k start (.slice (some ad) c.length cc) nxt v1 (out ++ [nxt]) ∧ J st1 w1) := ⟨⟨blk_grown HS6.out.1.h2 hg1 (fun e => by have := HS.out.1.ho.1 _ e.symm; omega), blk_grown HS6.out.1.h8 hg1 (fun e => by have := HS.out.1.ho.1 _ e.symm; omega), hR1, grown_below HS6.out.1.hg hB1 (by omega)⟩, HJ.out _ _ _ HS6.out.2 (hB1.mono (by omega))⟩; clear hR1 hB1 hg1 hat1))
      go_roundw
      case rel => exact ⟨j + 1, by omega, by go_num, by rw [Ecost1.out], ⟨by rw [Enxt.out, Eout1.out, Est1.out, HE2.out]; exact HS7.out⟩⟩
      case measure => simp [intOf]; omega
    · obtain rfl : j = c.length := by omega
      go_wp2
      go_ret2
      exact ⟨u6, rfl, HS.out.1.ho, HS.out.2, HS.out.1.hg⟩
end Go.Proofs.Ythadaajgjloogaa.L

namespace Go.Proofs.Ythadaajgjloogaa.L
open Go.RowKit Go.Proofs.YthadaajgjloogaaW.PrintWords Go.Proofs.YthadaajgjloogaaW.PrintLast Go.Proofs.YthadaajgjloogaaW.PrintMore
attribute [local go_sem] max2_int min2_int max_two min_two max_three min_three max_four min_four

theorem posB_pos {s : List Int} (h : posB s = true) : Pos s.length s ∧ 1 ≤ s.length ∧ s.length ≤ 3 := by
  obtain ⟨⟨h1, h3⟩, ha⟩ := (posB_iff s).1 h
  refine ⟨⟨rfl, fun x hx => ?_⟩, h1, h3⟩
  obtain ⟨i, hi, rfl⟩ := List.mem_iff_getElem.1 hx
  have := ha i hi
  have e : rd s i = s[i] := by simp [rd, List.getD, hi]
  rw [← e]
  exact ⟨this.1, this.2.1⟩
theorem idxP_neg (p : Int → Bool) : ∀ (l : List Int), idxP p l < 0 ↔ ∀ x ∈ l, p x = false
  | [] => by simp [idxP]
  | x :: r => by
    have ih := idxP_neg p r
    simp only [idxP]
    cases hp : p x
    · simp only [Bool.false_eq_true, if_false, List.mem_cons, forall_eq_or_imp, hp, true_and]
      rw [← ih]
      split
      · rename_i h; exact ⟨fun _ => h, fun _ => by omega⟩
      · rename_i h; exact ⟨fun h' => by omega, fun h' => absurd h' h⟩
    · simp [hp]
theorem badF_false {x : Int} : badF x = false ↔ 0 ≤ x ∧ x ≤ 30 := by simp [badF, withinB]
theorem callsB_iff (c : List Int) : callsB c = true ↔ c.length ≤ 40 ∧ ∀ x ∈ c, 0 ≤ x ∧ x ≤ 30 := by
  simp only [callsB, Bool.and_eq_true, decide_eq_true_eq, idxP_neg, badF_false]
theorem hallB_parts {s c : List Int} (h : hallB s c = true) : (Pos s.length s ∧ 1 ≤ s.length ∧ s.length ≤ 3) ∧ c.length ≤ 40 ∧ ∀ x ∈ c, 0 ≤ x ∧ x ≤ 30 := by
  simp only [hallB, Bool.and_eq_true] at h
  exact ⟨posB_pos h.1, (callsB_iff c).1 h.2⟩
theorem carefulF_pos {k : Nat} {p : List Int} {x : Int} (hk1 : 1 ≤ k) (h : Pos k p) (hx : 0 ≤ x ∧ x ≤ 30) : Pos k (carefulF p x) := by
  unfold carefulF
  split
  · exact h
  · rename_i hn
    split
    · exact h.set 0 hx
    · rename_i hlo
      split
      · exact h.set _ hx
      · rename_i hhi
        rw [h.len] at hhi
        obtain ⟨u, hu, hu1, huk, hA, hB⟩ := up_spec hk1 h.len hn hlo hhi
        have h1 := h.fl
        have m1 := h.all _ (rd_mem (s := p) (i := u) (by rw [h.len]; exact huk))
        have m2 := h.all _ (rd_mem (s := p) (i := u - 1) (by rw [h.len]; omega))
        rw [show ((u - 1 : Nat) : Int) = (u : Int) - 1 from by omega] at m2
        rw [hu]
        refine (h.set _ ?_).set _ ?_
        · unfold stepI; rw [hu]; split <;> omega
        · unfold stepI; rw [hu]; split <;> omega
theorem nearF_pos {k : Nat} {p : List Int} {x : Int} (h : Pos k p) (hx : 0 ≤ x ∧ x ≤ 30) : Pos k (nearF p x) := (h.set _ hx).srt
def cS : Unit → List Int → Int → Unit × List Int := fun _ p x => ((), carefulF p x)
def nS : Unit → List Int → Int → Unit × List Int := fun _ p x => ((), nearF p x)
/-- The schedule and the cost of a way of serving. -/
def runL (serve : Unit → List Int → Int → Unit × List Int) (s c : List Int) : List (List Int) := (stepS serve () s c c.length).2.2.1
def runC (serve : Unit → List Int → Int → Unit × List Int) (s c : List Int) : Int := (stepS serve () s c c.length).2.2.2

theorem below_of_grown {a b : World} (h : a.grownBy b none) : Below a.heap.size a b := ⟨h.os, h.tape, h.output, h.size, fun i hi => h.block i hi (by simp)⟩
theorem enter_fn (g : Nat) {f : Func} (hf : Try.prog.funcs[g]? = some f) (hb : f.body.isSome = true) (hn : (f.name == "runtime.NumGoroutine") = false) (args : Array Value) (W : World) : (callFunc g args).run Try.prog W = .ok (.enter g args) W := by
  cases hB : f.body with
  | none => rw [hB] at hb; cases hb
  | some bd => simp [callFunc, go_sem, hf, hB]; intro e; rw [e] at hn; exact absurd hn (by decide)
theorem sched_plain (serve : Unit → List Int → Int → Unit × List Int) (g : Nat) (s c : List Int) (B : Option Addr) (cb : Nat) (W : World)
    (hcf : ∀ (args : Array Value) (W : World), (callFunc g args).run Try.prog W = .ok (.enter g args) W)
    (hP : (Pos s.length s ∧ 1 ≤ s.length ∧ s.length ≤ 3) ∧ c.length ≤ 40 ∧ ∀ x ∈ c, 0 ≤ x ∧ x ≤ 30)
    (hp : ∀ p x, Pos s.length p → 0 ≤ x ∧ x ≤ 30 → Pos s.length (serve () p x).2)
    (hstep : ∀ p x W, Pos s.length p → 0 ≤ x ∧ x ≤ 30 → Calls Try.prog g #[.agg (hl s.length s (.slice B c.length cb)), .agg (sp p), .int .i64 x] W fun e W' => e = .returned (.agg (sp (serve () p x).2)) ∧ Below W.heap.size W W')
    (hq : Kd.C (Kd.int .i64) W B c.length c) :
    Calls Try.prog 55 #[.agg (hl s.length s (.slice B c.length cb)), .func (.func g) #[.agg (hl s.length s (.slice B c.length cb))] #[]] W fun e w' => ∃ v, e = .returned (.tuple #[v, .int .i64 (runC serve s c)]) ∧ Rows w' (W.heap.size + 2) v (runL serve s c) ∧ Below W.heap.size W w' := by
  obtain ⟨⟨h0, h1, h3⟩, h40, hc⟩ := hP
  refine (schedule_calls serve () g #[.agg (hl s.length s (.slice B c.length cb))] #[] s.length s c B cb none (fun _ _ => True) W hcf (fun _ _ _ _ _ => trivial) (fun _ p x => hp p x) ?_ h1 h3 h0 hc (by omega) (fun W' hg => Kd.C_below hq (below_of_grown hg)) (fun _ e => by cases e) trivial).mono ?_
  · intro st p x W' _ hpp hx _
    exact (hstep p x W' hpp hx).mono fun e W2 h => ⟨h.1, trivial, grown_of_below h.2 _⟩
  · rintro e w' ⟨v, he, hr, _, hg⟩
    exact ⟨v, he, hr, below_of_grown hg⟩

set_option maxHeartbeats 2000000 in
theorem Careful_no (A B : Option Addr) (ca cb : Nat) (s c : List Int) (w : World) (hr : Kd.C (Kd.int .i64) w A s.length s) (hq : Kd.C (Kd.int .i64) w B c.length c) (hh : hallB s c = false) :
    Calls Try.prog 27 #[.slice A s.length ca, .slice B c.length cb] w fun e w' => e = .returned (.tuple #[.slice none 0 0, .int .i64 0, .int .i64 2]) ∧ Below w.heap.size w w' := by
  have HH := Aside0.mk (ansH_no (s := s) (c := c) (cv := .slice B c.length cb) hh)
  have HN := Aside0.mk (newHall_calls A B ca cb s c w hr hq)
  clear hr hq hh
  go_enter Try.func27, Try.ntmps27
  go_wp2_with (go_at_call 47; refine HN.out.mono ?_; rintro e W ⟨rfl, hb⟩; rw [HH.out]; have HB := Aside0.mk hb; clear hb)
  go_ret3
  exact ⟨rfl, HB.out.alloc HB.out.size _⟩
set_option maxHeartbeats 2000000 in
theorem Careful_yes (A B : Option Addr) (ca cb : Nat) (s c : List Int) (w : World) (hr : Kd.C (Kd.int .i64) w A s.length s) (hq : Kd.C (Kd.int .i64) w B c.length c) (hh : hallB s c = true) :
    Calls Try.prog 27 #[.slice A s.length ca, .slice B c.length cb] w fun e w' => ∃ v, e = .returned (.tuple #[v, .int .i64 (runC cS s c), .int .i64 0]) ∧ Rows w' w.heap.size v (runL cS s c) ∧ Below w.heap.size w w' := by
  have HH := Aside0.mk (ansH_yes (s := s) (c := c) (cv := .slice B c.length cb) hh)
  have HN := Aside0.mk (newHall_calls A B ca cb s c w hr hq)
  have HP := Aside0.mk (hallB_parts hh)
  have HQ := Aside0.mk hq
  clear hr hq hh
  go_enter Try.func27, Try.ntmps27
  go_wp2_with (first
    | (go_at_call 47; refine HN.out.mono ?_; rintro e W ⟨rfl, hb⟩; rw [HH.out]; have HB := Aside0.mk hb; have HQ2 := Aside0.mk (Kd.C_alloc (Kd.C_below HQ.out hb) (.cells (hl s.length s (.slice B c.length cb)) 62)); clear hb)
    | (go_at_call 55; refine (sched_plain cS 56 s c B cb _ (enter_fn 56 Try.func56 rfl rfl) HP.out (fun p x => carefulF_pos HP.out.1.2.1) (fun p x W' hpp hx => careful_calls s.length s _ p x W' HP.out.1.2.1 HP.out.1.2.2 hpp.len hpp.fl hx) HQ2.out).mono ?_; rintro e W2 ⟨v, rfl, hr2, hb2⟩; have HR2 := Aside0.mk hr2; have HB2 := Aside0.mk hb2; clear hr2 hb2))
  go_ret3
  exact ⟨v, rfl, Kd.R_mono (Kd.R_lower HR2.out (by have := HB.out.size; simp; omega)) (fun q hq => by have := HB.out.size; simp at hq; omega), below_then (HB.out.alloc HB.out.size _) (by have := HB.out.size; simp; omega) HB2.out⟩
set_option maxHeartbeats 2000000 in
theorem Nearest_no (A B : Option Addr) (ca cb : Nat) (s c : List Int) (w : World) (hr : Kd.C (Kd.int .i64) w A s.length s) (hq : Kd.C (Kd.int .i64) w B c.length c) (hh : hallB s c = false) :
    Calls Try.prog 38 #[.slice A s.length ca, .slice B c.length cb] w fun e w' => e = .returned (.tuple #[.slice none 0 0, .int .i64 0, .int .i64 2]) ∧ Below w.heap.size w w' := by
  have HH := Aside0.mk (ansH_no (s := s) (c := c) (cv := .slice B c.length cb) hh)
  have HN := Aside0.mk (newHall_calls A B ca cb s c w hr hq)
  clear hr hq hh
  go_enter Try.func38, Try.ntmps38
  go_wp2_with (go_at_call 47; refine HN.out.mono ?_; rintro e W ⟨rfl, hb⟩; rw [HH.out]; have HB := Aside0.mk hb; clear hb)
  go_ret3
  exact ⟨rfl, HB.out.alloc HB.out.size _⟩
set_option maxHeartbeats 2000000 in
theorem Nearest_yes (A B : Option Addr) (ca cb : Nat) (s c : List Int) (w : World) (hr : Kd.C (Kd.int .i64) w A s.length s) (hq : Kd.C (Kd.int .i64) w B c.length c) (hh : hallB s c = true) :
    Calls Try.prog 38 #[.slice A s.length ca, .slice B c.length cb] w fun e w' => ∃ v, e = .returned (.tuple #[v, .int .i64 (runC nS s c), .int .i64 0]) ∧ Rows w' w.heap.size v (runL nS s c) ∧ Below w.heap.size w w' := by
  have HH := Aside0.mk (ansH_yes (s := s) (c := c) (cv := .slice B c.length cb) hh)
  have HN := Aside0.mk (newHall_calls A B ca cb s c w hr hq)
  have HP := Aside0.mk (hallB_parts hh)
  have HQ := Aside0.mk hq
  clear hr hq hh
  go_enter Try.func38, Try.ntmps38
  go_wp2_with (first
    | (go_at_call 47; refine HN.out.mono ?_; rintro e W ⟨rfl, hb⟩; rw [HH.out]; have HB := Aside0.mk hb; have HQ2 := Aside0.mk (Kd.C_alloc (Kd.C_below HQ.out hb) (.cells (hl s.length s (.slice B c.length cb)) 62)); clear hb)
    | (go_at_call 55; refine (sched_plain nS 65 s c B cb _ (enter_fn 65 Try.func65 rfl rfl) HP.out (fun p x => nearF_pos) (fun p x W' hpp hx => nearest_calls s.length s _ p x W' HP.out.1.2.1 HP.out.1.2.2 hpp.len hpp.fl hx) HQ2.out).mono ?_; rintro e W2 ⟨v, rfl, hr2, hb2⟩; have HR2 := Aside0.mk hr2; have HB2 := Aside0.mk hb2; clear hr2 hb2))
  go_ret3
  exact ⟨v, rfl, Kd.R_mono (Kd.R_lower HR2.out (by have := HB.out.size; simp; omega)) (fun q hq => by have := HB.out.size; simp at hq; omega), below_then (HB.out.alloc HB.out.size _) (by have := HB.out.size; simp; omega) HB2.out⟩
end Go.Proofs.Ythadaajgjloogaa.L

namespace Go.Proofs.Ythadaajgjloogaa.L
open Go.RowKit Go.Proofs.YthadaajgjloogaaW.PrintWords Go.Proofs.YthadaajgjloogaaW.PrintLast Go.Proofs.YthadaajgjloogaaW.PrintMore
attribute [local go_sem] max2_int min2_int max_two min_two max_three min_three max_four min_four

/-! ### Potential (21) -/
def qS (a : List Int) (m : Nat) : Nat → Int
  | 0 => 0
  | j + 1 => qS a m j + (rd a m - rd a j)
def pS (a : List Int) : Nat → Int
  | 0 => 0
  | m + 1 => pS a m + qS a m m
def potF (a b : List Int) : Int := a.length * distF a b + pS a a.length
theorem qS_range {a : List Int} (h : fl a) (m : Nat) (hm : m < 3) : ∀ j : Nat, j ≤ 3 → -(30 * (j : Int)) ≤ qS a m j ∧ qS a m j ≤ 30 * (j : Int)
  | 0, _ => by simp [qS]
  | j + 1, hj => by
    have h1 := qS_range h m hm j (by omega)
    have h2 := h m hm
    have h3 := h j (by omega)
    simp only [qS]
    omega
theorem pS_range {a : List Int} (h : fl a) : ∀ m : Nat, m ≤ 3 → -(100 * (m : Int)) ≤ pS a m ∧ pS a m ≤ 100 * (m : Int)
  | 0, _ => by simp [pS]
  | m + 1, hm => by
    have h1 := pS_range h m (by omega)
    have h2 := qS_range h m (by omega) m (by omega)
    simp only [pS]
    omega
def potB (a b : List Int) : Bool := posB a && posB b && decide (a.length = b.length)

theorem ansP_form (l : List Int) : ∃ s, ansP l = .tuple #[.agg #[.int .i64 (rd s 0), .int .i64 (rd s 1), .int .i64 (rd s 2)], .bool (posB l)] ∧ (posB l = true → s = l) := by
  cases h : posB l
  · exact ⟨[], ansP_no (by rw [h]; simp), fun h => by cases h⟩
  · exact ⟨l, ansP_yes h, fun _ => rfl⟩
set_option maxHeartbeats 4000000 in
theorem Potential_no1 (A B : Option Addr) (ca cb : Nat) (a b : List Int) (w : World) (hr : Kd.C (Kd.int .i64) w A a.length a) (hq : Kd.C (Kd.int .i64) w B b.length b) (hpa : posB a = false) :
    Calls Try.prog 21 #[.slice A a.length ca, .slice B b.length cb] w fun e w' => e = .returned (.tuple #[.int .i64 0, .int .i64 2]) ∧ Below w.heap.size w w' := by
  have HA := Aside0.mk (spotsOf_calls A ca a w hr)
  have HQ := Aside0.mk hq
  have l1 := Kd.C_max hr
  have l2 := Kd.C_max hq
  obtain ⟨s, ea, _⟩ := ansP_form a
  obtain ⟨t, eb, _⟩ := ansP_form b
  rw [hpa] at ea
  have EA := Aside0.mk ea
  have EB := Aside0.mk eb
  clear hr hq hpa ea eb
  generalize posB b = ub at *
  go_enter Try.func21, Try.ntmps21
  go_wp2_with (first
    | ((with_reducible refine HA.out.mono ?_); rintro e W ⟨rfl, hb⟩; rw [EA.out]; have HB := Aside0.mk (below_alloc hb (.cells #[.int .i64 (rd s 0), .int .i64 (rd s 1), .int .i64 (rd s 2)] 60)); have HBB := Aside0.mk (spotsOf_calls B cb b _ (Kd.C_below HQ.out HB.out)); clear hb HA)
    | ((with_reducible refine HBB.out.mono ?_); rintro e W2 ⟨rfl, hb⟩; rw [EB.out]; have HB2 := Aside0.mk hb; clear hb))
  go_ret2
  exact ⟨rfl, below_alloc (below_step HB.out HB2.out) _⟩
set_option maxHeartbeats 4000000 in
theorem Potential_no2 (A B : Option Addr) (ca cb : Nat) (a b : List Int) (w : World) (hr : Kd.C (Kd.int .i64) w A a.length a) (hq : Kd.C (Kd.int .i64) w B b.length b) (hpa : posB a = true) (hpb : posB b = false) :
    Calls Try.prog 21 #[.slice A a.length ca, .slice B b.length cb] w fun e w' => e = .returned (.tuple #[.int .i64 0, .int .i64 2]) ∧ Below w.heap.size w w' := by
  have HA := Aside0.mk (spotsOf_calls A ca a w hr)
  have HQ := Aside0.mk hq
  have l1 := Kd.C_max hr
  have l2 := Kd.C_max hq
  obtain ⟨s, ea, _⟩ := ansP_form a
  obtain ⟨t, eb, _⟩ := ansP_form b
  rw [hpa] at ea
  rw [hpb] at eb
  have EA := Aside0.mk ea
  have EB := Aside0.mk eb
  clear hr hq hpa hpb ea eb
  go_enter Try.func21, Try.ntmps21
  go_wp2_with (first
    | ((with_reducible refine HA.out.mono ?_); rintro e W ⟨rfl, hb⟩; rw [EA.out]; have HB := Aside0.mk (below_alloc hb (.cells #[.int .i64 (rd s 0), .int .i64 (rd s 1), .int .i64 (rd s 2)] 60)); have HBB := Aside0.mk (spotsOf_calls B cb b _ (Kd.C_below HQ.out HB.out)); clear hb HA)
    | ((with_reducible refine HBB.out.mono ?_); rintro e W2 ⟨rfl, hb⟩; rw [EB.out]; have HB2 := Aside0.mk hb; clear hb))
  go_ret2
  exact ⟨rfl, below_alloc (below_step HB.out HB2.out) _⟩
set_option maxHeartbeats 4000000 in
theorem Potential_no3 (A B : Option Addr) (ca cb : Nat) (a b : List Int) (w : World) (hr : Kd.C (Kd.int .i64) w A a.length a) (hq : Kd.C (Kd.int .i64) w B b.length b) (hpa : posB a = true) (hpb : posB b = true) (hl : a.length ≠ b.length) :
    Calls Try.prog 21 #[.slice A a.length ca, .slice B b.length cb] w fun e w' => e = .returned (.tuple #[.int .i64 0, .int .i64 2]) ∧ Below w.heap.size w w' := by
  have HA := Aside0.mk (spotsOf_calls A ca a w hr)
  have HQ := Aside0.mk hq
  have l1 := Kd.C_max hr
  have l2 := Kd.C_max hq
  obtain ⟨s, ea, _⟩ := ansP_form a
  obtain ⟨t, eb, _⟩ := ansP_form b
  rw [hpa] at ea
  rw [hpb] at eb
  have EA := Aside0.mk ea
  have EB := Aside0.mk eb
  have hl' : (a.length != b.length) = true := by rw [bne_iff_ne]; exact hl
  have hl2 : ((a.length : Int) != (b.length : Int)) = true := by rw [bne_iff_ne]; omega
  clear hr hq hpa hpb ea eb hl
  go_enter Try.func21, Try.ntmps21
  go_wp2_with (first
    | ((with_reducible refine HA.out.mono ?_); rintro e W ⟨rfl, hb⟩; rw [EA.out]; have HB := Aside0.mk (below_alloc hb (.cells #[.int .i64 (rd s 0), .int .i64 (rd s 1), .int .i64 (rd s 2)] 60)); have HBB := Aside0.mk (spotsOf_calls B cb b _ (Kd.C_below HQ.out HB.out)); clear hb HA)
    | ((with_reducible refine HBB.out.mono ?_); rintro e W2 ⟨rfl, hb⟩; rw [EB.out]; have HB2 := Aside0.mk hb; clear hb))
  go_ret2
  exact ⟨rfl, below_alloc (below_step HB.out HB2.out) _⟩
theorem Potential_no (A B : Option Addr) (ca cb : Nat) (a b : List Int) (w : World) (hr : Kd.C (Kd.int .i64) w A a.length a) (hq : Kd.C (Kd.int .i64) w B b.length b) (hh : potB a b = false) :
    Calls Try.prog 21 #[.slice A a.length ca, .slice B b.length cb] w fun e w' => e = .returned (.tuple #[.int .i64 0, .int .i64 2]) ∧ Below w.heap.size w w' := by
  cases hpa : posB a
  · exact Potential_no1 A B ca cb a b w hr hq hpa
  cases hpb : posB b
  · exact Potential_no2 A B ca cb a b w hr hq hpa hpb
  · exact Potential_no3 A B ca cb a b w hr hq hpa hpb (by simp [potB, hpa, hpb] at hh; omega)

set_option maxHeartbeats 4000000 in
theorem Potential_yes (A B : Option Addr) (ca cb : Nat) (a b : List Int) (w : World) (hr : Kd.C (Kd.int .i64) w A a.length a) (hq : Kd.C (Kd.int .i64) w B b.length b) (hca : a.length ≤ ca) (hh : potB a b = true) :
    Calls Try.prog 21 #[.slice A a.length ca, .slice B b.length cb] w fun e w' => e = .returned (.tuple #[.int .i64 (potF a b), .int .i64 0]) ∧ Below w.heap.size w w' := by
  simp only [potB, Bool.and_eq_true, decide_eq_true_eq] at hh
  obtain ⟨⟨hpa, hpb⟩, hl⟩ := hh
  have HA := Aside0.mk (spotsOf_calls A ca a w hr)
  have HQ := Aside0.mk hq
  have HR := Aside0.mk hr
  have l1 := Kd.C_max hr
  have l2 := Kd.C_max hq
  have EA : Aside0 (ansP a = .tuple #[.agg #[.int .i64 (rd a 0), .int .i64 (rd a 1), .int .i64 (rd a 2)], .bool true]) := ⟨ansP_yes hpa⟩
  have EB : Aside0 (ansP b = .tuple #[.agg #[.int .i64 (rd b 0), .int .i64 (rd b 1), .int .i64 (rd b 2)], .bool true]) := ⟨ansP_yes hpb⟩
  have PA := Aside0.mk (posB_pos hpa)
  have PB := Aside0.mk (posB_pos hpb)
  have hl' : (a.length != b.length) = false := by rw [hl]; simp
  have hl2 : ((a.length : Int) != (b.length : Int)) = false := by rw [hl]; simp
  have HL := Aside0.mk hl
  have h3 := PA.out.2.2
  clear hr hq hpa hpb hl
  go_enter Try.func21, Try.ntmps21
  go_upto_region 6 with (first
    | ((with_reducible refine HA.out.mono ?_); rintro e W ⟨rfl, hb⟩; rw [EA.out]; have HB := Aside0.mk (below_alloc hb (.cells #[.int .i64 (rd a 0), .int .i64 (rd a 1), .int .i64 (rd a 2)] 60)); have HBB := Aside0.mk (spotsOf_calls B cb b _ (Kd.C_below HQ.out HB.out)); clear hb HA)
    | ((with_reducible refine HBB.out.mono ?_); rintro e W2 ⟨rfl, hb⟩; rw [EB.out]; have HB2 := Aside0.mk hb; clear hb))
  refine wpc_world (fun V => Aside0 (V.heap[W.heap.size]? = some (.cells (sp a) 60 (0, 0))) ∧ Aside0 (V.heap[W2.heap.size]? = some (.cells (sp b) 60 (0, 0))) ∧ Aside0 (V.heap[W2.heap.size + 1]? = some (.cells (hl a.length [] (.slice none 0 0)) 62 (0, 0))) ∧ Aside0 (Below w.heap.size w V))
    ⟨⟨alo (alo ((HB2.out.block _ (by simp)).trans (aln _ _)) _) _⟩, ⟨alo (aln _ _) _⟩, ⟨aln' _ _ (by simp)⟩, ⟨below_alloc (below_alloc (below_step HB.out HB2.out) _) _⟩⟩ ?_
  clear HB HB2
  rintro V ⟨H6, H8, H10, HB⟩
  obtain ⟨⟨c0, c1, c2, c3, c4⟩, _⟩ := hl_read H10.out
  obtain ⟨r0, r1, r2, _, _, _⟩ := sp_read H6.out
  obtain ⟨t0, t1, t2, _, _, _⟩ := sp_read H8.out
  have HD := Aside0.mk (distF_range PA.out.1 (by have := PB.out.1; rwa [← HL.out] at this) PA.out.2.2)
  have HDF : Aside0 (sumI (dl a b a.length) = distF a b) := ⟨rfl⟩
  obtain ⟨d0, d1⟩ := HD.out
  have hn1 : (0 : Int) ≤ a.length := by omega
  have hn3 : (a.length : Int) ≤ 3 := by omega
  have hm0 : 0 ≤ (a.length : Int) * distF a b := Int.mul_nonneg hn1 d0
  have hm1 : (a.length : Int) * distF a b ≤ 270 := by
    have := Int.mul_le_mul hn3 d1 d0 (by omega)
    omega
  go_region_held3 (fun w' => w'.cell? ⟨W2.heap.size + 1, 0, none⟩ = some (.int .i64 a.length) ∧ w'.cell? ⟨W2.heap.size + 1, 1, none⟩ = some (.int .i64 (rd [] 0)) ∧ w'.cell? ⟨W2.heap.size + 1, 2, none⟩ = some (.int .i64 (rd [] 1)) ∧ w'.cell? ⟨W2.heap.size + 1, 3, none⟩ = some (.int .i64 (rd [] 2)) ∧ w'.cell? ⟨W2.heap.size + 1, 4, none⟩ = some (.slice none 0 0) ∧
      w'.cell? ⟨W.heap.size, 0, none⟩ = some (.int .i64 (rd a 0)) ∧ w'.cell? ⟨W.heap.size, 1, none⟩ = some (.int .i64 (rd a 1)) ∧ w'.cell? ⟨W.heap.size, 2, none⟩ = some (.int .i64 (rd a 2)) ∧
      w'.cell? ⟨W2.heap.size, 0, none⟩ = some (.int .i64 (rd b 0)) ∧ w'.cell? ⟨W2.heap.size, 1, none⟩ = some (.int .i64 (rd b 1)) ∧ w'.cell? ⟨W2.heap.size, 2, none⟩ = some (.int .i64 (rd b 2))) (go_keep)
    (first
      | (go_at_call 54; refine (distance_calls a.length [] (.slice none 0 0) a b _ h3 PA.out.1.fl PB.out.1.fl).mono ?_; rintro e V2 ⟨rfl, hb⟩; rw [HDF.out]; have G6 := Aside0.mk ((hb.block _ (blk_lt H6.out)).trans H6.out); have G8 := Aside0.mk ((hb.block _ (blk_lt H8.out)).trans H8.out); have G10 := Aside0.mk ((hb.block _ (blk_lt H10.out)).trans H10.out); have GB := Aside0.mk (below_step (below_drew1 HB.out) hb); clear hb; obtain ⟨⟨c0, c1, c2, c3, c4⟩, _⟩ := hl_read G10.out; obtain ⟨r0, r1, r2, _, _, _⟩ := sp_read G6.out; obtain ⟨t0, t1, t2, _, _, _⟩ := sp_read G8.out))
  clear c0 c1 c2 c3 c4 r0 r1 r2 t0 t1 t2
  rw [show IntKind.i64.wrap ((a.length : Int) * distF a b) = (a.length : Int) * distF a b from IntWalk.i64_in _ (by omega)]
  have HPF : Aside0 (potF a b = (a.length : Int) * distF a b + pS a a.length) := ⟨rfl⟩
  generalize (a.length : Int) * distF a b = K0 at *
  have HCA := Aside0.mk (Kd.C_below HR.out GB.out)
  go_wp2
  go_loop [11, 12, 13, 51] (fun v11 _ _ v51 => ∃ m : Nat, m ≤ a.length ∧ v51 = .int .i64 m ∧ v11 = .int .i64 (K0 + pS a m)) (fun _ _ _ v51 => a.length - (intOf v51).toNat)
  case atStart => exact ⟨0, Nat.zero_le _, rfl, by simp [pS]⟩
  case round =>
    obtain ⟨m, hm, rfl, rfl⟩ := hrel
    have hpr := pS_range PA.out.1.fl m (by omega)
    by_cases hlt : m < a.length
    · obtain ⟨ad, rfl, hx⟩ := Kd.at_int HCA.out (m : Int) (by omega) (by omega)
      rw [Int.toNat_natCast] at hx
      obtain ⟨p0, p1⟩ := PA.out.1.fl m (by omega)
      have HPS : Aside0 (pS a (m + 1) = pS a m + qS a m m) := ⟨rfl⟩
      go_wp2
      go_loop [11, 15, 60] (fun v11 _ v60 => ∃ j : Nat, j ≤ m ∧ v60 = .int .i64 j ∧ v11 = .int .i64 (K0 + pS a m + qS a m j)) (fun _ _ v60 => m - (intOf v60).toNat)
      case atStart => exact ⟨0, Nat.zero_le _, rfl, by simp [qS]⟩
      case round =>
        obtain ⟨j, hj, rfl, rfl⟩ := hrel
        have hqr := qS_range PA.out.1.fl m (by omega) j (by omega)
        by_cases hjl : j < m
        · obtain ⟨ad', e', hy⟩ := Kd.at_int HCA.out (j : Int) (by omega) (by omega)
          cases e'
          rw [Int.toNat_natCast] at hy
          obtain ⟨y0, y1⟩ := PA.out.1.fl j (by omega)
          have HQS : Aside0 (qS a m (j + 1) = qS a m j + (rd a m - rd a j)) := ⟨rfl⟩
          go_wp2
          go_round
          case rel => exact ⟨j + 1, by omega, by go_num, by rw [HQS.out]; go_num⟩
          case measure => simp [intOf]; omega
        · obtain rfl : j = m := by omega
          go_wp2
          go_round
          case rel => exact ⟨j + 1, by omega, by go_num, by rw [HPS.out]; go_num⟩
          case measure => simp [intOf]; omega
    · obtain rfl : m = a.length := by omega
      go_wp2
      go_ret2
      exact ⟨by rw [HPF.out]; rfl, GB.out⟩
end Go.Proofs.Ythadaajgjloogaa.L

namespace Go.Proofs.Ythadaajgjloogaa.L
open Go.RowKit Go.Proofs.YthadaajgjloogaaW.PrintWords Go.Proofs.YthadaajgjloogaaW.PrintLast Go.Proofs.YthadaajgjloogaaW.PrintMore
attribute [local go_sem] max2_int min2_int max_two min_two max_three min_three max_four min_four

/-! ### Cost (28) -/
def rL (l : List (List Int)) (j : Nat) : List Int := PLiftsWorks.rd_L1 l j
/-- Row j of a schedule serves its call. -/
def rowB (k : Nat) (c : List Int) (l : List (List Int)) (j : Nat) : Bool := posB (rL l j) && decide ((rL l j).length = k) && decide (rd c j ∈ rL l j)
def nowAt (start : List Int) (l : List (List Int)) : Nat → List Int
  | 0 => start
  | j + 1 => rL l j
def costTo (start : List Int) (l : List (List Int)) : Nat → Int
  | 0 => 0
  | j + 1 => costTo start l j + distF (nowAt start l j) (rL l j)
def schedB (k : Nat) (c : List Int) (l : List (List Int)) : Bool := decide (l.length = c.length) && decide (∀ j, j < l.length → rowB k c l j = true)
def ansK (s c : List Int) (l : List (List Int)) : Value :=
  if hallB s c then if schedB s.length c l then .tuple #[.int .i64 (costTo s l l.length), .int .i64 0] else .tuple #[.int .i64 0, .int .i64 10] else .tuple #[.int .i64 0, .int .i64 2]
theorem nowAt_pos {k : Nat} {start c : List Int} {l : List (List Int)} (h0 : Pos k start) : ∀ j, (∀ i, i < j → rowB k c l i = true) → Pos k (nowAt start l j)
  | 0, _ => h0
  | j + 1, h => by
    have := h j (by omega)
    simp only [rowB, Bool.and_eq_true, decide_eq_true_eq] at this
    have h2 := (posB_pos this.1.1).1
    rw [this.1.2] at h2
    exact h2
theorem costTo_range {k : Nat} {start c : List Int} {l : List (List Int)} (hk : k ≤ 3) (h0 : Pos k start) : ∀ j, (∀ i, i < j → rowB k c l i = true) → 0 ≤ costTo start l j ∧ costTo start l j ≤ 90 * j
  | 0, _ => by simp [costTo]
  | j + 1, h => by
    have h1 := costTo_range hk h0 j (fun i hi => h i (by omega))
    have h2 : 0 ≤ distF (nowAt start l j) (rL l j) ∧ distF (nowAt start l j) (rL l j) ≤ 90 := distF_range (nowAt_pos h0 j (fun i hi => h i (by omega))) (nowAt_pos h0 (j + 1) h) hk
    simp only [costTo]
    omega

structure Kw (w W : World) (g k : Nat) (start : List Int) (cv : Value) (now : List Int) : Prop where
  h8 : W.heap[g]? = some (.cells (hl k start cv) 62 (0, 0))
  h11 : W.heap[g + 1]? = some (.cells (sp now) 60 (0, 0))
  hg : w.heap.size ≤ g
  hb : Below w.heap.size w W
theorem Kw.below {w W W2 : World} {g k : Nat} {start : List Int} {cv : Value} {now : List Int} (h : Kw w W g k start cv now) (hb : Below W.heap.size W W2) : Kw w W2 g k start cv now :=
  ⟨(hb.block _ (blk_lt h.h8)).trans h.h8, (hb.block _ (blk_lt h.h11)).trans h.h11, h.hg, below_step h.hb hb⟩

set_option maxHeartbeats 4000000 in
theorem Cost_no (A B D : Option Addr) (ca cb cd : Nat) (s c : List Int) (l : List (List Int)) (w : World) (hr : Kd.C (Kd.int .i64) w A s.length s) (hq : Kd.C (Kd.int .i64) w B c.length c) (hh : hallB s c = false) :
    Calls Try.prog 28 #[.slice A s.length ca, .slice B c.length cb, .slice D l.length cd] w fun e w' => e = .returned (.tuple #[.int .i64 0, .int .i64 2]) ∧ Below w.heap.size w w' := by
  have HH := Aside0.mk (ansH_no (s := s) (c := c) (cv := .slice B c.length cb) hh)
  have HN := Aside0.mk (newHall_calls A B ca cb s c w hr hq)
  clear hr hq hh
  go_enter Try.func28, Try.ntmps28
  go_wp2_with (go_at_call 47; refine HN.out.mono ?_; rintro e W ⟨rfl, hb⟩; rw [HH.out]; have HB := Aside0.mk hb; clear hb)
  go_ret2
  exact ⟨rfl, HB.out.alloc HB.out.size _⟩
set_option maxHeartbeats 4000000 in
theorem Cost_len (A B D : Option Addr) (ca cb cd : Nat) (s c : List Int) (l : List (List Int)) (w : World) (hr : Kd.C (Kd.int .i64) w A s.length s) (hq : Kd.C (Kd.int .i64) w B c.length c) (_hl1 : l.length ≤ 9223372036854775807) (hh : hallB s c = true) (hne : l.length ≠ c.length) :
    Calls Try.prog 28 #[.slice A s.length ca, .slice B c.length cb, .slice D l.length cd] w fun e w' => e = .returned (.tuple #[.int .i64 0, .int .i64 10]) ∧ Below w.heap.size w w' := by
  have HH := Aside0.mk (ansH_yes (s := s) (c := c) (cv := .slice B c.length cb) hh)
  have HN := Aside0.mk (newHall_calls A B ca cb s c w hr hq)
  have hc1 := Kd.C_max hq
  have e1 : (l.length != c.length) = true := by rw [bne_iff_ne]; exact hne
  have e2 : ((l.length : Int) != (c.length : Int)) = true := by rw [bne_iff_ne]; omega
  clear hr hq hh hne
  go_enter Try.func28, Try.ntmps28
  go_wp2_with (go_at_call 47; refine HN.out.mono ?_; rintro e W ⟨rfl, hb⟩; rw [HH.out]; have HB := Aside0.mk hb; clear hb)
  go_ret2
  exact ⟨rfl, HB.out.alloc HB.out.size _⟩
set_option maxHeartbeats 8000000 in
theorem Cost_run (A B D : Option Addr) (ca cb cd : Nat) (s c : List Int) (l : List (List Int)) (w : World) (hr : Kd.C (Kd.int .i64) w A s.length s) (hq : Kd.C (Kd.int .i64) w B c.length c) (hd : Kd.C (Kd.slice 3 (Kd.int .i64)) w D l.length l) (hh : hallB s c = true) (hln : l.length = c.length) :
    Calls Try.prog 28 #[.slice A s.length ca, .slice B c.length cb, .slice D l.length cd] w fun e w' => e = .returned (ansK s c l) ∧ Below w.heap.size w w' := by
  have HH := Aside0.mk (ansH_yes (s := s) (c := c) (cv := .slice B c.length cb) hh)
  have HN := Aside0.mk (newHall_calls A B ca cb s c w hr hq)
  have HP := Aside0.mk (hallB_parts hh)
  have HQ := Aside0.mk hq
  have HD := Aside0.mk hd
  have HLN := Aside0.mk hln
  have hc1 := Kd.C_max hq
  have hl1 := Kd.C_max hd
  have e1 : (l.length != c.length) = false := by rw [hln]; simp
  have e2 : ((l.length : Int) != (c.length : Int)) = false := by rw [hln]; simp
  have AK : Aside0 (ansK s c l = if schedB s.length c l then .tuple #[.int .i64 (costTo s l l.length), .int .i64 0] else .tuple #[.int .i64 0, .int .i64 10]) := ⟨by simp [ansK, hh]⟩
  have h40 := HP.out.2.1
  have h3 := HP.out.1.2.2
  clear hr hq hd hh hln
  go_enter Try.func28, Try.ntmps28
  go_upto_region 8 with (go_at_call 47; refine HN.out.mono ?_; rintro e W ⟨rfl, hb⟩; rw [HH.out]; have HB := Aside0.mk hb; clear hb)
  refine wpc_world (fun V => Aside0 (Kw w V W.heap.size s.length s (.slice B c.length cb) s)) ⟨⟨alo (aln _ _) _, aln' _ _ (by simp), HB.out.size, below_alloc (below_alloc HB.out _) _⟩⟩ ?_
  clear HB
  rintro V HV
  go_wp2
  go_loopw [10, 12, 13, 14, 15, 33] (fun v10 _ _ _ _ v33 wr => ∃ j : Nat, j ≤ l.length ∧ v33 = .int .i64 j ∧ v10 = .int .i64 (costTo s l j) ∧ Aside0 (∀ i, i < j → rowB s.length c l i = true) ∧
      Aside0 (Kw w wr W.heap.size s.length s (.slice B c.length cb) (nowAt s l j))) (fun _ _ _ _ _ v33 _ => l.length - (intOf v33).toNat)
  case atStart => exact ⟨0, Nat.zero_le _, rfl, rfl, ⟨fun i hi => by omega⟩, HV⟩
  case round =>
    clear HV
    obtain ⟨j, hj, rfl, rfl, HO, HK⟩ := hrel
    by_cases hlt : j < l.length
    · obtain ⟨ad, A0, c0, rfl, hx, hlc, hrow⟩ := PLiftsWorks.at_L1 (Kd.C_below HD.out HK.out.hb) (j : Int) (by omega) (by omega)
      rw [Int.toNat_natCast] at hx
      have HROW := Aside0.mk hrow
      obtain ⟨t, et, ht⟩ := ansP_form (rL l j)
      have ET := Aside0.mk et
      have HS := Aside0.mk (spotsOf_calls A0 c0 (rL l j) wr hrow)
      clear hrow et
      have hrn : PLiftsWorks.rd_L1 l j = rL l j := rfl
      rw [hrn] at hx
      have HRN := Aside0.mk hrn
      clear hrn
      have hrl := Kd.C_max HROW.out
      rw [HRN.out] at hrl
      go_upto_region 12 with ((with_reducible refine HS.out.mono ?_); rintro e W3 ⟨rfl, hb⟩; rw [ET.out]; have HK3 := Aside0.mk (HK.out.below hb); clear hb)
      refine wpc_world (fun V => Aside0 (Kw w V W.heap.size s.length s (.slice B c.length cb) (nowAt s l j)) ∧ Aside0 (V.heap[W3.heap.size]? = some (.cells (sp t) 60 (0, 0)))) ⟨⟨HK3.out.below ((Below.refl _ _).alloc (Nat.le_refl _) _)⟩, ⟨aln _ _⟩⟩ ?_
      clear HK HK3 HROW HS
      rintro V2 ⟨HK, HN3⟩
      cases hpb : posB (rL l j)
      · have HSB : Aside0 (schedB s.length c l = false) := ⟨by
          cases h : schedB s.length c l
          · rfl
          · simp only [schedB, Bool.and_eq_true, decide_eq_true_eq] at h
            have := h.2 j hlt
            simp only [rowB, hpb, Bool.false_and] at this
            cases this⟩
        clear ht hpb
        go_quiet (fail)
        go_wp2
        go_ret2
        exact ⟨by rw [AK.out, HSB.out]; rfl, pw_below_drewN HK.out.hb nq⟩
      · obtain rfl := ht hpb
        have hpb2 := (posB_pos hpb)
        clear ht
        by_cases hlk : (rL l j).length = s.length
        · have n1 : ((rL l j).length != s.length) = false := by rw [hlk]; simp
          have n2 : (((rL l j).length : Int) != (s.length : Int)) = false := by rw [hlk]; simp
          obtain ⟨⟨c0, c1, c2, c3, c4⟩, _⟩ := hl_read HK.out.h8
          obtain ⟨r0, r1, r2, _, _, _⟩ := sp_read HN3.out
          obtain ⟨bd, rfl, hcx⟩ := Kd.at_int (Kd.C_below HQ.out HK.out.hb) (j : Int) (by omega) (by have := HLN.out; omega)
          rw [Int.toNat_natCast] at hcx
          have hjc : (j : Int) < (c.length : Int) := by have := HLN.out; omega
          have hj0 : (0 : Int) ≤ (j : Int) := by omega
          have hnb := Aside0.mk hcx
          have PT := Aside0.mk hpb2.1
          have HLK := Aside0.mk hlk
          clear hlk hpb2
          have hsl : (rL l j).length ≤ 9223372036854775807 := hrl
          by_cases hmem : rd c j ∈ rL l j
          · have HM := Aside0.mk (decide_eq_true hmem)
            have HO1 : Aside0 (∀ i, i < j + 1 → rowB s.length c l i = true) := ⟨fun i hi => by
              rcases Nat.lt_or_ge i j with h | h
              · exact HO.out i h
              · obtain rfl : i = j := by omega
                simp [rowB, hpb, HLK.out, hmem]⟩
            clear hpb hmem
            go_region_held3 (fun w' => w'.cell? ⟨W.heap.size, 0, none⟩ = some (.int .i64 s.length) ∧ w'.cell? ⟨W.heap.size, 1, none⟩ = some (.int .i64 (rd s 0)) ∧ w'.cell? ⟨W.heap.size, 2, none⟩ = some (.int .i64 (rd s 1)) ∧ w'.cell? ⟨W.heap.size, 3, none⟩ = some (.int .i64 (rd s 2)) ∧ w'.cell? ⟨W.heap.size, 4, none⟩ = some (.slice (some bd) c.length cb) ∧
                w'.cell? ⟨W3.heap.size, 0, none⟩ = some (.int .i64 (rd (rL l j) 0)) ∧ w'.cell? ⟨W3.heap.size, 1, none⟩ = some (.int .i64 (rd (rL l j) 1)) ∧ w'.cell? ⟨W3.heap.size, 2, none⟩ = some (.int .i64 (rd (rL l j) 2)) ∧ w'.cell? (bd.add j) = some (.int .i64 (rd c j))) (go_keep)
              (first
                | (go_at_call 57; refine (has_calls s.length s (.slice (some bd) c.length cb) (rL l j) (rd c j) _ h3 HLK.out).mono ?_; rintro e W4 ⟨rfl, hb⟩; rw [HM.out]; have HK4 := Aside0.mk (HK.out.below (below_step (below_drew1 (Below.refl _ _)) hb)); have HN4 := Aside0.mk ((hb.block _ (blk_lt HN3.out)).trans HN3.out); have hcx4 := pw_cell_below (below_step (below_drew1 (Below.refl _ V2)) hb) hcx; clear hb; obtain ⟨⟨c0, c1, c2, c3, c4⟩, _⟩ := hl_read HK4.out.h8; obtain ⟨r0, r1, r2, _, _, _⟩ := sp_read HN4.out))
            clear c0 c1 c2 c3 c4 r0 r1 r2 hcx hcx4
            go_upto_region 14 with (fail)
            refine wpc_world (fun V => Aside0 (Kw w V W.heap.size s.length s (.slice (some bd) c.length cb) (nowAt s l j)) ∧ Aside0 (V.heap[W3.heap.size]? = some (.cells (sp (rL l j)) 60 (0, 0)))) ⟨HK4, HN4⟩ ?_
            clear HK HN3 HK4 HN4
            rintro V3 ⟨HK, HN3⟩
            have PN := Aside0.mk (nowAt_pos HP.out.1.1 j HO.out)
            have PT1 : Aside0 (Pos s.length (rL l j)) := ⟨by have := PT.out; rwa [HLK.out] at this⟩
            obtain ⟨d0, d1⟩ := distF_range PN.out PT1.out h3
            obtain ⟨k0, k1⟩ := costTo_range h3 HP.out.1.1 j HO.out
            have HDF : Aside0 (sumI (dl (nowAt s l j) (rL l j) s.length) = distF (nowAt s l j) (rL l j)) := ⟨by unfold distF; rw [PN.out.len]⟩
            have HCT : Aside0 (costTo s l j + distF (nowAt s l j) (rL l j) = costTo s l (j + 1)) := ⟨rfl⟩
            obtain ⟨⟨c0, c1, c2, c3, c4⟩, _⟩ := hl_read HK.out.h8
            obtain ⟨r0, r1, r2, f0, f1, f2⟩ := sp_read HK.out.h11
            obtain ⟨t0, t1, t2, _, _, _⟩ := sp_read HN3.out
            go_upto_region 15 with (first
              | (go_at_call 54; refine (distance_calls s.length s (.slice (some bd) c.length cb) (nowAt s l j) (rL l j) _ h3 PN.out.fl PT1.out.fl).mono ?_; rintro e V4 ⟨rfl, hb⟩; rw [HDF.out]; have HK5 := Aside0.mk (HK.out.below hb); have HN5 := Aside0.mk ((hb.block _ (blk_lt HN3.out)).trans HN3.out); clear hb)
              | (go_at_call 58; refine (total2_calls (costTo s l j) (distF (nowAt s l j) (rL l j)) V4.heap.size _ (aln _ _) (by omega) (by omega)).mono ?_; rintro e V5 ⟨rfl, rfl⟩; rw [HCT.out]))
            clear c0 c1 c2 c3 c4 r0 r1 r2 f0 f1 f2 t0 t1 t2 HK HN3
            refine wpc_world (fun V => Aside0 (Kw w V W.heap.size s.length s (.slice (some bd) c.length cb) (nowAt s l j)) ∧ Aside0 (V.heap[W3.heap.size]? = some (.cells (sp (rL l j)) 60 (0, 0)))) ⟨⟨HK5.out.below ((Below.refl _ _).alloc (Nat.le_refl _) _)⟩, ⟨alo HN5.out _⟩⟩ ?_
            clear HK5 HN5
            rintro V6 ⟨HK, HN3⟩
            obtain ⟨r0, r1, r2, f0, f1, f2⟩ := sp_read HK.out.h11
            obtain ⟨t0, t1, t2, _, _, _⟩ := sp_read HN3.out
            have HKn : Aside0 (Kw w (((V6.setCell ⟨W.heap.size + 1, 0, none⟩ (.int .i64 (rd (rL l j) 0))).setCell ⟨W.heap.size + 1, 1, none⟩ (.int .i64 (rd (rL l j) 1))).setCell ⟨W.heap.size + 1, 2, none⟩ (.int .i64 (rd (rL l j) 2))) W.heap.size s.length s (.slice (some bd) c.length cb) (nowAt s l (j + 1))) :=
              ⟨blk_far (blk_far (blk_far HK.out.h8 (by simp) _) (by simp) _) (by simp) _, sp_store3 (rL l j) HK.out.h11, HK.out.hg, by
                have h1 : w.heap.size ≤ W.heap.size + 1 := Nat.le_succ_of_le HK.out.hg
                exact ((HK.out.hb.setCell h1 _).setCell h1 _).setCell h1 _⟩
            go_wp2
            go_roundw
            case rel => exact ⟨j + 1, by omega, by go_num, rfl, HO1, HKn⟩
            case measure => simp [intOf]; omega
          · have HM := Aside0.mk (decide_eq_false hmem)
            have HSB : Aside0 (schedB s.length c l = false) := ⟨by
              cases h : schedB s.length c l
              · rfl
              · simp only [schedB, Bool.and_eq_true, decide_eq_true_eq] at h
                have := h.2 j hlt
                simp only [rowB, Bool.and_eq_true, decide_eq_true_eq] at this
                exact absurd this.2 hmem⟩
            clear hpb hmem
            go_region_held3 (fun w' => w'.cell? ⟨W.heap.size, 0, none⟩ = some (.int .i64 s.length) ∧ w'.cell? ⟨W.heap.size, 1, none⟩ = some (.int .i64 (rd s 0)) ∧ w'.cell? ⟨W.heap.size, 2, none⟩ = some (.int .i64 (rd s 1)) ∧ w'.cell? ⟨W.heap.size, 3, none⟩ = some (.int .i64 (rd s 2)) ∧ w'.cell? ⟨W.heap.size, 4, none⟩ = some (.slice (some bd) c.length cb) ∧
                w'.cell? ⟨W3.heap.size, 0, none⟩ = some (.int .i64 (rd (rL l j) 0)) ∧ w'.cell? ⟨W3.heap.size, 1, none⟩ = some (.int .i64 (rd (rL l j) 1)) ∧ w'.cell? ⟨W3.heap.size, 2, none⟩ = some (.int .i64 (rd (rL l j) 2)) ∧ w'.cell? (bd.add j) = some (.int .i64 (rd c j))) (go_keep)
              (first
                | (go_at_call 57; refine (has_calls s.length s (.slice (some bd) c.length cb) (rL l j) (rd c j) _ h3 HLK.out).mono ?_; rintro e W4 ⟨rfl, hb⟩; rw [HM.out]; have HK4 := Aside0.mk (HK.out.below (below_step (below_drew1 (Below.refl _ _)) hb)); have HN4 := Aside0.mk ((hb.block _ (blk_lt HN3.out)).trans HN3.out); have hcx4 := pw_cell_below (below_step (below_drew1 (Below.refl _ V2)) hb) hcx; clear hb; obtain ⟨⟨c0, c1, c2, c3, c4⟩, _⟩ := hl_read HK4.out.h8; obtain ⟨r0, r1, r2, _, _, _⟩ := sp_read HN4.out))
            go_wp2
            go_ret2
            exact ⟨by rw [AK.out, HSB.out]; rfl, HK4.out.hb⟩
        · have HSB : Aside0 (schedB s.length c l = false) := ⟨by
            cases h : schedB s.length c l
            · rfl
            · simp only [schedB, Bool.and_eq_true, decide_eq_true_eq] at h
              have := h.2 j hlt
              simp only [rowB, Bool.and_eq_true, decide_eq_true_eq] at this
              exact absurd this.1.2 hlk⟩
          have n1 : ((rL l j).length != s.length) = true := by rw [bne_iff_ne]; exact hlk
          have n2 : (((rL l j).length : Int) != (s.length : Int)) = true := by rw [bne_iff_ne]; omega
          obtain ⟨⟨c0, c1, c2, c3, c4⟩, _⟩ := hl_read HK.out.h8
          clear hlk hpb hpb2
          go_quiet (fail)
          go_wp2
          go_ret2
          exact ⟨by rw [AK.out, HSB.out]; rfl, pw_below_drewN HK.out.hb nq⟩
    · obtain rfl : j = l.length := by omega
      have HSB : Aside0 (schedB s.length c l = true) := ⟨by simp only [schedB, Bool.and_eq_true, decide_eq_true_eq]; exact ⟨HLN.out, HO.out⟩⟩
      go_wp2
      go_ret2
      exact ⟨by rw [AK.out, HSB.out]; rfl, HK.out.hb⟩
theorem Cost_calls (A B D : Option Addr) (ca cb cd : Nat) (s c : List Int) (l : List (List Int)) (w : World) (hr : Kd.C (Kd.int .i64) w A s.length s) (hq : Kd.C (Kd.int .i64) w B c.length c) (hd : Kd.C (Kd.slice 3 (Kd.int .i64)) w D l.length l) :
    Calls Try.prog 28 #[.slice A s.length ca, .slice B c.length cb, .slice D l.length cd] w fun e w' => e = .returned (ansK s c l) ∧ Below w.heap.size w w' := by
  cases hh : hallB s c
  · rw [show ansK s c l = .tuple #[.int .i64 0, .int .i64 2] from by simp [ansK, hh]]
    exact Cost_no A B D ca cb cd s c l w hr hq hh
  by_cases hl : l.length = c.length
  · exact Cost_run A B D ca cb cd s c l w hr hq hd hh hl
  · rw [show ansK s c l = .tuple #[.int .i64 0, .int .i64 10] from by simp [ansK, hh, schedB, hl]]
    exact Cost_len A B D ca cb cd s c l w hr hq (Kd.C_max hd) hh hl
end Go.Proofs.Ythadaajgjloogaa.L

namespace Go.Proofs.Ythadaajgjloogaa.L
open Go.RowKit Go.Shelf Go.Proofs.YthadaajgjloogaaW.PrintWords Go.Proofs.YthadaajgjloogaaW.PrintLast Go.Proofs.YthadaajgjloogaaW.PrintMore
attribute [local go_sem] max2_int min2_int max_two min_two max_three min_three max_four min_four
attribute [local go_sem] Oper.semAt_some

/-! ### the iterator all (82, 103, 104) -/
/-- The positions of d more lifts behind those of p, floors from f on, in lexicographic order. -/
def gen : Nat → List Int → Nat → List (List Int)
  | 0, p, _ => [p]
  | d + 1, p, f => (List.range (31 - f)).flatMap fun i => gen d (p ++ [((f + i : Nat) : Int)]) (f + i)
/-- All positions of k lifts. -/
def allP (k : Nat) : List (List Int) := gen k [] 0

/-- What the helper leans on: where h, yield, s and next lie. -/
structure It (W : World) (l hb b k : Nat) (s0 : List Int) (cv : Value) (s : List Int) : Prop where
  h1 : W.heap[hb]? = some (.cells (hl k s0 cv) 62 (0, 0))
  h2 : W.heap[b]? = some (.cells #[.func (.yield l) #[] #[]] 118 (0, 0))
  h3 : W.heap[b + 1]? = some (.cells (sp s) 60 (0, 0))
  h4 : W.heap[b + 1 + 1]? = some (.cells #[.func (.func 104) #[] #[.pointer (some ⟨hb, 0, none⟩), .pointer (some ⟨b, 0, none⟩), .pointer (some ⟨b + 1, 0, none⟩), .pointer (some ⟨b + 1 + 1, 0, none⟩)]] 119 (0, 0))
  h5 : hb < b
abbrev nextArgs (hb b : Nat) (i least : Int) : Array Value := #[.int .i64 i, .int .i64 least, .pointer (some ⟨hb, 0, none⟩), .pointer (some ⟨b, 0, none⟩), .pointer (some ⟨b + 1, 0, none⟩), .pointer (some ⟨b + 1 + 1, 0, none⟩)]

set_option maxHeartbeats 2000000 in
theorem next_leaf (n l hb b k : Nat) (s0 : List Int) (cv : Value) (s : List Int) (least : Int) (W : World) (Q : World → Prop) (hI : It W l hb b k s0 cv s)
    (hY : YieldAt Fence.wide (n - 1) Try.prog l #[.agg (sp s)] W fun e W' => e = .returned (.bool true) ∧ Q W') :
    CallsIn Fence.wide n Try.prog 104 (nextArgs hb b k least) W fun e W' => e = .returned (.bool true) ∧ Q W' := by
  obtain ⟨fn, tmps, assign, body, hy, hR⟩ := hY
  rw [spv] at hy
  obtain ⟨⟨c0, _, _, _, _⟩, _⟩ := hl_read hI.h1
  obtain ⟨r0, r1, r2, _, _, _⟩ := sp_read hI.h3
  have y0 := blk_cell hI.h2 0
  simp only [List.getElem?_toArray, List.getElem?_cons_zero] at y0
  have HR := Aside0.mk hR
  clear hR
  refine callsIn_of_wp Try.func104 rfl trivial ?_
  simp only [Try.ntmps104, List.size_toArray, List.length_cons, List.length_nil, Nat.reduceAdd, Nat.reduceSub, Array.replicate_succ, Array.replicate_zero, List.push_toArray, List.append_toArray, List.nil_append, List.cons_append]
  gi_wp2
  refine ⟨fun h => (by cases h), HR.out.mono ?_⟩
  rintro e W' ⟨rfl, hq⟩
  gi_wp2
  go_ret
  exact ⟨rfl, hq⟩

/-- The four blocks lie as they lay. -/
def Keep4 (hb b : Nat) (W W' : World) : Prop := ∀ g, (g = hb ∨ g = b ∨ g = b + 1 ∨ g = b + 1 + 1) → W'.heap[g]? = W.heap[g]?
theorem It.keep {W W' : World} {l hb b k : Nat} {s0 : List Int} {cv : Value} {s : List Int} (h : It W l hb b k s0 cv s) (hk : Keep4 hb b W W') : It W' l hb b k s0 cv s :=
  ⟨(hk _ (.inl rfl)).trans h.h1, (hk _ (.inr (.inl rfl))).trans h.h2, (hk _ (.inr (.inr (.inl rfl)))).trans h.h3, (hk _ (.inr (.inr (.inr rfl)))).trans h.h4, h.h5⟩
theorem It.set {W : World} {l hb b k : Nat} {s0 : List Int} {cv : Value} {s : List Int} (h : It W l hb b k s0 cv s) (h3 : s.length = 3) (i : Nat) (hi : i < 3) (x : Int) : It (W.setCell ⟨b + 1, i, none⟩ (.int .i64 x)) l hb b k s0 cv (s.set i x) :=
  ⟨blk_far h.h1 (show hb ≠ b + 1 by have := h.h5; omega) _, blk_far h.h2 (show b ≠ b + 1 by omega) _, by rw [blk_set h.h3, sp_set s i x (by omega) (by omega)], blk_far h.h4 (show b + 1 + 1 ≠ b + 1 by omega) _, h.h5⟩
/-- s holds p in its first places, nothing from k on. -/
structure Arr (k i : Nat) (p s : List Int) : Prop where
  len : s.length = 3
  tk : s.take i = p
  z : ∀ j : Nat, k ≤ j → j < 3 → rd s j = 0
theorem Arr.sp {k : Nat} {p s : List Int} (h : Arr k k p s) (hk : k ≤ 3) : sp s = sp p := by
  obtain ⟨hl, ht, hz⟩ := h
  have hp : p.length = k := by rw [← ht, List.length_take]; omega
  have : ∀ j : Nat, j < 3 → rd s j = rd p j := by
    intro j hj
    rcases Nat.lt_or_ge j k with h | h
    · rw [← ht]; simp [rd, List.getD, h]
    · rw [hz j h hj, rd_out (by omega)]
  unfold L.sp
  have a0 := this 0 (by omega)
  have a1 := this 1 (by omega)
  have a2 := this 2 (by omega)
  simp only [Int.natCast_zero, Int.natCast_one] at a0 a1
  have a2' : rd s 2 = rd p 2 := a2
  have a0' : rd s 0 = rd p 0 := a0
  have a1' : rd s 1 = rd p 1 := a1
  rw [a0', a1', a2']
theorem Arr.set {k i : Nat} {p s : List Int} (h : Arr k i p s) (hi : i < k) (hk : k ≤ 3) (x : Int) : Arr k (i + 1) (p ++ [x]) (s.set i x) := by
  obtain ⟨hl, ht, hz⟩ := h
  refine ⟨by simpa using hl, ?_, fun j hj h3 => ?_⟩
  · rw [List.take_succ_eq_append_getElem (by simp; omega)]
    simp [List.take_set_of_le, ht]
  · rw [rd_set_ne (by omega)]; exact hz j hj h3
theorem Arr.back {k i : Nat} {p s : List Int} {x : Int} (h : Arr k (i + 1) (p ++ [x]) s) (hp : p.length = i) : Arr k i p s := by
  obtain ⟨hl, ht, hz⟩ := h
  refine ⟨hl, ?_, hz⟩
  have : (s.take (i + 1)).take i = (p ++ [x]).take i := by rw [ht]
  rw [List.take_take, Nat.min_eq_left (by omega)] at this
  rw [this, ← hp, List.take_left]

/-- What has come up when the loop stands at floor f + j. -/
def genJ (d : Nat) (p : List Int) (f j : Nat) : List (List Int) := (List.range j).flatMap fun i => gen d (p ++ [((f + i : Nat) : Int)]) (f + i)
theorem genJ_succ (d : Nat) (p : List Int) (f j : Nat) : genJ d p f (j + 1) = genJ d p f j ++ gen d (p ++ [((f + j : Nat) : Int)]) (f + j) := by simp [genJ, List.range_succ]
theorem genJ_pre (d : Nat) (p : List Int) (f : Nat) : ∀ j m, j ≤ m → ∃ r, genJ d p f j ++ r = genJ d p f m
  | j, m, h => by
    induction m with
    | zero => obtain rfl : j = 0 := by omega
              exact ⟨[], by simp⟩
    | succ m ih =>
      rcases Nat.lt_or_ge j (m + 1) with h1 | h1
      · obtain ⟨r, hr⟩ := ih (by omega)
        exact ⟨r ++ gen d (p ++ [((f + m : Nat) : Int)]) (f + m), by rw [genJ_succ, ← hr, List.append_assoc]⟩
      · obtain rfl : j = m + 1 := by omega
        exact ⟨[], by simp⟩

section
variable (l hb b k m : Nat) (s0 : List Int) (cv : Value) (J : List (List Int) → World → Prop)
    (hY : ∀ pre x W s, J pre W → (pre ++ [x]) <+: allP k → It W l hb b k s0 cv s → YieldAt Fence.wide m Try.prog l #[.agg (sp x)] W fun e W' => e = .returned (.bool true) ∧ J (pre ++ [x]) W' ∧ Keep4 hb b W W')
    (hJs : ∀ pre W (i : Nat) v, J pre W → J pre (W.setCell ⟨b + 1, i, none⟩ v)) (hk3 : k ≤ 3)
include hY hJs hk3
set_option maxHeartbeats 4000000 in
theorem next_calls : ∀ (d i : Nat), i + d = k → ∀ (p : List Int) (least : Nat) (s : List Int) (pre rest : List (List Int)) (W : World), p.length = i → Arr k i p s → least ≤ 31 → pre ++ gen d p least ++ rest = allP k → J pre W → It W l hb b k s0 cv s →
    Calls Try.prog 104 (nextArgs hb b i least) W fun e W' => e = .returned (.bool true) ∧ J (pre ++ gen d p least) W' ∧ ∃ s', It W' l hb b k s0 cv s' ∧ Arr k i p s' := by
  intro d
  induction d with
  | zero =>
    intro i hi p least s pre rest W hp hA hl hpre hJ hI
    obtain rfl : i = k := by omega
    have hsp := hA.sp hk3
    refine callsIn_wide (n := m + 1).1 ((next_leaf (m + 1) l hb b i s0 cv s least W (fun W' => J (pre ++ [p]) W' ∧ Keep4 hb b W W') hI ?_).mono ?_)
    · rw [hsp]
      exact hY pre p W s hJ ⟨rest, hpre⟩ hI
    · rintro e W' ⟨he, hj, hk⟩
      exact ⟨he, hj, s, hI.keep hk, hA⟩
  | succ d ih =>
    intro i hi p least s pre rest W hp hA hl hpre hJ hI
    have IH := Aside0.mk ih
    have HS := Aside0.mk (And.intro hJ (And.intro hI hA))
    have HPRE := Aside0.mk hpre
    have HP := Aside0.mk hp
    have HHJ := Aside0.mk hJs
    have hik : ((i : Int) == (k : Int)) = false := beq_eq_false_iff_ne.2 (by omega)
    have hik2 : (i == k) = false := beq_eq_false_iff_ne.2 (by omega)
    obtain ⟨⟨c0, _, _, _, _⟩, _⟩ := hl_read hI.h1
    clear ih hA hpre hJ hI hJs hY hp
    go_enter Try.func104, Try.ntmps104
    have HG : Aside0 (gen (d + 1) p least = genJ d p least (31 - least)) := ⟨rfl⟩
    go_wp2
    go_loopw [9] (fun v9 wr => ∃ f : Nat, least ≤ f ∧ f ≤ 31 ∧ v9 = .int .i64 f ∧ Aside0 (J (pre ++ genJ d p least (f - least)) wr ∧ ∃ s, It wr l hb b k s0 cv s ∧ Arr k i p s)) (fun v9 _ => (31 - intOf v9).toNat)
    case atStart => exact ⟨least, Nat.le_refl _, hl, rfl, ⟨by simpa [genJ] using HS.out.1, s, HS.out.2.1, HS.out.2.2⟩⟩
    case round =>
      clear HS c0
      obtain ⟨f, hf1, hf2, rfl, HS⟩ := hrel
      obtain ⟨hJ1, s1, hI1, hA1⟩ := HS.out
      by_cases hlt : f ≤ 30
      · have hcell := sp_cell hI1.h3 i (by omega)
        have hfz := blk_frozen hI1.h3 i
        have hc4 := blk_cell hI1.h4 0
        simp only [List.getElem?_toArray, List.getElem?_cons_zero] at hc4
        obtain ⟨r, hr⟩ := genJ_pre d p least (f - least + 1) (31 - least) (by omega)
        have HE : Aside0 (genJ d p least (f + 1 - least) = genJ d p least (f - least) ++ gen d (p ++ [(f : Int)]) f) := ⟨by
          rw [show f + 1 - least = (f - least) + 1 by omega, genJ_succ, show least + (f - least) = f by omega]⟩
        have HC := Aside0.mk (IH.out (i + 1) (by omega) (p ++ [(f : Int)]) f (s1.set i (f : Int)) (pre ++ genJ d p least (f - least)) (r ++ rest) (wr.setCell ⟨b + 1, i, none⟩ (.int .i64 (f : Int)))
          (by simp [HP.out]) (hA1.set (by omega) hk3 _) hf2 (by
            have h1 := HPRE.out
            rw [HG.out, ← hr, genJ_succ, show least + (f - least) = f by omega] at h1
            rw [← h1]
            simp only [List.append_assoc]) (HHJ.out _ _ _ _ hJ1) (hI1.set hA1.len i (by omega) _))
        have hi3 : (i : Int) < 3 := by omega
        clear hJ1 hI1 hA1 hr
        go_wp2_with ((go_at_call 104); refine HC.out.mono ?_; rintro e W' ⟨rfl, hj, hs⟩; have HN : Aside0 (J (pre ++ genJ d p least (f + 1 - least)) W' ∧ ∃ s, It W' l hb b k s0 cv s ∧ Arr k i p s) := ⟨by rw [HE.out, ← List.append_assoc]; exact hj, by obtain ⟨s', h1, h2⟩ := hs; exact ⟨s', h1, h2.back HP.out⟩⟩; clear hj hs)
        go_roundw
        case rel => exact ⟨f + 1, by omega, by omega, by go_num, HN⟩
        case measure => simp [intOf]; omega
      · obtain rfl : f = 31 := by omega
        clear hJ1 hI1 hA1
        go_wp2
        go_ret
        exact ⟨rfl, by rw [HG.out]; exact HS.out.1, HS.out.2⟩
end
end Go.Proofs.Ythadaajgjloogaa.L

namespace Go.Proofs.Ythadaajgjloogaa.L
open Go.RowKit Go.Shelf Go.Proofs.YthadaajgjloogaaW.PrintWords Go.Proofs.YthadaajgjloogaaW.PrintLast Go.Proofs.YthadaajgjloogaaW.PrintMore
attribute [local go_sem] max2_int min2_int max_two min_two max_three min_three max_four min_four

theorem arr0 (k : Nat) : Arr k 0 [] [0, 0, 0] := ⟨rfl, rfl, fun j _ h => by
  match j, h with
  | 0, _ => rfl
  | 1, _ => rfl
  | 2, _ => rfl⟩

/-- The iterator's own function: whatever the loop's body keeps of J, it holds of all positions. -/
theorem iter_calls (l hb k m : Nat) (s0 : List Int) (cv : Value) (J : List (List Int) → World → Prop) (w : World) (hh : w.heap[hb]? = some (.cells (hl k s0 cv) 62 (0, 0))) (hk3 : k ≤ 3)
    (hY : ∀ pre x W s, J pre W → (pre ++ [x]) <+: allP k → It W l hb w.heap.size k s0 cv s → YieldAt Fence.wide m Try.prog l #[.agg (sp x)] W fun e W' => e = .returned (.bool true) ∧ J (pre ++ [x]) W' ∧ Keep4 hb w.heap.size W W')
    (hJs : ∀ pre W (i : Nat) v, J pre W → J pre (W.setCell ⟨w.heap.size + 1, i, none⟩ v)) (hJ0 : ∀ W, Below w.heap.size w W → J [] W) :
    Calls Try.prog 103 #[.func (.yield l) #[] #[], .pointer (some ⟨hb, 0, none⟩)] w fun e W' => (∃ v, e = .returned v) ∧ J (allP k) W' := by
  have HN := Aside0.mk (next_calls l hb w.heap.size k m s0 cv J hY hJs hk3)
  have HH := Aside0.mk hh
  have HJ0 := Aside0.mk hJ0
  clear hY hJs hh hJ0
  go_enter Try.func103, Try.ntmps103
  go_upto_region 4 with (fail)
  refine wpc_world (fun W => Aside0 (It W l hb w.heap.size k s0 cv [0, 0, 0]) ∧ Aside0 (J [] W)) ⟨⟨alo (alo (alo HH.out _) _) _, alo (alo (aln _ _) _) _, alo (aln' _ _ (by simp)) _, aln' _ _ (by simp), blk_lt HH.out⟩, ⟨HJ0.out _ ((((Below.refl _ _).alloc (Nat.le_refl _) _).alloc (by simp) _).alloc (by simp; omega) _)⟩⟩ ?_
  rintro W ⟨HI, HJ⟩
  have c4 := blk_cell HI.out.h4 0
  simp only [List.getElem?_toArray, List.getElem?_cons_zero] at c4
  have HC := Aside0.mk (HN.out k 0 (by omega) [] 0 [0, 0, 0] [] [] W rfl (arr0 k) (by omega) (by simp [allP]) HJ.out HI.out)
  go_wp2_with (go_at_call 104; refine HC.out.mono ?_; rintro e W' ⟨rfl, hj, hs⟩; have HJ' := Aside0.mk hj; clear hj hs)
  refine bodyPost_end (results_none rfl _ _ _) rfl ?_
  exact ⟨⟨_, rfl⟩, HJ'.out⟩

/-- The blocks that a round must leave alone: the hall's, the loop's own, the iterator's. -/
def KeepR (hb D : Nat) (W W' : World) : Prop := ∀ g, (g = hb ∨ (D ≤ g ∧ g < D + 5)) → W'.heap[g]? = W.heap[g]?
theorem KeepR.trans {hb D : Nat} {A B C : World} (h : KeepR hb D A B) (k : KeepR hb D B C) : KeepR hb D A C := fun g hg => (k g hg).trans (h g hg)
/-- Two worlds that differ in one block alone. -/
structure SameBut (l : Nat) (W W' : World) : Prop where
  size : W'.heap.size = W.heap.size
  os : W'.os = W.os
  tape : W'.tape = W.tape
  output : W'.output = W.output
  same : ∀ g, g ≠ l → W'.heap[g]? = W.heap[g]?
theorem sameBut_put (W : World) (l : Nat) (o : Obj) : SameBut l W (W.putObj l o) := ⟨World.putObj_size, rfl, rfl, rfl, fun _ hg => World.putObj_heap_other hg⟩
theorem SameBut.below {l : Nat} {W W' : World} (h : SameBut l W W') {B : Nat} (hB : B ≤ l) : Below B W W' := ⟨h.os, h.tape, h.output, Nat.le_of_eq h.size.symm, fun i hi => h.same i (by omega)⟩

/-- 'for s := range h.all() { .. }' whose body always goes on. -/
theorem range_all {g : Operand} {t : Tmp} {assign body : Code} {Q : Exit → Act → World → Prop} {a : Act} {w : World} (n m hb k : Nat) (s0 : List Int) (cv : Value)
    (hg : a.eval g = .func (.func 103) #[] #[.pointer (some ⟨hb, 0, none⟩)]) (hh : w.heap[hb]? = some (.cells (hl k s0 cv) 62 (0, 0))) (hk3 : k ≤ 3)
    (I : List (List Int) → World → Prop) (hI : ∀ pre W W', I pre W → Below w.heap.size W W' → I pre W') (h0 : I [] w)
    (hbody : ∀ pre x W, I pre W → (pre ++ [x]) <+: allP k → W.heap[hb]? = some (.cells (hl k s0 cv) 62 (0, 0)) → w.heap.size + 5 ≤ W.heap.size →
      assign.wpIn (Fence.wide.inRound (w.heap.size + 1)) m Try.prog (Exit.then (fun a₁ W₁ => KeepR hb w.heap.size W W₁ ∧ ∀ W₂, SameBut (w.heap.size + 1) W₁ W₂ →
        body.wpIn (Fence.wide.inRound (w.heap.size + 1)) m Try.prog (fun e _ W3 => e = .normal ∧ KeepR hb w.heap.size W₂ W3 ∧ I (pre ++ [x]) W3) a₁ W₂) (fun _ _ _ => False)) { tmps := a.tmps.setIfInBounds t (.agg (sp x)), defers := [] } W)
    (hQ : ∀ W, I (allP k) W → W.heap[w.heap.size]? = some (.deferred (some [])) → w.heap.size ≤ W.heap.size → Q .normal { a with defers := { target := .collected w.heap.size, args := #[] } :: a.defers } W) :
    (Code.rangeFunc g #[t] assign body).wpIn Fence.wide n Try.prog Q a w := by
  refine wpIn_rangeFunc ?_
  intro fn _
  obtain ⟨rec, hrec⟩ : ∃ rec : LoopState → Loop, rec = fun st => { state := st, pending := none, fn, tmps := a.tmps, params := #[t], assign, body, defers := w.heap.size } := ⟨_, rfl⟩
  obtain ⟨W1, hW1⟩ : ∃ W1, (w.alloc (.deferred (some []))).alloc (.loop (rec .ready)) = W1 := ⟨_, rfl⟩
  have hz1 : W1.heap.size = w.heap.size + 2 := by rw [← hW1]; simp
  have hL1 : W1.heap[w.heap.size + 1]? = some (.loop (rec .ready)) := by rw [← hW1]; exact aln' _ _ (by simp)
  have hD1 : W1.heap[w.heap.size]? = some (.deferred (some [])) := by rw [← hW1]; exact alo (aln _ _) _
  have hB1 : Below w.heap.size w W1 := by rw [← hW1]; exact ((Below.refl _ w).alloc (Nat.le_refl _) _).alloc (by simp) _
  refine ⟨w.heap.size + 1, [{ target := .collected w.heap.size, args := #[] }], W1, { target := .fn (.func 103) #[.pointer (some ⟨hb, 0, none⟩)], args := #[.func (.yield (w.heap.size + 1)) #[] #[]] }, W1, 103,
    #[.func (.yield (w.heap.size + 1)) #[] #[], .pointer (some ⟨hb, 0, none⟩)], W1, ?_, ?_, fun _ _ => trivial, ?_, fun h => (by cases h), ?_⟩
  · rw [← hW1, hrec]; exact run_enterLoop_outer _ _ _ _ _
  · simp only [resolve, hg]
    simp [go_sem]
  · simp [invoke, go_sem, enter_fn 103 Try.func103 rfl rfl]
  · refine callsIn_wide.2 ((iter_calls (w.heap.size + 1) hb k m s0 cv (fun pre W => I pre W ∧ W.heap[w.heap.size + 1]? = some (.loop (rec .ready)) ∧ W.heap[w.heap.size]? = some (.deferred (some []))) W1 ((hB1.block _ (blk_lt hh)).trans hh) hk3 ?_ ?_ ?_).mono ?_)
    · rintro pre x W s ⟨hi, hl, hd⟩ hpre hIt
      have hsz : w.heap.size + 5 ≤ W.heap.size := by have := blk_lt hIt.h4; omega
      have hy := run_yield (P := Try.prog) (args := #[.agg (sp x)]) hl (by rw [hrec]; rfl)
      rw [hrec] at hy
      have hy : (Instr.yield (w.heap.size + 1) #[.agg (sp x)]).run Try.prog W = .ok (.round (w.heap.size + 1) fn (a.tmps.setIfInBounds t (.agg (sp x))) assign body) W := by simpa using hy
      refine ⟨fn, _, assign, body, hy, roundIn_of_wpIn trivial (wpIn_mono (hbody pre x W hi hpre hIt.h1 hsz) ?_)⟩
      rintro e a₁ W₁ he
      cases e with
      | normal =>
        obtain ⟨hk1, hb1⟩ := he
        have hl1 : W₁.heap[w.heap.size + 1]? = some (.loop (rec .ready)) := (hk1 _ (.inr (by omega))).trans hl
        refine ⟨_, run_beginRound hl1 (by rw [hrec]), wpIn_mono (hb1 _ (sameBut_put _ _ _)) ?_⟩
        rintro e2 a2 W3 ⟨rfl, hk3', hi3⟩
        have hl2 : (W₁.putObj (w.heap.size + 1) (.loop { rec .ready with state := .busy })).heap[w.heap.size + 1]? = some (.loop { rec .ready with state := .busy }) := World.putObj_heap_same (blk_lt hl1)
        have hl3 := (hk3' (w.heap.size + 1) (.inr (by omega))).trans hl2
        have hend := run_endRound (P := Try.prog) none hl3
        refine ⟨_, _, hend, rfl, ⟨?_, ?_, ?_⟩, ?_⟩
        · exact hI _ _ _ hi3 ((sameBut_put _ _ _).below (by omega))
        · rw [World.putObj_heap_same (blk_lt hl3), hrec]; rfl
        · rw [World.putObj_heap_other (by omega), hk3' _ (.inr (by omega)), World.putObj_heap_other (by omega), hk1 _ (.inr (by omega))]; exact hd
        · intro q hq
          have hq' : q ≠ w.heap.size + 1 ∧ (q = hb ∨ (w.heap.size ≤ q ∧ q < w.heap.size + 5)) := by
            have := blk_lt hh
            rcases hq with h | h | h | h <;> (subst h; constructor) <;> omega
          rw [World.putObj_heap_other hq'.1, hk3' _ hq'.2, World.putObj_heap_other hq'.1, hk1 _ hq'.2]
      | exit id => exact he.elim
      | goto t => exact he.elim
      | ret => exact he.elim
      | panic ch => exact he.elim
      | outgrown => exact he.elim
    · rintro pre W i v ⟨hi, hl, hd⟩
      refine ⟨hI _ _ _ hi ((Below.refl _ _).setCell (show w.heap.size ≤ W1.heap.size + 1 by omega) _), (Below.heap_setCell _ _ _ _ ?_).trans hl, (Below.heap_setCell _ _ _ _ ?_).trans hd⟩
      · show w.heap.size + 1 ≠ W1.heap.size + 1; omega
      · show w.heap.size ≠ W1.heap.size + 1; omega
    · intro W hb
      exact ⟨hI _ _ _ (hI _ _ _ h0 hB1) (hb.mono (by omega)), (hb.block _ (by omega)).trans hL1, (hb.block _ (by omega)).trans hD1⟩
    · rintro e W' ⟨⟨v, rfl⟩, hi, hl, hd⟩
      refine ⟨none, W'.putObj (w.heap.size + 1) (.loop { rec .ready with state := .exhausted }), ?_, hQ _ (hI _ _ _ hi ((sameBut_put _ _ _).below (by omega))) ((World.putObj_heap_other (by omega)).trans hd) (by have := blk_lt hd; simp; omega)⟩
      have hp : (rec .ready).pending = none := by rw [hrec]
      have := run_endLoop (P := Try.prog) hl (by rw [hrec]; simp)
      exact this.trans (by simp only [hp])
end Go.Proofs.Ythadaajgjloogaa.L

namespace Go.Proofs.Ythadaajgjloogaa.L
open Go.RowKit Go.Proofs.YthadaajgjloogaaW.PrintWords Go.Proofs.YthadaajgjloogaaW.PrintLast Go.Proofs.YthadaajgjloogaaW.PrintMore
attribute [local go_sem] max2_int min2_int max_two min_two max_three min_three max_four min_four

def eq3 (a b : List Int) : Bool := (rd a 0 == rd b 0) && ((rd a 1 == rd b 1) && (rd a 2 == rd b 2))
theorem part_run (w : World) (x y z : Value) : (part 3 #[x, y, z] 0).run Try.prog w = .ok x w ∧ (part 3 #[x, y, z] 1).run Try.prog w = .ok y w ∧ (part 3 #[x, y, z] 2).run Try.prog w = .ok z w := by
  have h : ∀ w, Sem.run Try.prog (isAgg 3) w = .ok false w := fun w => by kernel_rfl
  refine ⟨?_, ?_, ?_⟩ <;> (unfold part; simp only [Sem.run_bind, h, Result.andThen_ok]; rfl)
theorem equal_run (a b : List Int) (w : World) : (Op.equal 60 (.agg (sp a)) (.agg (sp b))).run Try.prog w = .ok (eq3 a b) w := by
  have u60 : ∀ w, Sem.run Try.prog (underlying 60) w = .ok (.array 3 3) w := run_underlying Try.underlying60
  have hsz : ∀ w, Sem.run Try.prog (sizeOf 3) w = .ok 1 w := fun w => by kernel_rfl
  unfold Op.equal Op.maxDepth sp
  unfold Op.equalIn
  simp only [Sem.run_bind, u60, Result.andThen_ok, hsz]
  simp only [Std.Legacy.Range.forIn_eq_forIn_range', Std.Legacy.Range.size, Nat.sub_zero, Nat.add_one_sub_one, Nat.div_one, List.range', List.forIn_cons, List.forIn_nil, Sem.run_bind, Nat.zero_add, Nat.reduceAdd, Nat.mul_one, part_run, Result.andThen_ok, run_equalIn_int w _ 3 _ .i64 _ _ Try.underlying3]
  unfold eq3
  by_cases h0 : rd a 0 = rd b 0 <;> by_cases h1 : rd a 1 = rd b 1 <;> by_cases h2 : rd a 2 = rd b 2 <;> simp [run_equalIn_int w _ 3 _ .i64 _ _ Try.underlying3, part_run, h0, h1, h2]
theorem check_run (em : Bool) (a : List Int) (w : World) : (Instr.checkKey em 10000 60 (.agg (sp a))).run Try.prog w = .ok () w := by
  have u60 : ∀ w, Sem.run Try.prog (underlying 60) w = .ok (.array 3 3) w := run_underlying Try.underlying60
  have u3 : ∀ w, Sem.run Try.prog (underlying 3) w = .ok (.int .i64) w := run_underlying Try.underlying3
  have hsz : ∀ w, Sem.run Try.prog (sizeOf 3) w = .ok 1 w := fun w => by kernel_rfl
  have h3 : ∀ (d : Nat) (x : Int) w, Sem.run Try.prog (Instr.checkKey em (d + 1) 3 (.int .i64 x)) w = .ok () w := fun d x w => by
    unfold Instr.checkKey
    simp [Sem.run_bind, u3]
  unfold sp
  unfold Instr.checkKey
  simp only [Sem.run_bind, u60, Result.andThen_ok]
  simp only [Std.Legacy.Range.forIn_eq_forIn_range', Std.Legacy.Range.size, Nat.sub_zero, Nat.add_one_sub_one, Nat.div_one, List.range', List.forIn_cons, List.forIn_nil, Sem.run_bind, Nat.zero_add, Nat.reduceAdd, Nat.mul_one, hsz, part_run, Result.andThen_ok, h3, Sem.run_pure]
  done

/-! ### a map from positions to numbers, its entries in the order in which they came -/
def entOf (i : Nat) (q : List Int × Int) : MapEntry := { key := .agg (sp q.1), val := .int .i64 q.2, born := i }
def entsOf (l : List (List Int × Int)) : Array MapEntry := (l.mapIdx entOf).toArray
def findL (p : List Int) : List (List Int × Int) → Nat → Option (Nat × Int)
  | [], _ => none
  | q :: r, i => if eq3 p q.1 then some (i, q.2) else findL p r (i + 1)
theorem asking_run (p : List Int) : ∀ (l : List (List Int × Int)) (i j : Nat) (w : World), (Instr.findAsking 60 (.agg (sp p)) (l.mapIdx fun k q => entOf (j + k) q) i).run Try.prog w = .ok ((findL p l i).map fun r => (r.1, Value.int .i64 r.2)) w
  | [], i, j, w => by simp [Instr.findAsking, findL]
  | q :: r, i, j, w => by
    have ih := asking_run p r (i + 1) (j + 1) w
    simp only [List.mapIdx_cons, Instr.findAsking, Sem.run_bind, entOf, equal_run, Result.andThen_ok, findL]
    cases h : eq3 p q.1
    · simp only [Bool.false_eq_true, if_false]
      have e : (fun (i : Nat) (q : List Int × Int) => entOf (j + (i + 1)) q) = fun k q => entOf (j + 1 + k) q := by funext k q; congr 1; omega
      simp only [entOf] at e ih
      rw [e]; exact ih
    · simp
theorem find_run (p : List Int) (l : List (List Int × Int)) (w : World) : (Instr.findKey 60 (.agg (sp p)) (entsOf l).toList).run Try.prog w = .ok ((findL p l 0).map fun r => (r.1, Value.int .i64 r.2)) w := by
  have u60 : ∀ w, Sem.run Try.prog (underlying 60) w = .ok (.array 3 3) w := run_underlying Try.underlying60
  have hA := asking_run p l 0 0 w
  simp only [Nat.zero_add] at hA
  have hE : (entsOf l).toList = l.mapIdx fun k q => entOf k q := by simp [entsOf]
  rw [hE]
  unfold Instr.findKey
  simp only [Sem.run_bind, u60, Result.andThen_ok]
  cases l with
  | nil => simp [Instr.findNow, findL]
  | cons q r =>
    have hn : Instr.findNow (.array 3 3) (.agg (sp p)) ((q :: r).mapIdx fun k q => entOf k q) 0 = none := by
      simp [List.mapIdx_cons, Instr.findNow, Instr.sameNow]
    rw [hn]
    exact hA

def lookL (l : List (List Int × Int)) (p : List Int) : Int := ((findL p l 0).map (·.2)).getD 0
theorem zero3 (w : World) : (zeroValue 3).run Try.prog w = .ok (.int .i64 0) w := by kernel_rfl
theorem run_getMap {w : World} {mb : Nat} {es : Array MapEntry} {n : Nat} (h : w.heap[mb]? = some (.map es n)) : (getObj mb).run Try.prog w = .ok (.map es n) w := by simp [getObj, Sem.run, h]
theorem lookup_run (l : List (List Int × Int)) (n mb : Nat) (p : List Int) (w : World) (h : w.heap[mb]? = some (.map (entsOf l) n)) :
    (Instr.lookup 68 (.map (some mb)) (.agg (sp p)) false).run Try.prog w = .ok (.int .i64 (lookL l p)) w := by
  have u68 : ∀ w, Sem.run Try.prog (underlying 68) w = .ok (.map 60 3) w := run_underlying Try.underlying68
  unfold Instr.lookup
  simp only [Sem.run_bind, u68, Result.andThen_ok, run_getMap h, Sem.run_pure, check_run, find_run]
  unfold lookL
  cases findL p l 0 with
  | none => simp
  | some r => simp
theorem update_run (l : List (List Int × Int)) (mb : Nat) (p : List Int) (v : Int) (w : World) (h : w.heap[mb]? = some (.map (entsOf l) l.length)) (hn : findL p l 0 = none) :
    (Instr.mapUpdate 68 (.map (some mb)) (.agg (sp p)) (.int .i64 v)).run Try.prog w = .ok () (w.putObj mb (.map (entsOf (l ++ [(p, v)])) (l ++ [(p, v)]).length)) := by
  have u68 : ∀ w, Sem.run Try.prog (underlying 68) w = .ok (.map 60 3) w := run_underlying Try.underlying68
  unfold Instr.mapUpdate
  simp only [Sem.run_bind, u68, Result.andThen_ok, run_getMap h, check_run, find_run, hn, Option.map_none]
  have he : (entsOf l).push (entOf l.length (p, v)) = entsOf (l ++ [(p, v)]) := by
    unfold entsOf
    rw [List.mapIdx_append]
    simp
  unfold entOf at he
  simp [setObj, Sem.run, h, World.putObj, he]
theorem findL_none {p : List Int} : ∀ (l : List (List Int × Int)) (i : Nat), (∀ q ∈ l, eq3 p q.1 = false) → findL p l i = none
  | [], _, _ => rfl
  | q :: r, i, h => by
    simp only [findL, h q (by simp), Bool.false_eq_true, if_false]
    exact findL_none r (i + 1) (fun q' hq => h q' (by simp [hq]))
theorem findL_some {p : List Int} {v : Int} : ∀ (l : List (List Int × Int)) (i : Nat), (p, v) ∈ l → (∀ q ∈ l, eq3 p q.1 = true → q.2 = v) → ∃ j, findL p l i = some (j, v)
  | [], _, h, _ => by simp at h
  | q :: r, i, h, hu => by
    simp only [findL]
    cases hq : eq3 p q.1
    · simp only [Bool.false_eq_true, if_false]
      rcases List.mem_cons.1 h with h1 | h1
      · rw [← h1] at hq; simp [eq3] at hq
      · exact findL_some r (i + 1) h1 (fun q' h' => hu q' (by simp [h']))
    · simp only [if_true]
      exact ⟨i, by rw [hu q (by simp) hq]⟩
theorem lookL_mem {l : List (List Int × Int)} {p : List Int} {v : Int} (h : (p, v) ∈ l) (hu : ∀ q ∈ l, eq3 p q.1 = true → q.2 = v) : lookL l p = v := by
  obtain ⟨j, hj⟩ := findL_some l 0 h hu
  simp [lookL, hj]
/-- Of two positions of k lifts the first three floors tell all. -/
theorem eq3_iff {k : Nat} {a b : List Int} (ha : a.length = k) (hb : b.length = k) (hk : k ≤ 3) : eq3 a b = true ↔ a = b := by
  constructor
  · intro h
    simp only [eq3, Bool.and_eq_true, beq_iff_eq] at h
    obtain ⟨h0, h1, h2⟩ := h
    match a, b, ha, hb, hk with
    | [], [], _, _, _ => rfl
    | [x], [y], _, _, _ => simp [rd] at h0; rw [h0]
    | [x, x1], [y, y1], _, _, _ => simp [rd] at h0 h1; rw [h0, h1]
    | [x, x1, x2], [y, y1, y2], _, _, _ => simp [rd] at h0 h1 h2; rw [h0, h1, h2]
    | [], _ :: _, e1, e2, _ => simp at e1 e2; omega
    | [_], [], e1, e2, _ => simp at e1 e2; omega
    | [_], _ :: _ :: _, e1, e2, _ => simp at e1 e2; omega
    | [_, _], [], e1, e2, _ => simp at e1 e2; omega
    | [_, _], [_], e1, e2, _ => simp at e1 e2; omega
    | [_, _], _ :: _ :: _ :: _, e1, e2, _ => simp at e1 e2; omega
    | [_, _, _], [], e1, e2, _ => simp at e1 e2; omega
    | [_, _, _], [_], e1, e2, _ => simp at e1 e2; omega
    | [_, _, _], [_, _], e1, e2, _ => simp at e1 e2; omega
    | [_, _, _], _ :: _ :: _ :: _ :: _, e1, e2, _ => simp at e1 e2; omega
    | _ :: _ :: _ :: _ :: _, _, e1, e2, _ => simp at e1 e2; omega
  · rintro rfl
    simp [eq3]
end Go.Proofs.Ythadaajgjloogaa.L

namespace Go.Proofs.Ythadaajgjloogaa.L
open Go.RowKit Go.Shelf Go.Proofs.YthadaajgjloogaaW.PrintWords Go.Proofs.YthadaajgjloogaaW.PrintLast Go.Proofs.YthadaajgjloogaaW.PrintMore
attribute [local go_sem] max2_int min2_int max_two min_two max_three min_three max_four min_four
attribute [local go_sem] Oper.semAt_some

/-! ### what gen holds -/
theorem gen_mem : ∀ (d : Nat) (p : List Int) (f : Nat) (x : List Int), x ∈ gen d p f → ∃ r, x = p ++ r ∧ r.length = d ∧ ∀ y ∈ r, 0 ≤ y ∧ y ≤ 30
  | 0, p, f, x, h => by
    simp only [gen, List.mem_singleton] at h
    exact ⟨[], by simp [h], rfl, by simp⟩
  | d + 1, p, f, x, h => by
    simp only [gen, List.mem_flatMap, List.mem_range] at h
    obtain ⟨i, hi, hx⟩ := h
    obtain ⟨r, rfl, hr, hb⟩ := gen_mem d _ _ x hx
    refine ⟨((f + i : Nat) : Int) :: r, by simp, by simp [hr], fun y hy => ?_⟩
    rcases List.mem_cons.1 hy with rfl | hy
    · omega
    · exact hb y hy
theorem allP_pos {k : Nat} {x : List Int} (h : x ∈ allP k) : Pos k x := by
  obtain ⟨r, rfl, hr, hb⟩ := gen_mem k [] 0 x h
  exact ⟨by simpa using hr, by simpa using hb⟩
theorem gen_nodup : ∀ (d : Nat) (p : List Int) (f : Nat), (gen d p f).Nodup
  | 0, p, f => by simp [gen]
  | d + 1, p, f => by
    simp only [gen]
    unfold List.Nodup
    rw [List.pairwise_flatMap]
    refine ⟨fun i _ => gen_nodup d _ _, ?_⟩
    refine (List.nodup_range (n := 31 - f)).imp ?_
    intro i j hij x hx y hy hxy
    subst hxy
    obtain ⟨r, e1, _, _⟩ := gen_mem d _ _ x hx
    obtain ⟨r', e2, _, _⟩ := gen_mem d _ _ x hy
    rw [e1] at e2
    simp only [List.append_assoc, List.cons_append, List.nil_append, List.append_cancel_left_eq, List.cons.injEq] at e2
    omega
theorem allP_nodup (k : Nat) : (allP k).Nodup := gen_nodup k [] 0
theorem fresh_of_prefix {k : Nat} {pre : List (List Int)} {x : List Int} (h : (pre ++ [x]) <+: allP k) : x ∈ allP k ∧ (∀ y ∈ pre, y ∈ allP k) ∧ x ∉ pre := by
  have hn := List.Nodup.sublist h.sublist (allP_nodup k)
  refine ⟨h.subset (by simp), fun y hy => h.subset (by simp [hy]), fun hx => ?_⟩
  rw [List.nodup_append] at hn
  exact hn.2.2 x hx x (by simp) rfl

/-- The works without calls, of the positions in l. -/
def firstL (s : List Int) (l : List (List Int)) : List (List Int × Int) := l.map fun p => (p, distF s p)
theorem firstL_none {k : Nat} (hk : k ≤ 3) (s : List Int) {pre : List (List Int)} {x : List Int} (h : (pre ++ [x]) <+: allP k) : findL x (firstL s pre) 0 = none := by
  obtain ⟨hx, hp, hn⟩ := fresh_of_prefix h
  refine findL_none _ _ fun q hq => ?_
  obtain ⟨y, hy, rfl⟩ := List.mem_map.1 hq
  cases hb : eq3 x y
  · rfl
  · exact absurd ((eq3_iff (allP_pos hx).len (allP_pos (hp y hy)).len hk).1 hb) (fun e => hn (e ▸ hy))

structure Fw (w W : World) (mb k : Nat) (s : List Int) (cv : Value) (l : List (List Int × Int)) : Prop where
  h1 : W.heap[w.heap.size]? = some (.cells (hl k s cv) 62 (0, 0))
  h2 : W.heap[mb]? = some (.map (entsOf l) l.length)
  h3 : W.heap[w.heap.size + 2]? = some (.cells #[.map (some mb)] 68 (0, 0))
  h4 : mb = w.heap.size + 1
  hb : Below w.heap.size w W
theorem Fw.below {w W W2 : World} {mb k : Nat} {s : List Int} {cv : Value} {l : List (List Int × Int)} (h : Fw w W mb k s cv l) {B : Nat} (hB : w.heap.size + 3 ≤ B) (hb : Below B W W2) : Fw w W2 mb k s cv l :=
  ⟨(hb.block _ (by omega)).trans h.h1, (hb.block _ (by have := h.h4; omega)).trans h.h2, (hb.block _ (by omega)).trans h.h3, h.h4, h.hb.trans (hb.mono (by omega))⟩

theorem all_calls (k : Nat) (s : List Int) (cv : Value) (w : World) : Calls Try.prog 82 #[.agg (hl k s cv)] w fun e w' => e = .returned (.func (.func 103) #[] #[.pointer (some ⟨w.heap.size, 0, none⟩)]) ∧ w' = w.alloc (.cells (hl k s cv) 62) := by
  go_enter Try.func82, Try.ntmps82
  go_wp2
  go_ret
  exact ⟨rfl, rfl⟩

/-! ### a region that draws its order, in a round: by the laws for a plain frame -/
def noDefer (ops : Array Oper) : Bool := ops.all fun o => match o.op with | .defer _ => false | _ => true
theorem noDefer_at {ops : Array Oper} (h : noDefer ops = true) {i : Nat} {o : Oper} (hi : ops[i]? = some o) (c : Call) : o.op ≠ .defer c := by
  intro e
  have := (Array.all_eq_true'.1 h) o (Array.mem_of_getElem? hi)
  simp [e] at this
theorem wpAnyIn_of_any {l n : Nat} {P : Program} {md : Region.Mode} {ops : Array Oper} {Q : Exit → Act → World → Prop} (hd : noDefer ops = true) (hQ : ∀ a w, ¬ Q .outgrown a w) :
    ∀ (fuel : Nat) (listed : Array Bool) (a : Act) (w : World), wpAny P md ops Q fuel listed a w → wpAnyIn (Fence.wide.inRound l) n P md ops Q fuel listed a w
  | 0, _, _, _, h => h
  | fuel + 1, listed, a, w, h => ⟨h.1, fun i hi => by
    have h1 := h.2 i hi
    have ih := wpAnyIn_of_any (l := l) (n := n) (P := P) (md := md) hd hQ fuel (listed.setIfInBounds i true)
    unfold wpOp at h1
    unfold wpOpIn
    cases ho : ops[i]? with
    | none => rw [ho] at h1; exact ih _ _ h1
    | some o =>
      rw [ho] at h1
      simp only at h1 ⊢
      split
      · rename_i hw
        rw [if_pos hw] at h1
        rcases h1 with h1 | ⟨_, a', w', hx⟩
        · refine ⟨fun _ _ => trivial, ?_⟩
          rw [show (Fence.wide.inRound l).round = some l from rfl, Oper.semAt_some l _ _ (noDefer_at hd ho)]
          unfold Oper.wp at h1
          generalize (execOp a.eval o).run P w = r at h1
          cases r with
          | ok nx w' =>
            cases nx with
            | value v => exact ih _ _ h1
            | skip => exact ih _ _ h1
            | defer d => exact ih _ _ h1
            | enter f args =>
              refine ⟨fun h => (by cases h), CallsIn.inRound l (callsIn_wide.2 (Calls.mono h1 fun e w'' he => ?_))⟩
              cases e with
              | returned v => exact ih _ _ he
              | panicked c => exact he
              | outgrown => exact he
            | row row args =>
              refine ⟨fun h => (by cases h), fun c cs _ => ?_⟩
              obtain ⟨v, w'', hr, hs⟩ := h1 c cs
              exact ⟨v, w'', ih _ _ hr, stepsIn_wide.2 hs⟩
            | _ => exact (h1 : False).elim
          | halt x w' => cases x <;> exact h1
        · exact absurd hx (hQ a' w')
      · rename_i hw
        rw [if_neg hw] at h1
        exact ⟨fun _ _ => trivial, ih _ _ h1⟩⟩
theorem wpIn_region_held {l n id : Nat} {P : Program} {ops : Array Oper} {Q : Exit → Act → World → Prop} {a : Act} {w : World} (S : World → Prop) (hm : P.follows .mixedOrders = true) (hd : noDefer ops = true) (hQ : ∀ a w, ¬ Q .outgrown a w)
    (h : wpAnyH P .any ops Q S ops.size (Array.replicate ops.size false) a w.drew) : (Code.region id ops true).wpIn (Fence.wide.inRound l) n P Q a w :=
  wpIn_region_any hm (wpAnyIn_of_any hd hQ _ _ _ _ (wpAny_of_held _ _ _ _ h))
theorem wpcIn_world {F : Fence} {n : Nat} {P : Program} {c : Code} {Q : Exit → Act → World → Prop} {a : Act} {w1 : World} (X : World → Prop) (hX : X w1) (h : ∀ W, X W → c.wpIn F n P Q a W) : c.wpIn F n P Q a w1 := h w1 hX

set_option maxHeartbeats 4000000 in
theorem first_calls (k : Nat) (s : List Int) (cv : Value) (w : World) (hk3 : k ≤ 3) (hs : Pos k s) :
    Calls Try.prog 49 #[.agg (hl k s cv)] w fun e w' => e = .returned (.map (some (w.heap.size + 1))) ∧ w'.heap[w.heap.size + 1]? = some (.map (entsOf (firstL s (allP k))) (firstL s (allP k)).length) ∧ Below w.heap.size w w' := by
  have hmm := @run_makeMap Try.prog
  refine callsIn_wide (n := 3).1 ?_
  refine callsIn_of_wp_marks Try.func49 rfl trivial ?_
  simp only [Try.ntmps49, List.size_toArray, List.length_cons, List.length_nil, Nat.reduceAdd, Nat.reduceSub, Array.replicate_succ, Array.replicate_zero, List.push_toArray, List.append_toArray, List.nil_append, List.cons_append]
  gi_wp2_with (refine ⟨trivial, ?_⟩; gi_at_call 82; refine callsIn_wide.2 ((all_calls k s cv _).mono ?_); rintro e w' ⟨rfl, rfl⟩)
  refine wpcIn_world (fun W => Aside0 (Fw w W (w.heap.size + 1) k s cv []) ∧ Aside0 (W.heap[w.heap.size + 3]? = some (.cells (hl k s cv) 62 (0, 0))) ∧ Aside0 (W.heap.size = w.heap.size + 4)) ⟨⟨alo (alo (alo (aln _ _) _) _) _, alo (alo (aln' _ _ (by simp)) _) _, alo (aln' _ _ (by simp)) _, rfl, ((((Below.refl _ _).alloc (Nat.le_refl _) _).alloc (by simp) _).alloc (by simp; omega) _).alloc (by simp; omega) _⟩, ⟨aln' _ _ (by simp)⟩, ⟨by simp⟩⟩ ?_
  rintro W ⟨HF, HH, HZ⟩
  refine range_all 3 3 (w.heap.size + 3) k s cv rfl HH.out hk3 (fun pre V => Fw w V (w.heap.size + 1) k s cv (firstL s pre)) ?_ HF.out ?_ ?_
  · intro pre V V' h hb
    exact h.below (by rw [HZ.out]; omega) hb
  · intro pre x V hi hpre hh hsz
    have hsz' := hsz
    rw [HZ.out] at hsz
    have HI := Aside0.mk hi
    have HPX := Aside0.mk (allP_pos (fresh_of_prefix hpre).1)
    have HFN := Aside0.mk (firstL_none hk3 s hpre)
    have HHH := Aside0.mk hh
    clear hi hpre hh
    rw [spv x]
    gi_wp2
    refine ⟨fun q hq => ?_, fun W₂ hSB => ?_⟩
    · rcases hq with h | h
      · exact Below.heap_alloc V _ q (by omega)
      · exact Below.heap_alloc V _ q (by have := h.2; omega)
    have hBA : Below w.heap.size w (V.alloc (.cells (sp x) 60)) := below_alloc HI.out.hb _
    have HI2 : Aside0 (Fw w W₂ (w.heap.size + 1) k s cv (firstL s pre)) := ⟨(HI.out.below (B := V.heap.size) (by omega) ((Below.refl _ _).alloc (Nat.le_refl _) (.cells (sp x) 60))).below (B := W.heap.size + 1) (by rw [HZ.out]; omega) (hSB.below (Nat.le_refl _))⟩
    have HX2 : Aside0 (W₂.heap[V.heap.size]? = some (.cells (sp x) 60 (0, 0))) := ⟨(hSB.same _ (by have := HZ.out; omega)).trans (aln _ _)⟩
    have HZ2 := Aside0.mk hSB.size
    clear hBA hSB
    obtain ⟨⟨c0, c1, c2, c3, c4⟩, _⟩ := hl_read HI2.out.h1
    obtain ⟨x0, x1, x2, _, _, _⟩ := sp_read HX2.out
    have m0 := blk_cell HI2.out.h3 0
    simp only [List.getElem?_toArray, List.getElem?_cons_zero] at m0
    gi_wp2
    refine wpIn_region_held (fun U => U.heap[w.heap.size]? = some (.cells (hl k s cv) 62 (0, 0)) ∧ U.heap[V.heap.size]? = some (.cells (sp x) 60 (0, 0)) ∧ U.heap[w.heap.size + 2]? = some (.cells #[.map (some (w.heap.size + 1))] 68 (0, 0))) (by kernel_rfl) (by kernel_rfl) ?_ ?_
    · intro a' w' h
      have h2 : Exit.outgrown = Exit.normal ∧ _ := h
      cases h2.1
    refine wpAnyH_take (i := 0) (v := .map (some (w.heap.size + 1))) rfl (by kernel_rfl) (by kernel_rfl) (by kernel_rfl) (fun _ _ _ h => h) (Or.inl ⟨by rfl, ?_⟩) ⟨HI2.out.h1, HX2.out, HI2.out.h3⟩ ?_
    · rintro U ⟨h1, h2, h3⟩
      have m0 := blk_cell h3 0
      simp only [List.getElem?_toArray, List.getElem?_cons_zero] at m0
      go_simp
    refine wpAnyH_take (i := 1) (v := .agg #[.int .i64 (rd x 0), .int .i64 (rd x 1), .int .i64 (rd x 2)]) rfl (by kernel_rfl) (by kernel_rfl) (by kernel_rfl) (fun _ _ _ h => h) (Or.inl ⟨by rfl, ?_⟩) ⟨HI2.out.h1, HX2.out, HI2.out.h3⟩ ?_
    · rintro U ⟨h1, h2, h3⟩
      obtain ⟨x0, x1, x2, _, _, _⟩ := sp_read h2
      go_simp
    refine wpAnyH_take (i := 2) (v := .agg #[.int .i64 k, .int .i64 (rd s 0), .int .i64 (rd s 1), .int .i64 (rd s 2), cv]) rfl (by kernel_rfl) (by kernel_rfl) (by kernel_rfl) (fun _ _ _ h => h) (Or.inl ⟨by rfl, ?_⟩) ⟨HI2.out.h1, HX2.out, HI2.out.h3⟩ ?_
    · rintro U ⟨h1, h2, h3⟩
      obtain ⟨⟨c0, c1, c2, c3, c4⟩, _⟩ := hl_read h1
      go_simp
    refine wpAnyH_take (i := 3) (v := .pointer (some ⟨w.heap.size, 1, none⟩)) rfl (by kernel_rfl) (by kernel_rfl) (by kernel_rfl) (fun _ _ _ h => h) (Or.inl ⟨by rfl, ?_⟩) ⟨HI2.out.h1, HX2.out, HI2.out.h3⟩ ?_
    · rintro U ⟨h1, h2, h3⟩
      go_simp
    refine wpAnyH_take (i := 4) (v := .agg #[.int .i64 (rd s 0), .int .i64 (rd s 1), .int .i64 (rd s 2)]) rfl (by kernel_rfl) (by kernel_rfl) (by kernel_rfl) (fun _ _ _ h => h) (Or.inl ⟨by rfl, ?_⟩) ⟨HI2.out.h1, HX2.out, HI2.out.h3⟩ ?_
    · rintro U ⟨h1, h2, h3⟩
      obtain ⟨⟨c0, c1, c2, c3, c4⟩, _⟩ := hl_read h1
      go_simp
    refine wpAnyH_take (i := 5) (v := .agg #[.int .i64 (rd x 0), .int .i64 (rd x 1), .int .i64 (rd x 2)]) rfl (by kernel_rfl) (by kernel_rfl) (by kernel_rfl) (fun _ _ _ h => h) (Or.inl ⟨by rfl, ?_⟩) ⟨HI2.out.h1, HX2.out, HI2.out.h3⟩ ?_
    · rintro U ⟨h1, h2, h3⟩
      obtain ⟨x0, x1, x2, _, _, _⟩ := sp_read h2
      go_simp
    refine wpAnyH_ready (rs := [6]) (by kernel_rfl) (by simp) ?_
    refine AllReadyH.cons rfl (fun K hK => ?_) ?_
    · go_simp
      refine (distance_calls k s cv s x _ hk3 hs.fl HPX.out.fl).mono ?_
      rintro e W3 ⟨rfl, hb0⟩
      have hb : Below W₂.heap.size W₂ W3 := below_step (below_drew1 (Below.refl _ _)) hb0
      clear hb0
      have HI3 : Aside0 (Fw w W3 (w.heap.size + 1) k s cv (firstL s pre)) := ⟨HI2.out.below (B := W₂.heap.size) (by have := HI2.out.h3; have := blk_lt this; omega) hb⟩
      have HX3 : Aside0 (W3.heap[V.heap.size]? = some (.cells (sp x) 60 (0, 0))) := ⟨(hb.block _ (blk_lt HX2.out)).trans HX2.out⟩
      have HKB : Aside0 (Below W₂.heap.size W₂ W3) := ⟨hb⟩
      have HD : Aside0 (sumI (dl s x k) = distF s x) := ⟨by unfold distF; rw [hs.len]⟩
      rw [HD.out]
      have hup : (Instr.mapUpdate 68 (.map (some (w.heap.size + 1))) (.agg #[.int .i64 (rd x 0), .int .i64 (rd x 1), .int .i64 (rd x 2)]) (.int .i64 (distF s x))).run Try.prog W3 = .ok () (W3.putObj (w.heap.size + 1) (.map (entsOf (firstL s (pre ++ [x]))) (firstL s (pre ++ [x])).length)) := by
        have h := update_run (firstL s pre) (w.heap.size + 1) x (distF s x) W3 HI3.out.h2 HFN.out
        have e : firstL s pre ++ [(x, distF s x)] = firstL s (pre ++ [x]) := by simp [firstL]
        rw [e] at h
        exact h
      refine hK _ _ ⟨HI3.out.h1, HX3.out, HI3.out.h3⟩ (fun _ => ?_)
      clear hb hK K
      refine wpAnyH_ready (rs := [7]) (by kernel_rfl) (by simp) ?_
      refine AllReadyH.cons rfl (fun K hK => ?_) AllReadyH.nil
      go_simp
      have hne : w.heap.size + 1 ≠ V.heap.size := by have := HZ.out; omega
      refine hK _ _ ⟨(World.putObj_heap_other (by omega)).trans HI3.out.h1, (World.putObj_heap_other (Ne.symm hne)).trans HX3.out, (World.putObj_heap_other (by omega)).trans HI3.out.h3⟩ (fun _ => wpAnyH_done (by kernel_rfl) ?_ _)
      have hz2 : W₂.heap.size = V.heap.size + 1 := by rw [HZ2.out]; simp
      refine (show Exit.normal = Exit.normal ∧ KeepR (w.heap.size + 3) W.heap.size W₂ _ ∧ Fw w _ (w.heap.size + 1) k s cv (firstL s (pre ++ [x])) from ⟨rfl, fun q hq => ?_, ?_⟩)
      · have hz := HZ.out
        have hq2 : q ≠ w.heap.size + 1 ∧ q < W₂.heap.size := by rcases hq with h | ⟨h, h'⟩ <;> omega
        exact (World.putObj_heap_other hq2.1).trans (HKB.out.block q hq2.2)
      · exact ⟨(World.putObj_heap_other (by omega)).trans HI3.out.h1, World.putObj_heap_same (blk_lt HI3.out.h2), (World.putObj_heap_other (by omega)).trans HI3.out.h3, rfl, HI3.out.hb.trans ((sameBut_put _ _ _).below (by omega))⟩
    exact AllReadyH.nil
  · intro W' hi hd hsz
    have HI := Aside0.mk hi
    have HDD := Aside0.mk hd
    have m0 := blk_cell HI.out.h3 0
    simp only [List.getElem?_toArray, List.getElem?_cons_zero] at m0
    clear hi hd
    gi_wp2
    refine ⟨by simp, .inl ⟨_, _, rfl, run_takeDeferred HDD.out, ?_⟩⟩
    refine ⟨_, results_tmp rfl _ _ _, rfl, ?_, ?_⟩
    · exact (World.putObj_heap_other (by have := HZ.out; omega)).trans HI.out.h2
    · exact HI.out.hb.trans ((sameBut_put _ _ _).below (by have := HZ.out; omega))
end Go.Proofs.Ythadaajgjloogaa.L

