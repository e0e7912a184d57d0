import Derived.Test.YthadaajgjloogaaLx
import Derived.Test.YthadaajgjloogaaPLiftsWorksx7
namespace Go.Proofs.Ythadaajgjloogaa.L
open Go.RowKit Go.Shelf Go.Proofs.YthadaajgjloogaaW.PrintWords Go.Proofs.YthadaajgjloogaaW.PrintLast Go.Proofs.YthadaajgjloogaaW.PrintMore
attribute [local go_sem] max2_int min2_int max_two min_two max_three min_three max_four min_four
attribute [local go_sem] Oper.semAt_some

theorem C_lit {W : World} {g : Nat} {xs : List Int} (h : W.heap[g]? = some (.cells (xs.map (Value.int .i64)).toArray 3 (0, 0))) (hl : xs.length ≤ 1000) : Kd.C (Kd.int .i64) W (some ⟨g, 0, none⟩) xs.length xs := by
  refine Kd.C_of_reads (enc := Value.int .i64) (d := (0 : Int)) (h1 := fun _ => rfl) ⟨rfl, by omega, fun _ => ⟨_, rfl, fun j hj => ?_⟩⟩
  rw [show (⟨g, 0, none⟩ : Addr).add j = ⟨g, j, none⟩ from by cases j <;> simp [Addr.add], blk_cell h j]
  simp [hj]
theorem C_two {W : World} {g : Nat} {x y : Int} (h : W.heap[g]? = some (.cells #[.int .i64 x, .int .i64 y] 3 (0, 0))) : Kd.C (Kd.int .i64) W (some ⟨g, 0, none⟩) [x, y].length [x, y] := C_lit h (by simp)
theorem C_three {W : World} {g : Nat} {x y z : Int} (h : W.heap[g]? = some (.cells #[.int .i64 x, .int .i64 y, .int .i64 z] 3 (0, 0))) : Kd.C (Kd.int .i64) W (some ⟨g, 0, none⟩) [x, y, z].length [x, y, z] := C_lit h (by simp)
theorem C_one {W : World} {g : Nat} {x : Int} (h : W.heap[g]? = some (.cells #[.int .i64 x] 3 (0, 0))) : Kd.C (Kd.int .i64) W (some ⟨g, 0, none⟩) [x].length [x] := C_lit h (by simp)

theorem aw_careful (W : World) (g1 g2 : Nat) (h1 : W.heap[g1]? = some (.cells #[.int .i64 0, .int .i64 10] 3 (0, 0))) (h2 : W.heap[g2]? = some (.cells #[.int .i64 6, .int .i64 4, .int .i64 6] 3 (0, 0))) :
    Calls Try.prog 27 #[.slice (some ⟨g1, 0, none⟩) 2 2, .slice (some ⟨g2, 0, none⟩) 3 3] W fun e w' => ∃ v, e = .returned (.tuple #[v, .int .i64 8, .int .i64 0]) ∧ Rows w' W.heap.size v (runL cS [0, 10] [6, 4, 6]) ∧ Below W.heap.size W w' :=
  (Careful_yes _ _ 2 3 [0, 10] [6, 4, 6] W (C_two h1) (C_three h2) (by decide)).mono fun e w' h => by rw [awake_runC] at h; exact h
theorem aw_best (W : World) (g1 g2 : Nat) (h1 : W.heap[g1]? = some (.cells #[.int .i64 0, .int .i64 10] 3 (0, 0))) (h2 : W.heap[g2]? = some (.cells #[.int .i64 6, .int .i64 4, .int .i64 6] 3 (0, 0))) :
    Calls Try.prog 30 #[.slice (some ⟨g1, 0, none⟩) 2 2, .slice (some ⟨g2, 0, none⟩) 3 3] W fun e w' => ∃ v, e = .returned (.tuple #[v, .int .i64 8, .int .i64 0]) ∧ Below W.heap.size W w' :=
  (Best_yes _ _ 2 3 [0, 10] [6, 4, 6] W (C_two h1) (C_three h2) (by decide)).mono fun e w' ⟨v, h, _, hb⟩ => by rw [awake_best] at h; exact ⟨v, h, hb⟩
theorem aw_pot (W : World) (g1 g2 : Nat) (h1 : W.heap[g1]? = some (.cells #[.int .i64 0, .int .i64 10] 3 (0, 0))) (h2 : W.heap[g2]? = some (.cells #[.int .i64 0, .int .i64 10] 3 (0, 0))) :
    Calls Try.prog 21 #[.slice (some ⟨g1, 0, none⟩) 2 2, .slice (some ⟨g2, 0, none⟩) 2 2] W fun e w' => e = .returned (.tuple #[.int .i64 10, .int .i64 0]) ∧ Below W.heap.size W w' :=
  (Potential_yes _ _ 2 2 [0, 10] [0, 10] W (C_two h1) (C_two h2) (by decide) (by decide)).mono fun e w' h => by rw [awake_pot] at h; exact h
theorem aw_work (W : World) (g1 g2 g3 : Nat) (h1 : W.heap[g1]? = some (.cells #[.int .i64 5] 3 (0, 0))) (h2 : W.heap[g2]? = some (.cells #[.int .i64 7, .int .i64 3] 3 (0, 0))) (h3 : W.heap[g3]? = some (.cells #[.int .i64 4] 3 (0, 0))) :
    Calls Try.prog 14 #[.slice (some ⟨g1, 0, none⟩) 1 1, .slice (some ⟨g2, 0, none⟩) 2 2, .slice (some ⟨g3, 0, none⟩) 1 1] W fun e w' => e = .returned (.tuple #[.int .i64 7, .int .i64 0]) ∧ Below W.heap.size W w' :=
  (Work_yes _ _ _ 1 2 1 [5] [7, 3] [4] W (C_one h1) (C_two h2) (C_one h3) (by decide)).mono fun e w' h => by rw [awake_work] at h; exact h
theorem aw_ints (W : World) (A0 : Option Addr) (c0 g : Nat) (l : List Int) (hl : l = [4, 6]) (h0 : Kd.C (Kd.int .i64) W A0 l.length l) (hc : l.length ≤ c0) (h1 : W.heap[g]? = some (.cells #[.int .i64 4, .int .i64 6] 3 (0, 0))) :
    Calls Try.prog 36 #[.slice A0 l.length c0, .slice (some ⟨g, 0, none⟩) 2 2] W fun e w' => e = .returned (.bool true) ∧ Drawn0 W w' := by
  refine PLiftsWorks.turndownlaw07_ints.calls 5 A0 c0 l _ 2 [4, 6] true W h0 hc (C_two h1) (by decide) ?_
  rw [hl]; kernel_rfl

set_option maxHeartbeats 4000000 in
theorem awake_calls (w : World) : Calls Try.prog 17 #[] w fun e w' => e = .returned (.bool true) ∧ Below w.heap.size w w' := by
  have HLn : Aside0 ((runL cS [0, 10] [6, 4, 6]).length = 3) := ⟨by decide⟩
  go_enter Try.func17, Try.ntmps17
  go_upto_region 2 with (go_at_call 27; refine (aw_careful _ w.heap.size (w.heap.size + 1) (alo (aln _ _) _) (aln' _ _ (by simp))).mono ?_; rintro e W ⟨v, rfl, hr, hb⟩; have HB := Aside0.mk hb; have HR := Aside0.mk hr; clear hb hr; obtain ⟨A, c, rfl, hc, hC⟩ := Kd.R_reads HR.out; rw [HLn.out] at hC ⊢; have HC := Aside0.mk hC; clear hC)
  refine wpc_world (fun V => Aside0 (Kd.C (Kd.slice 3 (Kd.int .i64)) V A 3 (runL cS [0, 10] [6, 4, 6])) ∧ Aside0 (Below w.heap.size w V)) ⟨⟨HC.out⟩, ⟨below_step (below_alloc (below_alloc (Below.refl _ _) _) _) HB.out⟩⟩ ?_
  clear HB HR HC
  rintro V ⟨HC, HB⟩
  go_upto_region 3 with (go_at_call 30; refine (aw_best _ V.heap.size (V.heap.size + 1) (alo (aln _ _) _) (aln' _ _ (by simp))).mono ?_; rintro e W2 ⟨v2, rfl, hb⟩; have HB2 := Aside0.mk hb; clear hb)
  refine wpc_world (fun V => Aside0 (Kd.C (Kd.slice 3 (Kd.int .i64)) V A 3 (runL cS [0, 10] [6, 4, 6])) ∧ Aside0 (Below w.heap.size w V)) ⟨⟨Kd.C_below (Kd.C_alloc (Kd.C_alloc HC.out _) _) HB2.out⟩, ⟨below_step (below_alloc (below_alloc HB.out _) _) HB2.out⟩⟩ ?_
  clear HB HC HB2
  rintro Va ⟨HC, HB⟩
  go_upto_region 4 with (go_at_call 21; refine (aw_pot _ Va.heap.size (Va.heap.size + 1) (alo (aln _ _) _) (aln' _ _ (by simp))).mono ?_; rintro e W3 ⟨rfl, hb⟩; have HB2 := Aside0.mk hb; clear hb)
  refine wpc_world (fun V => Aside0 (Kd.C (Kd.slice 3 (Kd.int .i64)) V A 3 (runL cS [0, 10] [6, 4, 6])) ∧ Aside0 (Below w.heap.size w V)) ⟨⟨Kd.C_below (Kd.C_alloc (Kd.C_alloc HC.out _) _) HB2.out⟩, ⟨below_step (below_alloc (below_alloc HB.out _) _) HB2.out⟩⟩ ?_
  clear HB HC HB2
  rintro Vb ⟨HC, HB⟩
  go_upto_region 5 with (go_at_call 14; refine (aw_work _ Vb.heap.size (Vb.heap.size + 1) (Vb.heap.size + 2) (alo (alo (aln _ _) _) _) (alo (aln' _ _ (by simp)) _) (aln' _ _ (by simp))).mono ?_; rintro e W4 ⟨rfl, hb⟩; have HB2 := Aside0.mk hb; clear hb)
  refine wpc_world (fun V => Aside0 (Kd.C (Kd.slice 3 (Kd.int .i64)) V A 3 (runL cS [0, 10] [6, 4, 6])) ∧ Aside0 (Below w.heap.size w V)) ⟨⟨Kd.C_below (Kd.C_alloc (Kd.C_alloc (Kd.C_alloc HC.out _) _) _) HB2.out⟩, ⟨below_step (below_alloc (below_alloc (below_alloc HB.out _) _) _) HB2.out⟩⟩ ?_
  clear HB HC HB2
  rintro Vc ⟨HC, HB⟩
  have HL : Aside0 (PLiftsWorks.rd_L1 (runL cS [0, 10] [6, 4, 6]) 0 = [4, 6]) := ⟨awake_runL⟩
  obtain ⟨ad, A0, c0, rfl, hx, hcc, hC0⟩ := PLiftsWorks.at_L1 HC.out 0 (by omega) (by omega)
  rw [HL.out] at hx hcc hC0
  have HC0 := Aside0.mk hC0
  have HCC := Aside0.mk hcc
  clear hC0 hcc
  simp only [Int.toNat_zero, List.length_cons, List.length_nil, Nat.zero_add, Nat.reduceAdd] at hx
  rw [show ad.add 0 = ad from by simp [Addr.add]] at hx
  go_wp2_with (go_at_call 36; refine (aw_ints _ A0 c0 Vc.heap.size [4, 6] rfl (Kd.C_alloc HC0.out _) HCC.out (aln _ _)).mono ?_; rintro e W5 ⟨rfl, hd⟩; have HD := Aside0.mk hd; clear hd)
  go_ret
  exact ⟨rfl, below_step (below_alloc HB.out _) HD.out.below⟩
end Go.Proofs.Ythadaajgjloogaa.L
